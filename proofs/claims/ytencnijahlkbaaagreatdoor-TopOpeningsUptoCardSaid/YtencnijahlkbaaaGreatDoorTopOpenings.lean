/-
  The law TopOpenings, where what it reads is of bulk at most 1048576: a change order with the openings that a route needs leaves none missing, and changes the revisions of these parts alone. Conditions: the bound on the bulk.
-/
import Derived.Test.YtencnijahlkbaaaGreatDoorJ1
import Derived.Test.YtencnijahlkbaaaGreatDoorJ2
import Derived.Test.YtencnijahlkbaaaGreatDoorJ3
import Derived.Test.YtencnijahlkbaaaGreatDoorJ4
import Derived.Test.YtencnijahlkbaaaGreatDoorJ5
import Derived.Test.YtencnijahlkbaaaGreatDoorJ6
import Derived.Test.YtencnijahlkbaaaGreatDoorJ7
import Derived.Test.YtencnijahlkbaaaGreatDoorJ8
import Derived.Test.YtencnijahlkbaaaGreatDoorJ9
import Derived.Test.YtencnijahlkbaaaGreatDoorJ10
import Derived.Test.YtencnijahlkbaaaGreatDoorJ11
import Derived.Test.YtencnijahlkbaaaGreatDoorJ12
import Derived.Test.YtencnijahlkbaaaGreatDoorJ13
import Derived.Test.YtencnijahlkbaaaGreatDoorJ14
open Go.Act renaming put → aC
open Array renaming getElem?_eq_some_iff → av
open Go.RowKit.Below renaming refl → ah
open Bool renaming false_and → aI, true_and → aN, and_false → aL, false_or → aP, true_or → aW, or_false → aQ, eq_false_iff → cG
open Classical renaming byContradiction → aG
open Int renaming mul_nonneg → bE
open List renaming take_succ_cons → ac, take_zero → aj, drop_succ_cons → am, drop_zero → ax, setIfInBounds_toArray → aa, set_cons_zero → ae, set_cons_succ → af, mem_cons_self → bw, getElem?_eq_getElem → aS, getD_eq_getElem?_getD → aO, getElem?_append_left → cV, getElem?_append_right → cD, length_append → aZ, mem_cons → bj
open Nat renaming le_refl → aB, lt_of_lt_of_le → aM, le_trans → bW, reduceAdd → aE, reduceEqDiff → aA
open Go.Region renaming binds → ai, wanted → au
open Go.World renaming size_setCell → aT, size_alloc → aw
namespace Go.Proofs.YtencnijahlkbaaaGreatDoor
set_option maxHeartbeats 8000000
set_option maxRecDepth 100000
set_option linter.unusedVariables false
set_option linter.unusedSimpArgs false
open Go.Proofs.Tryz
open Go Go.ChangeShapes Go.WideShapes Go.RowKit Go.ChangeAt
theorem mh (H:Type) (enc:TypeId×Value→H) (W:World) (base:Nat) (a:Array Value) (h y:List (DataW H)) (c:List MemPlace)
 (b:∀(j:Nat) t v,Tryz.f3.params[j]?=some t→a[j]?=some v→Value.okWide prog W .any base t v)
 (A:DataW.Whole enc prog Tryz.f3.params.toList Rows.topOpeningsSpec.vars false W a.toList h y c) (P:laidMetH prog Rows.topOpeningsUptoRow.laid W) (k:W.ShapedOpen prog) (B:Rows.uptoBulkAll (h++y)≤1048576):
 Calls prog 3 a W fun e x=>∃v,e= .returned v∧Rows.topOpeningsSpec.post enc prog Tryz.f3 false true false false W a v x:=by
 have l:=A;obtain⟨p,q,i,hV,rfl,Q,R⟩:=A;have z:DataW.TrodAll enc prog W 0 (fun _=>true) true Tryz.f3.params.toList a.toList h p:=i;rw[Tryz.params3]at z b;obtain⟨C,Z,d0,F,p0,q0,o,rfl,rfl,L,T⟩:=trodAll_cons z;obtain⟨D,a0,d1,G,p1,q1,rfl,rfl,rfl,N,U⟩:=trodAll_cons T;obtain⟨E,a1,d2,I,p2,q2,rfl,rfl,rfl,O,Y⟩:=trodAll_cons U;obtain⟨rfl,rfl,rfl⟩:=trodAll_nil Y;obtain rfl:a=#[C,D,E]:=by cases a;simp_all
 obtain⟨X,S,rfl,g,f,s⟩:=Ce (b 0 28 C rfl rfl) L (by simp only[List.cons_append,List.nil_append,Rows.uptoBulkAll]at B;omega);obtain⟨m,J,r,u,w⟩:=Hm (b 1 32 D rfl rfl) N (by simp only[List.cons_append,List.nil_append,Rows.uptoBulkAll]at B;omega);obtain⟨oa,n,cap,K,sz,rfl,d⟩:=Ev (b 2 35 E rfl rfl) O;refine(pM X S _ m J oa n cap K sz W g f s r u w d (AA W k) (tA P)).mono fun e x ⟨he,hb⟩=> ?_;subst he;exact⟨_,rfl,Cm Fb (by kernel_rfl) (by kernel_rfl) underlying4 rfl l (fun _=>rfl) hb⟩
theorem pO (a:Os):laidMet prog Rows.topOpeningsUptoRow.laid ((pN a).forCall (fun _ _=>0) ⟨#[],#[.agg #[.string ⟨#[]⟩,.slice none 0 0,.slice none 0 0,.slice none 0 0,.slice none 0 0,.slice none 0 0],.agg #[.slice none 0 0,.slice none 0 0],.agg #[.slice none 0 0,.int .i64 0]],[]⟩).memory:=laidMet_of_run' 8 (by kernel_rfl) (by kernel_rfl)
theorem oW (b:Os) {H:Type} (enc:TypeId×Value→H):∃a,DataW.whole enc prog ((pN b).forCall (fun _ _=>0) ⟨#[],#[.agg #[.string ⟨#[]⟩,.slice none 0 0,.slice none 0 0,.slice none 0 0,.slice none 0 0,.slice none 0 0],.agg #[.slice none 0 0,.slice none 0 0],.agg #[.slice none 0 0,.int .i64 0]],[]⟩).memory Tryz.f3.params.toList Rows.topOpeningsSpec.vars false (#[.agg #[.string ⟨#[]⟩,.slice none 0 0,.slice none 0 0,.slice none 0 0,.slice none 0 0,.slice none 0 0],.agg #[.slice none 0 0,.slice none 0 0],.agg #[.slice none 0 0,.int .i64 0]]:Array Value).toList 8=some ([.agg [.lit (.string []),.nil,.nil,.nil,.nil,.nil],.agg [.nil,.nil],.agg [.nil,.lit (.int .i64 0)]],[],a):=⟨[],by kernel_rfl⟩
theorem nV (f:Os) (a:f.Started) (H:Type) (enc:TypeId×Value→H) (F:Stop.Interp):
 ReturnsInHanded {} Tryz.checked f 3 .any ((Rows.OpenSpec.upto Rows.topOpeningsSpec).preRow enc prog Tryz.f3 Rows.topOpeningsUptoRow.domain false Rows.topOpeningsUptoRow.laid) (((Rows.OpenSpec.upto Rows.topOpeningsSpec).at F).post enc prog Tryz.f3 false true false false):=by
 obtain⟨g,o⟩:=oW f enc;refine returnsInHanded_of_row (C:=Tryz.checked) (s:=Rows.OpenSpec.upto Rows.topOpeningsSpec) In a (by kernel_rfl) func3
  (witness_row_at (enc:=enc) (C:=Tryz.checked) false (pN f) #[.agg #[.string ⟨#[]⟩,.slice none 0 0,.slice none 0 0,.slice none 0 0,.slice none 0 0,.slice none 0 0],.agg #[.slice none 0 0,.slice none 0 0],.agg #[.slice none 0 0,.int .i64 0]] rfl (by kernel_rfl) (by kernel_rfl) (by kernel_rfl)
   (OpenSpec.preRow_of_cond 8 o (by kernel_rfl) (fun k n=>by cases n;kernel_rfl) (by kernel_rfl) (pO f))) ?_
 intro W base d i j b e m _ c _ l h _;exact mh H enc W base d i j b e m l h (of_decide_eq_true (c _ rfl))
theorem gX {a b:Bool} (c:a=true) (d:b=true):(a&&b)=true:=by rw[c,d];rfl
theorem Gm:(Rows.topOpeningsUptoRow.wf (OpenSpec.ofChange (Rows.OpenSpec.upto Rows.topOpeningsSpec).bare))=true:=by kernel_rfl
theorem Gn:(laidOutB Tryz.pinned.checked.prog)=true:=by kernel_rfl
theorem Gp:(mapsRowed Tryz.pinned.checked.prog)=true:=by kernel_rfl
theorem Gq:(Tryz.f3.params.all (Tryz.pinned.checked.prog.readableRec ·))=true:=by kernel_rfl
theorem Gr:(namedTie Tryz.pinned.checked.prog Rows.topOpeningsUptoRow.named (Rows.OpenSpec.upto Rows.topOpeningsSpec).bare.vars)=true:=by kernel_rfl
theorem Gs:((Rows.topOpeningsUptoRow.stops== []))=true:=by kernel_rfl
theorem Gt:((Tryz.pinned.checked.prog.stops== []))=true:=by kernel_rfl
theorem Gu:((Rows.topOpeningsUptoRow.knobs== []))=true:=by kernel_rfl
theorem Gw:((Tryz.pinned.checked.prog.stopKnobs== []))=true:=by kernel_rfl
theorem Gx:((Rows.topOpeningsUptoRow.inPlace==Tryz.pinned.checked.prog.inPlace 3))=true:=by kernel_rfl
theorem EC:((Rows.topOpeningsUptoRow.unfollowed==Tryz.pinned.checked.prog.unfollowed 3))=true:=by kernel_rfl
theorem ED:((Rows.topOpeningsUptoRow.recurses==Tryz.pinned.checked.prog.recurses 3))=true:=by kernel_rfl
theorem EE:((Rows.topOpeningsUptoRow.named==Tryz.pinned.checked.prog.varsNamed 3))=true:=by kernel_rfl
theorem EF:((Rows.topOpeningsUptoRow.maps==(Tryz.f3.params.toList++(Rows.OpenSpec.upto Rows.topOpeningsSpec).bare.plain.varTypes Tryz.pinned.checked.prog).any (Tryz.pinned.checked.prog.mapsRec ·)))=true:=by kernel_rfl
theorem EG:((Rows.topOpeningsUptoRow.ifaces==(Tryz.f3.params.toList++(Rows.OpenSpec.upto Rows.topOpeningsSpec).bare.plain.varTypes Tryz.pinned.checked.prog).any (Tryz.pinned.checked.prog.ifacesRec ·)))=true:=by kernel_rfl
theorem EH:((Rows.topOpeningsUptoRow.mapsOut==Tryz.pinned.checked.prog.mapsAmong Tryz.f3.resultTypes.toList))=true:=by kernel_rfl
theorem EI:((Rows.topOpeningsUptoRow.loops==(Tryz.f3.params.toList++(Rows.OpenSpec.upto Rows.topOpeningsSpec).bare.plain.varTypes Tryz.pinned.checked.prog).any (Tryz.pinned.checked.prog.loopsFrom ·)))=true:=by kernel_rfl
theorem EJ:((Rows.topOpeningsUptoRow.wideKeys==(Tryz.f3.params.toList++(Rows.OpenSpec.upto Rows.topOpeningsSpec).bare.plain.varTypes Tryz.pinned.checked.prog++Tryz.f3.resultTypes.toList).any (Tryz.pinned.checked.prog.wideKeysFrom ·)))=true:=by kernel_rfl
theorem EK:((Rows.OpenSpec.upto Rows.topOpeningsSpec).bare.vars.all (Tryz.pinned.checked.prog.varReadable ·))=true:=by kernel_rfl
theorem EL:(Tryz.f3.resultTypes.all (fun a=>Tryz.pinned.checked.prog.readableRec a&&decide (a<Tryz.pinned.checked.prog.types.size)))=true:=by kernel_rfl
theorem EM:((Rows.topOpeningsUptoRow.ifacesOut==Tryz.f3.resultTypes.toList.any (Tryz.pinned.checked.prog.ifacesRec ·)))=true:=by kernel_rfl
theorem EN:((Rows.topOpeningsUptoRow.loopsOut==Tryz.f3.resultTypes.toList.any (Tryz.pinned.checked.prog.loopsFrom ·)))=true:=by kernel_rfl
theorem EO:((Rows.topOpeningsUptoRow.plainKeys==Tryz.pinned.checked.prog.plainKeys))=true:=by kernel_rfl
theorem EP:(Rows.topOpeningsUptoRow.shortTexts.isNone)=true:=by kernel_rfl
theorem EQ:(Tryz.pinned.checked.prog.stopsHeard)=true:=by kernel_rfl
theorem ER:(Tryz.pinned.checked.prog.mayEnter)=true:=by kernel_rfl
theorem ET:((Rows.topOpeningsUptoRow.lifted==Tryz.pinned.checked.prog.liftsFinal))=true:=by kernel_rfl
theorem EU:((Tryz.pinned.checked.prog.make==some Rows.topOpeningsUptoRow.make))=true:=by kernel_rfl
theorem EV:((Rows.topOpeningsUptoRow.kinds==(if Rows.topOpeningsUptoRow.domain.isEmpty then []else Tryz.f3.params.toList.map fun a=>match Tryz.pinned.checked.prog.underlying a with|some (.int k)=>some k|_=>none)))=true:=by kernel_rfl
theorem EW:((Rows.topOpeningsUptoRow.pinned==Rows.topOpeningsUptoRow.pinnedBy))=true:=by kernel_rfl
theorem EX:((Rows.topOpeningsUptoRow.veiled==(Tryz.f3.params.toList++(Rows.OpenSpec.upto Rows.topOpeningsSpec).bare.plain.varTypes Tryz.pinned.checked.prog++Tryz.f3.resultTypes.toList).any (Tryz.pinned.checked.prog.veiledRec ·)))=true:=by kernel_rfl
theorem EY:(Rows.topOpeningsUptoRow.veiledFits Tryz.pinned.checked.prog Tryz.f3.params.toList (Tryz.f3.params.toList++(Rows.OpenSpec.upto Rows.topOpeningsSpec).bare.plain.varTypes Tryz.pinned.checked.prog++Tryz.f3.resultTypes.toList))=true:=by kernel_rfl
theorem goE:((Tryz.pinned.checked.prog.closure 3).any fun g=>(Tryz.pinned.checked.prog.funcs[g]?).any Func.goes)=false:=by kernel_rfl
theorem goF:(Tryz.pinned.checked.prog.funcs.any Func.goes)=false:=by kernel_rfl
theorem goD {a b c:Bool} (h:a=false) (k:c=false):(a||(b&&c))=false:=by rw[h,k];cases b<;>rfl
theorem goG:Tryz.pinned.checked.prog.goes 3=false:=by unfold Program.goes;exact goD goE goF
theorem goH:Tryz.pinned.checked.prog.funcNamed Rows.topOpeningsUptoRow.func=some 3:=by kernel_rfl
theorem goA:Tryz.pinned.checked.prog.goesFrom Rows.topOpeningsUptoRow.func=false:=by unfold Program.goesFrom;rw[goH,Option.any_some];exact goG
theorem goB:(Tryz.pinned.checked.prog.inits.toList.any Tryz.pinned.checked.prog.goes)=false:=by kernel_rfl
theorem goC {a b:Bool} (c:a=false) (d:b=false):false=(a||b):=by rw[c,d];rfl
theorem Gy:false=Rows.topOpeningsUptoRow.goesBy Tryz.pinned.checked.prog:=by unfold OpenClaim.goesBy Program.goesAt;exact goC goA goB
theorem Ch:joinedFacts Tryz.pinned.checked.prog 3 Tryz.f3 (Rows.OpenSpec.upto Rows.topOpeningsSpec).bare Rows.topOpeningsUptoRow=true:=gX (gX (gX (gX (gX (gX (gX (gX (gX (gX (gX (gX (gX (gX (gX (gX (gX (gX (gX (gX (gX (gX (gX (gX (gX (gX (gX (gX (gX (gX (gX Gm Gn) Gp) Gq) Gr) Gs) Gt) Gu) Gw) Gx) EC) ED) EE) EF) EG) EH) EI) EJ) EK) EL) EM) EN) EO) EP) EQ) ER) ET) EU) EV) EW) EX) EY
theorem pP:Rows.TopOpeningsUptoSaid:=
 OpenClaim.holds_of_cond 3 Tryz.f3 rfl rfl rfl rfl rfl rfl rfl ⟨rfl,rfl,rfl,rfl,rfl⟩ rfl rfl rfl rfl rfl (by kernel_rfl) func3 Ch
  (of_decide_eq_true (by kernel_rfl)) (by unfold Func.isWrapper;rw[if_neg (of_decide_eq_false (by kernel_rfl))];exact⟨rfl,rfl⟩)
  (fun b a H enc _ F=>by rw[OpenClaim.pre_eq_preRow];exact nV b a H enc F)
theorem oX (f:FuncId) (b:Func) (e:Tryz.pinned.checked.prog.funcNamed "shipyard/shipyardtop.TopOpenings" =some f) (c:Tryz.pinned.checked.prog.funcs[f]?=some b):
 false=Tryz.pinned.checked.prog.looks []∧∀(j:Nat) t,b.params[j]?=some t→Tryz.pinned.checked.prog.wantsStandIn t=false:=by
 obtain rfl:f=3:=Option.some.inj ((show prog.funcNamed "shipyard/shipyardtop.TopOpenings" =some 3 by kernel_rfl).symm.trans e) |>.symm;obtain rfl:b=Tryz.f3:=(Option.some.inj (func3.symm.trans c)).symm;refine⟨by kernel_rfl,fun j t d=> ?_⟩;rw[Tryz.params3]at d;have g:t∈ [28,32,35]:=by simpa using Array.mem_of_getElem? d
 have a:([28,32,35].all fun u=> !prog.wantsStandIn u)=true:=by kernel_rfl
 exact(show prog.wantsStandIn t=false by simpa using List.all_eq_true.1 a t g)
theorem topOpenings_card:Rows.TopOpeningsUptoCardSaid:=
 Claim7.holds_tied_plain_at .later [] _ _ _ _ pP (fun _ h=>by cases h) (by kernel_rfl) (fun _ h=>by cases h) topOpeningsUpto_row_tie rfl ⟨rfl,rfl⟩ (by kernel_rfl) rfl oX Gy
#print axioms topOpenings_card
end Go.Proofs.YtencnijahlkbaaaGreatDoor
