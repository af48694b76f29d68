/-
  Lemmas of this claim, joined. Conditions: as stated. By an AI agent.
-/
import Derived.Test.YtencnijahlkbaaaGreatDoorProg
import Derived.WalkKit
import Derived.WalkSpells
import Derived.WalkLawsBesides
import Derived.ProofKit
import Derived.OpenShut
import Derived.Handy
import Derived.BigQuiet
import Derived.Lib.Hide
import Derived.Deep.DeepHandedRow
import Derived.StillTailTactics
import Derived.Deep.Slices
import Derived.Deep.Fields
import Derived.ChangeSame
import Derived.Lib.SmallJoins
open Go.Act renaming put → aC
open Array renaming getElem?_eq_some_iff → av
open Go.RowKit.Below renaming refl → ah
open Bool renaming false_and → aI, true_and → aN, and_false → aL, false_or → aP, true_or → aW, or_false → aQ, eq_false_iff → cG
open Classical renaming byContradiction → aG
open Int renaming mul_nonneg → bE
open List renaming take_succ_cons → ac, take_zero → aj, drop_succ_cons → am, drop_zero → ax, setIfInBounds_toArray → aa, set_cons_zero → ae, set_cons_succ → af, mem_cons_self → bw, getElem?_eq_getElem → aS, getD_eq_getElem?_getD → aO, getElem?_append_left → cV, getElem?_append_right → cD, length_append → aZ, mem_cons → bj
open Nat renaming le_refl → aB, lt_of_lt_of_le → aM, le_trans → bW, reduceAdd → aE, reduceEqDiff → aA
open Go.Region renaming binds → ai, wanted → au
open Go.World renaming size_setCell → aT, size_alloc → aw
namespace Go.Proofs.YtencnijahlkbaaaGreatDoor
set_option maxHeartbeats 8000000
set_option maxRecDepth 100000
set_option linter.unusedVariables false
set_option linter.unusedSimpArgs false
open Go.Proofs.Tryz
section
open Go Go.ChangeShapes Go.WideShapes Go.RowKit Go.ChangeAt
def Hi (p:Prop):Prop:=p
theorem Hi.o {p:Prop} (h:Hi p):p:=h
theorem ar {p:Prop} (h:p):Hi p:=h
theorem dS (j:Nat):(0:Int)≤(j:Int):=by omega
theorem dx {B n m:Nat} {w W:World} (h:Below B w W) (e:w.heap.size=n:=by(try simp only[aw,aT]);rfl) (f:W.heap.size=m:=by(try simp only[aw,aT]);rfl):n≤m:=e▸f▸h.size
abbrev Gv (f:FuncId) (a:Array Value) (v:Value) (w:World):Prop:=Calls prog f a w fun e w'=>e= .returned v∧Below w.heap.size w w'
theorem kz {W w':World} {b:Nat} {c:Obj} (a:Below W.heap.size W w') (h:Hi (W.heap[b]?=some c)):w'.heap[b]?=some c:=(a.block b (av.1 h.o).1).trans h.o
instance :Coe Int Value:=⟨.int .i64⟩
instance :Coe Nat Value:=⟨fun n=> .int .i64 (n:Int)⟩
instance :Coe Nat Addr:=⟨fun b=>⟨b,0,none⟩⟩
instance (b o:Nat):CoeDep (Nat×Nat) (b,o) Addr:=⟨⟨b,o,none⟩⟩
instance (x:Int):CoeDep (Option Int) (some x) (Option Value):=⟨some (.int .i64 x)⟩
instance (x:Nat):CoeDep (Option Nat) (some x) (Option Value):=⟨some (.int .i64 (x:Int))⟩
instance (x:ByteArray):CoeDep (Option ByteArray) (some x) (Option Value):=⟨some (.string x)⟩
instance :Coe Unit Value:=⟨fun _=> .int .i64 0⟩
instance :Coe String Value:=⟨fun _=> .string ⟨#[]⟩⟩
instance :Coe Type Value:=⟨fun _=> .slice none 0 0⟩
theorem II {B:Nat} {w W:World} (h:Below B w W) {b o:Nat} (l:b<B):W.cell? ⟨b,o,none⟩=w.cell? ⟨b,o,none⟩:=h.cell (p:=⟨_,_,none⟩) l
theorem tB {B:Nat} {w W:World} (h:Below B w W) {b o:Nat} (l:b<B):W.frozen? ⟨b,o,none⟩=w.frozen? ⟨b,o,none⟩:=h.frozen (p:=⟨_,_,none⟩) l
theorem bI {B:Nat} {w W:World} (h:Below B w W) {b o:Nat} (l:b<B) {v:Option Value} (e:w.cell? ⟨b,o,none⟩=v):W.cell? ⟨b,o,none⟩=v:=(h.cell (p:=⟨_,_,none⟩) l).trans e
theorem df {p:Prop} [Decidable p] (h:¬p:=by omega):decide p=false:=decide_eq_false h
theorem dt {p:Prop} [Decidable p] (h:p:=by omega):decide p=true:=decide_eq_true h
theorem iw {z:Int} (h: -9223372036854775808≤z∧z≤9223372036854775807:=by omega):IntKind.i64.wrap z=z:=IntWalk.i64_in z h
theorem oE {α:Sort _} (a:α):∃x,a=x:=⟨a,rfl⟩
theorem wE (w:World):∃x,x=w:=⟨w,rfl⟩
theorem mz {f:FuncId} {a:Array Value} {v:Value} {w:World} {Q:Ending→World→Prop} (h:Gv f a v w) (k:∀b,Below w.heap.size w b→Q (.returned v) b):Calls prog f a w Q:=h.mono (by rintro e b ⟨rfl,c⟩;exact k b c)
end
section
open Go.ChangeShapes Go.WideShapes Go.ChangeAt Go.RowKit
structure ls (W:World)where
 w:World
 h:Below W.heap.size W w
def ls.here (W:World):ls W:=⟨W,ah _ _⟩
instance EZ (W:World):Nonempty (ls W):=⟨ls.here W⟩
theorem ls.size {W:World} (x:ls W):W.heap.size≤x.w.heap.size:=x.h.size
theorem ls.cell {W:World} (x:ls W) (b o:Nat) (h:b<W.heap.size):x.w.cell? ⟨b,o,none⟩=W.cell? ⟨b,o,none⟩:=x.h.cell (p:=⟨b,o,none⟩) h
theorem br {W a:World} (c:Below W.heap.size W a):(∀b o,b<W.heap.size→a.cell? ⟨b,o,none⟩=W.cell? ⟨b,o,none⟩)∧(∀b o,b<W.heap.size→a.frozen? ⟨b,o,none⟩=W.frozen? ⟨b,o,none⟩):=
 ⟨fun b o h=>c.cell (p:=⟨b,o,none⟩) h,fun b o h=>c.frozen (p:=⟨b,o,none⟩) h⟩
theorem ag {w W a:World} (h:Below w.heap.size w W) (b:Below W.heap.size W a):Below w.heap.size w a:=h.trans (b.mono h.size)
theorem gY (W:World) (x:ls W) (b o:Nat) (h:b<W.heap.size):x.w.cell? ⟨b,o,none⟩=W.cell? ⟨b,o,none⟩:=x.cell b o h
theorem gM {W w':World} (h:∃x:ls W,w'=x.w):Below W.heap.size W w':=by obtain⟨x,rfl⟩:=h;exact x.h
theorem eU {P:Program} {e:Nat} {Q:Exit→Act→World→Prop} {a:Act} {w:World} {l:List Oper} (d:P.follows .mixedOrders=true) (c:Region.lexB .any l.toArray=true)
 (h:wpQuiet P l.toArray (fun w'=>∃x:ls w,w'=x.w) (fun b=>∀w',(∃x:ls w,w'=x.w)→Q .normal b w') l a):(Code.region e l.toArray true).wp P Q a w:=
 wp_region_quiet (C:=fun w'=>∃x:ls w,w'=x.w) d c ⟨⟨{w with drawn:=w.drawn+1},⟨rfl,rfl,rfl,aB _,fun _ _=>rfl⟩⟩,rfl⟩ (by simpa using h)
theorem eW {P:Program} {f:FuncId} {a:Array Value} {w:World} {x:ls w} {v:Value}
 (h:Calls P f a x.w fun e w'=>e= .returned v∧Below x.w.heap.size x.w w'):Calls P f a x.w fun e b=>e= .returned v∧∃y:ls w,b=y.w:=
 h.mono fun _ w' ⟨he,hb⟩=>⟨he,⟨w',x.h.trans (hb.mono x.size)⟩,rfl⟩
section
variable {H:Type} {enc:TypeId×Value→H} {P:Program}
theorem tc {f:Func} {s:ChangeSpec} {c g e:Bool} {W k:World} {d:Array Value} {v:Value} {l m:List (DataW H)} {a pa pv:List MemPlace}
 (o:DataW.Whole enc P f.params.toList s.vars c W d.toList l m a)
 (n:∀(b:Nat) (r:Nat→Bool) (q:Bool),DataW.TrodAll enc P k b r q f.resultTypes.toList (v.resultList f.resultTypes.size) (s.fn H (l++m)).results [])
 (i:DataW.TrodAll enc P k 0 (fun b=>decide (b<W.heap.size)) true f.params.toList d.toList (s.fn H (l++m)).args pa)
 (j:DataW.TrodVars enc P k (fun b=>decide (b<W.heap.size)) s.vars (s.fn H (l++m)).vars pv)
 (p:Below W.heap.size W k):s.post enc P f c g e false W d v k:=
 ⟨l,m,a,[],pa,pv,o,n _ _ _,i,j,p.frame _,fun h=>by cases h⟩
theorem mS (j:laidOutB P=true) {W g:World} (i:Below W.heap.size W g):∀(a:List TypeId) (e:List Value) (c:List (DataW H)) (ps:List MemPlace),
 (∀t∈a,P.readableRec t=true∧t<P.types.size)→DataW.TrodAll enc P W 0 (fun _=>true) true a e c ps→(∀x∈ps,x.block<W.heap.size)→
 DataW.TrodAll enc P g 0 (fun b=>decide (b<W.heap.size)) true a e c ps
 | [],[],[],_,_,h,_=>h
 |t::a,v::e,d::c,ps,ht,h,hlt=>by
  obtain⟨p,q,k,l,rfl⟩:=h;exact⟨p,q,Below.trod j (ht t (by simp)).1 (ht t (by simp)).2 k i (fun x f=>hlt x (by simp[f])),mS j i a e c q (fun t h=>ht t (by simp[h])) l (fun x f=>hlt x (by simp[f])),rfl⟩
 | [],_::_,_,_,_,h,_=>h.elim
 | [],[],_::_,_,_,h,_=>h.elim
 |_::_,[],_,_,_,h,_=>h.elim
 |_::_,_::_,[],_,_,h,_=>h.elim
theorem Cm {f:Func} {s:ChangeSpec} {c e d:Bool} {W w:World} {args:Array Value} {l k:List (DataW H)} {a:List MemPlace}
 (C:laidOutB P=true) (E:(f.params.toList.all fun t=>P.readableRec t&&decide (t<P.types.size))=true) (j:f.resultTypes=#[4]) (i:P.underlying 4=some .bool) (z:s.vars= [])
 (n:DataW.Whole enc P f.params.toList s.vars c W args.toList l k a)
 (v:k= []→s.fn H (l++ [])={results:= [.lit (.bool true)],args:=l}) (y:Below W.heap.size W w):s.post enc P f c e d false W args (.bool true) w:=by
 have u:∀p∈a,p.block<W.heap.size:=fun p D=>n.lt p D;have o:=n;obtain⟨p,q,A,m,rfl,_,_⟩:=n;rw[z]at m;have B:k= []∧q= []:=by
  cases k with
  |nil=>exact⟨rfl,m⟩
  |cons g r=>exact absurd m (by intro h;cases h)
 obtain⟨rfl,rfl⟩:=B;refine tc (pa:=p) (pv:= []) o ?_ ?_ ?_ y
 ·intro b J I;rw[v rfl,j];exact trodAll_mk1 (shut_bool i true)
 ·rw[v rfl];exact mS C y _ _ _ _ (fun t F=>by simpa using List.all_eq_true.1 E t F) A (fun x G=>u x (by simp[G]))
 ·rw[z,v rfl];rfl
end
theorem In:ownKnob prog.godebug=none:=by kernel_rfl
theorem Fb:laidOutB prog=true:=by kernel_rfl
end
section
open Go Go.RowKit
section
variable {P:Program} {ops:Array Oper} {md:Region.Mode} {C:World→Prop}
def nW (P:Program) (md:Region.Mode) (ops:Array Oper) (C:World→Prop) (n:Nat) (L:Array Bool→Act→Prop):Nat→Array Bool→Act→Prop
 |0,listed,a=>L listed a
 |f+1,listed,a=>Region.ready md ops listed≠ []∧∀i∈Region.ready md ops listed,i<n∧qOp P ops C i (nW P md ops C n L f (listed.setIfInBounds i true)) a
theorem rd {n g:Nat} {L:Array Bool→Act→Prop} {Q':Exit→Act→World→Prop} (d:∀b a w,C w→L b a→wpAny P md ops Q' g b a w):
 ∀(f:Nat) (b:Array Bool) (a:Act) (w:World),C w→nW P md ops C n L f b a→wpAny P md ops Q' (f+g) b a w
 |0,_,_,_,hw,h=>by rw[Nat.zero_add];exact d _ _ _ hw h
 |f+1,b,a,w,hw,h=>by
  rw[show f+1+g=(f+g)+1 by omega];exact⟨fun k=>absurd k h.1,fun i l=>wpOp_of_qOp hw (fun e w' c j=>rd d f _ e w' c j) (h.2 i l).2⟩
theorem td {n i:Nat} {A:Oper} {v:Value} {L:Array Bool→Act→Prop} (F:ops[i]?=some A) (r:∀(j:Nat) (o:Oper) cs b,ops[j]?=some o→o.op≠ .select cs b)
 (N:Region.sinkB md ops n=true) (K:Region.chainB md ops n=true) (hn:n<ops.size) (y:i<n) (s:∀c a,L c a→∀j∈Region.ready md ops c,n≤j):
 ∀(f:Nat) (c:Array Bool) (a:Act),HeadInv md ops n c→
  (∀j w,ops[j]?=some w→j≠i→c.getD j true=false→(∀e∈w.after,ai md e=true→e.on≠i)→A.apart ops w=true)→
  i∈Region.ready md ops c→YieldsIn P ops C A v a→nW P md ops C n L f (c.setIfInBounds i true) (a.put A.dst v)→nW P md ops C n L (f+1) c a:=by
 intro f
 induction f with
 |zero=>
  intro c a m _ q D H;have l:=(mem_ready.1 q).1;refine⟨fun h=>(by rw[h]at q;cases q),fun j t=> ?_⟩;have g:j<n:=(Nat.lt_or_ge j n).resolve_right fun h=>tail_waits N K hn m _ i rfl y l j h t;refine⟨g,?_⟩;by_cases hji:j=i
  ·subst hji;exact D.qOp F H
  ·exact absurd (s _ _ H j (ready_mono t hji)) (by omega)
 |succ f ih=>
  intro c a m d q D H;have l:=(mem_ready.1 q).1;refine⟨fun h=>(by rw[h]at q;cases q),fun j t=> ?_⟩;have g:j<n:=(Nat.lt_or_ge j n).resolve_right fun h=>tail_waits N K hn m _ i rfl y l j h t;refine⟨g,?_⟩;by_cases hji:j=i
  ·subst hji;exact D.qOp F H
  ·have B:=(H.2 j (ready_mono t hji)).2;obtain⟨p,w,u,x⟩:=mem_ready.1 t;have z:∀e∈w.after,ai md e=true→e.on≠i:=fun e T R E=>by
    have B:=x e T R;rw[E,getD_both l]at B;cases B
   refine qOp_mono (fun Q J=>ih (c.setIfInBounds j true) Q (m.set t g) (fun k W U G O I=> ?_) (ready_mono q (Ne.symm hji)) J.1 ?_)
    (qOp_put u (d j w u hji p z) (fun cs b=>r i A cs b F) (fun cs b=>r j w cs b u) D B)
   ·refine d k W U G ?_ I;by_cases hjk:j=k
    ·subst hjk;exact p
    ·rw[getD_set_ne true hjk]at O;exact O
   ·rw[Array.setIfInBounds_comm _ _ hji];exact J.2
theorem pQ {n g:Nat} {f:Act→Prop} (d:Region.noSelect ops=true) (q:Region.sinkB md ops n=true) (p:Region.chainB md ops n=true) (hn:n<ops.size):
 ∀(l:List Oper) (k:Nat) (b:Array Bool) (a:Act),(∀j,j<l.length→l[j]?=ops[k+j]?)→k+l.length=n→HeadInv md ops n b→
 Region.lexHead md ops g l.length k b=true→wpQuiet P ops C f l a→nW P md ops C n (fun c r=>Region.seqB md ops g n c=true∧f r) l.length b a
 | [],k,b,a,_,hk,_,hB,h=>by
  obtain rfl:k=n:=by simpa using hk
  exact⟨by simpa [Region.lexHead]using hB,h⟩
 |o::l,k,b,a,hl,hk,inv,hB,h=>by
  have i:ops[k]?=some o:=by simpa using(hl 0 (by simp)).symm
  simp only[List.length_cons,Region.lexHead,Bool.and_eq_true]at hB;obtain⟨⟨w,u⟩,m⟩:=hB;simp only[List.length_cons]at hk;have e:k∈Region.ready md ops b:=by simpa using w
  obtain⟨v,x,s⟩:=yieldsIn_of_qOp (K:=wpQuiet P ops C f l) i (show qOp P ops C k (wpQuiet P ops C f l) a by unfold qOp;simp only[i];exact h);exact td i (Region.noSelect_spec d) q p hn (by omega) (fun _ _ t=>seqB_ready t.1) l.length b a inv (Region.free_spec i u) e x
   (pQ d q p hn l (k+1) _ _ (fun j y=>by have:=hl (j+1) (by simp;omega);simpa [Nat.add_assoc,Nat.add_comm 1 j]using this) (by omega) (inv.set e (by omega)) m s)
theorem lx {D:Nat} {Q:Exit→Act→World→Prop} {a:Act} {w:World} {l:List Oper} (n:Nat) (y:P.follows .mixedOrders=true) (q:Region.lexTailB .any l.toArray n=true) (v:C {w with drawn:=w.drawn+1})
 (h:wpQuiet P l.toArray C (fun k=>∀w',C w'→wpList P l.toArray Q (l.drop n) k w') (l.take n) a):(Code.region D l.toArray true).wp P Q a w:=by
 simp only[Region.lexTailB,Bool.and_eq_true,decide_eq_true_eq]at q;obtain⟨⟨⟨⟨f,hn⟩,A⟩,x⟩,e⟩:=q;have z:n<l.length:=by simpa using hn
 have b:(l.take n).length=n:=by simp;omega
 have d:(l.drop n).length=l.toArray.size-n:=by simp
 have i:HeadInv .any l.toArray n (Array.replicate l.toArray.size false):=
  ⟨by simp,fun j E _ u=>(by rw[getD_replicate_false]at u;cases u),fun t _ B=>getD_in (by simpa using B) (getD_replicate_false _ _)⟩
 have H:=pQ (md:= .any) (C:=C) (g:=l.toArray.size-n) f A x hn (l.take n) 0 _ a (fun j s=>by
  have m:j<n:=by rw[b]at s;exact s
  simp[m]) (by simpa using b) i (by rw[b];exact e) h
 refine wp_region_any y ?_;have p:=rd (Q':=Q) (g:=l.toArray.size-n) (fun c k w' o r=>by
  have:=wpAny_of_seq (md:= .any) (Q':=Q) (l.drop n) n c k w' (fun j=>by simp[List.getElem?_drop]) (by rw[d];exact r.1) (r.2 w' o)
  rwa [d]at this) _ _ _ {w with drawn:=w.drawn+1} v H
 rw[b,show n+(l.toArray.size-n)=l.toArray.size by omega]at p;exact p
theorem gJ {e:Nat} {Q:Exit→Act→World→Prop} {a:Act} {w:World} {l:List Oper} (n:Nat) (d:P.follows .mixedOrders=true) (c:Region.lexTailB .any l.toArray n=true)
 (h:wpQuiet P l.toArray (fun w'=>∃x:ls w,w'=x.w) (fun b=>∀w',(∃x:ls w,w'=x.w)→wpList P l.toArray Q (l.drop n) b w') (l.take n) a):(Code.region e l.toArray true).wp P Q a w:=
 lx (C:=fun w'=>∃x:ls w,w'=x.w) n d c ⟨⟨{w with drawn:=w.drawn+1},⟨rfl,rfl,rfl,aB _,fun _ _=>rfl⟩⟩,rfl⟩ h
end
section
variable {P:Program} {md:Region.Mode}
def qJ (P:Program) (R:Value→World→Prop):Result Next→Prop
 | .ok (.value u) w'=>R u w'
 | .ok .skip w'=>R undef w'
 | .ok (.enter f args) w'=>Calls P f args w' fun e w''=>∃u,e= .returned u∧R u w''
 |_=>False
def dh (P:Program) (o:Oper) (a:Act) (w:World) (R:Value→World→Prop):Prop:=qJ P R ((execOp a.eval o).run P w)
attribute [go_sem] dh qJ
theorem jv {o:Oper} {a:Act} {w:World} {R:Value→World→Prop} {K:Act→World→Prop} {Q:Exit→Act→World→Prop} (h:dh P o a w R) (b:∀u w',R u w'→K (a.put o.dst u) w'):o.wp P a w K Q:=by
 unfold dh at h;unfold Oper.wp;generalize (execOp a.eval o).run P w=r at*
 cases r with
 |ok n w'=>
  cases n with
  |value u=>exact b _ _ h
  |skip=>exact b _ _ h
  |enter f args=>exact Calls.mono h fun e c ⟨u,he,hr⟩=>by subst he;exact b _ _ hr
  |_=>exact h.elim
 |halt x w'=>exact h.elim
def aK:Act→List Oper→(Nat→Value)→Nat→Act
 |a,[],_,_=>a
 |a,o::l,u,k=>aK (a.put o.dst (u k)) l u (k+1)
def qD (u:Nat→Value) (i:Nat) (v:Value):Nat→Value:=fun j=>if j=i then v else u j
theorem Fc (a:Act) (d:Option Tmp) (u v:Value):(a.put d u).put d v=a.put d v:=by
 cases d with
 |none=>rfl
 |some d=>simp[aC]
theorem Fd (a:Act) (d:Tmp):a.put (some d) (a.tmps.getD d undef)=a:=by
 obtain⟨t,b⟩:=a;simp only[aC,Act.mk.injEq,and_true];apply Array.ext_getElem?;intro i;rw[Array.getElem?_setIfInBounds];split
 ·rename_i e;subst e;split
  ·rename_i h;simp[h]
  ·rename_i h;simp at h;simp[h]
 ·rfl
theorem tC {d:Option Tmp} {v:Value}:∀(l:List Oper) (a:Act) (u:Nat→Value) (k:Nat),(∀o∈l,∀t,d=some t→o.dst≠some t)→(aK a l u k).put d v=aK (a.put d v) l u k
 | [],_,_,_,_=>rfl
 |o::l,a,u,k,h=>by
  unfold aK;rw[tC l _ u (k+1) (fun o' b=>h o' (by simp[b]))];rw[Act.put_comm a (x:=o.dst) (y:=d) (u k) v (fun t e c=>h o (by simp) t c e)]
theorem rg:∀(l:List Oper) (a:Act) (u b:Nat→Value) (k:Nat),(∀j,k≤j→u j=b j)→aK a l u k=aK a l b k
 | [],_,_,_,_,_=>rfl
 |o::l,a,u,b,k,h=>by
  unfold aK;rw[h k (aB _)];exact rg l _ u b (k+1) (fun j c=>h j (by omega))
def vr:List Oper→Bool
 | []=>true
 |o::l=>(match o.dst with|none=>true|some d=>l.all fun o'=>decide (o'.dst≠some d))&&vr l
theorem iM {v:Value}:∀(l:List Oper) (a:Act) (u:Nat→Value) (k i:Nat) (o:Oper),vr l=true→l[i]?=some o→(aK a l u k).put o.dst v=aK a l (qD u (k+i) v) k
 | [],_,_,_,_,_,_,h=>by simp at h
 |o'::l,a,u,k,0,o,hd,h=>by
  obtain rfl:o'=o:=by simpa using h
  simp only[vr,Bool.and_eq_true]at hd;unfold aK;rw[tC l _ u (k+1) (fun o c t d=>by
   have b:=hd.1;rw[d]at b;simpa using List.all_eq_true.1 b o c),Fc]
  simp only[Nat.add_zero];rw[show qD u k v k=v by simp[qD]];exact rg l _ _ _ (k+1) (fun j e=>by unfold qD;rw[if_neg (by omega)])
 |o'::l,a,u,k,i+1,o,hd,h=>by
  simp only[vr,Bool.and_eq_true]at hd;unfold aK;rw[iM l _ u (k+1) i o hd.2 (by simpa using h)];rw[show qD u (k+(i+1)) v k=u k by unfold qD;rw[if_neg (by omega)]];rw[show k+1+i=k+(i+1)by omega]
def xn (a:Act):List Oper→Nat→Value
 | [],_=>undef
 |o::_,0=>match o.dst with|some d=>a.tmps.getD d undef|none=>undef
 |_::l,k+1=>xn a l k
theorem ly (a:Act):∀(l:List Oper) (k:Nat) (u:Nat→Value),(∀j,u (k+j)=xn a l j)→aK a l u k=a
 | [],_,_,_=>rfl
 |o::l,k,u,h=>by
  unfold aK;have b:=h 0;simp only[Nat.add_zero,xn]at b;have e:a.put o.dst (u k)=a:=by
   rw[b];cases o.dst with
   |none=>rfl
   |some d=>exact Fd a d
  rw[e];exact ly a l (k+1) u (fun j=>by have:=h (j+1);rw[show k+1+j=k+(j+1)by omega];exact this)
def jK (md:Region.Mode) (V:Nat→Value→World→Prop) (u:Nat→Value) (w:World):List Edge→Prop
 | []=>True
 |e::l=>(ai md e=true→V e.on (u e.on) w)∧jK md V u w l
theorem vt {V:Nat→Value→World→Prop} {u:Nat→Value} {w:World}:∀(l:List Edge),(∀e∈l,ai md e=true→V e.on (u e.on) w)→jK md V u w l
 | [],_=>trivial
 |e::l,h=>⟨h e (by simp),vt l (fun e a=>h e (by simp[a]))⟩
def rh (P:Program) (md:Region.Mode) (ops:Array Oper) (w0:World) (V:Nat→Value→World→Prop) (fr:(Nat→Value)→Act):List Oper→Nat→Prop
 | [],_=>True
 |o::l,k=>(∀(u:Nat→Value) (w:World),Below w0.heap.size w0 w→jK md V u w o.after.toList→
  if au o (yielded ops (fr u).tmps)=true then dh P o (fr u) w (fun v w'=>Below w.heap.size w w'∧V k v w')else V k undef w)∧rh P md ops w0 V fr l (k+1)
theorem tD {ops:Array Oper} {b:World} {V:Nat→Value→World→Prop} {a:(Nat→Value)→Act}:∀(l:List Oper) (k i:Nat) (o:Oper),rh P md ops b V a l k→l[i]?=some o→
 ∀(u:Nat→Value) (w:World),Below b.heap.size b w→jK md V u w o.after.toList→
  if au o (yielded ops (a u).tmps)=true then dh P o (a u) w (fun v w'=>Below w.heap.size w w'∧V (k+i) v w')else V (k+i) undef w
 | [],_,_,_,_,h=>by simp at h
 |o'::l,k,0,o,hr,h=>by
  obtain rfl:o'=o:=by simpa using h
  exact hr.1
 |o'::l,k,i+1,o,hr,h=>by
  have:=tD l (k+1) i o hr.2 (by simpa using h);rw[show k+1+i=k+(i+1)by omega]at this;exact this
def dv (n:Nat) (listed:Array Bool):Nat:=(List.range n).countP fun j=> !listed.getD j false
theorem ri {p q:Nat→Bool} {i:Nat}:∀(l:List Nat),l.Nodup→i∈l→p i=true→q i=false→(∀j,j≠i→q j=p j)→l.countP p=l.countP q+1
 | [],_,h,_,_,_=>by cases h
 |x::l,hn,h,hp,hq,he=>by
  rw[List.nodup_cons]at hn;by_cases hx:x=i
  ·subst hx;have:l.countP p=l.countP q:=by
    apply List.countP_congr;intro y b;rw[he y (fun e=>hn.1 (e▸b))]
   rw[List.countP_cons_of_pos hp,List.countP_cons_of_neg (by simp[hq]),this]
  ·have a:i∈l:=by
    rcases bj.1 h with h|h
    ·exact absurd h.symm hx
    ·exact h
   have c:=ri l hn.2 a hp hq he;rw[List.countP_cons,List.countP_cons,he x hx,c];omega
theorem jg {n i:Nat} {a:Array Bool} (b:i<n) (c:i<a.size) (h:a.getD i false=false):dv n a=dv n (a.setIfInBounds i true)+1:=by
 unfold dv;refine ri (i:=i) _ List.nodup_range (List.mem_range.2 b) (by simp[h]) (by simp[c]) (fun j d=> ?_);rw[getD_set_ne false (by omega)]
def eP (n s:Nat):Array Bool:=(List.replicate n true++List.replicate (s-n) false).toArray
def Gz (md:Region.Mode) (ops:Array Oper) (n:Nat):Bool:=
 (List.range n).all fun i=>match ops[i]? with|some o=>o.after.toList.all fun e=> !ai md e||decide (e.on<i)|none=>true
def lu (md:Region.Mode) (l:List Oper) (n:Nat):Bool:=
 (decide (n=l.length)||(decide (n<l.length)&&Region.sinkB md l.toArray n&&Region.chainB md l.toArray n))&&Gz md l.toArray n&&Region.seqB md l.toArray (l.length-n) n (eP n l.length)&&vr (l.take n)
theorem kJ {ops:Array Oper} {n:Nat} {a:Array Bool} (r:Gz md ops n=true) (hn:n≤ops.size):∀(d i:Nat),i=d→i<n→a.getD i false=false→i<a.size→(∀j,j<n→j<a.size)→Region.ready md ops a≠ []:=by
 intro d
 induction d using Nat.strongRecOn with
 |_ d ih=>
  intro i s t o u f;subst s;by_cases hr:i∈Region.ready md ops a
  ·intro h;rw[h]at hr;cases hr
  ·have l:i<ops.size:=by omega
   have q:ops[i]?=some ops[i]:=Array.getElem?_eq_getElem l;have c:=List.all_eq_true.1 r i (List.mem_range.2 t);simp only[q]at c;have:∃e∈ops[i].after,ai md e=true∧a.getD e.on false=false:=by
    apply aG;intro m;apply hr;rw[mem_ready];refine⟨getD_in u o,ops[i],q,fun e g b=> ?_⟩;cases k:a.getD e.on false with
    |true=>rfl
    |false=>exact absurd ⟨e,g,b,k⟩ m
   obtain⟨e,g,b,k⟩:=this;have p:=List.all_eq_true.1 c e (by simpa using g);simp only[b,Bool.not_true,aP,decide_eq_true_eq]at p;exact ih e.on p e.on rfl (by omega) k (f _ (by omega)) f
theorem Ak {l:List Oper} {n:Nat} {x:Act} {K:World} {V:Nat→Value→World→Prop} {Q:Exit→Act→World→Prop} (Z:lu md l n=true)
 (t:∀i v w w',Below w.heap.size w w'→V i v w→V i v w')
 (z:rh P md l.toArray K V (fun u=>aK x (l.take n) u 0) (l.take n) 0)
 (E:∀(u:Nat→Value) (w:World),Below K.heap.size K w→(∀j,j<n→V j (u j) w)→wpList P l.toArray Q (l.drop n) (aK x (l.take n) u 0) w):
 ∀(f:Nat) (a:Array Bool) (u:Nat→Value) (w:World),dv n a=f→HeadInv md l.toArray n a→Below K.heap.size K w→(∀j,j<n→a.getD j false=true→V j (u j) w)→
  wpAny P md l.toArray Q (f+(l.length-n)) a (aK x (l.take n) u 0) w:=by
 simp only[lu,Bool.and_eq_true,Bool.or_eq_true,decide_eq_true_eq]at Z;obtain⟨⟨⟨hn,d⟩,J⟩,hd⟩:=Z;have T:n≤l.length:=by omega
 intro f
 induction f with
 |zero=>
  intro a u w hf c A N;have g:∀j,j<n→a.getD j false=true:=by
   intro j m;have Y:(List.range n).countP (fun j=> !a.getD j false)=0:=hf;rw[List.countP_eq_zero]at Y;simpa using Y j (List.mem_range.2 m)
  have s:a=eP n l.length:=by
   apply Array.ext
   ·simp[eP,c.size];omega
   ·intro i L y;have W:a.size=l.length:=by rw[c.size];simp
    have h3:i<(List.replicate n true++List.replicate (l.length-n) false).length:=by simpa [eP]using y
    show a[i]=(List.replicate n true++List.replicate (l.length-n) false)[i]'h3;by_cases r:i<n
    ·rw[List.getElem_append_left (by simpa using r),List.getElem_replicate];have:=g i r;simpa [L]using this
    ·rw[List.getElem_append_right (by simpa using r),List.getElem_replicate];have:=c.tail i (by omega) (by simp;omega);simpa [L]using this
  rw[Nat.zero_add];have:=wpAny_of_seq (P:=P) (ops:=l.toArray) (md:=md) (Q':=Q) (l.drop n) n a (aK x (l.take n) u 0) w (fun j=>by simp[List.getElem?_drop])
   (by rw[List.length_drop,s];exact J) (E u w A (fun j m=>N j m (g j m)))
  rwa [List.length_drop]at this
 |succ f ih=>
  intro a u w hf c A N;have W:a.size=l.length:=by rw[c.size];simp
  obtain⟨X,G,p⟩:∃i,i<n∧a.getD i false=false:=by
   apply aG;intro U;have:dv n a=0:=by
    unfold dv;rw[List.countP_eq_zero];intro j m;have:a.getD j false=true:=by
     cases h:a.getD j false with
     |true=>rfl
     |false=>exact absurd ⟨j,List.mem_range.1 m,h⟩ U
    rw[this]
    decide
   omega
  rw[show f+1+(l.length-n)=(f+(l.length-n))+1 by omega];refine⟨fun h=>absurd h (kJ d (by simpa using T) X X rfl G p (by omega) (fun j m=>by omega)),fun i r=> ?_⟩;obtain⟨H,o,O,q⟩:=mem_ready.1 r;have a1:i<l.length:=by have:=(av.1 O).1;simpa using this
  have k:i<n:=by
   rcases hn with hn|⟨⟨hn,hs⟩,hc⟩
   ·omega
   ·exact(Nat.lt_or_ge i n).resolve_right fun h=>tail_waits hs hc (by simpa using hn) c _ X rfl G (getD_in (by omega) p) i h r
  have I:(l.take n)[i]?=some o:=by
   rw[List.getElem?_take_of_lt k];simpa using O
  have R:jK md V u w o.after.toList:=vt _ fun e he C=>by
   have D:=List.all_eq_true.1 d i (List.mem_range.2 k);simp only[O]at D;have y:=List.all_eq_true.1 D e he;simp only[C,Bool.not_true,aP,decide_eq_true_eq]at y;exact N e.on (by omega) (q e (by simpa using he) C)
  have b:=tD _ 0 i o z I u w A R;simp only[Nat.zero_add]at b;have F:∀v w',Below w.heap.size w w'→V i v w'→wpAny P md l.toArray Q (f+(l.length-n)) (a.setIfInBounds i true) ((aK x (l.take n) u 0).put o.dst v) w':=by
   intro v w' B hv;rw[iM (l.take n) x u 0 i o hd I];refine ih _ _ _ ?_ (c.set r k) (A.trans (B.mono A.size)) ?_
   ·have:=jg k (by omega:i<a.size) (getD_both H);omega
   ·intro j m hl;unfold qD;by_cases hji:j=0+i
    ·rw[if_pos hji];have:j=i:=by omega
     subst this;exact hv
    ·rw[if_neg hji];rw[getD_set_ne false (by omega)]at hl;exact t _ _ _ _ B (N j m hl)
  unfold wpOp;simp only[O];split
  ·rename_i hw;rw[if_pos hw]at b;exact .inl (jv b fun v w' ⟨L,y⟩=>F v w' L y)
  ·rename_i hw;rw[if_neg hw]at b;exact F _ _ (ah _ _) b
theorem mT {o:Nat} {Q:Exit→Act→World→Prop} {a:Act} {w:World} {l:List Oper} (n:Nat) (V:Nat→Value→World→Prop) (k:P.follows .mixedOrders=true) (g:lu .any l n=true)
 (b:∀i v w w',Below w.heap.size w w'→V i v w→V i v w')
 (c:rh P .any l.toArray w V (fun u=>aK a (l.take n) u 0) (l.take n) 0)
 (d:∀(u:Nat→Value) (w':World),Below w.heap.size w w'→(∀j,j<n→V j (u j) w')→wpList P l.toArray Q (l.drop n) (aK a (l.take n) u 0) w'):(Code.region o l.toArray true).wp P Q a w:=by
 refine wp_region_any k ?_;have f:HeadInv .any l.toArray n (Array.replicate l.toArray.size false):=
  ⟨by simp,fun j p _ e=>(by rw[getD_replicate_false]at e;cases e),fun t _ m=>getD_in (by simpa using m) (getD_replicate_false _ _)⟩
 have hn:n≤l.length:=by
  simp only[lu,Bool.and_eq_true,Bool.or_eq_true,decide_eq_true_eq]at g;omega
 have h:dv n (Array.replicate l.toArray.size false)=n:=by
  unfold dv;rw[List.countP_eq_length.2]
  ·simp
  ·intro j _;rw[getD_replicate_false];rfl
 have:=Ak g b c d n _ (fun j=>xn a (l.take n) j) {w with drawn:=w.drawn+1} h f ⟨rfl,rfl,rfl,aB _,fun _ _=>rfl⟩ (fun j _ e=>by rw[getD_replicate_false]at e;cases e);rw[ly a (l.take n) 0 _ (fun j=>by rw[Nat.zero_add]),show n+(l.length-n)=l.toArray.size by simp;omega]at this;exact this
def lz (B:Nat) (cs:Array Value) (t:TypeId) (v:Value) (w:World):Prop:=∃b:Nat,v= .pointer (some b)∧B≤b∧w.heap[b]?=some (.cells cs t)
theorem lz.mono {B:Nat} {cs:Array Value} {t:TypeId} {v:Value} {w w':World} (h:lz B cs t v w) (e:Below w.heap.size w w'):lz B cs t v w':=by
 obtain⟨b,c,d,a⟩:=h;exact⟨b,c,d,by rw[e.block b (av.1 a).1];exact a⟩
theorem Iv {w:World} {b:Nat} {x y z:Value} {t:TypeId} (h:w.heap[b]?=some (.cells #[x,y,z] t)):
 w.cell? b=some x∧w.cell? (b,1)=some y∧w.cell? (b,2)=some z∧∀o,w.frozen? ⟨b,o,none⟩=false:=by
 refine⟨?_,?_,?_,?_⟩<;>simp[World.cell?,World.frozen?,h]
end
end
section
open Go.RowKit
def cE (w:World) (v:Value) (n sz:Nat) (f:Nat→Nat→Value):Prop:=
 ∃(oa:Option Addr) (cap:Nat),v= .slice oa n cap∧n≤cap∧cap≤9223372036854775807∧(0<n→∃b off,oa=some ⟨b,off,none⟩∧b<w.heap.size∧∀i j,i<n→j<sz→w.cell? ⟨b,off+(i*sz+j),none⟩=some (f i j))
theorem cE.below {w w':World} {v:Value} {n sz:Nat} {f:Nat→Nat→Value} (h:cE w v n sz f) (d:Below w.heap.size w w'):cE w' v n sz f:=by
 obtain⟨oa,cap,g,k,l,m⟩:=h;refine⟨oa,cap,g,k,l,fun hn=> ?_⟩;obtain⟨b,c,e,a,o⟩:=m hn;exact⟨b,c,e,aM a d.size,fun i j p q=>bI d a (o i j p q)⟩

abbrev V:=Int×Int×Int
def qt (v:V):V:=(-v.2.1,v.1,v.2.2)
def qn:Nat→V→V
 |0,v=>v
 |n+1,v=>qt (qn n v)
def gZ (n:Int) (v:V):V:=
 if n=1 then(v.1,-v.2.2,v.2.1)else if n=2 then(v.1,-v.2.1,-v.2.2)else if n=3 then(v.1,v.2.2,-v.2.1)
 else if n=4 then(v.2.2,v.2.1,-v.1)else if n=5 then(-v.2.2,v.2.1,v.1)else v
def eq (k:Int):Int:=if k<0 then 0 else if 24≤k then 0 else k
def bC (v:V) (k:Int):V:=gZ (eq k/4) (qn (eq k % 4).toNat v)
def ij:V:=(1,2,3)
def dA (p:Int→Bool):Nat→Int→Int
 |0,_=>0
 |n+1,i=>if p i then i else dA p n (i+1)
def GA (v:V):Int:=dA (fun t=>decide (bC ij t=v)) 24 0
def fg (a b:Int):Int:=GA (bC (bC ij a) b)
def dw (a:Int):Int:=dA (fun t=>decide (bC (bC ij a) t=ij)) 24 0
def nX (a:Int):Int:=dA (fun t=>decide (fg (eq a) t=0)) 24 0
theorem oY (k:Int):0≤eq k∧eq k≤23:=by unfold eq;split<;>(try split)<;>omega
theorem xo {k:Int} (a:0≤k) (b:k≤23):eq k=k:=by unfold eq;rw[if_neg (by omega),if_neg (by omega)]
theorem yY (k:Int):eq (eq k)=eq k:=xo (oY k).1 (oY k).2
theorem Cn (v:V) (k:Int):bC v (eq k)=bC v k:=by unfold bC;rw[yY]
def dR (B:Int) (v:V):Prop:= -B≤v.1∧v.1≤B∧ -B≤v.2.1∧v.2.1≤B∧ -B≤v.2.2∧v.2.2≤B
theorem Ht {B:Int} {v:V} (h:dR B v):dR B (qt v):=by unfold dR qt at*;simp;omega
theorem vu {B:Int} {v:V} (h:dR B v):∀n,dR B (qn n v)
 |0=>h
 |n+1=>Ht (vu h n)
theorem Fe {B n:Int} {v:V} (h:dR B v):dR B (gZ n v):=by
 unfold gZ
 repeat' split
 all_goals (first|exact h|(unfold dR at*;simp;omega))
theorem qK {B:Int} {v:V} (k:Int) (h:dR B v):dR B (bC v k):=Fe (vu h _)
theorem Hu {p:Int→Prop} (h:∀n:Fin 24,p (n.val:Int)) (k:Int):p (eq k):=by
 obtain⟨c,d⟩:=oY k;have a:=h ⟨(eq k).toNat,by omega⟩;have b:((eq k).toNat:Int)=eq k:=by omega
 rw[b]at a;exact a
abbrev M:=V×V×V
def ta (m:M) (v:V):V:=
 (m.1.1*v.1+m.2.1.1*v.2.1+m.2.2.1*v.2.2,m.1.2.1*v.1+m.2.1.2.1*v.2.1+m.2.2.2.1*v.2.2,m.1.2.2*v.1+m.2.1.2.2*v.2.1+m.2.2.2.2*v.2.2)
def Ff (m n:M):M:=(ta m n.1,ta m n.2.1,ta m n.2.2)
theorem yZ (m n:M) (v:V):ta m (ta n v)=ta (Ff m n) v:=by
 obtain⟨⟨a,b,c⟩,⟨d,b2,b3⟩,e,f,g⟩:=m;obtain⟨⟨h,i,j⟩,⟨k,l,o⟩,p,q,r⟩:=n;obtain⟨x,y,z⟩:=v;simp only[ta,Ff,Int.mul_add,Int.add_mul,Int.mul_assoc,Prod.mk.injEq];refine⟨?_,?_,?_⟩<;>omega
def Fg:M:=((1,0,0),(0,1,0),(0,0,1))
def Iw:M:=((0,1,0),(-1,0,0),(0,0,1))
def Io:Nat→M
 |0=>Fg
 |n+1=>Ff Iw (Io n)
def Co (n:Int):M:=
 if n=1 then((1,0,0),(0,0,1),(0,-1,0))else if n=2 then((1,0,0),(0,-1,0),(0,0,-1))else if n=3 then((1,0,0),(0,0,-1),(0,1,0))
 else if n=4 then((0,0,-1),(0,1,0),(1,0,0))else if n=5 then((0,0,1),(0,1,0),(-1,0,0))else Fg
def Hv (k:Int):M:=Ff (Co (eq k/4)) (Io (eq k % 4).toNat)
theorem za (v:V):ta Fg v=v:=by unfold ta Fg;simp
theorem GN (v:V):ta Iw v=qt v:=by unfold ta Iw qt;simp
theorem Cp (v:V):∀n,ta (Io n) v=qn n v
 |0=>za v
 |n+1=>by rw[Io,←yZ,Cp v n,GN];rfl
theorem Cq (n:Int) (v:V):ta (Co n) v=gZ n v:=by
 unfold Co gZ;split
 ·unfold ta;simp
 split
 ·unfold ta;simp
 split
 ·unfold ta;simp
 split
 ·unfold ta;simp
 split
 ·unfold ta;simp
 exact za v
theorem zb (v:V) (k:Int):ta (Hv k) v=bC v k:=by
 rw[Hv,←yZ,Cp,Cq];rfl
theorem Cr (a:Int):dw (eq a)=dw a:=by unfold dw;rw[Cn]
theorem zf (p:Int→Bool):∀(n:Nat) (i:Int),0≤i→0≤dA p n i∧dA p n i≤i+n
 |0,i,h=>by unfold dA;omega
 |n+1,i,h=>by
  unfold dA;split
  ·omega
  ·have:=zf p n (i+1) (by omega);omega
theorem zh (p:Int→Bool):∀(n:Nat) (i:Int),0≤i→1≤n→dA p n i<i+n
 |0,i,h,h1=>by omega
 |n+1,i,h,_=>by
  unfold dA;split
  ·omega
  ·cases n with
   |zero=>unfold dA;omega
   |succ n=>have:=zh p (n+1) (i+1) (by omega) (by omega);omega
theorem Fh (a:Int):0≤dw a∧dw a≤23:=by
 have h:=zf (fun t=>decide (bC (bC ij a) t=ij)) 24 0 (by omega);have b:=zh (fun t=>decide (bC (bC ij a) t=ij)) 24 0 (by omega) (by omega);unfold dw;omega
theorem rj:∀n:Fin 24,fg (n.val:Int) (dw (n.val:Int))=0∧fg (dw (n.val:Int)) (n.val:Int)=0∧dw (n.val:Int)=nX (n.val:Int)∧fg 0 (n.val:Int)=(n.val:Int)∧dw (dw (n.val:Int))=(n.val:Int):=by decide+kernel
theorem Ct (a:Int):nX a=dw a:=by
 have h:=Hu (p:=fun x=>dw x=nX x) (fun n=>(rj n).2.2.1) a;rw[Cr]at h;rw[h];unfold nX;rw[yY]
instance Ip (B:Int) (v:V):Decidable (dR B v):=by unfold dR;exact inferInstance
def Al (a b:V):V:=(a.1+b.1,a.2.1+b.2.1,a.2.2+b.2.2)
def oZ (a:V):V:=(-a.1,-a.2.1,-a.2.2)
def kg:V:=(0,0,0)
def gq (a b:V):V:=if dR 1099511627776 a∧dR 1099511627776 b then Al a (oZ b)else kg
def ft (p:V) (k:Int) (v:V):V:=if dR 1099511627776 p∧dR 1099511627776 v then Al (bC v k) p else kg
def dD (p:V) (k:Int):V×Int:=if dR 1099511627776 p then(bC (oZ p) (dw k),dw k)else(kg,0)
def eL (p:V) (k:Int):Bool:=decide (dR 524288 p)&&decide (k=eq k)
theorem Fi (m:M) (a:V):ta m (oZ a)=oZ (ta m a):=by
 obtain⟨⟨b,c,d⟩,⟨e,b2,b3⟩,f,g,h⟩:=m;obtain⟨x,y,z⟩:=a;simp only[ta,oZ,Int.mul_neg,Prod.mk.injEq];refine⟨?_,?_,?_⟩<;>omega
theorem Cu (a:V) (k:Int):bC (oZ a) k=oZ (bC a k):=by rw[←zb,←zb,Fi]
def kK (v:V):Value:= .agg #[v.1,v.2.1,v.2.2]
theorem nc (k:Int) (w:World):
 Calls prog 133 #[k] w fun e w'=>e= .returned (.int .i64 (eq k))∧w=w':=by
 by_cases h0:k<0
 ·go_enter func133,ntmps133;go_wp2
  go_ret
  exact⟨by unfold eq;rw[if_pos h0];rfl,rfl⟩
 ·by_cases h1:24≤k
  ·go_enter func133,ntmps133;go_wp2
   go_ret
   exact⟨by unfold eq;rw[if_neg (by omega),if_pos h1];rfl,rfl⟩
  ·go_enter func133,ntmps133;go_wp2
   go_ret
   exact⟨by unfold eq;rw[if_neg (by omega),if_neg (by omega)];rfl,rfl⟩
theorem Cv (a b c x y z:Int) (w:World) (d: -2199023255552≤a∧a≤2199023255552) (g: -2199023255552≤b∧b≤2199023255552) (j: -2199023255552≤c∧c≤2199023255552)
 (m: -2199023255552≤x∧x≤2199023255552) (p: -2199023255552≤y∧y≤2199023255552) (s: -2199023255552≤z∧z≤2199023255552):
 Gv 92 #[.agg #[a,b,c],.agg #[x,y,z]] (.agg #[.int .i64 (a+x),.int .i64 (b+y),.int .i64 (c+z)]) w:=by
 obtain⟨e,f⟩:=d;obtain⟨h,i⟩:=g;obtain⟨k,l⟩:=j;obtain⟨n,o⟩:=m;obtain⟨q,r⟩:=p;obtain⟨t,u⟩:=s;go_enter func92,ntmps92;go_wp2;go_returns;exact⟨rfl,by go_grown⟩
theorem um (a b c:Int) (w:World) (d: -2199023255552≤a∧a≤2199023255552) (g: -2199023255552≤b∧b≤2199023255552) (j: -2199023255552≤c∧c≤2199023255552):
 Gv 91 #[.agg #[a,b,c]] (.agg #[.int .i64 (-a),.int .i64 (-b),.int .i64 (-c)]) w:=by
 obtain⟨e,f⟩:=d;obtain⟨h,i⟩:=g;obtain⟨k,l⟩:=j;go_enter func91,ntmps91;go_wp2;go_returns;exact⟨rfl,by go_grown⟩
section
variable {n x y z:Int}
theorem Iz (h:(n==1)=true):Ending.returned (.agg #[x,.int .i64 (-z),y])=Ending.returned (kK (gZ n (x,y,z))):=by
 obtain rfl:n=1:=by simpa using h
 rfl
theorem IA (a:(n==1)=false) (h:(n==2)=true):Ending.returned (.agg #[x,.int .i64 (-y),.int .i64 (-z)])=Ending.returned (kK (gZ n (x,y,z))):=by
 obtain rfl:n=2:=by simpa using h
 rfl
theorem IB (a:(n==1)=false) (b:(n==2)=false) (h:(n==3)=true):Ending.returned (.agg #[x,z,.int .i64 (-y)])=Ending.returned (kK (gZ n (x,y,z))):=by
 obtain rfl:n=3:=by simpa using h
 rfl
theorem IC (a:(n==1)=false) (b:(n==2)=false) (c:(n==3)=false) (h:(n==4)=true):Ending.returned (.agg #[z,y,.int .i64 (-x)])=Ending.returned (kK (gZ n (x,y,z))):=by
 obtain rfl:n=4:=by simpa using h
 rfl
theorem ID (a:(n==1)=false) (b:(n==2)=false) (c:(n==3)=false) (d:(n==4)=false) (h:(n==5)=true):Ending.returned (.agg #[.int .i64 (-z),y,x])=Ending.returned (kK (gZ n (x,y,z))):=by
 obtain rfl:n=5:=by simpa using h
 rfl
theorem IE (a:(n==1)=false) (b:(n==2)=false) (c:(n==3)=false) (d:(n==4)=false) (e:(n==5)=false):Ending.returned (.agg #[x,y,z])=Ending.returned (kK (gZ n (x,y,z))):=by
 simp only[beq_eq_false_iff_ne,ne_eq]at a b c d e;unfold gZ;rw[if_neg a,if_neg b,if_neg c,if_neg d,if_neg e];rfl
end
theorem xq (a b c k:Int) (w:World) (r:dR 2199023255552 (a,b,c)):
 Gv 90 #[.agg #[a,b,c],k] (kK (bC (a,b,c) k)) w:=by
 obtain⟨u,v⟩:=oY k;have f:=vu r;have t:=ar f;clear f r;go_enter func90,ntmps90;go_wp2_with (go_at_call 133;refine(nc _ _).mono ?_;rintro e w' ⟨rfl,rfl⟩)
 go_loopw[9] (fun i wr=>∃(j:Nat) (x y z:Int),(j:Int)≤eq k % 4∧i= .int .i64 j∧Hi (qn j (a,b,c)=(x,y,z))∧wr=(w.alloc (.cells #[x,y,z] 58)).alloc (.cells #[(),(),()] 58)) (fun i _=>4-(intOf i).toNat)
 case atStart=>exact⟨0,a,b,c,by omega,rfl,rfl,rfl⟩
 case round=>
  obtain⟨j,x,y,z,A,rfl,g,rfl⟩:=hrel;have s:=t.o j;rw[g.o]at s;obtain⟨h,l,m,n,o,p⟩:=s;simp only at h l m n o p;by_cases hlt:(j:Int)<eq k % 4
  ·go_wp2;go_roundw
   case rel=>exact⟨j+1,-y,x,z,by omega,by go_num,by show qt (qn j (a,b,c))=_;rw[g.o];rfl,rfl⟩
   case measure=>simp[intOf];omega
  ·have d:(eq k % 4).toNat=j:=by omega
   have q:Hi (bC (a,b,c) k=gZ (eq k/4) (x,y,z)):=by show bC (a,b,c) k=_;unfold bC;rw[d,g.o]
   clear d;go_wp2
   all_goals go_returns
   all_goals (rw[q.o];refine⟨?_,by go_grown⟩;clear q)
   all_goals (first|exact Iz ‹_› |exact IA ‹_› ‹_› |exact IB ‹_› ‹_› ‹_› |exact IC ‹_› ‹_› ‹_› ‹_› |exact ID ‹_› ‹_› ‹_› ‹_› ‹_› |exact IE ‹_› ‹_› ‹_› ‹_› ‹_›)
theorem iv (a b c k:Int) (w:World) (d:dR 2199023255552 (a,b,c)):
 Gv 90 #[.agg #[a,b,c],k] (.agg #[(bC (a,b,c) k).1,(bC (a,b,c) k).2.1,(bC (a,b,c) k).2.2]) w:=
 xq a b c k w d
section
variable (x0 x1 x2:Value) (w:World)
theorem Hw:(Instr.index 153 (.agg #[x0,x1,x2]) (.int .i64 0)).run prog w= .ok x0 w:=by kernel_rfl
theorem Hx:(Instr.index 153 (.agg #[x0,x1,x2]) (.int .i64 1)).run prog w= .ok x1 w:=by kernel_rfl
theorem Hy:(Instr.index 153 (.agg #[x0,x1,x2]) (.int .i64 2)).run prog w= .ok x2 w:=by kernel_rfl
end
theorem fN (a b c l:Int) (w:World) (k:0≤l∧l≤2199023255552) (h:dR l (a,b,c)):
 Gv 88 #[.agg #[a,b,c],l] (.bool true) w:=by
 obtain⟨d,e,f,g,i,j⟩:=h;simp only at d e f g i j;obtain⟨m,n⟩:=k;have o:=Hw;have p:=Hx;have q:=Hy;go_enter func88,ntmps88;go_wp2
 go_rounds 4
 go_returns;exact⟨rfl,by go_grown⟩
theorem jo (a b c l:Int) (w:World) (d:0≤l∧l≤2199023255552) (h:¬dR l (a,b,c)):
 Gv 88 #[.agg #[a,b,c],l] (.bool false) w:=by
 have H:Hi (¬dR l (a,b,c)):=ar h;clear h;obtain⟨e,f⟩:=d;have g:=Hw;have i:=Hx;have j:=Hy;go_enter func88,ntmps88;go_wp2
 go_rounds 4
 all_goals (first|(exfalso;refine H.o ⟨?_,?_,?_,?_,?_,?_⟩<;>simp<;>omega;done)|(go_returns;exact⟨rfl,by go_grown⟩))
def gD (w:World):Prop:=w.cell? (0,0)=some (.int .i64 1)∧w.cell? (0,1)=some (.int .i64 2)∧w.cell? (0,2)=some (.int .i64 3)
theorem gD.lt {w:World} (h:gD w):0<w.heap.size:=World.block_lt_of_cell? w _ h.1
theorem gD.below {w w':World} (h:gD w) (a:Below w.heap.size w w'):gD w':=
 ⟨bI a h.lt h.1,bI a h.lt h.2.1,bI a h.lt h.2.2⟩
theorem kh:dR 2199023255552 (1,2,3):=by unfold dR;decide
theorem qL (a b c x y z:Int) (W:World):(binOp .eql 58 (.agg #[a,b,c]) (.agg #[x,y,z])).run prog W= .ok (.bool (decide ((a,b,c)=(x,y,z)))) W:=by
 simp[go_sem];split
 ·split
  ·split<;>simp[*]
  ·simp[*]
 ·simp[*]
theorem Cw {B B':Int} {v:V} (h:dR B v) (a:B≤B'):dR B' v:=by unfold dR at*;omega
theorem zi {a b c x y z:Int} {w:World} (h:dR 2199023255552 (a,b,c)) (d:dR 2199023255552 (x,y,z)):
 Gv 92 #[.agg #[a,b,c],.agg #[x,y,z]] (.agg #[.int .i64 (a+x),.int .i64 (b+y),.int .i64 (c+z)]) w:=
 Cv a b c x y z w ⟨h.1,h.2.1⟩ ⟨h.2.2.1,h.2.2.2.1⟩ ⟨h.2.2.2.2.1,h.2.2.2.2.2⟩ ⟨d.1,d.2.1⟩ ⟨d.2.2.1,d.2.2.2.1⟩ ⟨d.2.2.2.2.1,d.2.2.2.2.2⟩
theorem Cx {a b c:Int} {w:World} (h:dR 2199023255552 (a,b,c)):
 Gv 91 #[.agg #[a,b,c]] (.agg #[.int .i64 (-a),.int .i64 (-b),.int .i64 (-c)]) w:=
 um a b c w ⟨h.1,h.2.1⟩ ⟨h.2.2.1,h.2.2.2.1⟩ ⟨h.2.2.2.2.1,h.2.2.2.2.2⟩
theorem fU:(0:Int)≤1099511627776∧(1099511627776:Int)≤2199023255552:=by decide
theorem rk:(0:Int)≤524288∧(524288:Int)≤2199023255552:=by decide
theorem er {v:V} (h:dR 1099511627776 v):dR 2199023255552 v:=Cw h (by decide)
theorem Cy {B:Int} {v:V} (h:dR B v):dR B (oZ v):=by unfold dR oZ at*;simp;omega
theorem nj (k:Int):dR 2199023255552 ((bC (1,2,3) k).1,(bC (1,2,3) k).2.1,(bC (1,2,3) k).2.2):=qK k kh
theorem Am (a b c k x y z:Int) (w:World) (n:dR 1099511627776 (a,b,c)) (l:dR 1099511627776 (x,y,z)):
 Gv 48 #[.agg #[a,b,c,k],.agg #[x,y,z]] (.agg #[.int .i64 ((bC (x,y,z) k).1+a),.int .i64 ((bC (x,y,z) k).2.1+b),.int .i64 ((bC (x,y,z) k).2.2+c)]) w:=by
 have I:=gY;have B:=ar (qK k (er l));have A:=ar (er n);go_enter func48,ntmps48;go_wp2_with fail
 (go_at_call 88;(refine(fN _ _ _ _ _ fU n).mono ?_;rintro e m ⟨rfl,d⟩;have L:=ag (w:=w) (by go_grown) d;have o:=d.size;(try simp only[aw]at o);have J:w.heap.size<m.heap.size:=(by omega);have K:w.heap.size+1<m.heap.size:=(by omega);have f:w.heap.size+1+1<m.heap.size:=(by omega);obtain⟨N,O⟩:=br d;clear d o));go_wp2_with fail
 (go_at_call 88;(refine(fN _ _ _ _ _ fU l).mono ?_;rintro e g ⟨rfl,d⟩;have C:=ag (w:=w) (by go_grown) d;have f:=d.size;(try simp only[aw]at f);have p:w.heap.size<g.heap.size:=(by omega);have q:w.heap.size+1<g.heap.size:=(by omega);have r:w.heap.size+1+1<g.heap.size:=(by omega);obtain⟨E,G⟩:=br d;clear d f));go_wp2_with fail
 refine gJ 7 (by kernel_rfl) (by kernel_rfl) ?_;simp only[ac,aj,am,ax];iterate 7 go_big_quiet_step (first|((go_at_call 90;exact eW (iv _ _ _ _ _ (er l))))|((go_at_call 92;exact eW (zi B.o A.o))))
 refine wpQuiet_nil ?_;intro h i;have d:=gM i;clear i;have D:=ag (w:=w) (by go_grown) d;have j:=d.size;(try simp only[aw]at j);have s:w.heap.size<h.heap.size:=by omega
 have t:w.heap.size+1<h.heap.size:=by omega
 have u:w.heap.size+1+1<h.heap.size:=by omega
 obtain⟨F,H⟩:=br d;clear d j;go_wp2
 all_goals (refine bodyPost_ret (v:= .agg #[.int .i64 ((bC (x,y,z) k).1+a),.int .i64 ((bC (x,y,z) k).2.1+b),.int .i64 ((bC (x,y,z) k).2.2+c)]) (by simp[results,results48,go_sem, *]) rfl ⟨rfl,by go_grown⟩)
theorem An (a b c k x y z:Int) (w:World) (h:¬dR 1099511627776 (a,b,c)):
 Gv 48 #[.agg #[a,b,c,k],.agg #[x,y,z]] (.agg #[(),(),()]) w:=by
 go_enter func48,ntmps48;go_wp2_with fail
 (go_at_call 88;(refine(jo _ _ _ _ _ fU h).mono ?_;rintro e f ⟨rfl,d⟩;have m:=ag (w:=w) (by go_grown) d;have g:=d.size;(try simp only[aw]at g);have i:w.heap.size<f.heap.size:=(by omega);have j:w.heap.size+1<f.heap.size:=(by omega);have l:w.heap.size+1+1<f.heap.size:=(by omega);obtain⟨n,o⟩:=br d;clear d g));go_wp2
 all_goals (refine bodyPost_ret (v:= .agg #[(),(),()]) (by simp[results,results48,go_sem, *]) rfl ⟨rfl,by go_grown⟩)
theorem Ao (a b c k x y z:Int) (w:World) (q:dR 1099511627776 (a,b,c)) (r:¬dR 1099511627776 (x,y,z)):
 Gv 48 #[.agg #[a,b,c,k],.agg #[x,y,z]] (.agg #[(),(),()]) w:=by
 go_enter func48,ntmps48;go_wp2_with fail
 (go_at_call 88;(refine(fN _ _ _ _ _ fU q).mono ?_;rintro e h ⟨rfl,d⟩;have u:=ag (w:=w) (by go_grown) d;have i:=d.size;(try simp only[aw]at i);have s:w.heap.size<h.heap.size:=(by omega);have t:w.heap.size+1<h.heap.size:=(by omega);have f:w.heap.size+1+1<h.heap.size:=(by omega);obtain⟨A,B⟩:=br d;clear d i));go_wp2_with fail
 (go_at_call 88;(refine(jo _ _ _ _ _ fU r).mono ?_;rintro e g ⟨rfl,d⟩;have n:=ag (w:=w) (by go_grown) d;have f:=d.size;(try simp only[aw]at f);have j:w.heap.size<g.heap.size:=(by omega);have l:w.heap.size+1<g.heap.size:=(by omega);have m:w.heap.size+1+1<g.heap.size:=(by omega);obtain⟨o,p⟩:=br d;clear d f));go_wp2
 all_goals (refine bodyPost_ret (v:= .agg #[(),(),()]) (by simp[results,results48,go_sem, *]) rfl ⟨rfl,by go_grown⟩)
theorem Ap (a b c k x y z:Int) (w:World):
 Gv 48 #[.agg #[a,b,c,k],.agg #[x,y,z]] (.agg #[(ft (a,b,c) k (x,y,z)).1,(ft (a,b,c) k (x,y,z)).2.1,(ft (a,b,c) k (x,y,z)).2.2]) w:=by
 by_cases hp:dR 1099511627776 (a,b,c)
 ·by_cases hv:dR 1099511627776 (x,y,z)
  ·rw[show ft (a,b,c) k (x,y,z)=Al (bC (x,y,z) k) (a,b,c)from if_pos ⟨hp,hv⟩];exact Am a b c k x y z w hp hv
  ·rw[show ft (a,b,c) k (x,y,z)=kg from if_neg (fun h=>hv h.2)];exact Ao a b c k x y z w hp hv
 ·rw[show ft (a,b,c) k (x,y,z)=kg from if_neg (fun h=>hp h.1)];exact An a b c k x y z w hp
theorem Fj (a b c x y z:Int) (w:World) (m:dR 1099511627776 (a,b,c)) (k:dR 1099511627776 (x,y,z)):
 Gv 85 #[.agg #[a,b,c],.agg #[x,y,z]] (.agg #[.int .i64 (a+ -x),.int .i64 (b+ -y),.int .i64 (c+ -z)]) w:=by
 have F:=gY;go_enter func85,ntmps85;go_wp2_with fail
 (go_at_call 88;(refine(fN _ _ _ _ _ fU m).mono ?_;rintro e l ⟨rfl,d⟩;have I:=ag (w:=w) (by go_grown) d;have n:=d.size;(try simp only[aw]at n);have G:w.heap.size<l.heap.size:=(by omega);have H:w.heap.size+1<l.heap.size:=(by omega);have f:w.heap.size+1+1<l.heap.size:=(by omega);obtain⟨J,K⟩:=br d;clear d n));go_wp2_with fail
 (go_at_call 88;(refine(fN _ _ _ _ _ fU k).mono ?_;rintro e g ⟨rfl,d⟩;have u:=ag (w:=w) (by go_grown) d;have f:=d.size;(try simp only[aw]at f);have o:w.heap.size<g.heap.size:=(by omega);have p:w.heap.size+1<g.heap.size:=(by omega);have q:w.heap.size+1+1<g.heap.size:=(by omega);obtain⟨B,D⟩:=br d;clear d f));go_wp2_with fail
 refine gJ 4 (by kernel_rfl) (by kernel_rfl) ?_;simp only[ac,aj,am,ax];iterate 4 go_big_quiet_step (first|((go_at_call 91;exact eW (Cx (er k))))|((go_at_call 92;exact eW (zi (er m) (Cy (er k))))))
 refine wpQuiet_nil ?_;intro h i;have d:=gM i;clear i;have A:=ag (w:=w) (by go_grown) d;have j:=d.size;(try simp only[aw]at j);have r:w.heap.size<h.heap.size:=by omega
 have s:w.heap.size+1<h.heap.size:=by omega
 have t:w.heap.size+1+1<h.heap.size:=by omega
 obtain⟨C,E⟩:=br d;clear d j;go_wp2
 all_goals (refine bodyPost_ret (v:= .agg #[.int .i64 (a+ -x),.int .i64 (b+ -y),.int .i64 (c+ -z)]) (by simp[results,results85,go_sem, *]) rfl ⟨rfl,by go_grown⟩)
theorem Fk (a b c x y z:Int) (w:World) (h:¬dR 1099511627776 (a,b,c)):
 Gv 85 #[.agg #[a,b,c],.agg #[x,y,z]] (.agg #[(),(),()]) w:=by
 go_enter func85,ntmps85;go_wp2_with fail
 (go_at_call 88;(refine(jo _ _ _ _ _ fU h).mono ?_;rintro e f ⟨rfl,d⟩;have l:=ag (w:=w) (by go_grown) d;have g:=d.size;(try simp only[aw]at g);have i:w.heap.size<f.heap.size:=(by omega);have j:w.heap.size+1<f.heap.size:=(by omega);have k:w.heap.size+1+1<f.heap.size:=(by omega);obtain⟨m,n⟩:=br d;clear d g));go_wp2
 all_goals (refine bodyPost_ret (v:= .agg #[(),(),()]) (by simp[results,results85,go_sem, *]) rfl ⟨rfl,by go_grown⟩)
theorem Fl (a b c x y z:Int) (w:World) (p:dR 1099511627776 (a,b,c)) (q:¬dR 1099511627776 (x,y,z)):
 Gv 85 #[.agg #[a,b,c],.agg #[x,y,z]] (.agg #[(),(),()]) w:=by
 go_enter func85,ntmps85;go_wp2_with fail
 (go_at_call 88;(refine(fN _ _ _ _ _ fU p).mono ?_;rintro e h ⟨rfl,d⟩;have t:=ag (w:=w) (by go_grown) d;have i:=d.size;(try simp only[aw]at i);have r:w.heap.size<h.heap.size:=(by omega);have s:w.heap.size+1<h.heap.size:=(by omega);have f:w.heap.size+1+1<h.heap.size:=(by omega);obtain⟨u,A⟩:=br d;clear d i));go_wp2_with fail
 (go_at_call 88;(refine(jo _ _ _ _ _ fU q).mono ?_;rintro e g ⟨rfl,d⟩;have m:=ag (w:=w) (by go_grown) d;have f:=d.size;(try simp only[aw]at f);have j:w.heap.size<g.heap.size:=(by omega);have k:w.heap.size+1<g.heap.size:=(by omega);have l:w.heap.size+1+1<g.heap.size:=(by omega);obtain⟨n,o⟩:=br d;clear d f));go_wp2
 all_goals (refine bodyPost_ret (v:= .agg #[(),(),()]) (by simp[results,results85,go_sem, *]) rfl ⟨rfl,by go_grown⟩)
theorem Fm (a b c x y z:Int) (w:World):
 Gv 85 #[.agg #[a,b,c],.agg #[x,y,z]] (.agg #[(gq (a,b,c) (x,y,z)).1,(gq (a,b,c) (x,y,z)).2.1,(gq (a,b,c) (x,y,z)).2.2]) w:=by
 by_cases hp:dR 1099511627776 (a,b,c)
 ·by_cases hv:dR 1099511627776 (x,y,z)
  ·rw[show gq (a,b,c) (x,y,z)=Al (a,b,c) (oZ (x,y,z))from if_pos ⟨hp,hv⟩];exact Fj a b c x y z w hp hv
  ·rw[show gq (a,b,c) (x,y,z)=kg from if_neg (fun h=>hv h.2)];exact Fl a b c x y z w hp hv
 ·rw[show gq (a,b,c) (x,y,z)=kg from if_neg (fun h=>hp h.1)];exact Fk a b c x y z w hp
theorem Cz (k:Int) (w:World) (p:gD w):
 Gv 89 #[k] (.int .i64 (dw k)) w:=by
 have q:=gY;have n:=ar p;go_enter func89,ntmps89;go_wp2;go_loopw[4] (fun i wr=>∃j:Nat,j≤24∧i= .int .i64 j∧Hi (dw k=dA (fun t=>decide (bC (bC ij k) t=ij)) (24-j) j)∧Below w.heap.size w wr) (fun i _=>24-(intOf i).toNat)
 case atStart=>exact⟨0,by omega,rfl,rfl,ah _ _⟩
 case round=>
  obtain⟨j,y,rfl,l,c⟩:=hrel;have f:gD wr:=n.o.below c;have v:=f.lt;obtain⟨r,s,u⟩:=f;by_cases hlt:j<24
  ·by_cases e:bC (bC ij k) j=ij
   ·have d:decide (((bC ((bC (1,2,3) k).1,(bC (1,2,3) k).2.1,(bC (1,2,3) k).2.2) j).1,(bC ((bC (1,2,3) k).1,(bC (1,2,3) k).2.1,(bC (1,2,3) k).2.2) j).2.1,(bC ((bC (1,2,3) k).1,(bC (1,2,3) k).2.1,(bC (1,2,3) k).2.2) j).2.2)=(1,2,3))=true:=decide_eq_true e;have h:=fun W=>qL (bC ((bC (1,2,3) k).1,(bC (1,2,3) k).2.1,(bC (1,2,3) k).2.2) j).1 (bC ((bC (1,2,3) k).1,(bC (1,2,3) k).2.1,(bC (1,2,3) k).2.2) j).2.1 (bC ((bC (1,2,3) k).1,(bC (1,2,3) k).2.1,(bC (1,2,3) k).2.2) j).2.2 1 2 3 W;rw[d]at h;clear d;go_wp2_with (fail)
    refine eU (by kernel_rfl) (by kernel_rfl) ?_;iterate 2 go_big_quiet_step (fail)
    go_big_quiet_step ((go_at_call 90;exact eW (iv _ _ _ _ _ kh)))
    go_big_quiet_step (fail)
    go_big_quiet_step ((go_at_call 90;exact eW (iv _ _ _ _ _ (nj k))))
    iterate 2 go_big_quiet_step (fail)
    refine wpQuiet_nil ?_;intro x a;have b:=gM a;clear a;go_wp2
    go_ret
    have g:dw k=j:=by
     rw[l.o,show 24-j=(23-j)+1 by omega,dA,if_pos (by simpa using e)]
    rw[g];exact⟨rfl,c.trans (b.mono c.size)⟩
   ·have d:decide (((bC ((bC (1,2,3) k).1,(bC (1,2,3) k).2.1,(bC (1,2,3) k).2.2) j).1,(bC ((bC (1,2,3) k).1,(bC (1,2,3) k).2.1,(bC (1,2,3) k).2.2) j).2.1,(bC ((bC (1,2,3) k).1,(bC (1,2,3) k).2.1,(bC (1,2,3) k).2.2) j).2.2)=(1,2,3))=false:=decide_eq_false e;have h:=fun W=>qL (bC ((bC (1,2,3) k).1,(bC (1,2,3) k).2.1,(bC (1,2,3) k).2.2) j).1 (bC ((bC (1,2,3) k).1,(bC (1,2,3) k).2.1,(bC (1,2,3) k).2.2) j).2.1 (bC ((bC (1,2,3) k).1,(bC (1,2,3) k).2.1,(bC (1,2,3) k).2.2) j).2.2 1 2 3 W;rw[d]at h;clear d;go_wp2_with (fail)
    refine eU (by kernel_rfl) (by kernel_rfl) ?_;iterate 2 go_big_quiet_step (fail)
    go_big_quiet_step ((go_at_call 90;exact eW (iv _ _ _ _ _ kh)))
    go_big_quiet_step (fail)
    go_big_quiet_step ((go_at_call 90;exact eW (iv _ _ _ _ _ (nj k))))
    iterate 2 go_big_quiet_step (fail)
    refine wpQuiet_nil ?_;intro x a;have b:=gM a;clear a;go_wp2;go_roundw
    case rel=>
     refine⟨j+1,by omega,by go_num,?_,c.trans (b.mono c.size)⟩;have m:=l.o;rw[show 24-j=(23-j)+1 by omega,dA,if_neg (by simpa using e)]at m;show dw k=_;rw[m,show 24-(j+1)=23-j by omega];rfl
    case measure=>simp[intOf];omega
  ·have g:dw k=0:=by
    rw[l.o,show 24-j=0 by omega,dA]
   have o:=ar g;clear g;go_wp2
   go_ret
   rw[o.o];exact⟨rfl,c⟩
theorem vv (a b c k:Int) (w:World) (n:gD w) (m:dR 1099511627776 (a,b,c)):
 Gv 46 #[.agg #[a,b,c,k]] (.agg #[(bC (-a,-b,-c) (dw k)).1,(bC (-a,-b,-c) (dw k)).2.1,(bC (-a,-b,-c) (dw k)).2.2,(dw k)]) w:=by
 have y:=ar n;clear n;go_enter func46,ntmps46;go_wp2_with fail
 (go_at_call 88;(refine(fN _ _ _ _ _ fU m).mono ?_;rintro e x ⟨rfl,d⟩;have z:=ag (w:=w) (by go_grown) d;have o:=d.size;(try simp only[aw]at o);have J:w.heap.size<x.heap.size:=(by omega);have K:w.heap.size+1<x.heap.size:=(by omega);obtain⟨L,N⟩:=br d;clear d o));go_wp2_with fail
 (go_at_call 89;(refine(Cz _ _ (y.o.below z)).mono ?_;rintro e i ⟨rfl,d⟩;have A:=ag (w:=w) (by go_grown) d;have f:=d.size;(try simp only[aw]at f);have p:w.heap.size<i.heap.size:=(by omega);have q:w.heap.size+1<i.heap.size:=(by omega);obtain⟨D,G⟩:=br d;clear d f));go_wp2_with fail
 (go_at_call 91;(refine(Cx (er m)).mono ?_;rintro e j ⟨rfl,d⟩;have B:=ag (w:=w) (by go_grown) d;have g:=d.size;(try simp only[aw]at g);have r:w.heap.size<j.heap.size:=(by omega);have s:w.heap.size+1<j.heap.size:=(by omega);obtain⟨E,H⟩:=br d;clear d g));go_wp2_with fail
 (go_at_call 90;(refine(iv _ _ _ _ _ (Cy (er m))).mono ?_;rintro e l ⟨rfl,d⟩;have C:=ag (w:=w) (by go_grown) d;have h:=d.size;(try simp only[aw]at h);have t:w.heap.size<l.heap.size:=(by omega);have u:w.heap.size+1<l.heap.size:=(by omega);obtain⟨F,I⟩:=br d;clear d h));go_wp2
 all_goals (refine bodyPost_ret (v:= .agg #[(bC (-a,-b,-c) (dw k)).1,(bC (-a,-b,-c) (dw k)).2.1,(bC (-a,-b,-c) (dw k)).2.2,(dw k)]) (by simp[results,results46,go_sem, *]) rfl ⟨rfl,by go_grown⟩)
theorem xr (a b c k:Int) (w:World) (h:¬dR 1099511627776 (a,b,c)):
 Gv 46 #[.agg #[a,b,c,k]] (.agg #[(),(),(),()]) w:=by
 go_enter func46,ntmps46;go_wp2_with fail
 (go_at_call 88;(refine(jo _ _ _ _ _ fU h).mono ?_;rintro e g ⟨rfl,d⟩;have l:=ag (w:=w) (by go_grown) d;have f:=d.size;(try simp only[aw]at f);have i:w.heap.size<g.heap.size:=(by omega);have j:w.heap.size+1<g.heap.size:=(by omega);obtain⟨m,n⟩:=br d;clear d f));go_wp2
 all_goals (refine bodyPost_ret (v:= .agg #[(),(),(),()]) (by simp[results,results46,go_sem, *]) rfl ⟨rfl,by go_grown⟩)
theorem vw (a b c k:Int) (w:World) (d:gD w):
 Gv 46 #[.agg #[a,b,c,k]] (.agg #[(dD (a,b,c) k).1.1,(dD (a,b,c) k).1.2.1,(dD (a,b,c) k).1.2.2,(dD (a,b,c) k).2]) w:=by
 by_cases h:dR 1099511627776 (a,b,c)
 ·rw[show dD (a,b,c) k=(bC (oZ (a,b,c)) (dw k),dw k)from if_pos h];exact vv a b c k w d h
 ·rw[show dD (a,b,c) k=(kg,0)from if_neg h];exact xr a b c k w h
theorem Aq (a b c k:Int) (w:World) (g:dR 524288 (a,b,c)) (o:(k==eq k)=true):
 Gv 86 #[.agg #[a,b,c,k]] (.bool true) w:=by
 have h:=gY;go_enter func86,ntmps86;go_wp2_with fail
 refine eU (by kernel_rfl) (by kernel_rfl) ?_;iterate 12 go_big_quiet_step (first|((go_at_call 88;exact eW (fN _ _ _ _ _ rk g)))|((go_at_call 133;exact eW ((nc _ _).mono fun _ _ ⟨he,hw⟩=>⟨he,hw▸ah _ _⟩))))
 refine wpQuiet_nil ?_;intro j d;have e:=gM d;clear d;have l:=ag (w:=w) (by go_grown) e;have f:=e.size;(try simp only[aw]at f);have i:w.heap.size<j.heap.size:=by omega
 obtain⟨m,n⟩:=br e;clear e f;go_wp2;go_returns;exact⟨rfl,by go_grown⟩
theorem Ar (a b c k:Int) (w:World) (g:dR 524288 (a,b,c)) (o:(k==eq k)=false):
 Gv 86 #[.agg #[a,b,c,k]] (.bool false) w:=by
 have h:=gY;go_enter func86,ntmps86;go_wp2_with fail
 refine eU (by kernel_rfl) (by kernel_rfl) ?_;iterate 12 go_big_quiet_step (first|((go_at_call 88;exact eW (fN _ _ _ _ _ rk g)))|((go_at_call 133;exact eW ((nc _ _).mono fun _ _ ⟨he,hw⟩=>⟨he,hw▸ah _ _⟩))))
 refine wpQuiet_nil ?_;intro j d;have e:=gM d;clear d;have l:=ag (w:=w) (by go_grown) e;have f:=e.size;(try simp only[aw]at f);have i:w.heap.size<j.heap.size:=by omega
 obtain⟨m,n⟩:=br e;clear e f;go_wp2;go_returns;exact⟨rfl,by go_grown⟩
theorem As (a b c k:Int) (w:World) (g:¬dR 524288 (a,b,c)):
 Gv 86 #[.agg #[a,b,c,k]] (.bool false) w:=by
 have h:=gY;go_enter func86,ntmps86;go_wp2_with fail
 refine eU (by kernel_rfl) (by kernel_rfl) ?_;iterate 12 go_big_quiet_step (first|((go_at_call 88;exact eW (jo _ _ _ _ _ rk g))))
 refine wpQuiet_nil ?_;intro j d;have e:=gM d;clear d;have l:=ag (w:=w) (by go_grown) e;have f:=e.size;(try simp only[aw]at f);have i:w.heap.size<j.heap.size:=by omega
 obtain⟨m,n⟩:=br e;clear e f;go_wp2;go_returns;exact⟨rfl,by go_grown⟩
theorem pb (a b c k:Int) (w:World):
 Gv 86 #[.agg #[a,b,c,k]] (.bool (eL (a,b,c) k)) w:=by
 by_cases hp:dR 524288 (a,b,c)
 ·by_cases hk:k=eq k
  ·rw[show eL (a,b,c) k=true by unfold eL;simp[hp,←hk]];exact Aq a b c k w hp (by simpa using hk)
  ·rw[show eL (a,b,c) k=false by unfold eL;simp[hk]];exact Ar a b c k w hp (by simpa using hk)
 ·rw[show eL (a,b,c) k=false by unfold eL;simp[hp]];exact As a b c k w hp
theorem ik (k:Int) (w:World):
 Gv 106 #[k] (.int .i64 (eq k)) w:=by
 by_cases h0:k<0
 ·go_enter func106,ntmps106;go_wp2
  go_ret
  exact⟨by unfold eq;rw[if_pos h0];rfl,by go_grown⟩
 ·by_cases h1:23<k
  ·go_enter func106,ntmps106;go_wp2
   go_ret
   exact⟨by unfold eq;rw[if_neg (by omega),if_pos (by omega)];rfl,by go_grown⟩
  ·go_enter func106,ntmps106;go_wp2
   go_ret
   exact⟨by unfold eq;rw[if_neg (by omega),if_neg (by omega)];rfl,by go_grown⟩
theorem iy (a b c:Int) (w:World) (h:dR 1099511627776 (a,b,c)):
 Gv 101 #[.agg #[a,b,c]] (.bool true) w:=by
 obtain⟨d,e,f,g,i,j⟩:=h;simp only at d e f g i j;go_enter func101,ntmps101;go_wp2;go_returns;exact⟨rfl,by go_grown⟩
theorem lA (a b c:Int) (w:World) (h:¬dR 1099511627776 (a,b,c)):
 Gv 101 #[.agg #[a,b,c]] (.bool false) w:=by
 have H:Hi (¬dR 1099511627776 (a,b,c)):=ar h;clear h;go_enter func101,ntmps101;go_wp2
 all_goals go_returns
 all_goals refine⟨?_,by go_grown⟩
 all_goals (first|rfl|(rw[decide_eq_false (fun h=>H.o ⟨by simp;omega,by simp;omega,by simp;omega,by simp;omega,by simp;omega,by simp;omega⟩)];rfl))
theorem vx (a b c n:Int) (w:World) (o:dR 2199023255552 (a,b,c)) (hn:0≤n∧n≤3):
 Gv 141 #[.agg #[a,b,c],n] (kK (qn n.toNat (a,b,c))) w:=by
 obtain⟨s,t⟩:=hn;have r:=ar (vu o);clear o;go_enter func141,ntmps141;go_wp2;go_loopw[5] (fun i wr=>∃(j:Nat) (x y z:Int),(j:Int)≤n∧i= .int .i64 j∧Hi (qn j (a,b,c)=(x,y,z))∧wr=(w.alloc (.cells #[x,y,z] 58)).alloc (.cells #[(),(),()] 58)) (fun i _=>4-(intOf i).toNat)
 case atStart=>exact⟨0,a,b,c,by omega,rfl,rfl,rfl⟩
 case round=>
  obtain⟨j,x,y,z,u,rfl,e,rfl⟩:=hrel;have p:=r.o j;rw[e.o]at p;obtain⟨f,g,h,k,l,m⟩:=p;simp only at f g h k l m;by_cases hlt:(j:Int)<n
  ·go_wp2;go_roundw
   case rel=>exact⟨j+1,-y,x,z,by omega,by go_num,by show qt (qn j (a,b,c))=_;rw[e.o];rfl,rfl⟩
   case measure=>simp[intOf];omega
  ·have d:n.toNat=j:=by omega
   have q:Hi (qn n.toNat (a,b,c)=(x,y,z)):=by show qn n.toNat (a,b,c)=_;rw[d,e.o]
   clear d;go_wp2;go_returns;rw[q.o];exact⟨rfl,by go_grown⟩
theorem CA (x y z n:Int) (w:World) (g:dR 2199023255552 (x,y,z)):
 Gv 140 #[.agg #[x,y,z],n] (kK (gZ n (x,y,z))) w:=by
 obtain⟨a,b,c,d,e,f⟩:=g;simp only at a b c d e f;go_enter func140,ntmps140;go_wp2
 all_goals go_returns
 all_goals (refine⟨?_,by go_grown⟩)
 all_goals (first|exact Iz ‹_› |exact IA ‹_› ‹_› |exact IB ‹_› ‹_› ‹_› |exact IC ‹_› ‹_› ‹_› ‹_› |exact ID ‹_› ‹_› ‹_› ‹_› ‹_› |exact IE ‹_› ‹_› ‹_› ‹_› ‹_›)
theorem vy (a b c n:Int) (w:World) (d:dR 2199023255552 (a,b,c)) (hn:0≤n∧n≤3):
 Gv 141 #[.agg #[a,b,c],n] (.agg #[(qn n.toNat (a,b,c)).1,(qn n.toNat (a,b,c)).2.1,(qn n.toNat (a,b,c)).2.2]) w:=vx a b c n w d hn
theorem CC (x y z n:Int) (w:World) (a:dR 2199023255552 (x,y,z)):
 Gv 140 #[.agg #[x,y,z],n] (.agg #[(gZ n (x,y,z)).1,(gZ n (x,y,z)).2.1,(gZ n (x,y,z)).2.2]) w:=CA x y z n w a
theorem jL (a b c k:Int) (w:World) (h:dR 2199023255552 (a,b,c)):
 Gv 104 #[.agg #[a,b,c],(eq k)] (.agg #[(bC (a,b,c) k).1,(bC (a,b,c) k).2.1,(bC (a,b,c) k).2.2]) w:=by
 obtain⟨r,s⟩:=oY k;have n:=ar (vu h (eq k % 4).toNat);go_enter func104,ntmps104;go_wp2_with fail
 (go_at_call 141;(refine(vy _ _ _ _ _ h ⟨by omega,by omega⟩).mono ?_;rintro e m ⟨rfl,d⟩;have x:=ag (w:=w) (by go_grown) d;have i:=d.size;(try simp only[aw]at i);have t:w.heap.size<m.heap.size:=(by omega);have u:w.heap.size+1<m.heap.size:=(by omega);obtain⟨y,z⟩:=br d;clear d i));go_wp2_with fail
 (go_at_call 140;(refine(CC _ _ _ _ _ n.o).mono ?_;rintro e g ⟨rfl,d⟩;have o:=ag (w:=w) (by go_grown) d;have f:=d.size;(try simp only[aw]at f);have j:w.heap.size<g.heap.size:=(by omega);have l:w.heap.size+1<g.heap.size:=(by omega);obtain⟨p,q⟩:=br d;clear d f));go_wp2
 all_goals (refine bodyPost_ret (v:= .agg #[(gZ (eq k/4) ((qn (eq k % 4).toNat (a,b,c)).1,(qn (eq k % 4).toNat (a,b,c)).2.1,(qn (eq k % 4).toNat (a,b,c)).2.2)).1,(gZ (eq k/4) ((qn (eq k % 4).toNat (a,b,c)).1,(qn (eq k % 4).toNat (a,b,c)).2.1,(qn (eq k % 4).toNat (a,b,c)).2.2)).2.1,(gZ (eq k/4) ((qn (eq k % 4).toNat (a,b,c)).1,(qn (eq k % 4).toNat (a,b,c)).2.1,(qn (eq k % 4).toNat (a,b,c)).2.2)).2.2]) (by simp[results,results104,go_sem, *]) rfl ⟨rfl,by go_grown⟩)
theorem nq (a b c k:Int) (w:World) (e:dR 2199023255552 (a,b,c)) (d:0≤k∧k≤23):
 Gv 104 #[.agg #[a,b,c],k] (.agg #[(bC (a,b,c) k).1,(bC (a,b,c) k).2.1,(bC (a,b,c) k).2.2]) w:=by
 have h:=jL a b c k w e;rw[xo d.1 d.2]at h;exact h
theorem Hz {a b c x y z:Int} {w:World} (h:dR 2199023255552 (a,b,c)) (q:dR 2199023255552 (x,y,z)):
 Gv 105 #[.agg #[a,b,c],.agg #[x,y,z]] (.agg #[.int .i64 (a+x),.int .i64 (b+y),.int .i64 (c+z)]) w:=by
 obtain⟨d,e,f,g,i,j⟩:=h;obtain⟨k,l,m,n,o,p⟩:=q;simp only at d e f g i j k l m n o p;go_enter func105,ntmps105;go_wp2;go_returns;exact⟨rfl,by go_grown⟩
theorem CD {a b c x y z:Int} {w:World} (h:dR 2199023255552 (a,b,c)) (q:dR 2199023255552 (x,y,z)):
 Gv 103 #[.agg #[a,b,c],.agg #[x,y,z]] (.agg #[.int .i64 (a-x),.int .i64 (b-y),.int .i64 (c-z)]) w:=by
 obtain⟨d,e,f,g,i,j⟩:=h;obtain⟨k,l,m,n,o,p⟩:=q;simp only at d e f g i j k l m n o p;go_enter func103,ntmps103;go_wp2;go_returns;exact⟨rfl,by go_grown⟩
def Fa (a b:Int) (B:Nat) (i:Nat) (v:Value) (w:World):Prop:=
 match i with
 |0=>v= .agg #[.int .i64 1,.int .i64 2,.int .i64 3]
 |1=>v= .int .i64 a
 |2=>v= .int .i64 (eq a)
 |3=>v= .agg #[((bC (1,2,3) a)).1,((bC (1,2,3) a)).2.1,((bC (1,2,3) a)).2.2]
 |4=>v= .int .i64 b
 |5=>v= .int .i64 (eq b)
 |6=>v= .agg #[((bC ((bC (1,2,3) a).1,(bC (1,2,3) a).2.1,(bC (1,2,3) a).2.2) b)).1,((bC ((bC (1,2,3) a).1,(bC (1,2,3) a).2.1,(bC (1,2,3) a).2.2) b)).2.1,((bC ((bC (1,2,3) a).1,(bC (1,2,3) a).2.1,(bC (1,2,3) a).2.2) b)).2.2]
 |_=>lz B #[(),(),()] 58 v w
theorem nY (a b:Int) (w:World):
 Gv 139 #[a,b] (.int .i64 (fg a b)) w:=by
 have a2:=gY;go_enter func139,ntmps139;go_wp2_with fail
 refine mT 8 (Fa a b (w.heap.size+1)) (by kernel_rfl) (by kernel_rfl) ?_ ?_ ?_
 ·intro i v wa wb c L;unfold Fa at*
  split at L<;>first|exact L|exact L.mono c
 ·simp only[ac,aj,aK,aC,aa,ae,af];refine⟨?_,?_,?_,?_,?_,?_,?_,?_,trivial⟩
  ·intro u k c l;have f:=c.size;simp only[aw]at f;have g:w.heap.size<k.heap.size:=by omega
   obtain⟨q,n⟩:=br c;clear c;simp[jK,ai,Fa]at l;go_simp;exact⟨ah _ _,rfl⟩
  ·intro u k c l;have f:=c.size;simp only[aw]at f;have g:w.heap.size<k.heap.size:=by omega
   obtain⟨q,n⟩:=br c;clear c;simp[jK,ai,Fa]at l;go_simp;exact⟨ah _ _,rfl⟩
  ·intro u k c l;have f:=c.size;simp only[aw]at f;have g:w.heap.size<k.heap.size:=by omega
   obtain⟨q,n⟩:=br c;clear c;simp[jK,ai,Fa]at l;go_simp;(go_at_call 106;refine(ik _ _).mono ?_;rintro e z ⟨rfl,d⟩;exact⟨_,rfl,d,rfl⟩)
  ·intro u k c l;have f:=c.size;simp only[aw]at f;have g:w.heap.size<k.heap.size:=by omega
   obtain⟨q,n⟩:=br c;clear c;simp[jK,ai,Fa]at l;go_simp;(go_at_call 104;refine(jL _ _ _ _ _ kh).mono ?_;rintro e z ⟨rfl,d⟩;exact⟨_,rfl,d,rfl⟩)
  ·intro u k c l;have f:=c.size;simp only[aw]at f;have g:w.heap.size<k.heap.size:=by omega
   obtain⟨q,n⟩:=br c;clear c;simp[jK,ai,Fa]at l;go_simp;exact⟨ah _ _,rfl⟩
  ·intro u k c l;have f:=c.size;simp only[aw]at f;have g:w.heap.size<k.heap.size:=by omega
   obtain⟨q,n⟩:=br c;clear c;simp[jK,ai,Fa]at l;go_simp;(go_at_call 106;refine(ik _ _).mono ?_;rintro e z ⟨rfl,d⟩;exact⟨_,rfl,d,rfl⟩)
  ·intro u k c l;have f:=c.size;simp only[aw]at f;have g:w.heap.size<k.heap.size:=by omega
   obtain⟨q,n⟩:=br c;clear c;simp[jK,ai,Fa]at l;go_simp;(go_at_call 104;refine(jL _ _ _ _ _ (nj a)).mono ?_;rintro e z ⟨rfl,d⟩;exact⟨_,rfl,d,rfl⟩)
  ·intro u k c l;have f:=c.size;simp only[aw]at f;have g:w.heap.size<k.heap.size:=by omega
   obtain⟨q,n⟩:=br c;clear c;simp[jK,ai,Fa]at l;go_simp;exact⟨(ah _ _).alloc (aB _) _,⟨_,rfl,by omega,(MapKept.heap_alloc k _).1⟩⟩
 ·intro u z c F;have Q:u 6= .agg #[((bC ((bC (1,2,3) a).1,(bC (1,2,3) a).2.1,(bC (1,2,3) a).2.2) b)).1,((bC ((bC (1,2,3) a).1,(bC (1,2,3) a).2.1,(bC (1,2,3) a).2.2) b)).2.1,((bC ((bC (1,2,3) a).1,(bC (1,2,3) a).2.1,(bC (1,2,3) a).2.2) b)).2.2]:=F 6 (by decide);obtain⟨r,R,Y,B⟩:lz (w.heap.size+1) #[(),(),()] 58 (u 7) z:=F 7 (by decide);clear F;simp only[am,ax,ac,aj,aK,aC,aa,ae,af,Q,R];generalize T:(bC ((bC (1,2,3) a).1,(bC (1,2,3) a).2.1,(bC (1,2,3) a).2.2) b)=p;have U:Hi (fg a b=GA p):=by rw[←T];exact rfl
  clear T Q R;obtain⟨s,x,y⟩:=p;simp only;obtain⟨G,H,I,J⟩:=Iv B;have f:=c.size;simp only[aw]at f;have g:w.heap.size<z.heap.size:=by omega
  have N:r<z.heap.size:=(av.1 B).1;have O:=ar (ag (w:=w) (by go_grown) c);obtain⟨q,n⟩:=br c;clear c B;go_wp2_with fail
  generalize h:(((z.setCell r (.int .i64 s)).setCell (r,1) (.int .i64 x)).setCell (r,2) (.int .i64 y))=W2;have a5:W2.cell? w.heap.size=some (.int .i64 1):=by rw[←h];clear h;simp[go_sem, *]
  have a6:W2.cell? (w.heap.size,1)=some (.int .i64 2):=by rw[←h];clear h;simp[go_sem, *]
  have a7:W2.cell? (w.heap.size,2)=some (.int .i64 3):=by rw[←h];clear h;simp[go_sem, *]
  have Z:W2.cell? r=some s:=by rw[←h];clear h;simp[go_sem, *]
  have a0:W2.cell? (r,1)=some x:=by rw[←h];clear h;simp[go_sem, *]
  have a1:W2.cell? (r,2)=some y:=by rw[←h];clear h;simp[go_sem, *]
  have a3:w.heap.size<W2.heap.size:=by rw[←h];simp;omega
  have a4:r<W2.heap.size:=by rw[←h];simp;omega
  have A:Hi (Below w.heap.size w W2):=by show Below _ _ _;rw[←h];exact((O.o.setCell (by simp;omega) _).setCell (by simp;omega) _).setCell (by simp;omega) _
  clear h G H I J f g N q n O;go_loopw[7] (fun i wr=>∃j:Nat,j≤24∧i= .int .i64 j∧Hi (fg a b=dA (fun t=>decide (bC ij t=(s,x,y))) (24-j) j)∧Below W2.heap.size W2 wr) (fun i _=>24-(intOf i).toNat)
  case atStart=>exact⟨0,by omega,rfl,U.o,ah _ _⟩
  case round=>
   obtain⟨j,hj,rfl,K,c⟩:=hrel;have f:=c.size;obtain⟨q,n⟩:=br c;have m:=ar c;clear c n;have a8:w.heap.size<wr.heap.size:=by omega
   have a9:r<wr.heap.size:=by omega
   by_cases hlt:j<24
   ·by_cases e:bC ij j=(s,x,y)
    ·have C:decide (((bC (1,2,3) j).1,(bC (1,2,3) j).2.1,(bC (1,2,3) j).2.2)=(s,x,y))=true:=decide_eq_true e;have E:=fun W=>qL (bC (1,2,3) j).1 (bC (1,2,3) j).2.1 (bC (1,2,3) j).2.2 s x y W;rw[C]at E;clear C;go_wp2_with (fail)
     refine eU (by kernel_rfl) (by kernel_rfl) ?_;iterate 5 go_big_quiet_step (first|((go_at_call 104;exact eW (nq _ _ _ _ _ kh ⟨by omega,by omega⟩))))
     refine wpQuiet_nil ?_;intro w5 o;have d:=gM o;clear o;go_wp2
     go_ret
     have D:fg a b=j:=by
      rw[K.o,show 24-j=(23-j)+1 by omega,dA,if_pos (by simpa using e)]
     rw[D];exact⟨rfl,(ag A.o m.o).trans (d.mono (ag A.o m.o).size)⟩
    ·have C:decide (((bC (1,2,3) j).1,(bC (1,2,3) j).2.1,(bC (1,2,3) j).2.2)=(s,x,y))=false:=decide_eq_false e;have E:=fun W=>qL (bC (1,2,3) j).1 (bC (1,2,3) j).2.1 (bC (1,2,3) j).2.2 s x y W;rw[C]at E;clear C;go_wp2_with (fail)
     refine eU (by kernel_rfl) (by kernel_rfl) ?_;iterate 5 go_big_quiet_step (first|((go_at_call 104;exact eW (nq _ _ _ _ _ kh ⟨by omega,by omega⟩))))
     refine wpQuiet_nil ?_;intro w5 o;have d:=gM o;clear o;go_wp2;go_roundw
     case rel=>
      refine⟨j+1,by omega,by go_num,?_,m.o.trans (d.mono m.o.size)⟩;have P:=K.o;rw[show 24-j=(23-j)+1 by omega,dA,if_neg (by simpa using e)]at P;show fg a b=_;rw[P,show 24-(j+1)=23-j by omega];rfl
     case measure=>simp[intOf];omega
   ·have D:fg a b=0:=by
     rw[K.o,show 24-j=0 by omega,dA]
    have X:=ar D;clear D;go_wp2
    go_ret
    rw[X.o];exact⟨rfl,ag A.o m.o⟩
theorem At (k:Int) (w:World):
 Gv 102 #[k] (.int .i64 (dw k)) w:=by
 have d:=Ct k;have m:=ar d;clear d;go_enter func102,ntmps102;go_wp2;go_loopw[3] (fun i wr=>∃j:Nat,j≤24∧i= .int .i64 j∧Hi (dw k=dA (fun t=>decide (fg (eq k) t=0)) (24-j) j)∧Below w.heap.size w wr) (fun i _=>24-(intOf i).toNat)
 case atStart=>exact⟨0,by omega,rfl,by rw[←m.o];rfl,ah _ _⟩
 case round=>
  obtain⟨j,r,rfl,g,l⟩:=hrel;have a:=ar l;clear l;by_cases hlt:j<24
  ·by_cases e:fg (eq k) j=0
   ·have o:(fg (eq k) j==0)=true:=by simpa using e
    have E:=ar e;clear e;go_wp2_with fail
    (go_at_call 106;refine(ik _ _).mono ?_;rintro e p ⟨rfl,b⟩);go_wp2_with fail
    (go_at_call 139;refine(nY _ _ _).mono ?_;rintro e q ⟨rfl,c⟩);go_wp2
    go_ret
    have f:dw k=j:=by
     rw[g.o,show 24-j=(23-j)+1 by omega,dA,if_pos (by simpa using E.o)]
    rw[f];exact⟨rfl,ag (ag a.o b) c⟩
   ·have o:(fg (eq k) j==0)=false:=by simpa using e
    have E:=ar e;clear e;go_wp2_with fail
    (go_at_call 106;refine(ik _ _).mono ?_;rintro e p ⟨rfl,b⟩);go_wp2_with fail
    (go_at_call 139;refine(nY _ _ _).mono ?_;rintro e q ⟨rfl,c⟩);go_wp2;go_roundw
    case rel=>
     refine⟨j+1,by omega,by go_num,?_,ag (ag a.o b) c⟩;have h:=g.o;rw[show 24-j=(23-j)+1 by omega,dA,if_neg (by simpa using E.o)]at h;show dw k=_;rw[h,show 24-(j+1)=23-j by omega];rfl
    case measure=>simp[intOf];omega
  ·have f:dw k=0:=by
    rw[g.o,show 24-j=0 by omega,dA]
   have n:=ar f;clear f;go_wp2
   go_ret
   rw[n.o];exact⟨rfl,a.o⟩
theorem xt (a b c k x y z:Int) (w:World) (n:dR 1099511627776 (a,b,c)) (l:dR 1099511627776 (x,y,z)):
 Gv 58 #[.agg #[a,b,c,k],.agg #[x,y,z]] (.agg #[.int .i64 ((bC (x,y,z) k).1+a),.int .i64 ((bC (x,y,z) k).2.1+b),.int .i64 ((bC (x,y,z) k).2.2+c)]) w:=by
 have I:=gY;have B:=ar (qK k (er l));have A:=ar (er n);go_enter func58,ntmps58;go_wp2_with fail
 (go_at_call 101;(refine(iy _ _ _ _ n).mono ?_;rintro e m ⟨rfl,d⟩;have L:=ag (w:=w) (by go_grown) d;have o:=d.size;(try simp only[aw]at o);have J:w.heap.size<m.heap.size:=(by omega);have K:w.heap.size+1<m.heap.size:=(by omega);have f:w.heap.size+1+1<m.heap.size:=(by omega);obtain⟨N,O⟩:=br d;clear d o));go_wp2_with fail
 (go_at_call 101;(refine(iy _ _ _ _ l).mono ?_;rintro e g ⟨rfl,d⟩;have C:=ag (w:=w) (by go_grown) d;have f:=d.size;(try simp only[aw]at f);have p:w.heap.size<g.heap.size:=(by omega);have q:w.heap.size+1<g.heap.size:=(by omega);have r:w.heap.size+1+1<g.heap.size:=(by omega);obtain⟨E,G⟩:=br d;clear d f));go_wp2_with fail
 refine gJ 8 (by kernel_rfl) (by kernel_rfl) ?_;simp only[ac,aj,am,ax]
 go_big_quiet_step (fail)
 go_big_quiet_step (fail)
 go_big_quiet_step (fail)
 go_big_quiet_step ((go_at_call 106;exact eW (ik _ _)))
 go_big_quiet_step ((go_at_call 104;exact eW (jL _ _ _ _ _ (er l))))
 go_big_quiet_step (fail)
 go_big_quiet_step (fail)
 go_big_quiet_step ((go_at_call 105;exact eW (Hz B.o A.o)))
 refine wpQuiet_nil ?_;intro h i;have d:=gM i;clear i;have D:=ag (w:=w) (by go_grown) d;have j:=d.size;(try simp only[aw]at j);have s:w.heap.size<h.heap.size:=by omega
 have t:w.heap.size+1<h.heap.size:=by omega
 have u:w.heap.size+1+1<h.heap.size:=by omega
 obtain⟨F,H⟩:=br d;clear d j;go_wp2
 all_goals (refine bodyPost_ret (v:= .agg #[.int .i64 ((bC (x,y,z) k).1+a),.int .i64 ((bC (x,y,z) k).2.1+b),.int .i64 ((bC (x,y,z) k).2.2+c)]) (by simp[results,results58,go_sem, *]) rfl ⟨rfl,by go_grown⟩)
theorem xw (a b c k x y z:Int) (w:World) (h:¬dR 1099511627776 (a,b,c)):
 Gv 58 #[.agg #[a,b,c,k],.agg #[x,y,z]] (.agg #[(),(),()]) w:=by
 go_enter func58,ntmps58;go_wp2_with fail
 (go_at_call 101;(refine(lA _ _ _ _ h).mono ?_;rintro e f ⟨rfl,d⟩;have m:=ag (w:=w) (by go_grown) d;have g:=d.size;(try simp only[aw]at g);have i:w.heap.size<f.heap.size:=(by omega);have j:w.heap.size+1<f.heap.size:=(by omega);have l:w.heap.size+1+1<f.heap.size:=(by omega);obtain⟨n,o⟩:=br d;clear d g));go_wp2
 all_goals (refine bodyPost_ret (v:= .agg #[(),(),()]) (by simp[results,results58,go_sem, *]) rfl ⟨rfl,by go_grown⟩)
theorem xx (a b c k x y z:Int) (w:World) (q:dR 1099511627776 (a,b,c)) (r:¬dR 1099511627776 (x,y,z)):
 Gv 58 #[.agg #[a,b,c,k],.agg #[x,y,z]] (.agg #[(),(),()]) w:=by
 go_enter func58,ntmps58;go_wp2_with fail
 (go_at_call 101;(refine(iy _ _ _ _ q).mono ?_;rintro e h ⟨rfl,d⟩;have u:=ag (w:=w) (by go_grown) d;have i:=d.size;(try simp only[aw]at i);have s:w.heap.size<h.heap.size:=(by omega);have t:w.heap.size+1<h.heap.size:=(by omega);have f:w.heap.size+1+1<h.heap.size:=(by omega);obtain⟨A,B⟩:=br d;clear d i));go_wp2_with fail
 (go_at_call 101;(refine(lA _ _ _ _ r).mono ?_;rintro e g ⟨rfl,d⟩;have n:=ag (w:=w) (by go_grown) d;have f:=d.size;(try simp only[aw]at f);have j:w.heap.size<g.heap.size:=(by omega);have l:w.heap.size+1<g.heap.size:=(by omega);have m:w.heap.size+1+1<g.heap.size:=(by omega);obtain⟨o,p⟩:=br d;clear d f));go_wp2
 all_goals (refine bodyPost_ret (v:= .agg #[(),(),()]) (by simp[results,results58,go_sem, *]) rfl ⟨rfl,by go_grown⟩)
theorem rl (a b c k x y z:Int) (w:World):
 Gv 58 #[.agg #[a,b,c,k],.agg #[x,y,z]] (.agg #[(ft (a,b,c) k (x,y,z)).1,(ft (a,b,c) k (x,y,z)).2.1,(ft (a,b,c) k (x,y,z)).2.2]) w:=by
 by_cases hp:dR 1099511627776 (a,b,c)
 ·by_cases hv:dR 1099511627776 (x,y,z)
  ·rw[show ft (a,b,c) k (x,y,z)=Al (bC (x,y,z) k) (a,b,c)from if_pos ⟨hp,hv⟩];exact xt a b c k x y z w hp hv
  ·rw[show ft (a,b,c) k (x,y,z)=kg from if_neg (fun h=>hv h.2)];exact xx a b c k x y z w hp hv
 ·rw[show ft (a,b,c) k (x,y,z)=kg from if_neg (fun h=>hp h.1)];exact xw a b c k x y z w hp
theorem CE (a b c x y z:Int) (w:World) (k:dR 1099511627776 (a,b,c)) (l:dR 1099511627776 (x,y,z)):
 Gv 100 #[.agg #[a,b,c],.agg #[x,y,z]] (.agg #[.int .i64 (a-x),.int .i64 (b-y),.int .i64 (c-z)]) w:=by
 go_enter func100,ntmps100;go_wp2_with fail
 (go_at_call 101;(refine(iy _ _ _ _ k).mono ?_;rintro e j ⟨rfl,d⟩;have G:=ag (w:=w) (by go_grown) d;have m:=d.size;(try simp only[aw]at m);have E:w.heap.size<j.heap.size:=(by omega);have F:w.heap.size+1<j.heap.size:=(by omega);have f:w.heap.size+1+1<j.heap.size:=(by omega);obtain⟨H,I⟩:=br d;clear d m));go_wp2_with fail
 (go_at_call 101;(refine(iy _ _ _ _ l).mono ?_;rintro e g ⟨rfl,d⟩;have t:=ag (w:=w) (by go_grown) d;have f:=d.size;(try simp only[aw]at f);have n:w.heap.size<g.heap.size:=(by omega);have o:w.heap.size+1<g.heap.size:=(by omega);have p:w.heap.size+1+1<g.heap.size:=(by omega);obtain⟨A,C⟩:=br d;clear d f));go_wp2_with fail
 (go_at_call 103;(refine(CD (er k) (er l)).mono ?_;rintro e h ⟨rfl,d⟩;have u:=ag (w:=w) (by go_grown) d;have i:=d.size;(try simp only[aw]at i);have q:w.heap.size<h.heap.size:=(by omega);have r:w.heap.size+1<h.heap.size:=(by omega);have s:w.heap.size+1+1<h.heap.size:=(by omega);obtain⟨B,D⟩:=br d;clear d i));go_wp2
 all_goals (refine bodyPost_ret (v:= .agg #[.int .i64 (a-x),.int .i64 (b-y),.int .i64 (c-z)]) (by simp[results,results100,go_sem, *]) rfl ⟨rfl,by go_grown⟩)
theorem CF (a b c x y z:Int) (w:World) (h:¬dR 1099511627776 (a,b,c)):
 Gv 100 #[.agg #[a,b,c],.agg #[x,y,z]] (.agg #[(),(),()]) w:=by
 go_enter func100,ntmps100;go_wp2_with fail
 (go_at_call 101;(refine(lA _ _ _ _ h).mono ?_;rintro e f ⟨rfl,d⟩;have l:=ag (w:=w) (by go_grown) d;have g:=d.size;(try simp only[aw]at g);have i:w.heap.size<f.heap.size:=(by omega);have j:w.heap.size+1<f.heap.size:=(by omega);have k:w.heap.size+1+1<f.heap.size:=(by omega);obtain⟨m,n⟩:=br d;clear d g));go_wp2
 all_goals (refine bodyPost_ret (v:= .agg #[(),(),()]) (by simp[results,results100,go_sem, *]) rfl ⟨rfl,by go_grown⟩)
theorem CG (a b c x y z:Int) (w:World) (p:dR 1099511627776 (a,b,c)) (q:¬dR 1099511627776 (x,y,z)):
 Gv 100 #[.agg #[a,b,c],.agg #[x,y,z]] (.agg #[(),(),()]) w:=by
 go_enter func100,ntmps100;go_wp2_with fail
 (go_at_call 101;(refine(iy _ _ _ _ p).mono ?_;rintro e h ⟨rfl,d⟩;have t:=ag (w:=w) (by go_grown) d;have i:=d.size;(try simp only[aw]at i);have r:w.heap.size<h.heap.size:=(by omega);have s:w.heap.size+1<h.heap.size:=(by omega);have f:w.heap.size+1+1<h.heap.size:=(by omega);obtain⟨u,A⟩:=br d;clear d i));go_wp2_with fail
 (go_at_call 101;(refine(lA _ _ _ _ q).mono ?_;rintro e g ⟨rfl,d⟩;have m:=ag (w:=w) (by go_grown) d;have f:=d.size;(try simp only[aw]at f);have j:w.heap.size<g.heap.size:=(by omega);have k:w.heap.size+1<g.heap.size:=(by omega);have l:w.heap.size+1+1<g.heap.size:=(by omega);obtain⟨n,o⟩:=br d;clear d f));go_wp2
 all_goals (refine bodyPost_ret (v:= .agg #[(),(),()]) (by simp[results,results100,go_sem, *]) rfl ⟨rfl,by go_grown⟩)
theorem CH (a b c x y z:Int) (w:World):
 Gv 100 #[.agg #[a,b,c],.agg #[x,y,z]] (.agg #[(gq (a,b,c) (x,y,z)).1,(gq (a,b,c) (x,y,z)).2.1,(gq (a,b,c) (x,y,z)).2.2]) w:=by
 by_cases hp:dR 1099511627776 (a,b,c)
 ·by_cases hv:dR 1099511627776 (x,y,z)
  ·rw[show gq (a,b,c) (x,y,z)=Al (a,b,c) (oZ (x,y,z))from if_pos ⟨hp,hv⟩];exact CE a b c x y z w hp hv
  ·rw[show gq (a,b,c) (x,y,z)=kg from if_neg (fun h=>hv h.2)];exact CG a b c x y z w hp hv
 ·rw[show gq (a,b,c) (x,y,z)=kg from if_neg (fun h=>hp h.1)];exact CF a b c x y z w hp
theorem uo (a b c k:Int) (w:World) (m:dR 1099511627776 (a,b,c)):
 Gv 57 #[.agg #[a,b,c,k]] (.agg #[.int .i64 (-(bC (a,b,c) (dw k)).1),.int .i64 (-(bC (a,b,c) (dw k)).2.1),.int .i64 (-(bC (a,b,c) (dw k)).2.2),(dw k)]) w:=by
 have B:dR 2199023255552 (0,0,0):=by unfold dR;decide
 have o:dR 2199023255552 ((bC (a,b,c) (dw k)).1,(bC (a,b,c) (dw k)).2.1,(bC (a,b,c) (dw k)).2.2):=qK (dw k) (er m);have A:=ar o;clear o;have n:=Fh k;have z:=ar n;clear n;go_enter func57,ntmps57;go_wp2_with fail
 (go_at_call 101;(refine(iy _ _ _ _ m).mono ?_;rintro e y ⟨rfl,d⟩;have O:=ag (w:=w) (by go_grown) d;have p:=d.size;(try simp only[aw]at p);have L:w.heap.size<y.heap.size:=(by omega);have N:w.heap.size+1<y.heap.size:=(by omega);obtain⟨P,Q⟩:=br d;clear d p));go_wp2_with fail
 (go_at_call 102;(refine(At _ _).mono ?_;rintro e i ⟨rfl,d⟩;have C:=ag (w:=w) (by go_grown) d;have f:=d.size;(try simp only[aw]at f);have q:w.heap.size<i.heap.size:=(by omega);have r:w.heap.size+1<i.heap.size:=(by omega);obtain⟨F,I⟩:=br d;clear d f));go_wp2_with fail
 (go_at_call 104;(refine(nq _ _ _ _ _ (er m) z.o).mono ?_;rintro e j ⟨rfl,d⟩;have D:=ag (w:=w) (by go_grown) d;have g:=d.size;(try simp only[aw]at g);have s:w.heap.size<j.heap.size:=(by omega);have t:w.heap.size+1<j.heap.size:=(by omega);obtain⟨G,J⟩:=br d;clear d g));go_wp2_with fail
 (go_at_call 103;(refine(CD B A.o).mono ?_;rintro e l ⟨rfl,d⟩;have E:=ag (w:=w) (by go_grown) d;have h:=d.size;(try simp only[aw]at h);have u:w.heap.size<l.heap.size:=(by omega);have x:w.heap.size+1<l.heap.size:=(by omega);obtain⟨H,K⟩:=br d;clear d h));go_wp2
 all_goals (refine bodyPost_ret (v:= .agg #[.int .i64 (-(bC (a,b,c) (dw k)).1),.int .i64 (-(bC (a,b,c) (dw k)).2.1),.int .i64 (-(bC (a,b,c) (dw k)).2.2),(dw k)]) (by simp[results,results57,go_sem, *]) rfl ⟨rfl,by go_grown⟩)
theorem vz (a b c k:Int) (w:World) (h:¬dR 1099511627776 (a,b,c)):
 Gv 57 #[.agg #[a,b,c,k]] (.agg #[(),(),(),()]) w:=by
 go_enter func57,ntmps57;go_wp2_with fail
 (go_at_call 101;(refine(lA _ _ _ _ h).mono ?_;rintro e g ⟨rfl,d⟩;have l:=ag (w:=w) (by go_grown) d;have f:=d.size;(try simp only[aw]at f);have i:w.heap.size<g.heap.size:=(by omega);have j:w.heap.size+1<g.heap.size:=(by omega);obtain⟨m,n⟩:=br d;clear d f));go_wp2
 all_goals (refine bodyPost_ret (v:= .agg #[(),(),(),()]) (by simp[results,results57,go_sem, *]) rfl ⟨rfl,by go_grown⟩)
theorem uq (a b c k:Int) (w:World):
 Gv 57 #[.agg #[a,b,c,k]] (.agg #[(dD (a,b,c) k).1.1,(dD (a,b,c) k).1.2.1,(dD (a,b,c) k).1.2.2,(dD (a,b,c) k).2]) w:=by
 by_cases h:dR 1099511627776 (a,b,c)
 ·rw[show dD (a,b,c) k=(bC (oZ (a,b,c)) (dw k),dw k)from if_pos h,Cu];exact uo a b c k w h
 ·rw[show dD (a,b,c) k=(kg,0)from if_neg h];exact vz a b c k w h
theorem xy (a b c k:Int) (w:World) (n:dR 524288 (a,b,c)) (j:0≤k∧k≤23):
 Gv 77 #[.agg #[a,b,c,k]] (.bool true) w:=by
 obtain⟨d,e,f,g,h,i⟩:=n;simp only at d e f g h i;obtain⟨l,m⟩:=j;go_enter func77,ntmps77;go_wp2;go_returns;exact⟨rfl,by go_grown⟩
theorem Au (a b c k:Int) (w:World) (d:¬(dR 524288 (a,b,c)∧0≤k∧k≤23)):
 Gv 77 #[.agg #[a,b,c,k]] (.bool false) w:=by
 have H:=ar d;clear d;go_enter func77,ntmps77;go_wp2
 all_goals go_returns
 all_goals refine⟨?_,by go_grown⟩
 all_goals (first|rfl|(exfalso;exact H.o ⟨⟨by simp;omega,by simp;omega,by simp;omega,by simp;omega,by simp;omega,by simp;omega⟩,by omega,by omega⟩)|(rw[decide_eq_false (fun h=>H.o ⟨⟨by simp;omega,by simp;omega,by simp;omega,by simp;omega,by simp;omega,by simp;omega⟩,by omega,by omega⟩)];rfl))
theorem nt (a b c k:Int) (w:World):
 Gv 77 #[.agg #[a,b,c,k]] (.bool (eL (a,b,c) k)) w:=by
 by_cases h:dR 524288 (a,b,c)∧0≤k∧k≤23
 ·rw[show eL (a,b,c) k=true by unfold eL;simp[h.1,xo h.2.1 h.2.2]];exact xy a b c k w h.1 h.2
 ·rw[show eL (a,b,c) k=false by
   unfold eL;rw[Bool.and_eq_false_iff];by_cases hp:dR 524288 (a,b,c)
   ·exact .inr (decide_eq_false fun d=>h ⟨hp,by have:=oY k;omega⟩)
   ·exact .inl (decide_eq_false hp)]
  exact Au a b c k w h
def mx (x y:Int):Int:=if y>x then y else x
def mn (x y:Int):Int:=if y<x then y else x
theorem jX (a:Array TypeId) (t:TypeId) (x y:Int) (w:World):(Builtin.max_ a t #[x,y]).run prog w= .ok (.int .i64 (mx x y)) w:=by
 simp[go_sem,mx]
theorem jY (a:Array TypeId) (t:TypeId) (x y:Int) (w:World):(Builtin.min_ a t #[x,y]).run prog w= .ok (.int .i64 (mn x y)) w:=by
 simp[go_sem,mn]
end
section
open Go Go.RowKit
structure bL (w w':World) (b:Nat) (cs:Array Value) (t:TypeId):Prop where
 os:w'.os=w.os
 tape:w'.tape=w.tape
 output:w'.output=w.output
 size:w'.heap.size=w.heap.size
 other:∀k,k≠b→w'.heap[k]?=w.heap[k]?
 here:w'.heap[b]?=some (.cells cs t)
theorem bL.refl {w:World} {b:Nat} {cs:Array Value} {t:TypeId} (h:w.heap[b]?=some (.cells cs t)):bL w w b cs t:=⟨rfl,rfl,rfl,rfl,fun _ _=>rfl,h⟩
theorem bL.set {w w':World} {b:Nat} {cs:Array Value} {t:TypeId} (h:bL w w' b cs t) (i:Nat) (v:Value):bL w (w'.setCell (b,i) v) b (cs.setIfInBounds i v) t:=
 ⟨h.os,h.tape,h.output,by rw[aT];exact h.size,fun k a=>by rw[heap_setCell_other _ _ _ _ a];exact h.other k a,heap_setCell_same w' b i cs t v h.here⟩
theorem bL.c2 {w:World} {b:Nat} {t:TypeId} {d e:Value} (h:w.heap[b]?=some (.cells #[d,e] t)) (a c:Value):bL w ((w.setCell b a).setCell (b,1) c) b #[a,c] t:=((bL.refl h).set 0 a).set 1 c
theorem bL.c3 {w:World} {b:Nat} {t:TypeId} {e f g:Value} (h:w.heap[b]?=some (.cells #[e,f,g] t)) (a c d:Value):bL w (((w.setCell b a).setCell (b,1) c).setCell (b,2) d) b #[a,c,d] t:=(((bL.refl h).set 0 a).set 1 c).set 2 d
def CI (i:Nat) (v:Value):Obj→Obj
 | .cells c e f=> .cells (c.setIfInBounds i v) e f
 |o=>o
theorem bf (w:World) (o:Obj) (k:Nat) (h:k=w.heap.size):(w.alloc o).heap[k]?=some o:=by subst h;exact(MapKept.heap_alloc w o).1
theorem aV (w:World) (o:Obj) (k:Nat) (h:k<w.heap.size):(w.alloc o).heap[k]?=w.heap[k]?:=((ah w.heap.size w).alloc (aB _) o).block k h
theorem da (w:World) (b i k:Nat) (v:Value) (h:k≠b):(w.setCell (b,i) v).heap[k]?=w.heap[k]?:=heap_setCell_other w ⟨b,i,none⟩ k v h
theorem rm (w:World) (b i:Nat) (v:Value):(w.setCell (b,i) v).heap[b]?=(w.heap[b]?).map (CI i v):=by
 simp only[World.setCell,Array.getElem?_modify,if_true];congr 1
structure cT where
 op:Nat
 st:Nat
 zs:Array Value
 ty:TypeId
structure cr where
 blk:Nat
 st:Nat
 zs:Array Value
 ty:TypeId
structure lB (pre:List cr) (w0 w:World):Prop where
 os:w.os=w0.os
 tape:w.tape=w0.tape
 output:w.output=w0.output
 size:w0.heap.size≤w.heap.size
 block:∀k,k<w0.heap.size→(∀r∈pre,r.blk≠k)→w.heap[k]?=w0.heap[k]?
theorem lB.nil {a w:World} (h:lB [] a w):Below a.heap.size a w:=⟨h.os,h.tape,h.output,h.size,fun k b=>h.block k b (fun r c=>by cases c)⟩
theorem lB.on {b:List cr} {d w w':World} (h:lB b d w) (a:Below w.heap.size w w'):lB b d w':=
 ⟨a.os.trans h.os,a.tape.trans h.tape,a.output.trans h.output,bW h.size a.size,fun k c e=>(a.block k (aM c h.size)).trans (h.block k c e)⟩
theorem lB.below {a:List cr} {b w:World} {B:Nat} (h:lB a b w) (e:B≤b.heap.size) (c:∀r∈a,B≤r.blk):Below B b w:=
 ⟨h.os,h.tape,h.output,h.size,fun k f=>h.block k (by omega) (fun r d=>by have:=c r d;omega)⟩
theorem lB.cell {a:List cr} {c w:World} (h:lB a c w) (b:Nat) (d:b<c.heap.size) (e:∀r∈a,r.blk≠b):(∀o,w.cell? ⟨b,o,none⟩=c.cell? ⟨b,o,none⟩)∧(∀o,w.frozen? ⟨b,o,none⟩=c.frozen? ⟨b,o,none⟩):=
 ⟨fun o=>World.cell?_of_block (h.block b d e),fun o=>World.frozen?_of_block (h.block b d e)⟩
def bN (vs:List cT) (ps:List Nat) (i:Nat):Nat:=if vs.any (fun r=>r.op==i)then 1 else if vs.any (fun r=>r.st==i)||ps.any (fun r=>r==i)then 2 else 0
def nw (vs:List cT) (ps:List Nat):Bool:=decide ((vs.map cT.op++(vs.map cT.st++ps)).Nodup)
theorem ur {a:List cT} {ps:List Nat} (h:nw a ps=true):∀r∈a,∀s∈a,r.op≠s.st:=by
 intro r c s d e;have b:=(List.nodup_append.1 (of_decide_eq_true h)).2.2;exact b _ (List.mem_map.2 ⟨r,c,rfl⟩) _ (List.mem_append.2 (.inl (List.mem_map.2 ⟨s,d,rfl⟩))) e
theorem ro {a:List cT} {ps:List Nat} (h:nw a ps=true):∀r∈a,∀p∈ps,r.op≠p:=by
 intro r d p c e;have b:=(List.nodup_append.1 (of_decide_eq_true h)).2.2;exact b _ (List.mem_map.2 ⟨r,d,rfl⟩) _ (List.mem_append.2 (.inr c)) e
theorem vA {a:List cT} {ps:List Nat} (h:nw a ps=true):∀r∈a,∀p∈ps,r.st≠p:=by
 intro r d p c e;have b:=(List.nodup_append.1 (List.nodup_append.1 (of_decide_eq_true h)).2.1).2.2;exact b _ (List.mem_map.2 ⟨r,d,rfl⟩) _ c e
theorem kL {α:Type} {f:α→Nat}:∀{l:List α},(l.map f).Nodup→∀r∈l,∀s∈l,f r=f s→r=s
 | [],_,_,h,_,_,_=>by cases h
 |x::l,hn,r,hr,s,hs,e=>by
  simp only[List.map_cons,List.nodup_cons]at hn;obtain⟨a,c⟩:=hn;rcases bj.1 hr with hr1|hr1
  ·rcases bj.1 hs with hs1|hs1
   ·rw[hr1,hs1]
   ·have b:f x∈l.map f:=List.mem_map.2 ⟨s,hs1,by rw[←e,hr1]⟩;exact absurd b a
  ·rcases bj.1 hs with hs1|hs1
   ·have b:f x∈l.map f:=List.mem_map.2 ⟨r,hr1,by rw[e,hs1]⟩;exact absurd b a
   ·exact kL c r hr1 s hs1 e
theorem pR {a:List cT} {ps:List Nat} (h:nw a ps=true):∀r∈a,∀s∈a,r.op=s.op→r=s:=kL (List.nodup_append.1 (of_decide_eq_true h)).1
theorem pS {a:List cT} {ps:List Nat} (h:nw a ps=true):∀r∈a,∀s∈a,r.st=s.st→r=s:=kL (List.nodup_append.1 (List.nodup_append.1 (of_decide_eq_true h)).2.1).1
theorem CJ {a:List cT} {ps:List Nat} (h:nw a ps=true):ps.Nodup:=(List.nodup_append.1 (List.nodup_append.1 (of_decide_eq_true h)).2.1).2.1
theorem us {a:List cT} {ps:List Nat} {r:cT} (h:r∈a):bN a ps r.op=1:=by
 unfold bN;rw[if_pos (List.any_eq_true.2 ⟨r,h,by simp⟩)]
theorem zj {a:List cT} {ps:List Nat} {i:Nat} (h:∀r∈a,r.op≠i):¬(a.any (fun r=>r.op==i)=true):=by
 intro b;obtain⟨s,c,e⟩:=List.any_eq_true.1 b;exact h s c (by simpa using e)
theorem Fn {b:List cT} {ps:List Nat} (a:nw b ps=true) {r:cT} (h:r∈b):bN b ps r.st=2:=by
 unfold bN;rw[if_neg (zj (ps:=ps) fun s c=>ur a s c r h),if_pos (by rw[Bool.or_eq_true];exact .inl (List.any_eq_true.2 ⟨r,h,by simp⟩))]
theorem CK {b:List cT} {ps:List Nat} (a:nw b ps=true) {p:Nat} (h:p∈ps):bN b ps p=2:=by
 unfold bN;rw[if_neg (zj (ps:=ps) fun s c=>ro a s c p h),if_pos (by rw[Bool.or_eq_true];exact .inr (List.any_eq_true.2 ⟨p,h,by simp⟩))]
theorem vB {a:List cT} {ps:List Nat} {i:Nat} (h:bN a ps i=1):∃r∈a,r.op=i:=by
 unfold bN at h;split at h
 ·rename_i h1;obtain⟨r,b,e⟩:=List.any_eq_true.1 h1;exact⟨r,b,by simpa using e⟩
 ·split at h<;>cases h
structure dm where
 R:Value→World→Prop
 F:Value→Nat→Prop
 grow:∀v w w',Below w.heap.size w w'→R v w→R v w'
 kept:∀v w w' b cs t,bL w w' b cs t→¬F v b→R v w→R v w'
 lt:∀v w b,R v w→F v b→b<w.heap.size
def dm.is (x:Value):dm:=⟨fun v _=>v=x,fun _ _=>False,fun _ _ _ _ h=>h,fun _ _ _ _ _ _ _ _ h=>h,fun _ _ _ _ h=>h.elim⟩
def dm.any:dm:=⟨fun _ _=>True,fun _ _=>False,fun _ _ _ _ h=>h,fun _ _ _ _ _ _ _ _ h=>h,fun _ _ _ _ h=>h.elim⟩
section
variable {P:Program} {md:Region.Mode}
def pd (d:Nat→Bool) (i:Nat):Nat→Bool:=fun j=>if j=i then true else d j
@[simp] theorem pe (d:Nat→Bool) (i:Nat):pd d i i=true:=by simp[pd]
theorem cx {d:Nat→Bool} {i j:Nat} (h:j≠i):pd d i j=d j:=by simp[pd,h]
theorem du {u:Nat→Value} {i j:Nat} {v:Value} (h:j≠i):qD u i v j=u j:=by simp[qD,h]
theorem eV {u:Nat→Value} {i:Nat} {v:Value}:qD u i v i=v:=by simp[qD]
structure SI (vs:List cT) (pre:List cr) (E:Nat→dm) (w0:World) (d:Nat→Bool) (u:Nat→Value) (w:World):Prop where
 below:lB pre w0 w
 val:∀i,bN vs (pre.map cr.st) i≠1→d i=true→(E i).R (u i) w
 var:∀r∈vs,d r.op=true→∃b:Nat,u r.op= .pointer (some b)∧w0.heap.size≤b∧w.heap[b]?=some (.cells (if d r.st=true then(u r.st).cells else r.zs) r.ty)
 old:∀r∈pre,r.blk<w0.heap.size∧w.heap[r.blk]?=some (.cells (if d r.st=true then(u r.st).cells else r.zs) r.ty)
 apart:∀r∈vs,∀s∈vs,r.op≠s.op→d r.op=true→d s.op=true→u r.op≠u s.op
 free:∀i,bN vs (pre.map cr.st) i≠1→d i=true→∀r∈vs,d r.op=true→∀b:Nat,u r.op= .pointer (some b)→¬(E i).F (u i) b
 freep:∀i,bN vs (pre.map cr.st) i≠1→d i=true→∀r∈pre,¬(E i).F (u i) r.blk
 made:∀r∈vs,d r.st=true→d r.op=true
section
variable {vs:List cT} {pre:List cr} {E:Nat→dm} {w0:World} {d:Nat→Bool} {u:Nat→Value} {w w':World}
theorem SI.step_val {i:Nat} {v:Value} (q:nw vs (pre.map cr.st)=true) (h:SI vs pre E w0 d u w) (t:Below w.heap.size w w') (C:bN vs (pre.map cr.st) i=0) (L:(E i).R v w')
 (I:∀b,(E i).F v b→(b<w0.heap.size∧∀r∈pre,r.blk≠b)∨w.heap.size≤b∨∃j,bN vs (pre.map cr.st) j≠1∧d j=true∧(E j).F (u j) b):SI vs pre E w0 (pd d i) (qD u i v) w':=by
 have c:∀r∈vs,r.op≠i:=fun r a e=>by have:=us (ps:=pre.map cr.st) a;rw[e,C]at this;cases this
 have m:∀r∈vs,r.st≠i:=fun r a e=>by have:=Fn q a;rw[e,C]at this;cases this
 have l:∀r∈pre,r.st≠i:=fun r a e=>by have:=CK q (List.mem_map.2 ⟨r,a,rfl⟩);rw[e,C]at this;cases this
 refine⟨h.below.on t,fun j p g=> ?_,fun r a g=> ?_,fun r a=> ?_,fun r a s H G f o=> ?_,fun j p g r a f b x=> ?_,fun j p g r a=> ?_,fun r a g=> ?_⟩
 ·by_cases e:j=i
  ·subst e;rw[eV];exact L
  ·rw[du e];rw[cx e]at g;exact(E j).grow _ _ _ t (h.val j p g)
 ·rw[cx (c r a)]at g;obtain⟨b,A,K,n⟩:=h.var r a g;refine⟨b,by rw[du (c r a)];exact A,K,?_⟩;rw[cx (m r a),du (m r a),t.block b (av.1 n).1];exact n
 ·obtain⟨A,n⟩:=h.old r a;refine⟨A,?_⟩;rw[cx (l r a),du (l r a),t.block _ (av.1 n).1];exact n
 ·rw[du (c r a),du (c s H)];rw[cx (c r a)]at f;rw[cx (c s H)]at o;exact h.apart r a s H G f o
 ·rw[cx (c r a)]at f;rw[du (c r a)]at x;by_cases e:j=i
  ·subst e;rw[eV];intro B;obtain⟨J,y,N,z⟩:=h.var r a f;rw[x]at y;obtain rfl:b=J:=by simpa using y
   have D:=(av.1 z).1;rcases I b B with h5|h5|⟨k,hk1,hk2,hk3⟩
   ·have:=h5.1;omega
   ·omega
   ·exact h.free k hk1 hk2 r a f b x hk3
  ·rw[du e];rw[cx e]at g;exact h.free j p g r a f b x
 ·by_cases e:j=i
  ·subst e;rw[eV];intro B;obtain⟨y,z⟩:=h.old r a;have D:=(av.1 z).1;rcases I _ B with h5|h5|⟨k,hk1,hk2,hk3⟩
   ·exact h5.2 r a rfl
   ·omega
   ·exact h.freep k hk1 hk2 r a hk3
  ·rw[du e];rw[cx e]at g;exact h.freep j p g r a
 ·rw[cx (m r a)]at g;rw[cx (c r a)];exact h.made r a g
theorem SI.step_var {r:cT} (q:nw vs (pre.map cr.st)=true) (h:SI vs pre E w0 d u w) (A:r∈vs) (y:d r.op=false):
 SI vs pre E w0 (pd d r.op) (qD u r.op (.pointer (some w.heap.size))) (w.alloc (.cells r.zs r.ty)):=by
 have z:Below w.heap.size w (w.alloc (.cells r.zs r.ty)):=(ah w.heap.size w).alloc (aB _) _;have C:=us (ps:=pre.map cr.st) A;have p:∀j,bN vs (pre.map cr.st) j≠1→j≠r.op:=fun j I e=>I (by rw[e];exact C);have k:∀s∈vs,s.st≠r.op:=fun s a e=>ur q r A s a e.symm;have m:∀s∈pre,s.st≠r.op:=fun s a e=>ro q r A _ (List.mem_map.2 ⟨s,a,rfl⟩) e.symm;have l:∀s∈vs,d s.op=true→u s.op≠ .pointer (some w.heap.size):=fun s a c e=>by
  obtain⟨b,x,-,o⟩:=h.var s a c;rw[x]at e;simp at e;have:=(av.1 o).1;omega
 refine⟨h.below.on z,fun j i c=> ?_,fun s a c=> ?_,fun s a=> ?_,fun s a t D n f g=> ?_,fun j i c s a f b B=> ?_,fun j i c s a=> ?_,fun s a c=> ?_⟩
 ·have e:=p j i;rw[du e];rw[cx e]at c;exact(E j).grow _ _ _ z (h.val j i c)
 ·by_cases e:s.op=r.op
  ·obtain rfl:=pR q s a r A e;have F:d s.st=false:=by
    cases hq:d s.st with
    |false=>rfl
    |true=>rw[h.made s a hq]at y;cases y
   refine⟨w.heap.size,by rw[eV],h.below.size,?_⟩;rw[cx (k s a),F];exact(MapKept.heap_alloc w _).1
  ·rw[cx e]at c;obtain⟨b,x,G,o⟩:=h.var s a c;refine⟨b,by rw[du e];exact x,G,?_⟩;rw[cx (k s a),du (k s a),z.block b (av.1 o).1];exact o
 ·obtain⟨x,o⟩:=h.old s a;refine⟨x,?_⟩;rw[cx (m s a),du (m s a),z.block _ (av.1 o).1];exact o
 ·by_cases es:s.op=r.op
  ·have v:t.op≠r.op:=fun e=>n (es.trans e.symm);rw[es,eV,du v];rw[cx v]at g;exact fun e=>l t D g e.symm
  ·rw[cx es]at f;rw[du es];by_cases v:t.op=r.op
   ·rw[v,eV];exact l s a f
   ·rw[cx v]at g;rw[du v];exact h.apart s a t D n f g
 ·have e:=p j i;rw[du e];rw[cx e]at c;by_cases es:s.op=r.op
  ·rw[es,eV]at B;obtain rfl:w.heap.size=b:=by simpa using B
   intro H;have:=(E j).lt _ _ _ (h.val j i c) H;omega
  ·rw[du es]at B;rw[cx es]at f;exact h.free j i c s a f b B
 ·have e:=p j i;rw[du e];rw[cx e]at c;exact h.freep j i c s a
 ·rw[cx (k s a)]at c;by_cases es:s.op=r.op
  ·rw[es,pe]
  ·rw[cx es];exact h.made s a c
theorem SI.step_sto {r:cT} {b:Nat} {x:Value} (m:nw vs (pre.map cr.st)=true) (h:SI vs pre E w0 d u w) (q:r∈vs) (n:d r.op=true)
 (C:u r.op= .pointer (some b)) (l:bL w w' b x.cells r.ty) (U:(E r.st).R x w')
 (O:∀b,(E r.st).F x b→(b<w0.heap.size∧∀r∈pre,r.blk≠b)∨∃j,bN vs (pre.map cr.st) j≠1∧d j=true∧(E j).F (u j) b):SI vs pre E w0 (pd d r.st) (qD u r.st x) w':=by
 obtain⟨Q,N,W,X⟩:=h.var r q n;rw[C]at N;obtain rfl:b=Q:=by simpa using N
 have f:∀s∈vs,s.op≠r.st:=fun s l e=>ur m s l r q e;have p:∀s∈pre,s.st≠r.st:=fun s l e=>vA m r q _ (List.mem_map.2 ⟨s,l,rfl⟩) e.symm;refine⟨⟨by rw[l.os];exact h.below.os,by rw[l.tape];exact h.below.tape,by rw[l.output];exact h.below.output,by rw[l.size];exact h.below.size,fun k J K=> ?_⟩,fun j v g=> ?_,fun s a g=> ?_,fun s a=> ?_,fun s a t L A i y=> ?_,fun j v g s a i c B=> ?_,fun j v g s a=> ?_,fun s a g=> ?_⟩
 ·rw[l.other k (by omega)];exact h.below.block k J K
 ·by_cases e:j=r.st
  ·subst e;rw[eV];exact U
  ·rw[du e];rw[cx e]at g;exact(E j).kept _ _ _ _ _ _ l (h.free j v g r q n b C) (h.val j v g)
 ·rw[cx (f s a)]at g;obtain⟨c,o,P,D⟩:=h.var s a g;refine⟨c,by rw[du (f s a)];exact o,P,?_⟩;by_cases e:s.st=r.st
  ·obtain rfl:=pS m s a r q e;rw[C]at o;obtain rfl:b=c:=by simpa using o
   rw[pe,eV];simp only[if_true];exact l.here
  ·have H:c≠b:=fun T=>by
    subst T;have z:s.op≠r.op:=fun G=>e (by rw[pR m s a r q G]);exact h.apart s a r q z g n (o.trans C.symm)
   rw[cx e,du e,l.other c H];exact D
 ·obtain⟨o,D⟩:=h.old s a;refine⟨o,?_⟩;rw[cx (p s a),du (p s a),l.other _ (by omega)];exact D
 ·rw[du (f s a),du (f t L)];rw[cx (f s a)]at i;rw[cx (f t L)]at y;exact h.apart s a t L A i y
 ·rw[cx (f s a)]at i;rw[du (f s a)]at B;by_cases e:j=r.st
  ·subst e;rw[eV];intro I;obtain⟨c',o,P,D⟩:=h.var s a i;rw[B]at o;obtain rfl:c=c':=by simpa using o
   rcases O c I with h5|⟨k,h6,h7,h8⟩
   ·have:=h5.1;omega
   ·exact h.free k h6 h7 s a i c B h8
  ·rw[du e];rw[cx e]at g;exact h.free j v g s a i c B
 ·by_cases e:j=r.st
  ·subst e;rw[eV];intro I;rcases O _ I with h5|⟨k,h6,h7,h8⟩
   ·exact h5.2 s a rfl
   ·exact h.freep k h6 h7 s a h8
  ·rw[du e];rw[cx e]at g;exact h.freep j v g s a
 ·rw[cx (f s a)];by_cases e:s.st=r.st
  ·obtain rfl:=pS m s a r q e;exact n
  ·rw[cx e]at g;exact h.made s a g
theorem SI.step_pre {r:cr} {x:Value} (m:nw vs (pre.map cr.st)=true) (G:∀r∈pre,∀s∈pre,r.st≠s.st→r.blk≠s.blk) (h:SI vs pre E w0 d u w) (n:r∈pre)
 (l:bL w w' r.blk x.cells r.ty) (K:(E r.st).R x w')
 (I:∀b,(E r.st).F x b→(b<w0.heap.size∧∀r∈pre,r.blk≠b)∨∃j,bN vs (pre.map cr.st) j≠1∧d j=true∧(E j).F (u j) b):SI vs pre E w0 (pd d r.st) (qD u r.st x) w':=by
 obtain⟨L,N⟩:=h.old r n;have f:∀s∈vs,s.op≠r.st:=fun s l=>ro m s l _ (List.mem_map.2 ⟨r,n,rfl⟩);have o:∀s∈vs,s.st≠r.st:=fun s l=>vA m s l _ (List.mem_map.2 ⟨r,n,rfl⟩);refine⟨⟨by rw[l.os];exact h.below.os,by rw[l.tape];exact h.below.tape,by rw[l.output];exact h.below.output,by rw[l.size];exact h.below.size,fun k D y=> ?_⟩,fun j p g=> ?_,fun s a g=> ?_,fun s a=> ?_,fun s a t H z i v=> ?_,fun j p g s a i c A=> ?_,fun j p g s a=> ?_,fun s a g=> ?_⟩
 ·rw[l.other k (fun e=>y r n e.symm)];exact h.below.block k D y
 ·by_cases e:j=r.st
  ·subst e;rw[eV];exact K
  ·rw[du e];rw[cx e]at g;exact(E j).kept _ _ _ _ _ _ l (h.freep j p g r n) (h.val j p g)
 ·rw[cx (f s a)]at g;obtain⟨c,q,J,B⟩:=h.var s a g;refine⟨c,by rw[du (f s a)];exact q,J,?_⟩;rw[cx (o s a),du (o s a),l.other c (by omega)];exact B
 ·obtain⟨q,B⟩:=h.old s a;refine⟨q,?_⟩;by_cases e:s.st=r.st
  ·have:s=r:=kL (CJ m) s a r n e;subst this;rw[pe,eV];simp only[if_true];exact l.here
  ·rw[cx e,du e,l.other _ (G s a r n e)];exact B
 ·rw[du (f s a),du (f t H)];rw[cx (f s a)]at i;rw[cx (f t H)]at v;exact h.apart s a t H z i v
 ·rw[cx (f s a)]at i;rw[du (f s a)]at A;by_cases e:j=r.st
  ·subst e;rw[eV];intro C;obtain⟨c',q,J,B⟩:=h.var s a i;rw[A]at q;obtain rfl:c=c':=by simpa using q
   rcases I c C with h5|⟨k,h6,h7,h8⟩
   ·have:=h5.1;omega
   ·exact h.free k h6 h7 s a i c A h8
  ·rw[du e];rw[cx e]at g;exact h.free j p g s a i c A
 ·by_cases e:j=r.st
  ·subst e;rw[eV];intro C;rcases I _ C with h5|⟨k,h6,h7,h8⟩
   ·exact h5.2 s a rfl
   ·exact h.freep k h6 h7 s a h8
  ·rw[du e];rw[cx e]at g;exact h.freep j p g s a
 ·rw[cx (f s a)];rw[cx (o s a)]at g;exact h.made s a g
end
def cL (md:Region.Mode) (vs:List cT) (ps:List Nat) (E:Nat→dm) (w0:World) (u:Nat→Value) (w:World):List Edge→Prop
 | []=>True
 |e::l=>(ai md e=true→if bN vs ps e.on=1 then ∃b:Nat,u e.on= .pointer (some b)∧w0.heap.size≤b∧b<w.heap.size else(E e.on).R (u e.on) w)∧cL md vs ps E w0 u w l
def dK (E:Nat→dm) (k:Nat) (p:dm):Nat→dm:=fun j=>if j=k then p else E j
def gt (md:Region.Mode) (o:Oper) (j:Nat):Bool:=o.after.toList.any fun e=>decide (e.on=j)&&ai md e
def pT (md:Region.Mode) (vs:List cT) (ps:List Nat) (E:Nat→dm) (u:Nat→Value) (o:Oper) (b:Nat):Prop:=∃j,bN vs ps j≠1∧gt md o j=true∧(E j).F (u j) b
def il (P:Program) (md:Region.Mode) (ops:Array Oper) (w0:World) (vs:List cT) (pre:List cr) (fr:(Nat→Value)→Act) (fin:(Nat→dm)→Prop):List Oper→Nat→(Nat→dm)→Prop
 | [],_,E=>fin E
 |o::l,k,E=>∃p:dm,(∀(u:Nat→Value) (w:World),lB pre w0 w→cL md vs (pre.map cr.st) E w0 u w o.after.toList→
  match bN vs (pre.map cr.st) k with
  |0=>if au o (yielded ops (fr u).tmps)=true then dh P o (fr u) w (fun v w'=>Below w.heap.size w w'∧p.R v w'∧∀b,p.F v b→(b<w0.heap.size∧∀r∈pre,r.blk≠b)∨w.heap.size≤b∨pT md vs (pre.map cr.st) E u o b)else p.R undef w∧∀b,¬p.F undef b
  |1=>au o (yielded ops (fr u).tmps)=true∧∃r∈vs,r.op=k∧dh P o (fr u) w (fun v w'=>v= .pointer (some w.heap.size)∧w'=w.alloc (.cells r.zs r.ty))
  |_=>o.dst=none∧au o (yielded ops (fr u).tmps)=true∧((∃r∈vs,r.st=k∧gt md o r.op=true∧∀b:Nat,u r.op= .pointer (some b)→w0.heap.size≤b→w.heap[b]?=some (.cells r.zs r.ty)→
   dh P o (fr u) w (fun _ w'=>∃x:Value,bL w w' b x.cells r.ty∧p.R x w'∧∀b,p.F x b→(b<w0.heap.size∧∀r∈pre,r.blk≠b)∨pT md vs (pre.map cr.st) E u o b))∨
   (∃r∈pre,r.st=k∧(w.heap[r.blk]?=some (.cells r.zs r.ty)→
    dh P o (fr u) w (fun _ w'=>∃x:Value,bL w w' r.blk x.cells r.ty∧p.R x w'∧∀b,p.F x b→(b<w0.heap.size∧∀r∈pre,r.blk≠b)∨pT md vs (pre.map cr.st) E u o b)))))∧
  il P md ops w0 vs pre fr fin l (k+1) (dK E k p)
def ut (P:Program) (md:Region.Mode) (ops:Array Oper) (w0:World) (vs:List cT) (pre:List cr) (fr:(Nat→Value)→Act) (E:Nat→dm):List Oper→Nat→Prop
 | [],_=>True
 |o::l,k=>(∀(u:Nat→Value) (w:World),lB pre w0 w→cL md vs (pre.map cr.st) E w0 u w o.after.toList→
  match bN vs (pre.map cr.st) k with
  |0=>if au o (yielded ops (fr u).tmps)=true then dh P o (fr u) w (fun v w'=>Below w.heap.size w w'∧(E k).R v w'∧∀b,(E k).F v b→(b<w0.heap.size∧∀r∈pre,r.blk≠b)∨w.heap.size≤b∨pT md vs (pre.map cr.st) E u o b)else(E k).R undef w∧∀b,¬(E k).F undef b
  |1=>au o (yielded ops (fr u).tmps)=true∧∃r∈vs,r.op=k∧dh P o (fr u) w (fun v w'=>v= .pointer (some w.heap.size)∧w'=w.alloc (.cells r.zs r.ty))
  |_=>o.dst=none∧au o (yielded ops (fr u).tmps)=true∧((∃r∈vs,r.st=k∧gt md o r.op=true∧∀b:Nat,u r.op= .pointer (some b)→w0.heap.size≤b→w.heap[b]?=some (.cells r.zs r.ty)→
   dh P o (fr u) w (fun _ w'=>∃x:Value,bL w w' b x.cells r.ty∧(E k).R x w'∧∀b,(E k).F x b→(b<w0.heap.size∧∀r∈pre,r.blk≠b)∨pT md vs (pre.map cr.st) E u o b))∨
   (∃r∈pre,r.st=k∧(w.heap[r.blk]?=some (.cells r.zs r.ty)→
    dh P o (fr u) w (fun _ w'=>∃x:Value,bL w w' r.blk x.cells r.ty∧(E k).R x w'∧∀b,(E k).F x b→(b<w0.heap.size∧∀r∈pre,r.blk≠b)∨pT md vs (pre.map cr.st) E u o b)))))∧
  ut P md ops w0 vs pre fr E l (k+1)
theorem dY {o:Oper} {a:Act} {w:World} {R c:Value→World→Prop} (h:dh P o a w R) (b:∀v w',R v w'→c v w'):dh P o a w c:=by
 unfold dh at*
 generalize (execOp a.eval o).run P w=r at*
 cases r with
 |ok n w'=>
  cases n with
  |value u=>exact b _ _ h
  |skip=>exact b _ _ h
  |enter f args=>exact Calls.mono h fun e d ⟨u,he,hr⟩=>⟨u,he,b _ _ hr⟩
  |_=>exact h.elim
 |halt x w'=>exact h.elim
def jM (md:Region.Mode):List Oper→Nat→Bool
 | [],_=>true
 |o::l,k=>(o.after.toList.all fun e=> !ai md e||decide (e.on<k))&&jM md l (k+1)
theorem pU {c:List cT} {ps:List Nat} {E b:Nat→dm} {d:World} {u:Nat→Value} {w:World} {k:Nat}:∀l:List Edge,(l.all fun e=> !ai md e||decide (e.on<k))=true→(∀j,j<k→E j=b j)→cL md c ps E d u w l→cL md c ps b d u w l
 | [],_,_,_=>trivial
 |e::l,hb,he,h=>by
  simp only[List.all_cons,Bool.and_eq_true]at hb;refine⟨fun a=> ?_,pU l hb.2 he h.2⟩;have f:=h.1 a;have g:e.on<k:=by simpa [a]using hb.1
  rw[←he _ g];exact f
theorem lD {g:List cT} {ps:List Nat} {E a:Nat→dm} {u:Nat→Value} {o:Oper} {b k:Nat} (m:(o.after.toList.all fun e=> !ai md e||decide (e.on<k))=true) (n:∀j,j<k→E j=a j) (h:pT md g ps E u o b):pT md g ps a u o b:=by
 obtain⟨j,i,c,l⟩:=h;refine⟨j,i,c,?_⟩;obtain⟨e,p,d⟩:=List.any_eq_true.1 c;simp only[Bool.and_eq_true,decide_eq_true_eq]at d;have f:=List.all_eq_true.1 m e p;rw[d.2]at f;have q:e.on<k:=by simpa using f
 rw[←n j (by omega)];exact l
theorem tE {ops:Array Oper} {F:World} {D:List cT} {n:List cr} {A:(Nat→Value)→Act} {e:(Nat→dm)→Prop}:∀(l:List Oper) (k:Nat) (E:Nat→dm),jM md l k=true→il P md ops F D n A e l k E→
 ∃c,(∀j,j<k→E j=c j)∧ut P md ops F D n A c l k∧e c
 | [],_,E,_,h=>⟨E,fun _ _=>rfl,trivial,h⟩
 |o::l,k,E,hb,h=>by
  obtain⟨p,G,H⟩:=h;simp only[jM,Bool.and_eq_true]at hb;obtain⟨c,B,J,L⟩:=tE l (k+1) _ hb.2 H;have g:∀j,j<k→E j=c j:=fun j C=>by rw[←B j (by omega)];unfold dK;rw[if_neg (by omega)]
  have N:c k=p:=by rw[←B k (by omega)];unfold dK;rw[if_pos rfl]
  refine⟨c,g,⟨fun u w t K=> ?_,J⟩,L⟩;have d:=G u w t (pU _ hb.1 (fun j C=>(g j C).symm) K);rw[N];split at d
  ·split at d
   ·rename_i m;rw[if_pos m];exact dY d fun v w' ⟨f,q,g3⟩=>⟨f,q,fun b a=>(g3 b a).imp id fun h=>h.imp id (lD hb.1 g)⟩
   ·rename_i m;rw[if_neg m];exact d
  ·exact d
  ·obtain⟨i,m,I⟩:=d;refine⟨i,m,?_⟩;rcases I with⟨r,y,f,q,s⟩|⟨r,y,f,s⟩
   ·exact .inl ⟨r,y,f,q,fun b O Q z=>dY (s b O Q z) fun v w' ⟨x,k1,k2,k3⟩=>⟨x,k1,k2,fun b a=>(k3 b a).imp id (lD hb.1 g)⟩⟩
   ·exact .inr ⟨r,y,f,fun z=>dY (s z) fun v w' ⟨x,k1,k2,k3⟩=>⟨x,k1,k2,fun b a=>(k3 b a).imp id (lD hb.1 g)⟩⟩
theorem vD {f:List cT} {c:List cr} {E:Nat→dm} {g:World} {d:Nat→Bool} {u:Nat→Value} {w:World} (h:SI f c E g d u w):∀l:List Edge,(∀e∈l,ai md e=true→d e.on=true)→cL md f (c.map cr.st) E g u w l
 | [],_=>trivial
 |e::l,hl=>⟨fun n=>by
  have a:=hl e (by simp) n;split
  ·rename_i hk;obtain⟨r,p,i⟩:=vB hk;rw[←i]at a⊢
   obtain⟨b,j,k,m⟩:=h.var r p a;exact⟨b,j,k,(av.1 m).1⟩
  ·rename_i hk;exact h.val _ hk a,vD h l (fun e o=>hl e (by simp[o]))⟩
theorem tF {ops:Array Oper} {I:World} {F:List cT} {c:List cr} {J:(Nat→Value)→Act} {E:Nat→dm} (f:nw F (c.map cr.st)=true) (A:∀r∈c,∀s∈c,r.st≠s.st→r.blk≠s.blk):∀(l:List Oper) (k i:Nat) (o:Oper),ut P md ops I F c J E l k→l[i]?=some o→
 ∀(d:Nat→Bool) (u:Nat→Value) (w:World),d (k+i)=false→(∀e∈o.after.toList,ai md e=true→d e.on=true)→SI F c E I d u w→
  if au o (yielded ops (J u).tmps)=true then dh P o (J u) w (fun v w'=>∃O,(o.dst=none∨O=v)∧SI F c E I (pd d (k+i)) (qD u (k+i) O) w')else SI F c E I (pd d (k+i)) (qD u (k+i) undef) w
 | [],_,_,_,_,h=>by simp at h
 |o'::l,k,i+1,o,hr,h=>by
  have:=tF f A l (k+1) i o hr.2 (by simpa using h);rw[show k+1+i=k+(i+1)by omega]at this;exact this
 |o'::l,k,0,o,hr,h=>by
  obtain rfl:o'=o:=by simpa using h
  intro d u w H N m;simp only[Nat.add_zero]at H⊢
  have g:∀j,gt md o' j=true→d j=true:=fun j R=>by
   obtain⟨e,T,z⟩:=List.any_eq_true.1 R;simp only[Bool.and_eq_true,decide_eq_true_eq]at z;rw[←z.1];exact N e T z.2
  have p:=hr.1 u w m.below (vD m _ N);split at p
  ·rename_i hk0;split at p
   ·rename_i t;rw[if_pos t];exact dY p fun v w' ⟨g1,G,g3⟩=>⟨v,.inr rfl,m.step_val f g1 hk0 G fun b q=>(g3 b q).imp id fun h=>h.imp id fun⟨j,B,C,D⟩=>⟨j,B,g j C,D⟩⟩
   ·rename_i t;rw[if_neg t];exact m.step_val f (ah _ _) hk0 p.1 fun b q=>absurd q (p.2 b)
  ·obtain⟨t,r,a,rfl,Q⟩:=p;rw[if_pos t];exact dY Q fun v w' ⟨h1,h2⟩=>by subst h1 h2;exact⟨_,.inr rfl,m.step_var f a H⟩
  ·obtain⟨n,t,z⟩:=p;rw[if_pos t];rcases z with⟨r,a,rfl,G,K⟩|⟨r,a,rfl,K⟩
   ·obtain⟨b,L,U,y⟩:=m.var r a (g _ G);rw[H]at y;simp only[Bool.false_eq_true,if_false]at y;exact dY (K b L U y) fun v w' ⟨x,k1,k2,k3⟩=>⟨x,.inl n,m.step_sto f a (g _ G) L k1 k2 fun b q=>(k3 b q).imp id fun⟨j,B,C,D⟩=>⟨j,B,g j C,D⟩⟩
   ·obtain⟨L,y⟩:=m.old r a;rw[H]at y;simp only[Bool.false_eq_true,if_false]at y;exact dY (K y) fun v w' ⟨x,k1,k2,k3⟩=>⟨x,.inl n,m.step_pre f A a k1 k2 fun b q=>(k3 b q).imp id fun⟨j,B,C,D⟩=>⟨j,B,g j C,D⟩⟩
theorem Av {l:List Oper} {n:Nat} {m:Act} {R:World} {K:List cT} {g:List cr} {E:Nat→dm} {Q:Exit→Act→World→Prop} (Z:nw K (g.map cr.st)=true) (a2:∀r∈g,∀s∈g,r.st≠s.st→r.blk≠s.blk) (hB:lu md l n=true)
 (B:ut P md l.toArray R K g (fun u=>aK m (l.take n) u 0) E (l.take n) 0)
 (C:∀(d:Nat→Bool) (u:Nat→Value) (w:World),(∀j,j<n→d j=true)→SI K g E R d u w→wpList P l.toArray Q (l.drop n) (aK m (l.take n) u 0) w):
 ∀(f:Nat) (a:Array Bool) (u:Nat→Value) (w:World),dv n a=f→HeadInv md l.toArray n a→SI K g E R (fun j=>a.getD j false) u w→
  wpAny P md l.toArray Q (f+(l.length-n)) a (aK m (l.take n) u 0) w:=by
 simp only[lu,Bool.and_eq_true,Bool.or_eq_true,decide_eq_true_eq]at hB;obtain⟨⟨⟨hn,t⟩,I⟩,hd⟩:=hB;have W:n≤l.length:=by omega
 intro f
 induction f with
 |zero=>
  intro a u w hf c T;have k:∀j,j<n→a.getD j false=true:=by
   intro j N;have h0:(List.range n).countP (fun j=> !a.getD j false)=0:=hf;rw[List.countP_eq_zero]at h0;simpa using h0 j (List.mem_range.2 N)
  have A:a=eP n l.length:=by
   apply Array.ext
   ·simp[eP,c.size];omega
   ·intro i L h2;have a3:a.size=l.length:=by rw[c.size];simp
    have h3:i<(List.replicate n true++List.replicate (l.length-n) false).length:=by simpa [eP]using h2
    show a[i]=(List.replicate n true++List.replicate (l.length-n) false)[i]'h3;by_cases y:i<n
    ·rw[List.getElem_append_left (by simpa using y),List.getElem_replicate];have:=k i y;simpa [L]using this
    ·rw[List.getElem_append_right (by simpa using y),List.getElem_replicate];have:=c.tail i (by omega) (by simp;omega);simpa [L]using this
  rw[Nat.zero_add];have:=wpAny_of_seq (P:=P) (ops:=l.toArray) (md:=md) (Q':=Q) (l.drop n) n a (aK m (l.take n) u 0) w (fun j=>by simp[List.getElem?_drop])
   (by rw[List.length_drop,A];exact I) (C _ u w k T)
  rwa [List.length_drop]at this
 |succ f ih=>
  intro a u w hf c T;have a3:a.size=l.length:=by rw[c.size];simp
  obtain⟨i0,F,q⟩:∃i,i<n∧a.getD i false=false:=by
   apply aG;intro X;have:dv n a=0:=by
    unfold dv;rw[List.countP_eq_zero];intro j N;have:a.getD j false=true:=by
     cases h:a.getD j false with
     |true=>rfl
     |false=>exact absurd ⟨j,List.mem_range.1 N,h⟩ X
    rw[this]
    decide
   omega
  rw[show f+1+(l.length-n)=(f+(l.length-n))+1 by omega];refine⟨fun h=>absurd h (kJ t (by simpa using W) i0 i0 rfl F q (by omega) (fun j N=>by omega)),fun i y=> ?_⟩;obtain⟨p,o,Y,x⟩:=mem_ready.1 y;have a4:i<l.length:=by have:=(av.1 Y).1;simpa using this
  have z:i<n:=by
   rcases hn with hn|⟨⟨hn,hs⟩,hc⟩
   ·omega
   ·exact(Nat.lt_or_ge i n).resolve_right fun h=>tail_waits hs hc (by simpa using hn) c _ i0 rfl F (getD_in (by omega) q) i h y
  have G:(l.take n)[i]?=some o:=by
   rw[List.getElem?_take_of_lt z];simpa using Y
  have b:=tF Z a2 _ 0 i o B G (fun j=>a.getD j false) u w (by rw[Nat.zero_add];exact getD_both p) (fun e he U=>x e (by simpa using he) U) T;simp only[Nat.zero_add]at b;have J:(fun j=>(a.setIfInBounds i true).getD j false)=pd (fun j=>a.getD j false) i:=by
   funext j;unfold pd;split
   ·rename_i e;subst e;simp[show j<a.size by omega]
   ·rename_i e;rw[getD_set_ne false (by omega)]
  have D:∀v w',(∃O,(o.dst=none∨O=v)∧SI K g E R (pd (fun j=>a.getD j false) i) (qD u i O) w')→wpAny P md l.toArray Q (f+(l.length-n)) (a.setIfInBounds i true) ((aK m (l.take n) u 0).put o.dst v) w':=by
   rintro v w' ⟨O,a1,hv⟩;have H:(aK m (l.take n) u 0).put o.dst v=(aK m (l.take n) u 0).put o.dst O:=by
    rcases a1 with h|h
    ·rw[h];rfl
    ·rw[h]
   rw[H,iM (l.take n) m u 0 i o hd G,Nat.zero_add];refine ih _ _ _ ?_ (c.set y z) (by rw[J];exact hv);have:=jg z (by omega:i<a.size) (getD_both p);omega
  unfold wpOp;simp only[Y];split
  ·rename_i hw;rw[if_pos hw]at b;exact .inl (jv b fun v w' L=>D v w' L)
  ·rename_i hw;rw[if_neg hw]at b;exact D _ _ ⟨_,.inr rfl,b⟩
def CL (vs:List cT) (ps:List Nat) (E:Nat→dm) (u:Nat→Value) (w:World):Nat→Prop
 |0=>True
 |k+1=>CL vs ps E u w k∧if bN vs ps k=1 then(∃b:Nat,u k= .pointer (some b))else(E k).R (u k) w
def GO (w0:World) (u:Nat→Value) (w:World) (n:Nat):List cT→Prop
 | []=>True
 |r::vs=>(∃b:Nat,u r.op= .pointer (some b)∧w0.heap.size≤b∧w.heap[b]?=some (.cells (if r.st<n then(u r.st).cells else r.zs) r.ty))∧(vs.foldr (fun s q=>u r.op≠u s.op∧q) True)∧GO w0 u w n vs
def GP (u:Nat→Value) (w:World) (n:Nat):List cr→Prop
 | []=>True
 |r::l=>w.heap[r.blk]?=some (.cells (if r.st<n then(u r.st).cells else r.zs) r.ty)∧GP u w n l
theorem zl {e:List cT} {a:List cr} {E:Nat→dm} {i:World} {d:Nat→Bool} {u:Nat→Value} {w:World} (h:SI e a E i d u w):∀n,(∀j,j<n→d j=true)→CL e (a.map cr.st) E u w n
 |0,_=>trivial
 |n+1,hd=>⟨zl h n (fun j k=>hd j (by omega)),by
  split
  ·rename_i hk;obtain⟨r,g,c⟩:=vB hk;obtain⟨b,f,_⟩:=h.var r g (by rw[c];exact hd n (by omega));exact⟨b,by rw[←c];exact f⟩
  ·rename_i hk;exact h.val _ hk (hd n (by omega))⟩
theorem zn {g:List cT} {o:List cr} {E:Nat→dm} {t:World} {d:Nat→Bool} {u:Nat→Value} {w:World} {n:Nat} (h:SI g o E t d u w) (k:∀j,j<n→d j=true) (a:∀r∈g,r.op<n∧r.st<n):∀f:List cT,(∀r∈f,r∈g)→(f.map cT.op).Nodup→GO t u w n f
 | [],_,_=>trivial
 |r::f,hs,hn=>by
  simp only[List.map_cons,List.nodup_cons]at hn;have i:=hs r (by simp);refine⟨?_,?_,zn h k a f (fun s c=>hs s (by simp[c])) hn.2⟩
  ·obtain⟨b,v,x,p⟩:=h.var r i (k _ (a r i).1);rw[k _ (a r i).2]at p;exact⟨b,v,x,by rw[if_pos (a r i).2];simpa using p⟩
  ·have:∀l:List cT,(∀s∈l,s∈f)→l.foldr (fun s q=>u r.op≠u s.op∧q) True:=by
    intro l
    induction l with
    |nil=>intro _;trivial
    |cons s l ih=>
     intro m;refine⟨h.apart r i s (hs s (by simp[m s (by simp)])) (fun e=>hn.1 (List.mem_map.2 ⟨s,m s (by simp),e.symm⟩)) (k _ (a r i).1) (k _ (a s (hs s (by simp[m s (by simp)]))).1),ih (fun s c=>m s (by simp[c]))⟩
   exact this f (fun s c=>c)
theorem zo {i:List cT} {b:List cr} {E:Nat→dm} {k:World} {d:Nat→Bool} {u:Nat→Value} {w:World} {n:Nat} (h:SI i b E k d u w) (g:∀j,j<n→d j=true) (a:∀r∈b,r.st<n):∀l:List cr,(∀r∈l,r∈b)→GP u w n l
 | [],_=>trivial
 |r::l,hs=>by
  refine⟨?_,zo h g a l (fun s e=>hs s (by simp[e]))⟩;have c:=hs r (by simp);obtain⟨_,f⟩:=h.old r c;rw[g _ (a r c)]at f;rw[if_pos (a r c)];simpa using f
def CM (vs:List cT) (ps:List Nat) (n:Nat):Bool:=(vs.all fun r=>decide (r.op<n)&&decide (r.st<n))&&ps.all fun p=>decide (p<n)
theorem vE {a:List cT} {ps:List Nat} {E:Nat→dm} {u:Nat→Value} {w:World}:∀{n:Nat},CL a ps E u w n→∀i,i<n→bN a ps i≠1→(E i).R (u i) w
 |0,_,i,hi,_=>by omega
 |n+1,h,i,hi,hk=>by
  by_cases e:i=n
  ·subst e;have:=h.2;rw[if_neg hk]at this;exact this
  ·exact vE h.1 i (by omega) hk
theorem dd {I:Nat} {Q:Exit→Act→World→Prop} {a:Act} {w:World} {l:List Oper} (n:Nat) (e:List cT) (b:List cr) (G:P.follows .mixedOrders=true) (B:lu .any l n=true) (F:jM .any (l.take n) 0=true) (o:nw e (b.map cr.st)=true) (f:CM e (b.map cr.st) n=true)
 (p:∀r∈b,r.blk<w.heap.size∧w.heap[r.blk]?=some (.cells r.zs r.ty)) (A:∀r∈b,∀s∈b,r.st≠s.st→r.blk≠s.blk)
 (h:il P .any l.toArray w e b (fun u=>aK a (l.take n) u 0)
  (fun E=>∀(u:Nat→Value) (w':World),lB b w w'→CL e (b.map cr.st) E u w' n→GO w u w' n e→GP u w' n b→wpList P l.toArray Q (l.drop n) (aK a (l.take n) u 0) w') (l.take n) 0 (fun _=>dm.any)):(Code.region I l.toArray true).wp P Q a w:=by
 obtain⟨E,_,k,m⟩:=tE _ _ _ F h;refine wp_region_any G ?_;have q:HeadInv .any l.toArray n (Array.replicate l.toArray.size false):=
  ⟨by simp,fun j J _ C=>(by rw[getD_replicate_false]at C;cases C),fun t _ H=>getD_in (by simpa using H) (getD_replicate_false _ _)⟩
 have hn:n≤l.length:=by
  simp only[lu,Bool.and_eq_true,Bool.or_eq_true,decide_eq_true_eq]at B;omega
 have D:dv n (Array.replicate l.toArray.size false)=n:=by
  unfold dv;rw[List.countP_eq_length.2]
  ·simp
  ·intro j _;rw[getD_replicate_false];rfl
 have z:(fun j=>(Array.replicate l.toArray.size false).getD j false)=fun _=>false:=by
  funext j;exact getD_replicate_false _ _
 have g:SI e b E w (fun j=>(Array.replicate l.toArray.size false).getD j false) (fun j=>xn a (l.take n) j) {w with drawn:=w.drawn+1}:=by
  rw[z];exact⟨⟨rfl,rfl,rfl,aB _,fun _ _ _=>rfl⟩,fun i _ h=>(by cases h),fun r _ h=>(by cases h),fun r c=>p r c,fun r _ s _ _ h=>(by cases h),fun i _ h=>(by cases h),fun i _ h=>(by cases h),fun r _ h=>(by cases h)⟩
 simp only[CM,Bool.and_eq_true]at f;have v:∀r∈e,r.op<n∧r.st<n:=fun r c=>by
  have:=List.all_eq_true.1 f.1 r c;simpa using this
 have x:∀r∈b,r.st<n:=fun r c=>by
  have:=List.all_eq_true.1 f.2 r.st (List.mem_map.2 ⟨r,c,rfl⟩);simpa using this
 have:=Av o A B k (fun d u w' y g=>m u w' g.below (zl g n y) (zn g y v e (fun r c=>c) (List.nodup_append.1 (of_decide_eq_true o)).1) (zo g y x b (fun r c=>c))) n _ _ {w with drawn:=w.drawn+1} D q g;rw[ly a (l.take n) 0 _ (fun j=>by rw[Nat.zero_add]),show n+(l.length-n)=l.toArray.size by simp;omega]at this;exact this
section
variable {ops:Array Oper} {w0:World} {vs:List cT} {pre:List cr} {fr:(Nat→Value)→Act} {fin:(Nat→dm)→Prop} {o:Oper} {l:List Oper} {k:Nat} {E:Nat→dm}
theorem dE {x:Value} (e:bN vs (pre.map cr.st) k=0)
 (h:∀(u:Nat→Value) (w:World),lB pre w0 w→cL md vs (pre.map cr.st) E w0 u w o.after.toList→if au o (yielded ops (fr u).tmps)=true then dh P o (fr u) w (fun v w'=>Below w.heap.size w w'∧v=x)else undef=x)
 (f:il P md ops w0 vs pre fr fin l (k+1) (dK E k (dm.is x))):il P md ops w0 vs pre fr fin (o::l) k E:=by
 refine⟨dm.is x,fun u w a d=> ?_,f⟩;rw[e];have c:=h u w a d;show if _ then _ else _
 split at c
 ·rename_i hw;rw[if_pos hw];exact dY c fun v w' ⟨g1,g2⟩=>⟨g1,g2,fun b a=>a.elim⟩
 ·rename_i hw;rw[if_neg hw];exact⟨c,fun b a=>a⟩
theorem dZ (r:cT) (c:r∈vs) (b:r.op=k)
 (h:∀(u:Nat→Value) (w:World),lB pre w0 w→au o (yielded ops (fr u).tmps)=true∧dh P o (fr u) w (fun v w'=>v= .pointer (some w.heap.size)∧w'=w.alloc (.cells r.zs r.ty)))
 (f:il P md ops w0 vs pre fr fin l (k+1) (dK E k dm.any)):il P md ops w0 vs pre fr fin (o::l) k E:=by
 refine⟨dm.any,fun u w d g=> ?_,f⟩;have e:bN vs (pre.map cr.st) k=1:=by rw[←b];exact us c
 rw[e];have a:=h u w d;exact⟨a.1,r,c,b,a.2⟩
theorem cC {cs:Array Value} (r:cT) (j:r∈vs) (i:r.st=k) (f:bN vs (pre.map cr.st) k=2) (a:o.dst=none) (n:gt md o r.op=true)
 (h:∀(u:Nat→Value) (w:World),lB pre w0 w→cL md vs (pre.map cr.st) E w0 u w o.after.toList→au o (yielded ops (fr u).tmps)=true∧∀b:Nat,u r.op= .pointer (some b)→w0.heap.size≤b→w.heap[b]?=some (.cells r.zs r.ty)→dh P o (fr u) w (fun _ w'=>bL w w' b cs r.ty))
 (g:il P md ops w0 vs pre fr fin l (k+1) (dK E k (dm.is (.agg cs)))):il P md ops w0 vs pre fr fin (o::l) k E:=by
 refine⟨dm.is (.agg cs),fun u w c e=> ?_,g⟩;rw[f];have d:=h u w c e;exact⟨a,d.1,.inl ⟨r,j,i,n,fun b p q s=>dY (d.2 b p q s) fun v w' m=>⟨.agg cs,m,rfl,fun b c=>c.elim⟩⟩⟩
theorem vF {cs:Array Value} (r:cr) (j:r∈pre) (i:r.st=k) (f:bN vs (pre.map cr.st) k=2) (a:o.dst=none)
 (h:∀(u:Nat→Value) (w:World),lB pre w0 w→cL md vs (pre.map cr.st) E w0 u w o.after.toList→au o (yielded ops (fr u).tmps)=true∧(w.heap[r.blk]?=some (.cells r.zs r.ty)→dh P o (fr u) w (fun _ w'=>bL w w' r.blk cs r.ty)))
 (g:il P md ops w0 vs pre fr fin l (k+1) (dK E k (dm.is (.agg cs)))):il P md ops w0 vs pre fr fin (o::l) k E:=by
 refine⟨dm.is (.agg cs),fun u w c e=> ?_,g⟩;rw[f];have d:=h u w c e;exact⟨a,d.1,.inr ⟨r,j,i,fun n=>dY (d.2 n) fun v w' m=>⟨.agg cs,m,rfl,fun b c=>c.elim⟩⟩⟩
end
end
theorem eE {a:List cT} {ps:List Nat} {E:Nat→dm} {u:Nat→Value} {w:World} {n:Nat} (h:CL a ps E u w n) (i:Nat) (b:i<n:=by decide) (c:bN a ps i≠1:=by simp[bN]):(E i).R (u i) w:=vE h i b c
theorem kf {W w':World} {b:Nat} {c:Obj} (a:Below W.heap.size W w') (h:W.heap[b]?=some c:=by
 first|exact bf _ _ _ (by first|rfl|(simp;done))|exact(aV _ _ _ (by simp<;>omega)).trans (bf _ _ _ (by first|rfl|(simp;done)))|exact(aV _ _ _ (by simp<;>omega)).trans ((aV _ _ _ (by simp<;>omega)).trans (bf _ _ _ (by first|rfl|(simp;done))))|exact(aV _ _ _ (by simp<;>omega)).trans ((aV _ _ _ (by simp<;>omega)).trans ((aV _ _ _ (by simp<;>omega)).trans (bf _ _ _ (by first|rfl|(simp;done))))))
 :w'.heap[b]?=some c:=(a.block b (av.1 h).1).trans h
theorem fY {w:World} {b:Nat} {a cs:Array Value} {c:TypeId} (h:w.heap[b]?=some (.cells a c)):bL w (w.setRow b cs) b cs c:=
 ⟨rfl,rfl,rfl,size_setRow _ _ _,fun k d=>setRow_other w b k _ d,setRow_heap w b a cs c _ h⟩
theorem bL.below {B b:Nat} {a w w':World} {cs:Array Value} {t:TypeId} (h:Below B a w) (c:bL w w' b cs t) (e:B≤b):Below B a w':=
 ⟨c.os.trans h.os,c.tape.trans h.tape,c.output.trans h.output,by rw[c.size];exact h.size,fun k d=>(c.other k (by omega)).trans (h.block k d)⟩
theorem lm {P:Program} {w:World} {t:TypeId} {b k:Nat} {a cs:Array Value} {g:TypeId} (e:(P.info? t).map (fun i=>i.size)=some k) (m:cs.size=k) (o:a.size=k) (j:cs.toList.all (fun v=>v.oneCell')=true)
 (h:w.heap[b]?=some (.cells a g)):(Instr.storeAt t (.pointer (some b)) (.agg cs)).run P w= .ok () (w.setRow b cs):=by
 obtain⟨i,d,f⟩:∃i,P.info? t=some i∧i.size=k:=by
  cases d:P.info? t with
  |none=>rw[d]at e;cases e
  |some i=>rw[d]at e;exact⟨i,rfl,by simpa using e⟩
 have c:=run_storeCells_at (P:=P) b 0 g cs.toList 0 a w h (by simp;omega) (fun v n=>by have:=List.all_eq_true.1 j v n;simpa using this);have l:(a.toList.take (0+0)++cs.toList++a.toList.drop (0+0+cs.toList.length)).toArray=cs:=by
  have:a.toList.drop (0+0+cs.toList.length)= []:=List.drop_eq_nil_of_le (by simp;omega);rw[this];simp
 rw[l]at c;simp[Instr.storeAt,Instr.sureAddr,storeVar,sizeOf,typeInfo,d,f,Value.cells,m,c]
theorem bB {P:Program} {ops:Array Oper} {c:List Oper} {a:Act} {w:World} {Q:Exit→Act→World→Prop} {p x:Tmp} {T:TypeId} {g:String} {d:Array Edge} (t:TypeId) (b k:Nat) (cs:Array Value) (j:TypeId)
 (o:(P.info? t).map (fun i=>i.size)=some k) (q:a.eval (.tmp p)= .pointer (some b)) (u:a.eval (.tmp x)= .agg cs) (s:cs.size=k) (m:cs.toList.all (fun v=>v.oneCell')=true)
 (f:∃e,w.heap[b]?=some (.cells e j)∧e.size=k) (h:∀w',bL w w' b cs j→wpList P ops Q c a w'):
 wpList P ops Q (⟨none,.store t (.tmp p) (.tmp x),T,g,d,none⟩::c) a w:=by
 obtain⟨e,f,l⟩:=f;refine wpList_plain rfl fun K n=> ?_;have r:=lm (P:=P) o s l m f;unfold Oper.wp execOp;simp only[q,u];simp[r,Oper.upon];exact n _ _ (h _ (fY f))
theorem iY {P:Program} {w:World} {t:TypeId} {b k:Nat} {cs:Array Value} {g:TypeId} {fs:Array Field} (m:P.underlying t=some (.struct fs)) (d:(P.info? t).map (fun i=>i.size)=some k) (l:cs.size=k)
 (h:w.heap[b]?=some (.cells cs g)):(loadVar t ⟨b,0,none⟩).run P w= .ok (.agg cs) w:=by
 obtain⟨i,c,e⟩:∃i,P.info? t=some i∧i.size=k:=by
  cases c:P.info? t with
  |none=>rw[c]at d;cases d
  |some i=>rw[c]at d;exact⟨i,rfl,by simpa using d⟩
 have f:=run_loadCells_list (P:=P) w ⟨b,0,none⟩ cs.toList (fun j v n=>by
  have a:(⟨b,0,none⟩:Addr).add j=⟨b,j,none⟩:=by unfold Addr.add;split<;>simp_all
  rw[a,cell_of_row w b j cs g (0,0) h];simpa using n)
 rw[show cs.toList.length=k by simpa using l]at f;simp[loadVar,isAgg,run_underlying m,sizeOf,typeInfo,c,e,f]
theorem bA {P:Program} {ops:Array Oper} {c:List Oper} {a:Act} {w:World} {Q:Exit→Act→World→Prop} {p d:Tmp} {T:TypeId} {f:String} {e:Array Edge} (t:TypeId) (b k:Nat) (cs:Array Value) (r:TypeId) (fs:Array Field)
 (q:P.underlying t=some (.struct fs)) (l:(P.info? t).map (fun i=>i.size)=some k) (n:a.eval (.tmp p)= .pointer (some b)) (o:cs.size=k)
 (j:w.heap[b]?=some (.cells cs r)) (h:wpList P ops Q c (a.put (some d) (.agg cs)) w):
 wpList P ops Q (⟨some d,.load t (.tmp p),T,f,e,none⟩::c) a w:=by
 refine wpList_plain rfl fun K g=> ?_;have m:=iY (P:=P) q l o j;unfold Oper.wp execOp;simp only[n];simp[Instr.loadAt,Instr.sureAddr,m,Oper.upon];exact g _ _ h
theorem di {P:Program} {e:Func} {c s:Tmp} {T:TypeId} {b k:Nat} {cs:Array Value} {o:TypeId} {fs:Array Field} {a:Array Value} {w:World} (l:e.results=#[.cell c T,.tmp s]) (j:a.getD c undef= .pointer (some b))
 (h:w.heap[b]?=some (.cells cs o)) (n:P.underlying T=some (.struct fs)) (f:(P.info? T).map (fun i=>i.size)=some k) (m:cs.size=k):(results e a).run P w= .ok (.tuple #[.agg cs,a.getD s undef]) w:=by
 have g:=iY (P:=P) n f m h;have d:a[c]?.getD undef= .pointer (some b):=by simpa using j
 simp[results,l,d,asAddr,g]
theorem gE {P:Program} {e:Func} {c:Tmp} {T:TypeId} {b k:Nat} {cs:Array Value} {o:TypeId} {fs:Array Field} {a:Array Value} {w:World} (l:e.results=#[.cell c T]) (j:a.getD c undef= .pointer (some b))
 (h:w.heap[b]?=some (.cells cs o)) (n:P.underlying T=some (.struct fs)) (f:(P.info? T).map (fun i=>i.size)=some k) (m:cs.size=k):(results e a).run P w= .ok (.agg cs) w:=by
 have g:=iY (P:=P) n f m h;have d:a[c]?.getD undef= .pointer (some b):=by simpa using j
 simp[results,l,d,asAddr,g]
def gH (f:Nat→Bool):Nat→Bool
 |0=>true
 |n+1=>gH f n&&f n
theorem eQ {f:Nat→Bool}:∀{n:Nat},gH f n=true↔∀i,i<n→f i=true
 |0=>⟨fun _ i h=>by omega,fun _=>rfl⟩
 |n+1=>by
  unfold gH;rw[Bool.and_eq_true,eQ (n:=n)];constructor
  ·rintro ⟨a,b⟩ i c;by_cases e:i=n
   ·subst e;exact b
   ·exact a i (by omega)
  ·intro h;exact⟨fun i c=>h i (by omega),h n (by omega)⟩
theorem lE {f:Nat→Bool} {n i:Nat} (a:i<n) (h:f i=false):gH f n=false:=by
 cases e:gH f n with
 |false=>rfl
 |true=>rw[eQ.1 e i a]at h;cases h
def ew (w:World) (v:Value) (n:Nat) (f:Nat→Int):Prop:=cE w v n 1 (fun i _=> .int .i64 (f i))
theorem ew.below {w w':World} {v:Value} {n:Nat} {f:Nat→Int} (h:ew w v n f) (a:Below w.heap.size w w'):ew w' v n f:=cE.below h a
theorem ew.form {w:World} {v:Value} {n:Nat} {f:Nat→Int} (h:ew w v n f):∃(oa:Option Addr) (cap:Nat),v= .slice oa n cap∧n≤9223372036854775807∧
 ∀i,i<n→∃b a,oa=some ⟨b,a,none⟩∧b<w.heap.size∧∀k,k<n→w.cell? ⟨b,a+k,none⟩=some (f k):=by
 obtain⟨oa,cap,d,m,o,g⟩:=h;refine⟨oa,cap,d,by omega,fun i p=> ?_⟩;obtain⟨b,a,e,c,j⟩:=g (by omega);exact⟨b,a,e,c,fun k l=>by have:=j k 0 l (by decide);simpa using this⟩
theorem rp (w:World) (f:Nat→Int):ew w (.slice none 0 0) 0 f:=⟨none,0,rfl,by omega,by omega,fun h=>by omega⟩
def jN (B:Nat) (v:Value):Prop:=∀b,v.ownBlock=some b→B≤b
theorem jN.mono {B C:Nat} {v:Value} (h:jN B v) (c:C≤B):jN C v:=fun b a=>bW c (h b a)
theorem bU {w:World} {base:Nat} {e:TypeId} {size:Nat} {v:Value} {n:Nat} {c:List Value} (h:w.ownsRow base e size v n c):jN base v:=fun b a=>(h.lt b a).1
theorem fv {w:World} {base:Nat} {e:TypeId} {size:Nat} {v:Value} {n:Nat} {k:List Value} (h:w.ownsRow base e size v n k) (f:Nat→Nat→Value) (s:0<size) (o:∀i j,i<n→j<size→k[i*size+j]?=some (f i j)):cE w v n size f:=by
 rcases h.2 with⟨rfl,rfl⟩|⟨g,cap,l,rfl,t,p,c,b,m,d⟩
 ·exact⟨none,0,rfl,by omega,by omega,fun h=>by omega⟩
 ·refine⟨some ⟨g,0,none⟩,cap,rfl,c,by simpa [maxLen]using b,fun _=>⟨g,0,rfl,(av.1 p).1,fun i j q r=> ?_⟩⟩;have:=h.cells (g:=g) rfl _ _ (o i j q r);have a:(⟨g,0,none⟩:Addr).add (i*size+j)=⟨g,0+(i*size+j),none⟩:=by unfold Addr.add;split<;>simp_all
  rw[a]at this;exact this
def ge (g:Nat→Value) (n:Nat):List Value:=(List.range n).map g
theorem gu (g:Nat→Value) (n:Nat):(ge g n).length=n:=by simp[ge]
theorem iz (g:Nat→Value) (n i:Nat) (h:i<n):(ge g n)[i]?=some (g i):=by simp[ge,h]
theorem tG {w:World} {base:Nat} {e:TypeId} {v:Value} {n:Nat} {f:Nat→Int} (h:w.ownsRow base e 1 v n (ge (fun i=> .int .i64 (f i)) n)):ew w v n f:=
 fv h _ (by decide) fun i j a b=>by
  have:j=0:=by omega
  subst this;rw[show i*1+0=i by omega,iz _ _ _ a]
def dm.built (n:Nat) (xs:Array Value) (t:TypeId):dm where
 R:=fun v w=>∃g:Nat,v= .slice (some ⟨g,0,none⟩) n n∧w.heap[g]?=some (.cells xs t)
 F:=fun v b=>v.ownBlock=some b
 grow:=fun v w w' hb ⟨g,h1,h2⟩=>⟨g,h1,by rw[hb.block g (av.1 h2).1];exact h2⟩
 kept:=fun v w w' b cs t hs hn ⟨g,h1,h2⟩=>⟨g,h1,by rw[hs.other g (fun e=>hn (by rw[h1,e];rfl))];exact h2⟩
 lt:=fun v w b ⟨g,h1,h2⟩ hf=>by
  subst h1;have:g=b:=by simpa [Value.ownBlock]using hf
  rw[←this];exact(av.1 h2).1
theorem ki (n:Nat) (a:Array Value) (t:TypeId) (w:World):(dm.built n a t).R (.slice (some ⟨w.heap.size,0,none⟩) n n) (w.alloc (.cells a t)):=⟨_,rfl,(MapKept.heap_alloc w _).1⟩
end
section
open Go.RowKit
def fD (s:ByteArray) (i:Nat):Nat:=if h:i<s.size then(s[i]'h).toNat else 0
theorem mi (s:ByteArray) (i:Nat) (h:i<s.size):fD s i=(s[i]'h).toNat:=dif_pos h
def im (c:Nat):Prop:=(65≤c∧c≤90)∨(97≤c∧c≤122)
def iN (c:Nat):Prop:=(48≤c∧c≤57)∨c=95∨c=45
def qE (s:ByteArray) (i:Nat):Prop:=im (fD s i)∨(0<i∧iN (fD s i))
instance Ic (s:ByteArray) (i:Nat):Decidable (qE s i):=by unfold qE im iN;exact inferInstance
def pg (s:ByteArray):Prop:=1≤s.size∧s.size≤16∧∀i,i<s.size→qE s i
instance GQ (s:ByteArray):Decidable (pg s):=by unfold pg;exact inferInstance
def dM (s:ByteArray):Bool:=decide (pg s)
theorem kM (w:World) (s:ByteArray) (p:Nat):Below w.heap.size w (w.iter s p):=(ah _ _).alloc (aB _) _
theorem ph {P:Program} (w:World) (s:ByteArray) (p c:Nat) (b:TypeId) (h:p<s.size) (a:fD s p=c) (d:c<128):
 (Instr.next (.pointer (some w.heap.size)) true b).run P (w.iter s p)= .ok (.tuple #[.bool true,p,.int .i32 c]) (w.iter s (p+1)):=by
 rw[mi s p h]at a;rw[run_next_ascii w s p b h (by omega),a]
theorem Aw {P:Program} (w:World) (s:ByteArray) (p:Nat) (b:TypeId) (h:p<s.size) (a:128≤fD s p):
 ∃(r q:Nat),128≤r∧r≤2147483647∧(Instr.next (.pointer (some w.heap.size)) true b).run P (w.iter s p)= .ok (.tuple #[.bool true,p,.int .i32 r]) (w.iter s q):=by
 rw[mi s p h]at a;exact⟨_,_,(decode_high s p h a).1,decode_le s p,run_next_any w s p b h⟩
theorem xA (s:ByteArray) (w:World) (h:pg s):
 Gv 117 #[.string s] (.bool true) w:=by
 obtain⟨l,j,b⟩:=h;have m:s.toList.isEmpty=false:=by
  rw[ByteArray.toList_eq];simp;intro e;have:s.size=0:=by simp[ByteArray.size,e]
  omega
 have k:decide (16<(s.size:Int))=false:=df;have H:=ar b;clear b;go_enter func117,ntmps117;go_wp2;go_loopw[] (fun wr=>∃p,p≤s.size∧wr=w.iter s p) (fun wr=>s.size-wr.iterPos w.heap.size)
 case atStart=>exact⟨0,by omega,rfl⟩
 case round=>
  obtain⟨p,-,rfl⟩:=hrel;by_cases hlt:p<s.size
  ·have a:=H.o p hlt;obtain⟨c,f⟩:=oE (fD s p);unfold qE at a;rw[f]at a;have d:c<128:=by unfold im iN at a;omega
   have g:=fun i=>ph (P:=prog) w s p c i hlt f d;clear f;rcases a with(⟨k0,k1⟩|⟨k0,k1⟩)|⟨k2,(⟨k0,k1⟩|k0|k0)⟩
   all_goals (try subst k0)
   all_goals go_wp2
   all_goals go_roundw
   all_goals first|(case rel=>exact⟨p+1,by omega,rfl⟩)|(case measure=>simp;omega)
  ·have g:=fun i=>run_next_end (P:=prog) w s p i hlt;go_wp2
   go_ret
   exact⟨rfl,kM _ _ _⟩
theorem nZ {s:ByteArray} (h:s.size=0):s.toList= []:=by
 rw[ByteArray.toList_eq];obtain⟨⟨l⟩⟩:=s;simp[ByteArray.size]at h⊢
 exact h
theorem pV {s:ByteArray} (h:1≤s.size):s.toList.isEmpty=false:=by
 rw[ByteArray.toList_eq];simp;intro e;have:s.size=0:=by simp[ByteArray.size,e]
 omega
theorem Ax (s:ByteArray) (w:World) (E:s.size≤9223372036854775807) (h:¬pg s):
 Gv 117 #[.string s] (.bool false) w:=by
 have v:=ar h;clear h;by_cases h0:s.size=0
 ·have y:=nZ h0;clear h0;go_enter func117,ntmps117;go_wp2;go_returns;exact⟨rfl,by go_grown⟩
 have y:=pV (s:=s) (by omega);by_cases h16:16<s.size
 ·have o:decide (16<(s.size:Int))=true:=dt;go_enter func117,ntmps117;go_wp2;go_returns;exact⟨rfl,by go_grown⟩
 have o:decide (16<(s.size:Int))=false:=df;have x:1≤s.size:=by omega
 have n:s.size≤16:=by omega
 clear h0 h16;go_enter func117,ntmps117;go_wp2;go_loopw[] (fun wr=>∃p,p≤s.size∧wr=w.iter s p∧Hi (∀i,i<p→qE s i)) (fun wr=>s.size-wr.iterPos w.heap.size)
 case atStart=>exact⟨0,by omega,rfl,fun i t=>by omega⟩
 case round=>
  obtain⟨p,D,rfl,d⟩:=hrel;by_cases hlt:p<s.size
  ·obtain⟨c,j⟩:=oE (fD s p);by_cases hok:qE s p
   ·have g:Hi (∀i,i<p+1→qE s i):=fun i t=>by
     by_cases e:i=p
     ·subst e;exact hok
     ·exact d.o i (by omega)
    unfold qE at hok;rw[j]at hok;have a:c<128:=by unfold im iN at hok;omega
    have l:=fun k=>ph (P:=prog) w s p c k hlt j a;clear j;rcases hok with(⟨b,m⟩|⟨b,m⟩)|⟨u,(⟨b,m⟩|b|b)⟩
    all_goals (try subst b)
    all_goals go_wp2
    all_goals go_roundw
    all_goals first|(case rel=>exact⟨p+1,by omega,rfl,g⟩)|(case measure=>simp;omega)
   ·unfold qE im iN at hok;rw[j]at hok;by_cases a:c<128
    ·have l:=fun k=>ph (P:=prog) w s p c k hlt j a;clear j;by_cases hp0:p=0
     ·subst hp0;have m:¬(65≤c∧c≤90):=fun h=>hok (.inl (.inl h));have u:¬(97≤c∧c≤122):=fun h=>hok (.inl (.inr h));clear hok;go_wp2
      all_goals first|(exfalso;omega)|(go_returns;exact⟨rfl,kM _ _ _⟩)|(exfalso;simp only[Bool.not_eq_false',Bool.not_eq_true',decide_eq_true_eq,decide_eq_false_iff_not,beq_eq_false_iff_ne,beq_iff_eq]at*;omega)
     ·have b:0<p:=by omega
      have m:¬(65≤c∧c≤90):=fun h=>hok (.inl (.inl h));have u:¬(97≤c∧c≤122):=fun h=>hok (.inl (.inr h));have F:¬(48≤c∧c≤57):=fun h=>hok (.inr ⟨b,.inl h⟩);have B:((c:Int)==95)=false:=by simp;intro h;exact hok (.inr ⟨b,.inr (.inl (by omega))⟩)
      have C:((c:Int)==45)=false:=by simp;intro h;exact hok (.inr ⟨b,.inr (.inr (by omega))⟩)
      clear hok hp0;go_wp2
      all_goals first|(exfalso;omega)|(go_returns;exact⟨rfl,kM _ _ _⟩)|(exfalso;simp only[Bool.not_eq_false',Bool.not_eq_true',decide_eq_true_eq,decide_eq_false_iff_not,beq_eq_false_iff_ne,beq_iff_eq]at*;omega)
    ·obtain⟨r,q,z,A,f⟩:=Aw (P:=prog) w s p 21 hlt (by omega);have l:∀k,(Instr.next (.pointer (some w.heap.size)) true k).run prog (w.iter s p)= .ok (.tuple #[.bool true,p,.int .i32 r]) (w.iter s q):=fun k=>f;clear f j hok;have B:((r:Int)==95)=false:=by simp;omega
     have C:((r:Int)==45)=false:=by simp;omega
     go_wp2
     all_goals first|(exfalso;omega)|(go_returns;exact⟨rfl,kM _ _ _⟩)|(exfalso;simp only[Bool.not_eq_false',Bool.not_eq_true',decide_eq_true_eq,decide_eq_false_iff_not,beq_eq_false_iff_ne,beq_iff_eq]at*;omega)
  ·exact absurd ⟨x,n,fun i t=>d.o i (by omega)⟩ v.o
theorem jw (s:ByteArray) (w:World) (a:s.size≤9223372036854775807):
 Gv 117 #[.string s] (.bool (dM s)) w:=by
 by_cases h:pg s
 ·rw[show dM s=true from decide_eq_true h];exact xA s w h
 ·rw[show dM s=false from decide_eq_false h];exact Ax s w a h
theorem rq (c:Nat) (w:World) (h:im c):
 Gv 71 #[.int .u8 c] (.bool true) w:=by
 rcases h with⟨a,b⟩|⟨a,b⟩
 all_goals go_enter func71,ntmps71
 all_goals go_wp2
 all_goals go_returns
 all_goals (refine⟨?_,by go_grown⟩)
 all_goals first|rfl|(exfalso;omega)|(simp;omega)
theorem kj (c:Nat) (w:World) (h:¬im c):
 Gv 71 #[.int .u8 c] (.bool false) w:=by
 have a:¬(65≤c∧c≤90):=fun e=>h (.inl e);have b:¬(97≤c∧c≤122):=fun e=>h (.inr e);clear h;go_enter func71,ntmps71;go_wp2
 all_goals go_returns
 all_goals (refine⟨?_,by go_grown⟩)
 all_goals first|rfl|(exfalso;omega)|(simp;omega)
theorem Ay (c:Nat) (w:World) (h:48≤c∧c≤57):
 Gv 72 #[.int .u8 c] (.bool true) w:=by
 obtain⟨a,b⟩:=h;go_enter func72,ntmps72;go_wp2;go_returns;refine⟨?_,by go_grown⟩
 first|rfl|(simp;omega)
theorem rr (c:Nat) (w:World) (h:¬(48≤c∧c≤57)):
 Gv 72 #[.int .u8 c] (.bool false) w:=by
 go_enter func72,ntmps72;go_wp2
 all_goals go_returns
 all_goals (refine⟨?_,by go_grown⟩)
 all_goals first|rfl|(exfalso;omega)|(simp;omega)
theorem ny (t:TypeId) (b:prog.underlying t=some .string) (s:ByteArray) (p c:Nat) (h:p<s.size) (a:fD s p=c) (W:World):
 (Instr.index t (.string s) (.int .i64 (p:Int))).run prog W= .ok (.int .u8 c) W:=by
 rw[mi s p h]at a;subst a;simp[go_sem,b,h]
theorem vG (t:TypeId) (b:prog.underlying t=some .string) (s:ByteArray) (c:Nat) (h:0<s.size) (a:fD s 0=c) (W:World):
 (Instr.index t (.string s) (.int .i64 0)).run prog W= .ok (.int .u8 c) W:=ny t b s 0 c h a W
theorem iO (s:ByteArray) (w:World) (N:s.size≤9223372036854775807):
 Gv 26 #[.string s] (.bool (dM s)) w:=by
 have q:prog.underlying 9=some .string:=underlying9;by_cases h0:s.size=0
 ·have J:=nZ h0;have f:dM s=false:=decide_eq_false (fun h=>by have:=h.1;omega);rw[f];clear h0 f;go_enter func26,ntmps26;go_wp2;go_returns;exact⟨rfl,by go_grown⟩
 have J:=pV (s:=s) (by omega);by_cases h16:16<s.size
 ·have z:decide (16<(s.size:Int))=true:=dt;have f:dM s=false:=decide_eq_false (fun h=>by have:=h.2.1;omega);rw[f];clear f;go_enter func26,ntmps26;go_wp2;go_returns;exact⟨rfl,by go_grown⟩
 have z:decide (16<(s.size:Int))=false:=df;have I:1≤s.size:=by omega
 have u:s.size≤16:=by omega
 clear h0 h16;obtain⟨D,j⟩:=oE (fD s 0);have y:=fun W=>vG 9 q s D (by omega) j W;by_cases hl:im D
 ·have H:Hi (im (fD s 0)):=by rw[j];exact hl
  clear j;go_enter func26,ntmps26;go_wp2_with fail
  (go_at_call 71;refine(rq _ _ hl).mono ?_;rintro e K ⟨rfl,v⟩);go_wp2_with fail
  have G:=ar v;clear v y;go_loopw[3] (fun i wr=>∃p:Nat,p≤s.size∧i= .int .i64 p∧Hi (∀i,i<p→qE s i)∧Below w.heap.size w wr) (fun i _=>s.size-(intOf i).toNat)
  case atStart=>exact⟨0,by omega,rfl,fun i x=>by omega,G.o⟩
  case round=>
   obtain⟨p,L,rfl,k,E⟩:=hrel;have g:=ar E;clear E;by_cases hlt:p<s.size
   ·obtain⟨c,l⟩:=oE (fD s p);have x:=fun W=>ny 9 q s p c hlt l W;by_cases hok:qE s p
    ·have b:Hi (∀i,i<p+1→qE s i):=fun i x=>by
      by_cases e:i=p
      ·subst e;exact hok
      ·exact k.o i (by omega)
     by_cases n:im c
     ·clear l hok;go_wp2_with fail
      (go_at_call 71;refine(rq _ _ n).mono ?_;rintro e r ⟨rfl,a⟩);go_wp2;go_roundw
      case rel=>exact⟨p+1,by omega,by go_num,b,ag g.o a⟩
      case measure=>simp[intOf];omega
     ·have m:iN c:=by
       rcases hok with h|h
       ·rw[l]at h;exact absurd h n
       ·rw[l]at h;exact h.2
      clear l hok;by_cases o:48≤c∧c≤57
      ·go_wp2_with fail
       (go_at_call 71;refine(kj _ _ n).mono ?_;rintro e r ⟨rfl,a⟩);go_wp2_with fail
       (go_at_call 72;refine(Ay _ _ o).mono ?_;rintro e B ⟨rfl,d⟩);go_wp2;go_roundw
       case rel=>exact⟨p+1,by omega,by go_num,b,ag (ag g.o a) d⟩
       case measure=>simp[intOf];omega
      ·have F:c=95∨c=45:=by unfold iN at m;omega
       clear m;by_cases h95:c=95
       ·have C:((c:Int) !=95)=false:=by simp;omega
        clear F h95;go_wp2_with fail
        (go_at_call 71;refine(kj _ _ n).mono ?_;rintro e r ⟨rfl,a⟩);go_wp2_with fail
        (go_at_call 72;refine(rr _ _ o).mono ?_;rintro e B ⟨rfl,d⟩);go_wp2;go_roundw
        case rel=>exact⟨p+1,by omega,by go_num,b,ag (ag g.o a) d⟩
        case measure=>simp[intOf];omega
       ·have C:((c:Int) !=95)=true:=by simp;omega
        have b2:((c:Int) !=45)=false:=by simp;omega
        clear F h95;go_wp2_with fail
        (go_at_call 71;refine(kj _ _ n).mono ?_;rintro e r ⟨rfl,a⟩);go_wp2_with fail
        (go_at_call 72;refine(rr _ _ o).mono ?_;rintro e B ⟨rfl,d⟩);go_wp2;go_roundw
        case rel=>exact⟨p+1,by omega,by go_num,b,ag (ag g.o a) d⟩
        case measure=>simp[intOf];omega
    ·have f:dM s=false:=decide_eq_false (fun h=>hok (h.2.2 p hlt));have A:0<p:=by
      rcases Nat.eq_zero_or_pos p with e|e
      ·subst e;exact absurd (.inl H.o) hok
      ·exact e
     have n:¬im c:=fun h=>hok (.inl (by rw[l];exact h));have m:¬iN c:=fun h=>hok (.inr ⟨A,by rw[l];exact h⟩);have o:¬(48≤c∧c≤57):=fun h=>m (.inl h);have C:((c:Int) !=95)=true:=by simp;intro h;exact m (.inr (.inl (by omega)))
     have b2:((c:Int) !=45)=true:=by simp;intro h;exact m (.inr (.inr (by omega)))
     have t:=ar f;clear l hok m f;go_wp2_with fail
     (go_at_call 71;refine(kj _ _ n).mono ?_;rintro e r ⟨rfl,a⟩);go_wp2_with fail
     (go_at_call 72;refine(rr _ _ o).mono ?_;rintro e B ⟨rfl,d⟩);go_wp2;go_returns;rw[t.o];exact⟨rfl,ag (ag g.o a) d⟩
   ·have f:dM s=true:=decide_eq_true ⟨I,u,fun i x=>k.o i (by omega)⟩;have t:=ar f;clear f;go_wp2
    go_ret
    rw[t.o];exact⟨rfl,g.o⟩
 ·have f:dM s=false:=decide_eq_false (fun h=>by
   have:=h.2.2 0 (by omega);rcases this with h|h
   ·rw[j]at h;exact hl h
   ·omega)
  rw[f];clear j f;go_enter func26,ntmps26;go_wp2_with fail
  (go_at_call 71;refine(kj _ _ hl).mono ?_;rintro e K ⟨rfl,v⟩);go_wp2;go_returns;exact⟨rfl,by first|assumption|go_grown⟩
end
section
open Go Go.ChangeShapes Go.WideShapes Go.RowKit Go.ChangeAt Go.Deep Go.Joins
theorem Fo {W:World} {a:Addr} {v:Value} (h:W.cell? a=some v):a.spot=none∧a.block<W.heap.size:=by
 unfold World.cell? at h;split at h
 ·rename_i hh;split at h
  ·cases h
  ·rename_i hs;exact⟨by simpa using hs,(av.1 hh).1⟩
 ·cases h
theorem xB {W:World} {a:Addr} {c cap sz:Nat} (f:Nat→Nat→Value) (p:c≤cap) (q:cap≤maxLen) (e:0<sz) (h:∀i,i<c→∀j,j<sz→W.cell? (a.add (i*sz+j))=some (f i j)):cE W (.slice (some a) c cap) c sz f:=by
 refine⟨some a,cap,rfl,p,q,fun k=> ?_⟩;have d:=h 0 k 0 e;rw[Nat.zero_mul,Nat.zero_add]at d;obtain⟨l,m⟩:=Fo (show W.cell? a=some _ from d);obtain⟨b,g,r⟩:=a;obtain rfl:r=none:=l;exact⟨b,g,rfl,m,fun i j n o=>by rw[←Addr.add_lit];exact h i n j o⟩
theorem Az {α:Type} [Inhabited α] {n:Nat} {p:Nat→α→Prop} (h:∀i,i<n→∃x,p i x):∃g:Nat→α,∀i,i<n→p i (g i):=
 ⟨fun i=>if a:i<n then Classical.choose (h i a)else default,fun i a=>by simp only[dif_pos a];exact Classical.choose_spec (h i a)⟩
section
variable {H:Type} {enc:TypeId×Value→H} {P:Program} {w:World}
end
end
section
open Go Go.ChangeShapes Go.WideShapes Go.RowKit Go.ChangeAt
theorem bT {w:World} {b:Nat} {cs:Array Value} {t:TypeId} (h:w.heap[b]?=some (.cells cs t)):(∀i v,cs[i]?=some v→w.cell? ⟨b,i,none⟩=some v)∧(∀i,w.frozen? ⟨b,i,none⟩=false)∧b<w.heap.size:=by
 refine⟨fun i v a=> ?_,fun i=> ?_,(av.1 h).1⟩
 ·rw[cell_of_row w b i cs t (0,0) h];exact a
 ·exact frozen_of_row w b i cs t h
theorem dG {w:World} {b:Nat} {a:Value} {t:TypeId} (h:w.heap[b]?=some (.cells #[a] t)):
 w.cell? b=some a∧(∀i,w.frozen? ⟨b,i,none⟩=false)∧b<w.heap.size:=
 ⟨(bT h).1 0 a rfl,(bT h).2.1,(bT h).2.2⟩
theorem al {w:World} {b:Nat} {a c:Value} {t:TypeId} (h:w.heap[b]?=some (.cells #[a,c] t)):
 w.cell? b=some a∧w.cell? (b,1)=some c∧(∀i,w.frozen? ⟨b,i,none⟩=false)∧b<w.heap.size:=
 ⟨(bT h).1 0 a rfl,(bT h).1 1 c rfl,(bT h).2.1,(bT h).2.2⟩
theorem bV {w:World} {b:Nat} {a c d:Value} {t:TypeId} (h:w.heap[b]?=some (.cells #[a,c,d] t)):
 w.cell? b=some a∧w.cell? (b,1)=some c∧w.cell? (b,2)=some d∧(∀i,w.frozen? ⟨b,i,none⟩=false)∧b<w.heap.size:=
 ⟨(bT h).1 0 a rfl,(bT h).1 1 c rfl,(bT h).1 2 d rfl,(bT h).2.1,(bT h).2.2⟩
theorem bR {w:World} {b:Nat} {a c d e:Value} {t:TypeId} (h:w.heap[b]?=some (.cells #[a,c,d,e] t)):
 w.cell? b=some a∧w.cell? (b,1)=some c∧w.cell? (b,2)=some d∧w.cell? (b,3)=some e∧(∀i,w.frozen? ⟨b,i,none⟩=false)∧b<w.heap.size:=
 ⟨(bT h).1 0 a rfl,(bT h).1 1 c rfl,(bT h).1 2 d rfl,(bT h).1 3 e rfl,(bT h).2.1,(bT h).2.2⟩
theorem bM {w:World} {b:Nat} {a c d e f:Value} {t:TypeId} (h:w.heap[b]?=some (.cells #[a,c,d,e,f] t)):
 w.cell? b=some a∧w.cell? (b,1)=some c∧w.cell? (b,2)=some d∧w.cell? (b,3)=some e∧w.cell? (b,4)=some f∧(∀i,w.frozen? ⟨b,i,none⟩=false)∧b<w.heap.size:=
 ⟨(bT h).1 0 a rfl,(bT h).1 1 c rfl,(bT h).1 2 d rfl,(bT h).1 3 e rfl,(bT h).1 4 f rfl,(bT h).2.1,(bT h).2.2⟩
theorem aJ {w:World} {b:Nat} {a c d e f g:Value} {t:TypeId} (h:w.heap[b]?=some (.cells #[a,c,d,e,f,g] t)):
 w.cell? b=some a∧w.cell? (b,1)=some c∧w.cell? (b,2)=some d∧w.cell? (b,3)=some e∧w.cell? (b,4)=some f∧w.cell? (b,5)=some g∧(∀i,w.frozen? ⟨b,i,none⟩=false)∧b<w.heap.size:=
 ⟨(bT h).1 0 a rfl,(bT h).1 1 c rfl,(bT h).1 2 d rfl,(bT h).1 3 e rfl,(bT h).1 4 f rfl,(bT h).1 5 g rfl,(bT h).2.1,(bT h).2.2⟩
end
end Go.Proofs.YtencnijahlkbaaaGreatDoor
