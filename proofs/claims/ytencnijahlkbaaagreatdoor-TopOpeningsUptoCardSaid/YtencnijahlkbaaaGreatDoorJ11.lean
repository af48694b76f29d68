/-
  Lemmas of this claim, joined. Conditions: as stated. By an AI agent.
-/
import Derived.Test.YtencnijahlkbaaaGreatDoorJ1
import Derived.Test.YtencnijahlkbaaaGreatDoorJ2
import Derived.Test.YtencnijahlkbaaaGreatDoorJ5
import Derived.Test.YtencnijahlkbaaaGreatDoorJ6
import Derived.Test.YtencnijahlkbaaaGreatDoorJ7
import Derived.Test.YtencnijahlkbaaaGreatDoorJ8
import Derived.Test.YtencnijahlkbaaaGreatDoorJ9
import Derived.Test.YtencnijahlkbaaaGreatDoorJ10
import Derived.Carry
import Derived.Maps.RangeWalk
import Derived.Lib.SliceRun
open Go.Act renaming put → aC
open Array renaming getElem?_eq_some_iff → av
open Go.RowKit.Below renaming refl → ah
open Bool renaming false_and → aI, true_and → aN, and_false → aL, false_or → aP, true_or → aW, or_false → aQ, eq_false_iff → cG
open Classical renaming byContradiction → aG
open Int renaming mul_nonneg → bE
open List renaming take_succ_cons → ac, take_zero → aj, drop_succ_cons → am, drop_zero → ax, setIfInBounds_toArray → aa, set_cons_zero → ae, set_cons_succ → af, mem_cons_self → bw, getElem?_eq_getElem → aS, getD_eq_getElem?_getD → aO, getElem?_append_left → cV, getElem?_append_right → cD, length_append → aZ, mem_cons → bj
open Nat renaming le_refl → aB, lt_of_lt_of_le → aM, le_trans → bW, reduceAdd → aE, reduceEqDiff → aA
open Go.Region renaming binds → ai, wanted → au
open Go.World renaming size_setCell → aT, size_alloc → aw
namespace Go.Proofs.YtencnijahlkbaaaGreatDoor
set_option maxHeartbeats 8000000
set_option maxRecDepth 100000
set_option linter.unusedVariables false
set_option linter.unusedSimpArgs false
open Go.Proofs.Tryz
section
open Go Go.Maps Go.WideMaps Go.ChangeShapes Go.WideShapes Go.RowKit Go.ChangeAt
def ay.strs (oo:Option Addr) (n c:Nat):ay:=⟨(fun v w=>∃b,v= .func (.func 206) #[] #[.pointer (some ⟨b,0,none⟩)]∧w.heap[b]?=some (.cells #[.slice oo n c] 67)),fun v w w' hb h=>by obtain⟨b,h1,h2⟩:=h;exact⟨b,h1,(hb.block b (eB h2)).trans h2⟩⟩
theorem DW {w:World} {b:Nat} {a:Option Addr} {n c:Nat} (h:w.heap[b]?=some (.cells #[.slice a n c] 67)):(ay.strs a n c).p (.func (.func 206) #[] #[.pointer (some b)]) w:=⟨b,rfl,h⟩
def lY (X:bK) (i:Nat):Nat→List (List UInt8)
 |0=> []
 |j+1=>lY X i j++ [((X.K i).P j).data.toList]
def jW (X:bK):Nat→List (List UInt8)
 |0=> []
 |i+1=>jW X i++lY X i (X.K i).m
theorem pG {X:bK} {i:Nat}:∀{j:Nat} {s:List UInt8},s∈lY X i j→∃q,q<j∧s=((X.K i).P q).data.toList
 |0,s,h=>by cases h
 |j+1,s,h=>by
  rcases List.mem_append.1 h with h|h
  ·obtain⟨q,a,e⟩:=pG h;exact⟨q,by omega,e⟩
  ·rw[List.mem_singleton]at h;exact⟨j,by omega,h⟩
theorem ud {X:bK}:∀{i:Nat} {s:List UInt8},s∈jW X i→∃a q,a<i∧q<(X.K a).m∧s=((X.K a).P q).data.toList
 |0,s,h=>by cases h
 |i+1,s,h=>by
  rcases List.mem_append.1 h with h|h
  ·obtain⟨a,q,d,b,e⟩:=ud h;exact⟨a,q,by omega,b,e⟩
  ·obtain⟨q,c,e⟩:=pG h;exact⟨i,q,by omega,c,e⟩
def fq (w:World) (L:List (Nat×Array Value×TypeId)) (E:List (Nat×Nat)) (v:Value) (I:List (List UInt8)) (wr:World):Prop:=
 aF w wr L∧w.heap.size<wr.heap.size∧wr.ownsRow (w.heap.size+1) 108 2 v E.length (xm E)∧∃c D,c≤1000000+I.length∧lw wr w.heap.size c D∧li D I
theorem fq.step {w W b:World} {L:List (Nat×Array Value×TypeId)} {E:List (Nat×Nat)} {v:Value} {I:List (List UInt8)} (h:fq w L E v I W) (a:Below W.heap.size W b):fq w L E v I b:=by
 obtain⟨d,j,e,c,D,f,g,i⟩:=h;exact⟨d.step a,by have:=a.size;omega,bD e a,c,D,f,g.below a,i⟩
theorem fq.box {w W a:World} {L:List (Nat×Array Value×TypeId)} {E:List (Nat×Nat)} {v:Value} {I:List (List UInt8)} {C:Array Value} {t:TypeId} (h:fq w L E v I W) (b:Below (W.alloc (.cells C t)).heap.size (W.alloc (.cells C t)) a):fq w ((W.heap.size,C,t)::L) E v I a:=by
 have c:aF w a ((W.heap.size,C,t)::L):=aF.step (h.1.alloc W.heap.size rfl C t) b;exact⟨c,(h.step (ag ((ah _ _).alloc (aB _) _) b)).2⟩
theorem fq.tail {w W:World} {x:Nat×Array Value×TypeId} {L:List (Nat×Array Value×TypeId)} {E:List (Nat×Nat)} {v:Value} {I:List (List UInt8)} (h:fq w (x::L) E v I W):fq w L E v I W:=⟨h.1.tail,h.2⟩
theorem fq.edges {w W:World} {L:List (Nat×Array Value×TypeId)} {E:List (Nat×Nat)} {v:Value} {I:List (List UInt8)} (h:fq w L E v I W):Cj W v E:=zN h.2.2.1
theorem Hh {X:bK} {i j:Nat} (g:fG (X.K i).P (X.K i).m) (h:∀d,d<i→∀f,f<(X.K d).m→(X.K d).P f≠(X.K i).P j) (k:j<(X.K i).m):decide (((X.K i).P j).data.toList∈jW X i++lY X i j)=false:=by
 refine decide_eq_false fun c=> ?_;rcases List.mem_append.1 c with c|c
 ·obtain⟨d,q,a,b,e⟩:=ud c;exact h d a q b (kD e.symm)
 ·obtain⟨q,a,e⟩:=pG c;have:=mF g (by omega) k (kD e.symm);omega
theorem pH (X:bK) (i:Nat):∀j,(lY X i j).length=j
 |0=>rfl
 |j+1=>by rw[lY,aZ,pH X i j];rfl
theorem ue {X:bK} (h:∀i,i<X.nk→(X.K i).m≤40):∀i,i≤X.nk→(jW X i).length≤40*i
 |0,_=>by simp[jW]
 |i+1,hi=>by
  have a:=ue h i (by omega);have b:=h i (by omega);rw[jW,aZ,pH];omega
theorem yG {X:bK} {r j:ByteArray} {l:List ByteArray} {W w':World} {e:Ending} (m:jr X r=some l) (n:l.getLast?=some j) (h:gj X r W e w'):∃f k N a s,e= .returned (.tuple #[.slice (some ⟨f,k,none⟩) N s,.bool true])∧Hi (N=a+1∧N≤65∧f<w'.heap.size∧w'.cell? ⟨f,k+a,none⟩=some j)∧Below W.heap.size W w':=by
 unfold gj at h;rw[m]at h;obtain⟨v,w,x,y⟩:=h;have q:=mG m;obtain⟨a,d⟩:∃a,l.length=a+1:=⟨l.length-1,by omega⟩;obtain⟨o,c,rfl,-,-,u⟩:=bs.form x (fun _=>rfl);obtain⟨b,i,rfl,t,g⟩:=u a (by show a<l.length;omega);refine⟨b,i,l.length,a,c,w,⟨d,by omega,t,?_⟩,y⟩;have p:=g a (by show a<l.length;omega) 0 (.string (l.getD a ⟨#[]⟩)) rfl;rw[Nat.mul_one,Nat.add_zero]at p;rw[p];rw[List.getLast?_eq_getElem?,d,show a+1-1=a by omega]at n;rw[aO,n];rfl
theorem fq.put {w W a:World} {L:List (Nat×Array Value×TypeId)} {E:List (Nat×Nat)} {v:Value} {I:List (List UInt8)} {s:ByteArray} {c:Nat} {D:DataW Unit} (h:fq w L E v I W) (k:∀x∈L,x.1≠w.heap.size) (m:s.size≤2147483648) (o:c≤1000000+I.length) (j:li D I) (d:W.grownBy a (some w.heap.size)) (l:lw a w.heap.size (c+1) (D.put (.string s.data.toList) (.lit (.bool true)))):fq w L E v (I++ [s.data.toList]) a:=by
 obtain⟨i,n,b,-⟩:=h;refine⟨i.grown d (fun q e=>by cases e;exact⟨aB _,k⟩),by have:=d.size;omega,cZ b (fun g e=>d.block g (eh b e).2 (fun f=> ?_)),c+1,_,by simp;omega,l,j.put m⟩;have:=(eh b e).1;simp at f;omega
theorem fq.row {w W g b:World} {L:List (Nat×Array Value×TypeId)} {E:List (Nat×Nat)} {v k:Value} {I:List (List UInt8)} {i:Nat} {C:Array Value} {e:Nat×Nat} (h:fq w ((i,C,69)::L) E v I W) (r:∀x∈L,x.1<w.heap.size+1) (s:Below W.heap.size W g) (d:g.grownBy b v.ownBlock) (t:b.ownsRow (w.heap.size+1) 108 2 k (E.length+1) (xm E++ [.int .i64 (e.1:Int),.int .i64 (e.2:Int)])):fq w ((i,C,69)::L) (E++ [e]) k I b:=by
 have u:=h.step s;obtain⟨j,y,a,c,D,n,o,p⟩:=u;have m:=h.2.2.1;refine⟨j.grown d (fun q e=>⟨by have:=bU a q e;omega,fun x f l=> ?_⟩),by have:=d.size;omega,?_,c,D,n,World.ownsMap.kept o d (fun e=>by have:=bU a _ e.symm;omega),p⟩
 ·rcases bj.1 f with rfl|f
  ·exact jj a (j.get 0 rfl) (by decide) (e.trans (congrArg some l.symm))
  ·have:=r x f;have:=bU a q e;omega
 ·rw[sC,aZ];exact t
theorem oO (X:bK) (S:dq) (TB DB:Nat) (w:World) (h:Hi (ff w TB DB X S)) (hz:Hi (eY X)) (h7:dN w) (m1:Hi (∀i,i<X.nk→jZ (X.K i).id=true∧dU X (X.K i).bl=true∧(1≤(X.K i).hr∧(X.K i).hr≤10000)∧fG (X.K i).P (X.K i).m∧fG (X.K i).A (X.K i).k)) (m2:Hi (∀i,i<X.nk→∀j,j<(X.K i).m→bZ X.pI X.np ((X.K i).P j)=true∧((X.D (el X.pI X.np ((X.K i).P j))).kd=4∨(X.D (el X.pI X.np ((X.K i).P j))).kd=3)∧(∃l,jr X (X.D (el X.pI X.np ((X.K i).P j))).nd=some l∧l.getLast?=some (X.K i).bl)∧∀i',i'<i→∀j',j'<(X.K i').m→(X.K i').P j'≠(X.K i).P j)) (h9:Hi (∀i,i<X.nk→∀j,j<(X.K i).k→(X.K i).A j≠(X.K i).id∧bZ X.kI X.nk ((X.K i).A j)=true)) (m3:Hi (pq X.nk (cW X X.nk))):
 Gv 123 #[.pointer (some TB)] (.int .i64 0) w:=by
 obtain⟨i0,Q,m4,m5,m6⟩:=dC zR;have a7:=hz.o.few;have a:Hi (X.nk≤40∧∀i,i<X.nk→(X.K i).m≤40∧(X.K i).k≤40):=⟨a7.2.2.2.1,fun i Q=>a7.2.2.2.2.2 i Q⟩;have k6:Hi (X.np≤40∧X.nn≤40):=⟨a7.2.1,a7.1⟩;have j4:Hi (∀W q,Below w.heap.size w W→q.size≤1048576→Gv 162 #[.pointer (some TB),.string q] (.bool (dU X q)) W):=fun W q g hq=>qu X S TB DB q W (h.o.below g) (by omega) k6.o.2;have k9:Hi (∀W q,Below w.heap.size w W→q.size≤1048576→Calls prog 159 #[.pointer (some TB),.string q] W (gj X q W)):=fun W q g hq=>sD X S TB DB q W (h.o.below g) hq hz;have f0:Hi (∀W v,Cj W v (cW X X.nk)→Calls prog 164 #[(X.nk:Int),v] W (fun e w'=>∃v,e= .returned (.tuple #[v,()])∧Below W.heap.size W w')):=fun W v he=>DQ v X.nk (cW X X.nk) W he (wH a.o.1 (fun i Q=>(a.o.2 i Q).2) h9.o) a.o.1 m3;have c8:Hi (∀W i,Below w.heap.size w W→i<X.nk→bs W (.slice (S.sk i).op (X.K i).m (S.sk i).cp) (X.K i).m 1 (fun j=>#[.string ((X.K i).P j)])∧bs W (.slice (S.sk i).oa (X.K i).k (S.sk i).ca) (X.K i).k 1 (fun j=>#[.string ((X.K i).A j)])):=fun W i g Q=>by
  obtain⟨b1,b2,b3,b4,-,-,-,-,-,-,h6⟩:=h.o;exact⟨(h6.kp i Q).below g,(h6.ka i Q).below g⟩
 clear a7;obtain⟨b1,b2,b3,b4,h0,h1,h2,h3,h4,h5,h6⟩:=h.o;have j7:=ar h2;have j8:=ar h4;have HR:=ar h6;have k5:=ar h7;have l4:TB<w.heap.size:=eB h0;have l2:DB<w.heap.size:=eB h5;obtain⟨on,cn,op,cp,sp,os,cs,ok,ck,p,od,cd⟩:=S;obtain⟨L,hL⟩:∃L:List (Nat×Array Value×TypeId),L= [(TB,#[.pointer (some DB),.map (some b1),.map (some b2),.map (some b3),.map (some b4)],198),(DB,#[.string X.hull,.slice on X.nn cn,.slice op X.np cp,.slice os X.ns cs,.slice ok X.nk ck,.slice od X.nd cd],28)]:=⟨_,rfl⟩;have G:=ar hL;have H0:Hi (aF w w L):=⟨ah _ _,fun x y=>by
  rw[hL]at y;simp only[bj,List.not_mem_nil,or_false]at y;rcases y with rfl|rfl
  ·exact h0
  ·exact h5⟩
 clear h0 h1 h2 h3 h4 h5 h6 h7 hL;dsimp only at c8;have hn:=(HR.o.k).lim;have m0:=(HR.o.p).lim;dsimp only at hn m0;have l9:= @run_makeMap prog;obtain⟨y0,-,-,-,-,-,-⟩:=bM (aF.nth H0.o G.o 0 rfl);obtain⟨-,-,E,-,F,-,-,-⟩:=aJ (aF.nth H0.o G.o 1 rfl);have o3:=a.o.1;go_enter func123,ntmps123;go_wp2;clear y0 E F l9;go_loopw[3,29] (fun v x wr=>∃(i:Nat) (O:Option Addr) (I:Nat),i≤X.nk∧x= .int .i64 (i:Int)∧v= .slice O (cW X i).length I∧Hi (fq w L (cW X i) (.slice O (cW X i).length I) (jW X i) wr)) (fun _ x _=>X.nk-(intOf x).toNat)
 case atStart=>
  refine⟨0,none,0,by omega,rfl,rfl,⟨⟨H0.o.1.alloc (aB _) _,fun x y=>(aV _ _ _ (H0.o.lt y)).trans (H0.o.2 x y)⟩,by simp,World.ownsRow_nil _ _ _ _,0,.map [],by omega,?_,li.nil⟩⟩;have h:=World.ownsMap_made (H:=Unit) w prog 9 (plainElem prog 4);exact h
 case round=>
  clear H0;obtain⟨w2,rfl⟩:=wE wr;obtain⟨i,O,I,o4,rfl,rfl,HV⟩:=hrel;obtain⟨NE,b6⟩:=oE ((cW X i).length);have e8:=ar b6;rw[b6]at HV;rw[b6];clear b6;obtain⟨y0,-,-,-,-,-,-⟩:=bM (aF.nth HV.o.1 G.o 0 rfl);obtain⟨-,-,E,-,F,-,-,-⟩:=aJ (aF.nth HV.o.1 G.o 1 rfl);by_cases hlt:i<X.nk
  ·obtain⟨f9,g0,l7,g5,g6⟩:=m1.o i hlt;have a1:=ar g5;have e2:=ar g6;have j5:Hi (∀W,Below w.heap.size w W→Gv 67 #[.string (X.K i).id] (.bool true) W):=fun W g=>by rw[←f9];exact iP _ W (by have:=(hz.o.k i hlt).1;omega) (k5.o.below g)
   have i2:Hi (∀W,Below w.heap.size w W→Gv 162 #[.pointer (some TB),.string (X.K i).bl] (.bool true) W):=fun W g=>by rw[←g0];exact j4.o W _ g (hz.o.k i hlt).2.1
   obtain⟨oa,d9⟩:=oE ((p i).op);obtain⟨ob,e0⟩:=oE ((p i).oa);have z:Hi (∀W,Below w.heap.size w W→bs W (.slice oa (X.K i).m (p i).cp) (X.K i).m 1 (fun j=>#[.string ((X.K i).P j)])):=fun W g=>by rw[←d9];exact(c8.o W i g hlt).1
   have a3:Hi (∀W,Below w.heap.size w W→bs W (.slice ob (X.K i).k (p i).ca) (X.K i).k 1 (fun j=>#[.string ((X.K i).A j)])):=fun W g=>by rw[←e0];exact(c8.o W i g hlt).2
   have g1:decide ((X.K i).hr<1)=false:=df;have g2:decide (10000<(X.K i).hr)=false:=df;obtain⟨bk,fk,rfl,B,o⟩:=bs.at HR.o.k (fun _=>rfl) hlt;have J:=HV.o.1.1;have p0:w2.cell? (bk,fk+i*5)=some (.string (X.K i).id):=bI J B (o i hlt 0 _ rfl);have p1:w2.cell? (bk,fk+i*5+1)=some (.string (X.K i).bl):=bI J B (o i hlt 1 _ rfl);have p2:w2.cell? (bk,fk+i*5+2)=some (.slice oa (X.K i).m (p i).cp):=by rw[←d9];exact bI J B (o i hlt 2 _ rfl)
   have p3:w2.cell? (bk,fk+i*5+3)=some (.int .i64 (X.K i).hr):=bI J B (o i hlt 3 _ rfl);have p4:w2.cell? (bk,fk+i*5+4)=some (.slice ob (X.K i).k (p i).ca):=by rw[←e0];exact bI J B (o i hlt 4 _ rfl)
   have o7:=dS i;have o8:(i:Int)<(X.nk:Int):=by omega
   clear f9 g0 l7 g5 g6 o J d9 e0;go_wp2_with fail
   (go_at_call 67;refine mz (j5.o _ (by have h1:=HV.o.1.1;have h2:=h1.size;go_grown)) fun w3 a5=> ?_);have H3:=ar (fq.box HV.o a5);have e1:=HV.o.2.1;clear a5 p0 p1 p2 p3 p4 HV;obtain⟨XB,d4⟩:=oE w2.heap.size;rw[d4]at H3 e1;rw[d4];have l0:=ar e1;clear d4 e1;clear y0 E F;obtain⟨R,T,U,Y,Z,-,kz⟩:=bM (H3.o.1.get 0 rfl);obtain⟨-,-,E,-,F,-,-,-⟩:=aJ (aF.nth H3.o.1.tail G.o 1 rfl);go_wp2_with fail
   (go_at_call 162;refine mz (i2.o _ H3.o.1.1) fun w4 f2=> ?_);have H4:=ar (fq.step H3.o f2);clear f2;clear E F;clear R T U Y Z kz;obtain⟨R,T,U,Y,Z,-,kz⟩:=bM (H4.o.1.get 0 rfl);obtain⟨-,-,-,-,-,-,yz⟩:=bM (aF.nth H4.o.1.tail G.o 0 rfl);obtain⟨-,-,E,-,F,-,-,-⟩:=aJ (aF.nth H4.o.1.tail G.o 1 rfl);go_wp2_with fail
   refine aD 18 ?_;simp only[ac,aj,aK,aC,aa,ae,af];iterate 5 refine bJ ?_
   refine bG (ay.strs oa (X.K i).m (p i).cp) ?_ ?_
   ·intro u wx hz hc hf a2 hd;simp[aU,ai,aR,ay.is,ay.any]at hd;refine⟨by first|(simp[au];done)|(simp[au,yielded,hd];done)|(simp_all [au,yielded];done),?_⟩;go_simp
    go_at_call 163;refine(qs oa (X.K i).m (p i).cp _).mono ?_;rintro e w1 ⟨rfl,n,d⟩;exact⟨_,rfl,d,DW n⟩
   apply bg (x:= .bool true)
   ·intro u wx hz hc hf a2 hd;simp[aU,ai,aR,ay.is,ay.any]at hd;obtain⟨l5,b,hf,n⟩:=hd;go_simp
    go_at_call 154;refine(iJ 206 (.pointer (some b)) (X.K i).P (X.K i).m _ (enters_of func206 (by kernel_rfl) rfl) (oM oa (X.K i).m (p i).cp (X.K i).P b _ n (z.o _ (ag H4.o.1.1 a2.o))) (by have:=a.o.2 i hlt;omega) a1).mono ?_;rintro e w1 ⟨rfl,d⟩;first|exact⟨rfl,d⟩|exact⟨_,rfl,d,rfl⟩|exact⟨d,rfl⟩
   iterate 7 refine bJ ?_
   refine bG (ay.strs ob (X.K i).k (p i).ca) ?_ ?_
   ·intro u wx hz hc hf a2 hd;simp[aU,ai,aR,ay.is,ay.any]at hd;refine⟨by first|(simp[au];done)|(simp[au,yielded,hd];done)|(simp_all [au,yielded];done),?_⟩;go_simp
    go_at_call 163;refine(qs ob (X.K i).k (p i).ca _).mono ?_;rintro e w1 ⟨rfl,n,d⟩;exact⟨_,rfl,d,DW n⟩
   apply bg (x:= .bool true)
   ·intro u wx hz hc hf a2 hd;simp[aU,ai,aR,ay.is,ay.any]at hd;obtain⟨l5,⟨b,hf,n⟩,hg⟩:=hd;go_simp
    go_at_call 154;refine(iJ 206 (.pointer (some b)) (X.K i).A (X.K i).k _ (enters_of func206 (by kernel_rfl) rfl) (oM ob (X.K i).k (p i).ca (X.K i).A b _ n (a3.o _ (ag H4.o.1.1 a2.o))) (by have:=a.o.2 i hlt;omega) e2).mono ?_;rintro e w1 ⟨rfl,d⟩;first|exact⟨rfl,d⟩|exact⟨_,rfl,d,rfl⟩|exact⟨d,rfl⟩
   iterate 2 refine bJ ?_
   intro u w5 g hE;obtain⟨f5,e5⟩:=oE (u 5);obtain⟨o1,f1⟩:=oE (u 14);simp only[cF,aR,ay.is,aE,aA,reduceIte]at hE;simp only[am,ax,ac,aj,aK,aC,aa,ae,af,e5,f1,hE];clear e5 f1 hE;obtain⟨n9,n7,f4,f7,c6⟩:=pr g;clear g;have H5:=ar (H4.o.step c6.o);clear f4 f7;clear E F;clear R T U Y Z kz;obtain⟨R,T,U,Y,Z,-,kz⟩:=bM (H5.o.1.get 0 rfl);obtain⟨-,-,E,-,F,-,-,-⟩:=aJ (aF.nth H5.o.1.tail G.o 1 rfl);have e6:Hi (∀x∈L,x.1<w.heap.size):=fun x y=>by
    rw[G.o]at y;simp only[bj,List.not_mem_nil,or_false]at y;rcases y with rfl|rfl
    ·exact l4
    ·exact l2
   go_wp2;clear E F;clear R T U Y Z kz;go_loopw[76] (fun x wr=>∃j:Nat,j≤(X.K i).m∧x= .int .i64 (j:Int)∧Hi (fq w ((XB,#[.string (X.K i).id,.string (X.K i).bl,.slice oa (X.K i).m (p i).cp,(X.K i).hr,.slice ob (X.K i).k (p i).ca],69)::L) (cW X i) (.slice O NE I) (jW X i++lY X i j) wr)) (fun x _=>(X.K i).m-(intOf x).toNat)
   case atStart=>exact⟨0,by omega,rfl,by show fq _ _ _ _ _ _;rw[show jW X i++lY X i 0=jW X i from List.append_nil _];exact H5.o⟩
   case round=>
    clear H5 H4 H3;obtain⟨w6,rfl⟩:=wE wr;obtain⟨j,l8,rfl,f⟩:=hrel;obtain⟨R,T,U,Y,Z,-,kz⟩:=bM (f.o.1.get 0 rfl);obtain⟨y0,-,y2,-,-,-,-⟩:=bM (aF.nth f.o.1.tail G.o 0 rfl);obtain⟨-,-,E,-,F,-,-,-⟩:=aJ (aF.nth f.o.1.tail G.o 1 rfl);by_cases hlj:j<(X.K i).m
    ·obtain⟨s,hs⟩:=oE ((X.K i).P j);obtain⟨q1,q2,q3,q4⟩:=m2.o i hlt j hlj;have K:s.size≤2147483648:=by rw[←hs];have:=(hz.o.k i hlt).2.2.1 j hlj;omega
     have a9:=Hh a1.o q4 hlj;rw[hs]at q1 q2 q3 a9;have d1:=ar K;have HS:=ar hs;obtain⟨n,t⟩:=oE (el X.pI X.np s);have b9:n<X.np:=by rw[←t];exact of_decide_eq_true q1
     obtain⟨c,b0,hc⟩:=gW.look (j7.o.below f.o.1.1) K;rw[q1,hc q1,t]at b0;rw[t]at q2 q3;obtain⟨l,d7,g8⟩:=q3;obtain⟨kd,d6⟩:=oE ((X.D n).kd);obtain⟨nd,c0⟩:=oE ((X.D n).nd);rw[d6]at q2;rw[c0]at d7;have j6:Hi (kd=4∧(kd !=4)=false∨(kd !=4)=true∧(kd !=3)=false):=by
      rcases q2 with e|e
      ·exact .inl ⟨e,by rw[e];rfl⟩
      ·exact .inr ⟨by rw[e];rfl,by rw[e];rfl⟩
     have HU:Hi (∀W,Below w.heap.size w W→Calls prog 159 #[.pointer (some TB),.string nd] W (fun e w'=>∃bu fu N nl cu,e= .returned (.tuple #[.slice (some ⟨bu,fu,none⟩) N cu,.bool true])∧Hi (N=nl+1∧N≤65∧bu<w'.heap.size∧w'.cell? ⟨bu,fu+nl,none⟩=some (.string (X.K i).bl))∧Below W.heap.size W w')):=fun W g=>(k9.o W nd g (by rw[←c0];exact(hz.o.p n b9).2)).mono fun e w' hp=>yG d7 g8 hp;obtain⟨ba,fa,rfl,d8,r⟩:=bs.at (z.o w (ah _ _)) (fun _=>rfl) hlj;obtain⟨bp,fp,rfl,g9,a6⟩:=bs.at HR.o.p (fun _=>rfl) b9;have a4:=f.o.1.1;have a0:w6.cell? (ba,fa+j)=some s:=bI a4 d8 (by have:=r j hlj 0 _ rfl;rw[hs]at this;rwa [Nat.mul_one,Nat.add_zero]at this);have c2:w6.cell? (bp,fp+n*18+2)=some kd:=by rw[←d6];exact bI a4 g9 (a6 n b9 2 _ rfl)
     have c3:w6.cell? (bp,fp+n*18+3)=some nd:=by rw[←c0];exact bI a4 g9 (a6 n b9 3 _ rfl)
     have j0:=dS j;have j1:(j:Int)<((X.K i).m:Int):=by omega
     have j2:=dS n;have j3:(n:Int)<(X.np:Int):=by omega
     have k7:=ar a9;have e4:=a.o;have n6:=(e4.2 i hlt).1;clear hs r a6 d6 c0 d7 g8 t q1 q2 q4 hc a9 e4 K;obtain⟨-,g3⟩|⟨g3,g4⟩:=j6.o
     all_goals
      go_wp2_with fail
      (go_at_call 159;refine(HU.o _ f.o.1.1).mono ?_;rintro e_ w7 ⟨bu,fu,N,nl,cu,rfl,h8,f3⟩);have H7:=ar (f.o.step f3);obtain⟨hN,m8,o2,d0⟩:=h8.o;clear f3 h8;clear E F;clear R T U Y Z kz;obtain⟨R,T,U,Y,Z,-,kz⟩:=bM (H7.o.1.get 0 rfl);have n0:((N:Int)==0)=false:=by simp;omega
      have o9:(N==0)=false:=by simp;omega
      have n1:IntKind.i64.wrap ((N:Int)-1)=(nl:Int):=by rw[show(N:Int)-1=(nl:Int)by omega];exact iw
      have n2:(N:Int)-1=(nl:Int):=by omega
      have n3:IntKind.i64.wrap (nl:Int)=(nl:Int):=iw;have n4:=dS nl;have n5:(nl:Int)<(N:Int):=by omega
      clear hN;go_wp2_with fail
      refine aD 14 ?_;simp only[ac,aj,aK,aC,aa,ae,af];iterate 14 refine bJ ?_
      intro u w8 g hE;simp only[cF,aR,ay.is,aE,aA,reduceIte]at hE;simp only[am,ax,ac,aj,aK,aC,aa,ae,af,hE];clear hE;obtain⟨o0,n8,f6,f8,c7⟩:=pr g;clear g;have H8:=ar (H7.o.step c7.o);clear f6 f8 d0;clear R T U Y Z kz;obtain⟨-,o6,-,cc,D,d5,d3,d2⟩:=H8.o;have B:=d3.look d2 d1.o;rw[k7.o]at B;have j9:=ar d3;have i9:=ar d2;have i3:Hi (cc≤1002000):=by
       show _≤_;have h1:=ue (fun i Q=>(a.o.2 i Q).1) i (by omega);have h2:=a.o.1;have h3:=pH X i j;have h4:=d5;rw[aZ]at h4;omega
      have i4:=ar d5;clear d3 d2 d5;go_wp2_with (first
       |(at_mapUpdate;refine wpList_mapUpdate_own _ rfl _ _ _ 200 rfl 9 4 iI underlying200 _ w.heap.size cc _ rfl j9.o (by unfold maxLen;have:=i3.o;omega) (.string s) _ _ rfl rfl (vd d1.o) _ [] (plainElem_bool underlying4 true) ?_;intro wm l3 l6;go_frame)
       |go_in)
      have H9:=ar (H8.o.put (fun x y e=>by
       rcases bj.1 y with rfl|y
       ·dsimp only at e;have:=l0.o;omega
       ·have:=e6.o x y;omega) d1.o i4.o i9.o l6 l3)
      have i1:Hi (fq w ((XB,#[.string (X.K i).id,.string (X.K i).bl,.slice (some ⟨ba,fa,none⟩) (X.K i).m (p i).cp,(X.K i).hr,.slice ob (X.K i).k (p i).ca],69)::L) (cW X i) (.slice O NE I) (jW X i++lY X i (j+1)) wm):=by
       show fq _ _ _ _ _ _;rw[lY,HS.o,←List.append_assoc];exact H9.o
      go_wp2;go_roundw
      case rel=>exact⟨j+1,by omega,by go_num,i1⟩
      case measure=>simp[intOf];omega
    ·obtain rfl:j=(X.K i).m:=by omega
     have e3:Hi (jW X i++lY X i (X.K i).m=jW X (i+1)):=rfl;rw[e3.o]at f;clear e3 a1 z;go_wp2;clear E F;clear R T U Y Z kz;clear l8 hlj;go_loopw[3,147] (fun v x wr=>∃(j:Nat) (O:Option Addr) (I:Nat),j≤(X.K i).k∧x= .int .i64 (j:Int)∧v= .slice O (NE+j) I∧Hi (fq w ((XB,#[.string (X.K i).id,.string (X.K i).bl,.slice oa (X.K i).m (p i).cp,(X.K i).hr,.slice ob (X.K i).k (p i).ca],69)::L) (cW X i++fH X i j) (.slice O (NE+j) I) (jW X (i+1)) wr)) (fun _ x _=>(X.K i).k-(intOf x).toNat)
     case atStart=>exact⟨0,O,I,by omega,rfl,rfl,by show fq _ _ _ _ _ _;rw[show cW X i++fH X i 0=cW X i from List.append_nil _];exact f.o⟩
     case round=>
      clear f;obtain⟨w9,rfl⟩:∃x:World,x=w6:=⟨_,rfl⟩;obtain⟨w6,rfl⟩:=wE wr;obtain⟨j,O,I,o5,rfl,rfl,f⟩:=hrel;obtain⟨R,T,U,Y,Z,-,kz⟩:=bM (f.o.1.get 0 rfl);obtain⟨-,-,-,-,y4,-,-⟩:=bM (aF.nth f.o.1.tail G.o 0 rfl);obtain⟨-,-,E,-,F,-,-,-⟩:=aJ (aF.nth f.o.1.tail G.o 1 rfl);obtain⟨NJ,b8⟩:=oE (NE+j);rw[b8]at f;rw[b8];have c9:=ar b8;clear b8;by_cases hlj:j<(X.K i).k
      ·obtain⟨s,hs⟩:=oE ((X.K i).A j);obtain⟨q1,q2⟩:=h9.o i hlt j hlj;have K:s.size≤2147483648:=by rw[←hs];have:=(hz.o.k i hlt).2.2.2 j hlj;omega
       rw[hs]at q1 q2;have g3:(s.toList==(X.K i).id.toList)=false:=by
        rw[cG];intro he;exact q1 (ee (by simpa using he))
       obtain⟨n,t⟩:=oE (el X.kI X.nk s);obtain⟨c,b0,hc⟩:=gW.look (j8.o.below f.o.1.1) K;rw[q2,hc q2,t]at b0;obtain⟨ba,fa,rfl,d8,r⟩:=bs.at (a3.o w (ah _ _)) (fun _=>rfl) hlj;have a4:=f.o.1.1;have a0:w6.cell? (ba,fa+j)=some s:=bI a4 d8 (by have:=r j hlj 0 _ rfl;rw[hs]at this;rwa [Nat.mul_one,Nat.add_zero]at this);have j0:=dS j;have j1:(j:Int)<((X.K i).k:Int):=by omega
       have m9:=(a.o.2 i hlt).2;have i6:Hi (cW X i++fH X i (j+1)=(cW X i++fH X i j)++ [(n,i)]):=by
        show _=_;rw[fH,hs,t,←List.append_assoc]
       have b5:Hi (NJ≤1700∧(cW X i++fH X i j).length=NJ):=by
        have h1:=mM (fun i Q=>(a.o.2 i Q).2) i (by omega);have h2:=e8.o;have h3:=a.o.1;have h4:=c9.o;refine⟨by omega,?_⟩;rw[aZ,ju,h2];exact h4
       have k8:Hi (w6.ownsRow (w.heap.size+1) 108 2 (.slice O NJ I) NJ (xm (cW X i++fH X i j))):=by
        have:=f.o.2.2.1;rw[b5.o.2]at this;exact this
       clear hs r q1 q2 t hc K;go_wp2_with (first|(at_builtin;refine wpList_append_own _ rfl _ _ 105 rfl ((w.heap.size+1)) 108 i0 (.agg #[(),()]) 2 16 underlying105 Q m4 m5 m6 rfl (by decide) _ _ _ rfl (k8.o.alloc _) ⟨w6.heap.size,0,none⟩ 1 1 [(.int .i64 (n:Int)),(.int .i64 (i:Int))] rfl rfl ?c1 ?c2 ?c3 ?c4 ?c5 ?_)|go_in)
       case c1=>
        intro j u hj
        match j,hj with
        |0,hj=>
         simp at hj;subst hj;simp[Addr.add]
         first|done|rfl|(simp[go_sem];done)
        |1,hj=>
         simp at hj;subst hj;simp[Addr.add]
         first|done|rfl|(simp[go_sem];done)
       case c2=>intro u hu;simp at hu;(first|(subst hu;rfl)|(rcases hu with rfl|rfl<;>rfl))
       case c3=>unfold maxLen;have:=b5.o.1;omega
       case c4=>have:=b5.o.1;omega
       case c5=>have:=f.o.2.1;simp;omega
       intro v' w7 C a8 _;have H7:=ar (fq.row (e:=(n,i)) f.o (fun x y=>by have:=e6.o x y;omega) (by go_grown) a8 (by rw[b5.o.2];exact C));rw[←i6.o]at H7;have i8:=ar (cj C);clear C a8;clear E F;clear R T U Y Z kz;obtain⟨m7,l1,rfl⟩:=i8.o;have e7:Hi (NJ+1=NE+(j+1)):=by have:=c9.o;show _=_;omega
       go_wp2;go_roundw
       case rel=>exact⟨j+1,m7,l1,by omega,by go_num,by rw[e7.o],by show fq _ _ _ _ _ _;rw[←e7.o];exact H7.o⟩
       case measure=>simp[intOf];omega
      ·obtain rfl:j=(X.K i).k:=by omega
       have i7:Hi (cW X i++fH X i (X.K i).k=cW X (i+1)):=rfl;rw[i7.o]at f;have e9:Hi (NJ=(cW X (i+1)).length):=by
        show _=_;rw[cW,aZ,ju,e8.o];exact c9.o.symm
       go_wp2;go_roundw
       case rel=>exact⟨i+1,O,I,by omega,by go_num,by rw[e9.o],by show fq _ _ _ _ _ _;rw[←e9.o];exact f.o.tail⟩
       case measure=>simp[intOf];omega
  ·have g7:i=X.nk:=by omega
   have i5:Hi (Cj w2 (.slice O NE I) (cW X X.nk)):=by rw[←g7];exact HV.o.edges
   clear g7;go_wp2_with fail
   (go_at_call 164;refine(f0.o _ _ i5.o).mono ?_;rintro e_ w3 ⟨vo,rfl,a5⟩);have H3:Hi (Below w.heap.size w w3):=ag HV.o.1.1 a5;clear a5;go_wp2;go_returns;exact⟨rfl,H3.o⟩
theorem oQ {a:Value} {b:Lit} (h:keyOf prog 9 a=some b):∃x:ByteArray,a= .string x∧b= .string x.data.toList:=by
 obtain⟨s,c,d,-⟩:=WideMaps.string_of_keyOf underlying9 h;exact⟨s,c,d⟩
def kE (D:DataW Unit) (Q:ByteArray→Prop):Prop:=Maps.IsMap D∧∀s:ByteArray,s.size≤2147483648→∃b:Bool,D.atKey (.string s.data.toList) (.lit (.bool false))= .lit (.bool b)∧(b=true→Q s)
theorem kE.nil (Q:ByteArray→Prop):kE (.map []) Q:=⟨Maps.isMap_empty,fun s _=>⟨false,by
 have h:Maps.has (.map []:DataW Unit) (.string s.data.toList)=false:=rfl;rw[Maps.atKey_of_not_has h],fun h=>by cases h⟩⟩
theorem kE.put {D:DataW Unit} {Q:ByteArray→Prop} {s:ByteArray} (h:kE D Q) (j:s.size≤2147483648) (i:Q s):kE (D.put (.string s.data.toList) (.lit (.bool true))) Q:=by
 have g:=iI.key (vd j);refine⟨h.1.put _ _,fun t k=> ?_⟩;by_cases e:t.data.toList=s.data.toList
 ·obtain rfl:=kD e;exact⟨true,Maps.atKey_put_same h.1 g _ _,fun _=>i⟩
 ·have a:(Lit.string t.data.toList)≠ .string s.data.toList:=fun f=>e (by simpa using f);obtain⟨b,c,d⟩:=h.2 t k;exact⟨b,(Maps.atKey_put_other a _ _).trans c,d⟩
theorem kE.mono {D:DataW Unit} {Q R:ByteArray→Prop} (h:kE D Q) (d:∀s,Q s→R s):kE D R:=⟨h.1,fun s f=>by
 obtain⟨b,a,c⟩:=h.2 s f;exact⟨b,a,fun e=>d s (c e)⟩⟩
theorem lw.unseen {w:World} {b n:Nat} {D:DataW Unit} {Q:ByteArray→Prop} (h:lw w b n D) (k:kE D Q) {s:ByteArray} (f:s.size≤2147483648) (l:¬Q s):
 (Instr.lookup 200 (.map (some b)) (.string s) false).run prog w= .ok (.bool false) w:=by
 obtain⟨c,a,j⟩:=qr (t:=200) h iI underlying200 underlying4 (ua w) (vd f);obtain⟨g,d,i⟩:=k.2 s f;rw[j]at d;have e:c=g:=by simpa using d
 cases c with
 |false=>exact a
 |true=>exact absurd (i e.symm) l
def yH (X:bK):Nat→Nat→ByteArray
 |0=>X.nI
 |1=>X.pI
 |2=>X.sI
 |_=>X.kI
def Ck (X:bK):Nat→Nat
 |0=>X.nn
 |1=>X.np
 |2=>X.ns
 |_=>X.nk
def lk (X:bK) (q:Nat) (s:ByteArray):Prop:=∃q',q'<q∧∃i,i<Ck X q'∧yH X q' i=s
theorem BJ {X:bK} {q i:Nat} (f:q<4) (c:i<Ck X q) (h:∀q a,q<4→a<q→∀i j,i<Ck X q→j<Ck X a→yH X q i≠yH X a j):¬lk X q (yH X q i):=by
 rintro ⟨a,b,j,d,e⟩;exact h q a f b i j c d e.symm
theorem yI {X:bK} {q:Nat} {s:ByteArray} (h:lk X q s):lk X (q+1) s:=by
 obtain⟨b,a,h⟩:=h;exact⟨b,by omega,h⟩
theorem yJ {X:bK} {q i:Nat} (a:i<Ck X q):lk X (q+1) (yH X q i):=⟨q,by omega,i,a,rfl⟩
theorem Aa {X:bK} (b:eY X) {q i:Nat} (c:q<4) (a:i<Ck X q):(yH X q i).size≤1048576:=by
 match q,c with
 |0,_=>exact(b.n i a).1
 |1,_=>exact(b.p i a).1
 |2,_=>exact(b.s i a).1
 |3,_=>exact(b.k i a).1
theorem Hj {X:bK} (b:eY X) {q:Nat} (a:q<4):Ck X q≤40:=by
 have:=b.few
 match q,a with
 |0,_=>exact this.1
 |1,_=>exact this.2.1
 |2,_=>exact this.2.2.1
 |3,_=>exact this.2.2.2.1
theorem yK {a b:qg} (h:lq a b=true):a.kd<b.kd∨(a.kd=b.kd∧(Op.bytesLess a.bl.toList b.bl.toList=true∨(Op.bytesLess a.bl.toList b.bl.toList=false∧a.bl=b.bl∧Op.bytesLess a.on.toList b.on.toList=true))):=by
 unfold lq at h;split at h
 ·rename_i e;refine .inr ⟨e,?_⟩;split at h
  ·rename_i e2;exact .inr ⟨by rw[e2];exact kr _,e2,h⟩
  ·exact .inl h
 ·exact .inl (of_decide_eq_true h)
theorem aF.obj {w W:World} {L:List (Nat×Array Value×TypeId)} (h:aF w W L) (o:Obj):aF w (W.alloc o) L:=⟨h.1.alloc h.1.size _,fun x a=>(aV _ _ _ (h.lt a)).trans (h.2 x a)⟩
def ay.maps (g0:Nat) (xs:Array Value):ay:=⟨fun v w=>∃g,v= .slice (some ⟨g,0,none⟩) 4 4∧g0≤g∧w.heap[g]?=some (.cells xs 194),fun v w w' hb h=>by obtain⟨g,h1,h2,h3⟩:=h;exact⟨g,h1,h2,(hb.block g (eB h3)).trans h3⟩⟩
theorem Hk {w:World} {g a:Nat} {b:Array Value} (c:a≤g) (h:w.heap[g]?=some (.cells b 194)):(ay.maps a b).p (.slice (some ⟨g,0,none⟩) 4 4) w:=⟨g,rfl,c,h⟩
theorem DX (X:bK) (S:dq) (TB O:Nat) (w:World) (h:Hi (ff w TB O X S)) (T:Hi (eY X)) (r0:dN w) (o4:Hi (fG X.nI X.nn)) (o5:Hi (fG X.pI X.np)) (o6:Hi (fG X.sI X.ns)) (o7:Hi (fG X.kI X.nk))
 (q7:Hi (∀i,0<i→i<X.nd→lq (X.R (i-1)) (X.R i)=true)) (m4:Hi (∀q q',q<4→q'<q→∀i j,i<Ck X q→j<Ck X q'→yH X q i≠yH X q' j)):
 Gv 119 #[.pointer (some TB)] (.int .i64 0) w:=by
 have R:=T.o.few;have b9:Hi (X.nn≤40∧X.np≤40∧X.ns≤40∧X.nk≤40∧X.nd≤40):=⟨R.1,R.2.1,R.2.2.1,R.2.2.2.1,R.2.2.2.2.1⟩;have l0:decide ((64:Int)<(X.nn:Int))=false:=df;have r4:decide (64<X.nn)=false:=df;have l1:decide ((256:Int)<(X.np:Int))=false:=df;have r5:decide (256<X.np)=false:=df;have l2:decide ((256:Int)<(X.ns:Int))=false:=df;have r6:decide (256<X.ns)=false:=df;have l3:decide ((64:Int)<(X.nk:Int))=false:=df;have r7:decide (64<X.nk)=false:=df;have l4:decide ((256:Int)<(X.nd:Int))=false:=df;have r8:decide (256<X.nd)=false:=df;clear R;obtain⟨b1,b2,b3,b4,h0,h1,h2,h3,h4,h5,h6⟩:=h.o;have p2:=ar h1;have p3:=ar h2;have p4:=ar h3;have p5:=ar h4;have HR:=ar h6;have t4:TB<w.heap.size:=eB h0;have t2:O<w.heap.size:=eB h5;obtain⟨on,cn,op,cp,sp,os,cs,ok,ck,sk,od,cd⟩:=S;obtain⟨L,hL⟩:∃L:List (Nat×Array Value×TypeId),L= [(TB,#[.pointer (some O),.map (some b1),.map (some b2),.map (some b3),.map (some b4)],198),(O,#[.string X.hull,.slice on X.nn cn,.slice op X.np cp,.slice os X.ns cs,.slice ok X.nk ck,.slice od X.nd cd],28)]:=⟨_,rfl⟩;have HL:=ar hL;have H0:Hi (aF w w L):=⟨ah _ _,fun x p=>by
  rw[hL]at p;simp only[bj,List.not_mem_nil,or_false]at p;rcases p with rfl|rfl
  ·exact h0
  ·exact h5⟩
 clear h0 h1 h2 h3 h4 h5 h6 r0 hL;have HD:=ar HR.o.d;have r2:=(HR.o.d).lim;dsimp only at r2;obtain⟨L3,l9,h3⟩:=aF.ex (aF.alloc H0.o w.heap.size rfl #[.pointer (some O)] 172);have d:=ar (l9.trans (congrArg _ HL.o));have d2:=ar h3;clear l9 h3;have f5:Hi (∀x∈L3,x.1<w.heap.size+1):=fun x p=>by
  rw[d.o]at p;simp only[bj,List.not_mem_nil,or_false]at p;rcases p with rfl|rfl|rfl<;>(dsimp only;omega)
 have i5:Hi (∀x∈L3,x.1≤w.heap.size):=fun x p=>by
  have:=f5.o x p;omega
 have b8:Hi (∀W,aF w W L3→lT W w.heap.size O X _):=fun W ho=>⟨aF.nth ho d.o 0 rfl,aF.nth ho d.o 2 rfl,HR.o.below ho.1⟩;have d3:Hi (∀W,aF w W L3→Gv 154 #[(X.nn:Int),.func (.func 155) #[] #[.pointer (some w.heap.size)]] (.bool true) W):=fun W ho=>iJ 155 (.pointer (some w.heap.size)) X.nI X.nn W (enters_of func155 (by kernel_rfl) rfl) (fun W' j b hj=>Br X _ w.heap.size O j W' (lT.below (b8.o W ho) b) hj) (by have:=b9.o;omega) o4;have d4:Hi (∀W,aF w W L3→Gv 154 #[(X.np:Int),.func (.func 156) #[] #[.pointer (some w.heap.size)]] (.bool true) W):=fun W ho=>iJ 156 (.pointer (some w.heap.size)) X.pI X.np W (enters_of func156 (by kernel_rfl) rfl) (fun W' j b hj=>Bs X _ w.heap.size O j W' (lT.below (b8.o W ho) b) hj) (by have:=b9.o;omega) o5;have d5:Hi (∀W,aF w W L3→Gv 154 #[(X.ns:Int),.func (.func 157) #[] #[.pointer (some w.heap.size)]] (.bool true) W):=fun W ho=>iJ 157 (.pointer (some w.heap.size)) X.sI X.ns W (enters_of func157 (by kernel_rfl) rfl) (fun W' j b hj=>Bt X _ w.heap.size O j W' (lT.below (b8.o W ho) b) hj) (by have:=b9.o;omega) o6;have d6:Hi (∀W,aF w W L3→Gv 154 #[(X.nk:Int),.func (.func 158) #[] #[.pointer (some w.heap.size)]] (.bool true) W):=fun W ho=>iJ 158 (.pointer (some w.heap.size)) X.kI X.nk W (enters_of func158 (by kernel_rfl) rfl) (fun W' j b hj=>Bu X _ w.heap.size O j W' (lT.below (b8.o W ho) b) hj) (by have:=b9.o;omega) o7;obtain⟨y0,-,-,-,-,-,-⟩:=bM (aF.nth H0.o HL.o 0 rfl);obtain⟨-,x1,x2,x3,x4,Y,-,-⟩:=aJ (aF.nth H0.o HL.o 1 rfl);have r1:= @run_makeMap prog;go_enter func119,ntmps119;go_wp2_with fail
 (go_at_call 154;refine cy (d3.o _ d2.o) d2 fun w2 H2=> ?_);clear y0 x1 x2 x3 x4 Y;obtain⟨d0,-,-⟩:=dG (aF.nth H2.o d.o 0 rfl);obtain⟨-,-,x2,-,-,Y,-,-⟩:=aJ (aF.nth H2.o d.o 2 rfl);go_wp2_with fail
 (go_at_call 154;refine cy (d4.o _ H2.o) H2 fun w3 H3=> ?_);clear d0 x2 Y;obtain⟨d0,-,-⟩:=dG (aF.nth H3.o d.o 0 rfl);obtain⟨-,-,-,x3,-,Y,-,-⟩:=aJ (aF.nth H3.o d.o 2 rfl);go_wp2_with fail
 (go_at_call 154;refine cy (d5.o _ H3.o) H3 fun w4 H4=> ?_);clear d0 x3 Y;obtain⟨d0,-,-⟩:=dG (aF.nth H4.o d.o 0 rfl);obtain⟨-,-,-,-,x4,Y,-,-⟩:=aJ (aF.nth H4.o d.o 2 rfl);go_wp2_with fail
 (go_at_call 154;refine cy (d6.o _ H4.o) H4 fun U H5=> ?_);clear d0 x4 Y;obtain⟨-,-,-,-,-,Y,-,-⟩:=aJ (aF.nth H5.o d.o 2 rfl);go_wp2;clear Y;clear l0 r4 l1 r5 l2 r6 l3 r7 l4 r8;go_loopw[5,4] (fun x ok wr=>∃j:Nat,1≤j∧(j≤X.nd∨j=1)∧x= .int .i64 (j:Int)∧ok= .bool true∧aF w wr L3) (fun x _ _=>X.nd-(intOf x).toNat)
 case atStart=>exact⟨1,by omega,.inr rfl,rfl,rfl,H5.o⟩
 case round=>
  clear H2 H3 H4 H5;obtain⟨z,rfl⟩:=wE wr;obtain⟨j,t8,-,rfl,rfl,hO⟩:=hrel;have HO:=ar hO;clear hO;obtain⟨d0,-,dz⟩:=dG (aF.nth HO.o d.o 0 rfl);obtain⟨-,y1,y2,y3,y4,-,yz⟩:=bM (aF.nth HO.o d.o 1 rfl);obtain⟨-,-,-,-,-,Y,-,xz⟩:=aJ (aF.nth HO.o d.o 2 rfl);by_cases hlt:j<X.nd
  ·obtain⟨k,J⟩:∃k:Nat,k+1=j:=⟨j-1,by omega⟩;have g6:k<X.nd:=by omega
   have A:=yK (q7.o j (by omega) hlt);rw[show j-1=k by omega]at A;obtain⟨ak,g0⟩:=oE ((X.R k).kd);obtain⟨ab,f9⟩:=oE ((X.R k).bl);obtain⟨ao,g1⟩:=oE ((X.R k).on);obtain⟨bk,g3⟩:=oE ((X.R j).kd);obtain⟨bb,g2⟩:=oE ((X.R j).bl);obtain⟨bo,g4⟩:=oE ((X.R j).on);rw[g0,f9,g1,g3,g2,g4]at A;have A:=ar A;obtain⟨bc,fc,rfl,K,l⟩:=bs.at HD.o (fun _=>rfl) hlt;have F:=HO.o.1;have c0:z.cell? (bc,fc+k*3)=some ak:=by rw[←g0];exact bI F K (l k g6 0 _ rfl)
   have c1:z.cell? (bc,fc+k*3+1)=some ab:=by rw[←f9];exact bI F K (l k g6 1 _ rfl)
   have c2:z.cell? (bc,fc+k*3+2)=some ao:=by rw[←g1];exact bI F K (l k g6 2 _ rfl)
   have c3:z.cell? (bc,fc+j*3)=some bk:=by rw[←g3];exact bI F K (l j hlt 0 _ rfl)
   have c4:z.cell? (bc,fc+j*3+1)=some bb:=by rw[←g2];exact bI F K (l j hlt 1 _ rfl)
   have c5:z.cell? (bc,fc+j*3+2)=some bo:=by rw[←g4];exact bI F K (l j hlt 2 _ rfl)
   have t5:bc<z.heap.size:=aM K F.size;have j0:=dS j;have j1:(j:Int)<(X.nd:Int):=by omega
   have j2:=dS k;have j3:(k:Int)<(X.nd:Int):=by omega
   have j4:IntKind.i64.wrap ((j:Int)-1)=(k:Int):=by rw[show(j:Int)-1=(k:Int)by omega];exact iw
   have j5:(j:Int)-1=(k:Int):=by omega
   have j6:IntKind.i64.wrap (k:Int)=(k:Int):=iw;clear l g0 f9 g1 g3 g2 g4 J;go_wp2_with fail
   refine dd 19 [⟨15,17,#[(), "", ""],71⟩,⟨16,18,#[(), "", ""],71⟩] [] (by kernel_rfl) (by kernel_rfl) (by kernel_rfl) (by kernel_rfl) (by kernel_rfl) ?_ ?_ ?_
   ·intro r hr;cases hr
   ·intro r hr;cases hr
   simp only[ac,aj,aK,aC,aa,ae,af];iterate 15
    apply dE (by kernel_rfl)
    ·intro u C b hd;replace b:=b.nil;have T:=dx b;have n7:w.heap.size<C.heap.size:=by omega
     have n8:O<C.heap.size:=by omega
     have n9:bc<C.heap.size:=by omega
     obtain⟨hc,hf⟩:=br b;clear b T;simp[cL,ai,dK,bN,dm.is,dm.any]at hd;go_simp
     first|exact⟨ah _ _,rfl⟩|rfl
   refine dZ ⟨15,17,#[(), "", ""],71⟩ (by simp) rfl ?_ ?_
   ·intro u C b;refine⟨by simp[au],?_⟩;go_simp
    first|done|rfl|exact⟨rfl,rfl⟩
   refine dZ ⟨16,18,#[(), "", ""],71⟩ (by simp) rfl ?_ ?_
   ·intro u C b;refine⟨by simp[au],?_⟩;go_simp
    first|done|rfl|exact⟨rfl,rfl⟩
   apply cC ⟨15,17,#[(), "", ""],71⟩ (by simp) rfl (by kernel_rfl) rfl (by kernel_rfl)
   ·intro u C b hd;replace b:=b.nil;have T:=dx b;have n7:w.heap.size<C.heap.size:=by omega
    have n8:O<C.heap.size:=by omega
    have n9:bc<C.heap.size:=by omega
    obtain⟨hc,hf⟩:=br b;clear b T;simp[cL,ai,dK,bN,dm.is,dm.any]at hd;refine⟨by simp[au],fun b' a8 q9 e=> ?_⟩;have n5:u 15= .pointer (some b'):=a8;have a:C.heap[b']?=some (.cells #[(), "", ""] 71):=e;have a2:=bV a;have f3:=ar a;clear e a a8;go_simp;exact bL.c3 f3.o _ _ _
   apply cC ⟨16,18,#[(), "", ""],71⟩ (by simp) rfl (by kernel_rfl) rfl (by kernel_rfl)
   ·intro u C b hd;replace b:=b.nil;have T:=dx b;have n7:w.heap.size<C.heap.size:=by omega
    have n8:O<C.heap.size:=by omega
    have n9:bc<C.heap.size:=by omega
    obtain⟨hc,hf⟩:=br b;clear b T;simp[cL,ai,dK,bN,dm.is,dm.any]at hd;refine⟨by simp[au],fun b' a8 q9 e=> ?_⟩;have n5:u 16= .pointer (some b'):=a8;have a:C.heap[b']?=some (.cells #[(), "", ""] 71):=e;have a2:=bV a;have f3:=ar a;clear e a a8;go_simp;exact bL.c3 f3.o _ _ _
   intro u U b f hV hP;replace b:=b.nil;clear hP;have e0:u 0=_:=eE f 0;have e1:u 1=_:=eE f 1;have e2:u 2=_:=eE f 2;have e3:u 3=_:=eE f 3;have e4:u 4=_:=eE f 4;have e5:u 5=_:=eE f 5;have e6:u 6=_:=eE f 6;have e7:u 7=_:=eE f 7;have e8:u 8=_:=eE f 8;have e9:u 9=_:=eE f 9;have k6:u 10=_:=eE f 10;have k7:u 11=_:=eE f 11;have k8:u 12=_:=eE f 12;have k9:u 13=_:=eE f 13;have l5:u 14=_:=eE f 14;have f6:u 17=_:=eE f 17;have f7:u 18=_:=eE f 18;obtain⟨⟨VA,c7,o0,b0⟩,⟨o2,-⟩,⟨⟨VB,c8,o1,b5⟩,-,-⟩⟩:=hV;replace b0:U.heap[VA]?=some (.cells (u 17).cells 71):=b0;rw[f6]at b0;replace c7:u 15= .pointer (some VA):=c7;obtain⟨s6,s7,s8,-,-⟩:=bV b0;clear b0;replace b5:U.heap[VB]?=some (.cells (u 18).cells 71):=b5;rw[f7]at b5;replace c8:u 16= .pointer (some VB):=c8;obtain⟨s9,t0,t1,-,-⟩:=bV b5;clear b5;clear o2;(try simp only[aw,aT]at o0);(try have s4:z.heap.size≤VA:=by omega);clear o0;(try simp only[aw,aT]at o1);(try have s5:z.heap.size≤VB:=by omega);clear o1;simp only[am,ax,ac,aj,aK,aC,aa,ae,af,e0,e1,e2,e3,e4,e5,e6,e7,e8,e9,k6,k7,k8,k9,l5,f6,f7,c7,c8];clear e0 e1 e2 e3 e4 e5 e6 e7 e8 e9 k6 k7 k8 k9 l5 f6 f7 c7 c8 f;have f1:=ar b;obtain⟨s3,s1,m3,m6,o9⟩:=pr b;clear b;have H5:=ar (aF.step HO.o f1.o);clear c0 c1 c2 c3 c4 c5 m3 m6;clear Y;have p:j≤X.nd:=by omega
   rcases A.o with hs|⟨he,hs|⟨hs1,he2,hs3⟩⟩
   ·clear A;go_wp2;go_roundw
    case rel=>exact⟨j+1,by omega,by omega,by go_num,rfl,H5.o⟩
    case measure=>simp[intOf];omega
   ·have n1:decide (ak<bk)=false:=df;have n2:(ak==bk)=true:=by rw[he];simp
    clear he A;go_wp2;go_roundw
    case rel=>exact⟨j+1,by omega,by omega,by go_num,rfl,H5.o⟩
    case measure=>simp[intOf];omega
   ·have n1:decide (ak<bk)=false:=df;have n2:(ak==bk)=true:=by rw[he];simp
    have n3:(ab.toList==bb.toList)=true:=by rw[he2];simp
    clear he he2 A;go_wp2;go_roundw
    case rel=>exact⟨j+1,by omega,by omega,by go_num,rfl,H5.o⟩
    case measure=>simp[intOf];omega
  ·have H1:=HO;clear HO;obtain⟨GB,l7⟩:=oE (z.heap.size+1);have i2:=ar l7;have u4:=aF.len H1.o d.o 0 rfl;have o8:Hi (∀q,q<4→∃Q,#[.map (some b1),.map (some b2),.map (some b3),.map (some b4)][q]?=some (Value.map (some Q))∧gW w Q (Ck X q) (yH X q)):=fun q hq=>by
    match q,hq with
    |0,_=>exact⟨b1,rfl,p2.o⟩
    |1,_=>exact⟨b2,rfl,p3.o⟩
    |2,_=>exact⟨b3,rfl,p4.o⟩
    |3,_=>exact⟨b4,rfl,p5.o⟩
   clear l7 d3 d4 d5 d6;go_wp2_with fail
   refine aD 19 ?_;simp only[ac,aj,aK,aC,aa,ae,af];iterate 16 refine bJ ?_
   refine bG (ay.maps GB #[.map (some b1),.map (some b2),.map (some b3),.map (some b4)]) ?_ ?_
   ·intro u C T hc hf h8 hd;simp[aU,ai,aR,ay.is,ay.any]at hd;refine⟨by simp[au],?_⟩;go_simp;exact⟨(ah _ _).alloc (aB _) _,Hk (by have h1:=h8.o.size;have h2:=i2.o;simp at h1;omega) (bf _ _ _ rfl)⟩
   apply bg (x:= .int .i64 4)
   ·intro u C T hc hf h8 hd;simp[aU,ai,aR,ay.is,ay.any]at hd;obtain⟨g,t7,-,-⟩:=hd;go_simp
    first|done|exact⟨ah _ _,rfl⟩|exact ah _ _|rfl
   refine bJ ?_;intro u w2 b f;obtain⟨G,l6,p0,i3⟩:∃g,u 16= .slice (some ⟨g,0,none⟩) 4 4∧GB≤g∧w2.heap[g]?=some (.cells #[.map (some b1),.map (some b2),.map (some b3),.map (some b4)] 194):=eS f 16;simp only[cF,aR,ay.is,aE,aA,reduceIte]at f;simp only[am,ax,ac,aj,aK,aC,aa,ae,af,l6,f];clear l6 f;obtain⟨s2,s0,m2,m5,E⟩:=pr b;clear b;have H2:=ar (aF.step (aF.obj H1.o _) E.o);have j9:Hi (lw w2 z.heap.size 0 (.map [])):=lw.below (World.ownsMap_made (H:=Unit) z prog 9 (plainElem prog 4)) E.o;have o3:z.heap.size<w2.heap.size:=by have:=E.o.size;simp at this;omega
   have c9:=ar i3;have t3:z.heap.size<G:=by have:=i2.o;omega
   clear m2 m5 i3 p0 hlt;clear Y;go_wp2;clear r1;go_loopw[173] (fun x wr=>∃q:Nat,q≤4∧x= .int .i64 (q:Int)∧Hi (aF w wr L3)∧Hi (wr.heap[G]?=some (.cells #[.map (some b1),.map (some b2),.map (some b3),.map (some b4)] 194))∧z.heap.size<wr.heap.size∧Hi (∃c D,c≤40*q∧lw wr z.heap.size c D∧kE D (lk X q))) (fun x _=>4-(intOf x).toNat)
   case atStart=>exact⟨0,by omega,rfl,H2,c9,o3,0,_,by omega,j9.o,kE.nil _⟩
   case round=>
    clear H2 j9 c9 o3 H1;obtain⟨w3,rfl⟩:=wE wr;obtain⟨q,u0,rfl,HO,HG,u3,k3⟩:=hrel;have r9:G<w3.heap.size:=eB HG.o;by_cases hq:q<4
    ·obtain⟨Q,m9,m,DM,m8,N,l8⟩:=o8.o q hq;obtain⟨c,D,hc,hS,m1⟩:=k3.o;have HS:=ar hS;have k4:=ar m1;have t9:Q<w.heap.size:=N.lt;have m7:m≤40:=bW m8 (Hj T.o hq);have q6:=ar (bW N.size_le m7);have i4:=ar l8;have i8:=ar (World.ownsMap.kept N (Below.grow HO.o.1 none) (by simp));have c0:w3.cell? (G,q)=some (.map (some Q)):=aX HG.o m9;have q0:=dS q;have q1:(q:Int)<4:=by omega
     clear hS m1 N l8 m8 m9 k3;go_wp2_with (first|(at_range;refine wpList_range_own _ rfl _ 194 rfl 9 3 iI underlying194 _ Q m DM rfl i8.o ?_;intro w4 a7 a4 g8)|go_in)
     go_frame
     have a0:=ar a7;have g9:=ar (Below.grown (ah w3.heap.size w3) a4 (aB _) (fun k J=>by cases J));clear a7 a4 c0;go_loopw[] (fun wr=>∃(left:Lit→Bool) (B:Nat),Hi (wr.ranges prog 9 (plainElem prog 3) Q w3.heap.size m DM left B)∧Hi (∀t,left t=true→Maps.has DM t=true)∧Below w3.heap.size w3 wr) (fun wr=>wr.rangeLeft Q w3.heap.size)
     case atStart=>exact⟨_,_,a0,fun t h=>h,g9.o⟩
     case round=>
      clear a0 g9 g8;obtain⟨U,rfl⟩:=wE wr;obtain⟨left,B,HR,P,f8⟩:=hrel;have Z:=ar f8;have z5:=f8.size;clear f8;go_wp2_with (first|(at_next;refine wpList_next_ranges _ rfl _ rfl 9 iI (plainElem prog 3) (fun x:ByteArray=> .string x) (fun v:Value=>v) (fun r3 t J=>by obtain⟨x,p,-⟩:=oQ J;exact⟨x,p⟩) (fun v y hv=>⟨v,rfl⟩) Q w3.heap.size m DM left B rfl HR.o ?_ ?_)|go_in)
      ·intro g5 g7;have H5:=ar (aF.step HO.o Z.o);have h9:Hi (U.heap[G]?=some (.cells #[.map (some b1),.map (some b2),.map (some b3),.map (some b4)] 194)):=(Z.o.block G r9).trans HG.o;have k0:=ar (lw.below HS.o Z.o);have i7:=ar (World.ownsMap.kept i8.o (Below.grow Z.o none) (by simp));clear g7 g5 HR P;go_wp2_with (first|(at_range;refine wpList_range_own _ rfl _ 194 rfl 9 3 iI underlying194 _ Q m DM rfl i7.o ?_;intro w7 a7 a4 g8)|go_in)
       go_frame
       have a0:=ar a7;have b6:=ar (Below.grown (ah U.heap.size U) a4 (aB _) (fun k J=>by cases J));have H7:=ar (aF.step H5.o b6.o);have i0:Hi (w7.heap[G]?=some (.cells #[.map (some b1),.map (some b2),.map (some b3),.map (some b4)] 194)):=(b6.o.block G (by omega)).trans h9.o;have k1:=ar (lw.below k0.o b6.o);clear a7 a4;go_loopw[] (fun wr=>∃(left:Lit→Bool) (B c:Nat) (D:DataW Unit),Hi (wr.ranges prog 9 (plainElem prog 3) Q U.heap.size m DM left B)∧Hi (∀t,left t=true→Maps.has DM t=true)∧Hi (c+B≤40*(q+1))∧Hi (lw wr z.heap.size c D)∧Hi (kE D (lk X (q+1)))∧Hi (aF w wr L3)∧Hi (wr.heap[G]?=some (.cells #[.map (some b1),.map (some b2),.map (some b3),.map (some b4)] 194))∧U.heap.size<wr.heap.size) (fun wr=>wr.rangeLeft Q U.heap.size)
       case atStart=>exact⟨_,_,c,D,a0,fun t h=>h,(by have:=q6.o;show _≤_;omega),k1,k4.o.mono (fun s h=>yI h),H7,i0,by omega⟩
       case round=>
        clear a0 b6 H7 i0 k1 H5 h9 k0 i7 g8;obtain⟨w8,rfl⟩:=wE wr;obtain⟨left,B,c,D,HR,P,f2,k2,i9,H8,f4,z8⟩:=hrel;go_wp2_with (first|(at_next;refine wpList_next_ranges _ rfl _ rfl 9 iI (plainElem prog 3) (fun x:ByteArray=> .string x) (fun v:Value=>v) (fun r3 t J=>by obtain⟨x,p,-⟩:=oQ J;exact⟨x,p⟩) (fun v y hv=>⟨v,rfl⟩) Q U.heap.size m DM left B rfl HR.o ?_ ?_)|go_in)
        ·intro g5 g7;have p8:Hi (∃c D,c≤40*(q+1)∧lw w8 z.heap.size c D∧kE D (lk X (q+1))):=⟨c,D,by have:=f2.o;omega,k2.o,i9.o⟩;clear g7 g5;go_wp2;go_roundw
         case rel=>exact⟨q+1,by omega,by go_num,H8,f4,by omega,p8⟩
         case measure=>simp[intOf];omega
        ·intro x cv t ya yb w9 a1 o a6 hv a2 f0 d8 c6 u2 I;obtain⟨x',a9,a5⟩:=oQ o;obtain rfl:x=x':=by simpa using a9
         obtain⟨i,hi,n⟩:=i4.o.2.2 t (P.o t a6);obtain rfl:x=yH X q i:=kD (by rw[a5]at n;simpa using n);obtain⟨s,hs⟩:=oE (yH X q i);have n4:s.size≤2147483648:=by rw[←hs];have:=Aa T.o hq hi;omega
         have p9:Hi (lk X (q+1) s):=by show lk _ _ _;rw[←hs];exact yJ hi
         rw[hs]at I o;rw[hs];have p6:=ar (World.ownsMap.kept k2.o c6 (by simp;omega));have q2:=ar (aF.grown H8.o c6 (fun k J=>by cases J;exact⟨by omega,fun x p=>by have:=f5.o x p;omega⟩));have i1:Hi (w9.heap[G]?=some (.cells #[.map (some b1),.map (some b2),.map (some b3),.map (some b4)] 194)):=(c6.block G (eB f4.o) (by simp;omega)).trans f4.o;have q5:=ar f0;have d1:=ar d8;have k5:=ar n4;have I:(Instr.entry (.pointer (some U.heap.size))).run prog w9= .ok (.tuple #[.string s,cv]) w9:=I;have t6:c<1000:=by have:=f2.o;omega
         clear a9 a5 n hs n4 f0 d8 a6 hv a2 o c6 hi;go_wp2_with (first
          |(at_mapUpdate;refine wpList_mapUpdate_own _ rfl _ _ _ 200 rfl 9 4 iI underlying200 _ z.heap.size c _ rfl p6.o (by unfold maxLen;omega) (.string s) _ _ rfl rfl (vd k5.o) _ [] (plainElem_bool underlying4 true) ?_;intro wm m0 a3;go_frame)
          |go_in)
         have j8:=ar (q5.o.kept a3 (by simp;omega) (by simp;omega));have q3:=ar (aF.grown q2.o a3 (fun k J=>by cases J;exact⟨by omega,fun x p=>by have:=f5.o x p;have:=i5.o x p;omega⟩));have p1:Hi (wm.heap[G]?=some (.cells #[.map (some b1),.map (some b2),.map (some b3),.map (some b4)] 194)):=(a3.block G (eB i1.o) (by simp;omega)).trans i1.o;have p7:=ar m0;have q4:=ar (i9.o.put k5.o p9.o);have zm:=a3.size;clear m0 a3;go_wp2;go_roundw
         case rel=>exact⟨_,a1,c+1,_,j8,fun t h=>P.o t (by simp at h;exact h.1),(by have:=f2.o;have:=d1.o;show _≤_;omega),p7,q4,q3,p1,by omega⟩
         case measure=>
          rw[j8.o.left_eq,HR.o.left_eq];exact d1.o
      ·intro x cv t ya yb w6 a1 o a6 hv a2 d9 d7 q8 u1 I;obtain⟨x',a9,a5⟩:=oQ o;obtain rfl:x=x':=by simpa using a9
       obtain⟨i,hi,n⟩:=i4.o.2.2 t (P.o t a6);obtain rfl:x=yH X q i:=kD (by rw[a5]at n;simpa using n);have n6:=BJ hq hi m4.o;have h7:=ar (Below.grown Z.o q8 z5 (fun k J=>by cases J;exact aB _));have n0:=lw.unseen (lw.below HS.o h7.o) k4.o (by have:=Aa T.o hq hi;omega) n6;obtain⟨s,hs⟩:=oE (yH X q i);rw[hs]at I n0;rw[hs];have j7:=ar d9;have i6:=ar d7;have I:(Instr.entry (.pointer (some w3.heap.size))).run prog w6= .ok (.tuple #[.string s,cv]) w6:=I;clear a9 a5 n hs d9 d7 a6 hv a2 o n6 hi;go_wp2;go_roundw
       case rel=>exact⟨_,a1,j7,fun t h=>P.o t (by simp at h;exact h.1),h7.o⟩
       case measure=>
        rw[j7.o.left_eq,HR.o.left_eq];exact i6.o
    ·go_wp2;go_returns;exact⟨rfl,HO.o.1⟩
end
section
open Go Go.ChangeShapes Go.WideShapes Go.RowKit Go.ChangeAt
theorem BK {m:fZ} {X:bK} (h:io m X):∀q c,q<4→c<q→∀i j,i<Ck X q→j<Ck X c→yH X q i≠yH X c j:=fun q c e d i j a b=>by
 match q,e,c,d with
 |1,_,0,_=>exact h.d01 i j a b
 |2,_,0,_=>exact h.d02 i j a b
 |2,_,1,_=>exact h.d12 i j a b
 |3,_,0,_=>exact h.d03 i j a b
 |3,_,1,_=>exact h.d13 i j a b
 |3,_,2,_=>exact h.d23 i j a b
theorem ug (X:bK) (S:dq) (v:Value) (m:fZ) (T:Nat→Value) (w:World) (h:Hi (cJ w X S)) (g:Hi (eY X)) (C:dN w) (U:fE w v m T) (hp:Hi (∀i,i<X.np→dj w (X.D i) (S.sp i))) (Y:Hi (∀i,i<m.ng→(m.nm i).size≤1048576)) (Z:Hi (∀i,i<m.ns→(m.sn i).size≤1048576)) (b:Hi (io m X)):
 Gv 68 #[.agg (bH X S),v] (.int .i64 0) w:=by
 have h0:cJ w X S:=h.o;have d:=ar C;have H:Hi (∀W,Below w.heap.size w W→Gv 116 #[v] (.int .i64 0) W):=fun W c=>FN v m T W (U.below c) b.o.mat Y Z;have I:Hi (∀W,Gv 117 #[.string X.hull] (.bool true) W):=fun W=>by
  have x:=jw X.hull W (by have:=g.o.h;omega);rw[b.o.hull]at x;exact x
 have j:Hi (∀W,Below w.heap.size w W→W.heap[w.heap.size]?=some (.cells (bH X S) 28)→Calls prog 118 #[.pointer (some w.heap.size)] W (fun e w'=>∃a,e= .returned (.pointer (some ⟨a,0,none⟩))∧ff w' a w.heap.size X S∧Below W.heap.size W w')):=fun W c hd=>yA X S w.heap.size W (h0.below c) hd g ⟨b.o.an,b.o.ap,b.o.aq,b.o.ak⟩;have J:Hi (∀W a,Below w.heap.size w W→ff W a w.heap.size X S→Gv 119 #[.pointer (some ⟨a,0,none⟩)] (.int .i64 0) W):=fun W a c f=>DX X S a w.heap.size W f g (d.o.below c) b.o.an b.o.ap b.o.aq b.o.ak b.o.ad (BK b.o);have K:Hi (∀W a,Below w.heap.size w W→ff W a w.heap.size X S→Gv 120 #[.pointer (some ⟨a,0,none⟩)] (.int .i64 0) W):=fun W a c f=>sE X S a w.heap.size W f g (d.o.below c) ⟨b.o.nd,b.o.nu⟩;have N:Hi (∀W a,Below w.heap.size w W→ff W a w.heap.size X S→Gv 121 #[.pointer (some ⟨a,0,none⟩),v] (.int .i64 0) W):=fun W a c f=>sN X S a w.heap.size v m T W f g (d.o.below c) (U.below c) (fun i hi=>(hp.o i hi).below c) ⟨b.o.pt,b.o.ms⟩;have O:Hi (∀W a,Below w.heap.size w W→ff W a w.heap.size X S→Gv 122 #[.pointer (some ⟨a,0,none⟩)] (.int .i64 0) W):=fun W a c f=>sF X S a w.heap.size W f g (d.o.below c) b.o.sm;have P:Hi (∀W a,Below w.heap.size w W→ff W a w.heap.size X S→Gv 123 #[.pointer (some ⟨a,0,none⟩)] (.int .i64 0) W):=fun W a c f=>oO X S a w.heap.size W f g (d.o.below c) b.o.pk b.o.pc b.o.pa b.o.od;have Q:Hi (∀W a,Below w.heap.size w W→ff W a w.heap.size X S→Gv 124 #[.pointer (some ⟨a,0,none⟩)] (.int .i64 0) W):=fun W a c f=>sG X S a w.heap.size W f g (d.o.below c) b.o.ne;obtain⟨vg,vs,rfl,y,z,-,-,-⟩:=U;obtain⟨og,cg,rfl,-,-⟩:=y.form;obtain⟨a1,a0,rfl,-,-⟩:=z.form;clear y z h0 hp C;obtain⟨on,cn,op,cp,sp,os,cs,ok,ck,sk,od,cd⟩:=S;unfold bH at j⊢
 dsimp only at j⊢
 go_enter func68,ntmps68;go_wp2_with fail
 (go_at_call 116;refine mz (H.o _ (by go_grown)) fun w1 A=> ?_);obtain⟨L,hL,x⟩:=aF.ex (aF.step (((aF.nil (ah w.heap.size w)).alloc (w.heap.size) rfl _ _).alloc (w.heap.size+1) (by simp) _ _) A);have G:=ar hL;have H1:=ar x;clear hL x A;obtain⟨x0,-,-,-,-,-,-,-⟩:=aJ (aF.nth H1.o G.o 1 rfl);go_wp2_with fail
 (go_at_call 117;refine cy (I.o _) H1 fun w2 E=> ?_);clear x0;go_wp2_with fail
 (go_at_call 118;refine(j.o _ E.o.1 (aF.nth E.o G.o 1 rfl)).mono ?_;rintro e_ w3 ⟨a,rfl,D,B⟩);have H3:=ar (aF.step E.o B);have q:=ar D;clear B D;go_wp2_with fail
 (go_at_call 119;refine mz (J.o _ _ H3.o.1 q.o) fun w4 k=> ?_);have H4:=ar (aF.step H3.o k);have r:=ar (q.o.below k);clear k;go_wp2_with fail
 (go_at_call 120;refine mz (K.o _ _ H4.o.1 r.o) fun w5 l=> ?_);have F:=ar (aF.step H4.o l);have s:=ar (r.o.below l);clear l;obtain⟨m0,m1,-,-⟩:=al (aF.nth F.o G.o 0 rfl);go_wp2_with fail
 (go_at_call 121;refine mz (N.o _ _ F.o.1 s.o) fun w6 n=> ?_);have H6:=ar (aF.step F.o n);have t:=ar (s.o.below n);clear n;clear m0 m1;go_wp2_with fail
 (go_at_call 122;refine mz (O.o _ _ H6.o.1 t.o) fun w7 o=> ?_);have H7:=ar (aF.step H6.o o);have u:=ar (t.o.below o);clear o;go_wp2_with fail
 (go_at_call 123;refine mz (P.o _ _ H7.o.1 u.o) fun w8 p=> ?_);have H8:=ar (aF.step H7.o p);have R:=ar (u.o.below p);clear p;go_wp2_with fail
 (go_at_call 124;refine cy (Q.o _ _ H8.o.1 R.o) H8 fun w9 H9=> ?_);go_wp2;go_returns;exact⟨rfl,H9.o.1⟩
end
section
open Go Go.RowKit
def eG (f:Nat→Nat→Value) (k:Nat):Nat→List Value
 |0=> []
 |n+1=>eG f k n++(List.range k).map (f n)
theorem fC (f:Nat→Nat→Value) (k:Nat):∀n,(eG f k n).length=n*k
 |0=>by simp[eG]
 |n+1=>by rw[eG,aZ,fC f k n,List.length_map,List.length_range,Nat.add_mul,Nat.one_mul]
theorem sO (f:Nat→Nat→Value) (k:Nat):∀(n i j:Nat),i<n→j<k→(eG f k n)[i*k+j]?=some (f i j)
 |0,i,j,hi,_=>absurd hi (Nat.not_lt_zero i)
 |n+1,i,j,hi,hj=>by
  rw[eG];by_cases h:i<n
  ·rw[cV (by
    rw[fC];have:=Nat.mul_le_mul_right k (show i+1≤n from h);rw[Nat.add_mul,Nat.one_mul]at this;omega)]
   exact sO f k n i j h hj
  ·obtain rfl:i=n:=by omega
   rw[cD (by rw[fC];omega),fC,show i*k+j-i*k=j by omega];simp[hj]
theorem iL {f:Nat→Nat→Value} {k:Nat}:∀{n:Nat},(∀i j,i<n→j<k→(f i j).oneCell'=true)→∀u∈eG f k n,u.oneCell'=true
 |0,_,u,h=>by cases h
 |n+1,h1,u,h=>by
  rw[eG]at h;rcases List.mem_append.1 h with h|h
  ·exact iL (fun i j b a=>h1 i j (by omega) a) u h
  ·obtain⟨j,a,rfl⟩:=List.mem_map.1 h;exact h1 n j (by omega) (List.mem_range.1 a)
theorem iK {f g:Nat→Nat→Value} {k:Nat}:∀{n:Nat},(∀i j,i<n→j<k→f i j=g i j)→eG f k n=eG g k n
 |0,_=>rfl
 |n+1,h=>by
  rw[eG,eG,iK (fun i j b a=>h i j (by omega) a)];congr 1;exact List.map_congr_left fun j a=>h n j (by omega) (List.mem_range.1 a)
theorem lZ {w:World} {B:Nat} {t:TypeId} {v:Value} {n k:Nat} {f:Nat→Nat→Value} (h:w.ownsRow B t k v n (eG f k n)) (c:0<k):cE w v n k f:=fv h _ c (fun i j a b=>sO f k n i j a b)
theorem GL (F:Nat→Pt):∀n,qH F n=eG (fun i j=>qb (F i) j) 2 n
 |0=>rfl
 |n+1=>by rw[qH,eG,GL F n];rfl
theorem oR {w:World} {v:Value} {n k:Nat} {f:Nat→Nat→Value} (h:cE w v n k f) (t:0<k):∃(oa:Option Addr) (cap:Nat),v= .slice oa n cap∧(oa=none→n=0)∧∀d,oa=some d→∀j u,(eG f k n)[j]?=some u→w.cell? (d.add j)=some u:=by
 obtain⟨oa,cap,rfl,-,-,o⟩:=h;refine⟨oa,cap,rfl,fun h=> ?_,fun d g j u p=> ?_⟩
 ·rcases Nat.eq_zero_or_pos n with h0|h0
  ·exact h0
  ·obtain⟨b,a,e,-⟩:=o h0;rw[h]at e;cases e
 ·have c:j<n*k:=by rw[←fC f k n];exact(List.getElem?_eq_some_iff.1 p).1
  have hn:0<n:=by
   rcases Nat.eq_zero_or_pos n with h0|h0
   ·rw[h0,Nat.zero_mul]at c;omega
   ·exact h0
  obtain⟨b,a,e,-,s⟩:=o hn;rw[g]at e;cases e;have q:j/k<n:=Nat.div_lt_of_lt_mul (by rw[Nat.mul_comm];exact c);have r:j % k<k:=Nat.mod_lt _ t;have l:=sO f k n (j/k) (j % k) q r;have i:j/k*k+j % k=j:=by rw[Nat.mul_comm];exact Nat.div_add_mod j k
  rw[i,p]at l;have m:=s (j/k) (j % k) q r;rw[i]at m;rw[show(⟨b,a,none⟩:Addr).add j=⟨b,a+j,none⟩by unfold Addr.add;split<;>simp_all,m];exact l.symm
theorem Ab:(prog.info? 43).map (fun i=>(i.zero,i.size,i.bytes))=some (some (.agg #[(),()]),2,16):=by kernel_rfl
theorem mb (v:Value) (n:Nat) (f:Nat→Nat→Value) (w:World) (h:cE w v n 2 f) (x:∀i j,i<n→j<2→(f i j).oneCell'=true) (hn:n≤1000000):
 Calls prog 96 #[v] w fun e w'=>∃r,e= .returned r∧w'.ownsRow w.heap.size 43 2 r n (eG f 2 n)∧Below w.heap.size w w':=by
 have F:prog.underlying 53=some (.slice 43):=underlying53;have q:∀(w:World) (a:Option Addr) (n c C c':Nat),(binOp .eql 53 (.slice a n c) (.slice none C c')).run prog w= .ok (.bool a.isNone) w:=fun w a n c C c'=>Lib.run_eql_slice_nil w _ _ a n c C c' F;obtain⟨N,K,z,A,B⟩:=dC Ab;obtain⟨oa,c,rfl,t,o⟩:=oR h (by decide);clear h;cases oa with
 |none=>
  have y:=t rfl;subst y;clear o x t;go_enter func96,ntmps96;go_wp2;go_returns;exact⟨_,rfl,World.ownsRow_nil _ _ _ _,ah _ _⟩
 |some ad=>
  have g:=ar (fC f 2 n);obtain⟨m,d⟩:=oE (eG f 2 n);have H:Hi (∀u∈m,u.oneCell'=true):=by show ∀u∈m,_;rw[←d];exact iL x
  rw[d]at o g;rw[d];have D:Hi (∀j u,m[j]?=some u→w.cell? (ad.add j)=some u):=o ad rfl;have s:Hi (∀j u,m[j]?=some u→(ad.add j).block<w.heap.size):=fun j u p=>by
   have:=D.o j u p;rcases Nat.lt_or_ge (ad.add j).block w.heap.size with h'|h'
   ·exact h'
   ·simp[World.cell?,Array.getElem?_eq_none h']at this
  clear o x t d;go_enter func96,ntmps96;go_wp2_with (at_builtin;refine wpList_append_own _ rfl _ _ 53 rfl w.heap.size 43 N _ 2 16 F K z A B rfl (by decide) _ _ _ rfl (World.ownsRow_made w #[] 0 (aB _) (Nat.zero_le _) (by simp)) ad n c m rfl ?c1 ?c2 ?c3 ?c4 ?c5 ?c6 ?_)
  case c1=>exact g.o
  case c2=>
   intro j u p;exact(World.cell?_alloc_lt _ _ _ (s.o j u p)).trans (D.o j u p)
  case c3=>exact H.o
  case c4=>unfold maxLen;omega
  case c5=>omega
  case c6=>simp
  intro r G l b _;have E:Below w.heap.size w G:=((ah _ w).alloc (aB _) _).grown b (by simp) (by intro k L;simp[Value.ownBlock]at L;omega);have I:=ar E;have J:Hi (G.ownsRow w.heap.size 43 2 r n m):=by
   show World.ownsRow _ _ _ _ _ _ _;simpa using l
  clear l b E;go_wp2;go_returns;exact⟨_,rfl,J.o,I.o⟩
theorem Ac:(prog.info? 53).map (fun i=>(i.zero,i.size,i.bytes))=some (some (.slice none 0 0),1,24):=by kernel_rfl
theorem wQ (v:Value) (n:Nat) (f:Nat→Nat→Value) (w:World) (h:cE w v n 1 f) (x:∀i j,i<n→j<1→(f i j).oneCell'=true) (hn:n≤1000000):
 Calls prog 174 #[v] w fun e w'=>∃r,e= .returned r∧w'.ownsRow w.heap.size 53 1 r n (eG f 1 n)∧Below w.heap.size w w':=by
 have F:prog.underlying 54=some (.slice 53):=underlying54;have q:∀(w:World) (a:Option Addr) (n c C c':Nat),(binOp .eql 54 (.slice a n c) (.slice none C c')).run prog w= .ok (.bool a.isNone) w:=fun w a n c C c'=>Lib.run_eql_slice_nil w _ _ a n c C c' F;obtain⟨N,K,z,A,B⟩:=dC Ac;obtain⟨oa,c,rfl,t,o⟩:=oR h (by decide);clear h;cases oa with
 |none=>
  have y:=t rfl;subst y;clear o x t;go_enter func174,ntmps174;go_wp2;go_returns;exact⟨_,rfl,World.ownsRow_nil _ _ _ _,ah _ _⟩
 |some ad=>
  have g:=ar (fC f 1 n);obtain⟨m,d⟩:=oE (eG f 1 n);have H:Hi (∀u∈m,u.oneCell'=true):=by show ∀u∈m,_;rw[←d];exact iL x
  rw[d]at o g;rw[d];have D:Hi (∀j u,m[j]?=some u→w.cell? (ad.add j)=some u):=o ad rfl;have s:Hi (∀j u,m[j]?=some u→(ad.add j).block<w.heap.size):=fun j u p=>by
   have:=D.o j u p;rcases Nat.lt_or_ge (ad.add j).block w.heap.size with h'|h'
   ·exact h'
   ·simp[World.cell?,Array.getElem?_eq_none h']at this
  clear o x t d;go_enter func174,ntmps174;go_wp2_with (at_builtin;refine wpList_append_own _ rfl _ _ 54 rfl w.heap.size 53 N _ 1 24 F K z A B rfl (by decide) _ _ _ rfl (World.ownsRow_made w #[] 0 (aB _) (Nat.zero_le _) (by simp)) ad n c m rfl ?c1 ?c2 ?c3 ?c4 ?c5 ?c6 ?_)
  case c1=>exact g.o
  case c2=>
   intro j u p;exact(World.cell?_alloc_lt _ _ _ (s.o j u p)).trans (D.o j u p)
  case c3=>exact H.o
  case c4=>unfold maxLen;omega
  case c5=>omega
  case c6=>simp
  intro r G l b _;have E:Below w.heap.size w G:=((ah _ w).alloc (aB _) _).grown b (by simp) (by intro k L;simp[Value.ownBlock]at L;omega);have I:=ar E;have J:Hi (G.ownsRow w.heap.size 53 1 r n m):=by
   show World.ownsRow _ _ _ _ _ _ _;simpa using l
  clear l b E;go_wp2;go_returns;exact⟨_,rfl,J.o,I.o⟩
theorem FU:(prog.info? 64).map (fun i=>(i.zero,i.size,i.bytes))=some (some (.agg #["",(), ""]),3,40):=by kernel_rfl
theorem DY (v:Value) (n:Nat) (f:Nat→Nat→Value) (w:World) (h:cE w v n 3 f) (x:∀i j,i<n→j<3→(f i j).oneCell'=true) (hn:n≤1000000):
 Calls prog 175 #[v] w fun e w'=>∃r,e= .returned r∧w'.ownsRow w.heap.size 64 3 r n (eG f 3 n)∧Below w.heap.size w w':=by
 have F:prog.underlying 22=some (.slice 64):=underlying22;have q:∀(w:World) (a:Option Addr) (n c C c':Nat),(binOp .eql 22 (.slice a n c) (.slice none C c')).run prog w= .ok (.bool a.isNone) w:=fun w a n c C c'=>Lib.run_eql_slice_nil w _ _ a n c C c' F;obtain⟨N,K,z,A,B⟩:=dC FU;obtain⟨oa,c,rfl,t,o⟩:=oR h (by decide);clear h;cases oa with
 |none=>
  have y:=t rfl;subst y;clear o x t;go_enter func175,ntmps175;go_wp2;go_returns;exact⟨_,rfl,World.ownsRow_nil _ _ _ _,ah _ _⟩
 |some ad=>
  have g:=ar (fC f 3 n);obtain⟨m,d⟩:=oE (eG f 3 n);have H:Hi (∀u∈m,u.oneCell'=true):=by show ∀u∈m,_;rw[←d];exact iL x
  rw[d]at o g;rw[d];have D:Hi (∀j u,m[j]?=some u→w.cell? (ad.add j)=some u):=o ad rfl;have s:Hi (∀j u,m[j]?=some u→(ad.add j).block<w.heap.size):=fun j u p=>by
   have:=D.o j u p;rcases Nat.lt_or_ge (ad.add j).block w.heap.size with h'|h'
   ·exact h'
   ·simp[World.cell?,Array.getElem?_eq_none h']at this
  clear o x t d;go_enter func175,ntmps175;go_wp2_with (at_builtin;refine wpList_append_own _ rfl _ _ 22 rfl w.heap.size 64 N _ 3 40 F K z A B rfl (by decide) _ _ _ rfl (World.ownsRow_made w #[] 0 (aB _) (Nat.zero_le _) (by simp)) ad n c m rfl ?c1 ?c2 ?c3 ?c4 ?c5 ?c6 ?_)
  case c1=>exact g.o
  case c2=>
   intro j u p;exact(World.cell?_alloc_lt _ _ _ (s.o j u p)).trans (D.o j u p)
  case c3=>exact H.o
  case c4=>unfold maxLen;omega
  case c5=>omega
  case c6=>simp
  intro r G l b _;have E:Below w.heap.size w G:=((ah _ w).alloc (aB _) _).grown b (by simp) (by intro k L;simp[Value.ownBlock]at L;omega);have I:=ar E;have J:Hi (G.ownsRow w.heap.size 64 3 r n m):=by
   show World.ownsRow _ _ _ _ _ _ _;simpa using l
  clear l b E;go_wp2;go_returns;exact⟨_,rfl,J.o,I.o⟩
theorem FV:(prog.info? 66).map (fun i=>(i.zero,i.size,i.bytes))=some (some (.agg #["", "", "",(),(),()]),6,72):=by kernel_rfl
theorem DZ (v:Value) (n:Nat) (f:Nat→Nat→Value) (w:World) (h:cE w v n 6 f) (x:∀i j,i<n→j<6→(f i j).oneCell'=true) (hn:n≤1000000):
 Calls prog 176 #[v] w fun e w'=>∃r,e= .returned r∧w'.ownsRow w.heap.size 66 6 r n (eG f 6 n)∧Below w.heap.size w w':=by
 have F:prog.underlying 24=some (.slice 66):=underlying24;have q:∀(w:World) (a:Option Addr) (n c C c':Nat),(binOp .eql 24 (.slice a n c) (.slice none C c')).run prog w= .ok (.bool a.isNone) w:=fun w a n c C c'=>Lib.run_eql_slice_nil w _ _ a n c C c' F;obtain⟨N,K,z,A,B⟩:=dC FV;obtain⟨oa,c,rfl,t,o⟩:=oR h (by decide);clear h;cases oa with
 |none=>
  have y:=t rfl;subst y;clear o x t;go_enter func176,ntmps176;go_wp2;go_returns;exact⟨_,rfl,World.ownsRow_nil _ _ _ _,ah _ _⟩
 |some ad=>
  have g:=ar (fC f 6 n);obtain⟨m,d⟩:=oE (eG f 6 n);have H:Hi (∀u∈m,u.oneCell'=true):=by show ∀u∈m,_;rw[←d];exact iL x
  rw[d]at o g;rw[d];have D:Hi (∀j u,m[j]?=some u→w.cell? (ad.add j)=some u):=o ad rfl;have s:Hi (∀j u,m[j]?=some u→(ad.add j).block<w.heap.size):=fun j u p=>by
   have:=D.o j u p;rcases Nat.lt_or_ge (ad.add j).block w.heap.size with h'|h'
   ·exact h'
   ·simp[World.cell?,Array.getElem?_eq_none h']at this
  clear o x t d;go_enter func176,ntmps176;go_wp2_with (at_builtin;refine wpList_append_own _ rfl _ _ 24 rfl w.heap.size 66 N _ 6 72 F K z A B rfl (by decide) _ _ _ rfl (World.ownsRow_made w #[] 0 (aB _) (Nat.zero_le _) (by simp)) ad n c m rfl ?c1 ?c2 ?c3 ?c4 ?c5 ?c6 ?_)
  case c1=>exact g.o
  case c2=>
   intro j u p;exact(World.cell?_alloc_lt _ _ _ (s.o j u p)).trans (D.o j u p)
  case c3=>exact H.o
  case c4=>unfold maxLen;omega
  case c5=>omega
  case c6=>simp
  intro r G l b _;have E:Below w.heap.size w G:=((ah _ w).alloc (aB _) _).grown b (by simp) (by intro k L;simp[Value.ownBlock]at L;omega);have I:=ar E;have J:Hi (G.ownsRow w.heap.size 66 6 r n m):=by
   show World.ownsRow _ _ _ _ _ _ _;simpa using l
  clear l b E;go_wp2;go_returns;exact⟨_,rfl,J.o,I.o⟩
theorem FW:(prog.info? 71).map (fun i=>(i.zero,i.size,i.bytes))=some (some (.agg #[(), "", ""]),3,40):=by kernel_rfl
theorem Ea (v:Value) (n:Nat) (f:Nat→Nat→Value) (w:World) (h:cE w v n 3 f) (x:∀i j,i<n→j<3→(f i j).oneCell'=true) (hn:n≤1000000):
 Calls prog 177 #[v] w fun e w'=>∃r,e= .returned r∧w'.ownsRow w.heap.size 71 3 r n (eG f 3 n)∧Below w.heap.size w w':=by
 have F:prog.underlying 26=some (.slice 71):=underlying26;have q:∀(w:World) (a:Option Addr) (n c C c':Nat),(binOp .eql 26 (.slice a n c) (.slice none C c')).run prog w= .ok (.bool a.isNone) w:=fun w a n c C c'=>Lib.run_eql_slice_nil w _ _ a n c C c' F;obtain⟨N,K,z,A,B⟩:=dC FW;obtain⟨oa,c,rfl,t,o⟩:=oR h (by decide);clear h;cases oa with
 |none=>
  have y:=t rfl;subst y;clear o x t;go_enter func177,ntmps177;go_wp2;go_returns;exact⟨_,rfl,World.ownsRow_nil _ _ _ _,ah _ _⟩
 |some ad=>
  have g:=ar (fC f 3 n);obtain⟨m,d⟩:=oE (eG f 3 n);have H:Hi (∀u∈m,u.oneCell'=true):=by show ∀u∈m,_;rw[←d];exact iL x
  rw[d]at o g;rw[d];have D:Hi (∀j u,m[j]?=some u→w.cell? (ad.add j)=some u):=o ad rfl;have s:Hi (∀j u,m[j]?=some u→(ad.add j).block<w.heap.size):=fun j u p=>by
   have:=D.o j u p;rcases Nat.lt_or_ge (ad.add j).block w.heap.size with h'|h'
   ·exact h'
   ·simp[World.cell?,Array.getElem?_eq_none h']at this
  clear o x t d;go_enter func177,ntmps177;go_wp2_with (at_builtin;refine wpList_append_own _ rfl _ _ 26 rfl w.heap.size 71 N _ 3 40 F K z A B rfl (by decide) _ _ _ rfl (World.ownsRow_made w #[] 0 (aB _) (Nat.zero_le _) (by simp)) ad n c m rfl ?c1 ?c2 ?c3 ?c4 ?c5 ?c6 ?_)
  case c1=>exact g.o
  case c2=>
   intro j u p;exact(World.cell?_alloc_lt _ _ _ (s.o j u p)).trans (D.o j u p)
  case c3=>exact H.o
  case c4=>unfold maxLen;omega
  case c5=>omega
  case c6=>simp
  intro r G l b _;have E:Below w.heap.size w G:=((ah _ w).alloc (aB _) _).grown b (by simp) (by intro k L;simp[Value.ownBlock]at L;omega);have I:=ar E;have J:Hi (G.ownsRow w.heap.size 71 3 r n m):=by
   show World.ownsRow _ _ _ _ _ _ _;simpa using l
  clear l b E;go_wp2;go_returns;exact⟨_,rfl,J.o,I.o⟩
theorem FX:(prog.info? 62).map (fun i=>(i.zero,i.size,i.bytes))=some (some (.agg #["",(),(), "", "",(),Nat,Nat, "",(),(),(),(),(),(),(),(),()]),18,208):=by kernel_rfl
theorem Eb (v:Value) (n:Nat) (f:Nat→Nat→Value) (w:World) (h:cE w v n 18 f) (x:∀i j,i<n→j<18→(f i j).oneCell'=true) (hn:n≤1000000):
 Calls prog 178 #[v] w fun e w'=>∃r,e= .returned r∧w'.ownsRow w.heap.size 62 18 r n (eG f 18 n)∧Below w.heap.size w w':=by
 have F:prog.underlying 23=some (.slice 62):=underlying23;have q:∀(w:World) (a:Option Addr) (n c C c':Nat),(binOp .eql 23 (.slice a n c) (.slice none C c')).run prog w= .ok (.bool a.isNone) w:=fun w a n c C c'=>Lib.run_eql_slice_nil w _ _ a n c C c' F;obtain⟨N,K,z,A,B⟩:=dC FX;obtain⟨oa,c,rfl,t,o⟩:=oR h (by decide);clear h;cases oa with
 |none=>
  have y:=t rfl;subst y;clear o x t;go_enter func178,ntmps178;go_wp2;go_returns;exact⟨_,rfl,World.ownsRow_nil _ _ _ _,ah _ _⟩
 |some ad=>
  have g:=ar (fC f 18 n);obtain⟨m,d⟩:=oE (eG f 18 n);have H:Hi (∀u∈m,u.oneCell'=true):=by show ∀u∈m,_;rw[←d];exact iL x
  rw[d]at o g;rw[d];have D:Hi (∀j u,m[j]?=some u→w.cell? (ad.add j)=some u):=o ad rfl;have s:Hi (∀j u,m[j]?=some u→(ad.add j).block<w.heap.size):=fun j u p=>by
   have:=D.o j u p;rcases Nat.lt_or_ge (ad.add j).block w.heap.size with h'|h'
   ·exact h'
   ·simp[World.cell?,Array.getElem?_eq_none h']at this
  clear o x t d;go_enter func178,ntmps178;go_wp2_with (at_builtin;refine wpList_append_own _ rfl _ _ 23 rfl w.heap.size 62 N _ 18 208 F K z A B rfl (by decide) _ _ _ rfl (World.ownsRow_made w #[] 0 (aB _) (Nat.zero_le _) (by simp)) ad n c m rfl ?c1 ?c2 ?c3 ?c4 ?c5 ?c6 ?_)
  case c1=>exact g.o
  case c2=>
   intro j u p;exact(World.cell?_alloc_lt _ _ _ (s.o j u p)).trans (D.o j u p)
  case c3=>exact H.o
  case c4=>unfold maxLen;omega
  case c5=>omega
  case c6=>simp
  intro r G l b _;have E:Below w.heap.size w G:=((ah _ w).alloc (aB _) _).grown b (by simp) (by intro k L;simp[Value.ownBlock]at L;omega);have I:=ar E;have J:Hi (G.ownsRow w.heap.size 62 18 r n m):=by
   show World.ownsRow _ _ _ _ _ _ _;simpa using l
  clear l b E;go_wp2;go_returns;exact⟨_,rfl,J.o,I.o⟩
theorem FY:(prog.info? 69).map (fun i=>(i.zero,i.size,i.bytes))=some (some (.agg #["", "",Nat,(),Nat]),5,88):=by kernel_rfl
theorem Ec (v:Value) (n:Nat) (f:Nat→Nat→Value) (w:World) (h:cE w v n 5 f) (x:∀i j,i<n→j<5→(f i j).oneCell'=true) (hn:n≤1000000):
 Calls prog 179 #[v] w fun e w'=>∃r,e= .returned r∧w'.ownsRow w.heap.size 69 5 r n (eG f 5 n)∧Below w.heap.size w w':=by
 have F:prog.underlying 25=some (.slice 69):=underlying25;have q:∀(w:World) (a:Option Addr) (n c C c':Nat),(binOp .eql 25 (.slice a n c) (.slice none C c')).run prog w= .ok (.bool a.isNone) w:=fun w a n c C c'=>Lib.run_eql_slice_nil w _ _ a n c C c' F;obtain⟨N,K,z,A,B⟩:=dC FY;obtain⟨oa,c,rfl,t,o⟩:=oR h (by decide);clear h;cases oa with
 |none=>
  have y:=t rfl;subst y;clear o x t;go_enter func179,ntmps179;go_wp2;go_returns;exact⟨_,rfl,World.ownsRow_nil _ _ _ _,ah _ _⟩
 |some ad=>
  have g:=ar (fC f 5 n);obtain⟨m,d⟩:=oE (eG f 5 n);have H:Hi (∀u∈m,u.oneCell'=true):=by show ∀u∈m,_;rw[←d];exact iL x
  rw[d]at o g;rw[d];have D:Hi (∀j u,m[j]?=some u→w.cell? (ad.add j)=some u):=o ad rfl;have s:Hi (∀j u,m[j]?=some u→(ad.add j).block<w.heap.size):=fun j u p=>by
   have:=D.o j u p;rcases Nat.lt_or_ge (ad.add j).block w.heap.size with h'|h'
   ·exact h'
   ·simp[World.cell?,Array.getElem?_eq_none h']at this
  clear o x t d;go_enter func179,ntmps179;go_wp2_with (at_builtin;refine wpList_append_own _ rfl _ _ 25 rfl w.heap.size 69 N _ 5 88 F K z A B rfl (by decide) _ _ _ rfl (World.ownsRow_made w #[] 0 (aB _) (Nat.zero_le _) (by simp)) ad n c m rfl ?c1 ?c2 ?c3 ?c4 ?c5 ?c6 ?_)
  case c1=>exact g.o
  case c2=>
   intro j u p;exact(World.cell?_alloc_lt _ _ _ (s.o j u p)).trans (D.o j u p)
  case c3=>exact H.o
  case c4=>unfold maxLen;omega
  case c5=>omega
  case c6=>simp
  intro r G l b _;have E:Below w.heap.size w G:=((ah _ w).alloc (aB _) _).grown b (by simp) (by intro k L;simp[Value.ownBlock]at L;omega);have I:=ar E;have J:Hi (G.ownsRow w.heap.size 69 5 r n m):=by
   show World.ownsRow _ _ _ _ _ _ _;simpa using l
  clear l b E;go_wp2;go_returns;exact⟨_,rfl,J.o,I.o⟩
theorem FZ:(prog.info? 9).map (fun i=>(i.zero,i.size,i.bytes))=some (some (.string ⟨#[]⟩),1,16):=by kernel_rfl
theorem wR (v:Value) (n:Nat) (f:Nat→Nat→Value) (w:World) (h:cE w v n 1 f) (x:∀i j,i<n→j<1→(f i j).oneCell'=true) (hn:n≤1000000):
 Calls prog 315 #[v] w fun e w'=>∃r,e= .returned r∧w'.ownsRow w.heap.size 9 1 r n (eG f 1 n)∧Below w.heap.size w w':=by
 have F:prog.underlying 67=some (.slice 9):=underlying67;have q:∀(w:World) (a:Option Addr) (n c C c':Nat),(binOp .eql 67 (.slice a n c) (.slice none C c')).run prog w= .ok (.bool a.isNone) w:=fun w a n c C c'=>Lib.run_eql_slice_nil w _ _ a n c C c' F;obtain⟨N,K,z,A,B⟩:=dC FZ;obtain⟨oa,c,rfl,t,o⟩:=oR h (by decide);clear h;cases oa with
 |none=>
  have y:=t rfl;subst y;clear o x t;go_enter func315,ntmps315;go_wp2;go_returns;exact⟨_,rfl,World.ownsRow_nil _ _ _ _,ah _ _⟩
 |some ad=>
  have g:=ar (fC f 1 n);obtain⟨m,d⟩:=oE (eG f 1 n);have H:Hi (∀u∈m,u.oneCell'=true):=by show ∀u∈m,_;rw[←d];exact iL x
  rw[d]at o g;rw[d];have D:Hi (∀j u,m[j]?=some u→w.cell? (ad.add j)=some u):=o ad rfl;have s:Hi (∀j u,m[j]?=some u→(ad.add j).block<w.heap.size):=fun j u p=>by
   have:=D.o j u p;rcases Nat.lt_or_ge (ad.add j).block w.heap.size with h'|h'
   ·exact h'
   ·simp[World.cell?,Array.getElem?_eq_none h']at this
  clear o x t d;go_enter func315,ntmps315;go_wp2_with (at_builtin;refine wpList_append_own _ rfl _ _ 67 rfl w.heap.size 9 N _ 1 16 F K z A B rfl (by decide) _ _ _ rfl (World.ownsRow_made w #[] 0 (aB _) (Nat.zero_le _) (by simp)) ad n c m rfl ?c1 ?c2 ?c3 ?c4 ?c5 ?c6 ?_)
  case c1=>exact g.o
  case c2=>
   intro j u p;exact(World.cell?_alloc_lt _ _ _ (s.o j u p)).trans (D.o j u p)
  case c3=>exact H.o
  case c4=>unfold maxLen;omega
  case c5=>omega
  case c6=>simp
  intro r G l b _;have E:Below w.heap.size w G:=((ah _ w).alloc (aB _) _).grown b (by simp) (by intro k L;simp[Value.ownBlock]at L;omega);have I:=ar E;have J:Hi (G.ownsRow w.heap.size 9 1 r n m):=by
   show World.ownsRow _ _ _ _ _ _ _;simpa using l
  clear l b E;go_wp2;go_returns;exact⟨_,rfl,J.o,I.o⟩
end
section
open Go Go.ChangeShapes Go.WideShapes Go.RowKit Go.ChangeAt
theorem ii {n:Nat} {P:Nat→Pt} {lo e b:Pt}:fz n P lo e b=true↔1≤db n (rv n P) b∧(∀k,k<4→0≤db n (rv n P) (dl lo e k))∧∀i,i<n→jA (P i) (P (nx n i)) lo e=false:=by
 unfold fz;simp only[Bool.and_eq_true,decide_eq_true_eq];constructor
 ·rintro ⟨⟨c,a,d,f,g⟩,h⟩;refine⟨c,fun k j=> ?_,h⟩
  match k,j with
  |0,_=>exact a
  |1,_=>exact d
  |2,_=>exact f
  |3,_=>exact g
 ·rintro ⟨c,a,d⟩;exact⟨⟨c,a 0 (by decide),a 1 (by decide),a 2 (by decide),a 3 (by decide)⟩,d⟩
theorem Ed {w:World} {B n k:Nat} {t:TypeId} {v:Value} {b:List Value} (hn:0<n) (h:w.ownsRow B t k v n b):∃g cap,v= .slice (some ⟨g,0,none⟩) n cap:=by
 obtain⟨-,⟨-,c⟩|⟨g,cap,a,e,-,d,-⟩⟩:=h
 ·omega
 ·exact⟨g,cap,e⟩
theorem uh {n:Nat} {P:Nat→Pt} (h:bP n P<0):0<bP n (rv n P):=by rw[FD];omega
theorem yL (v:Value) (n:Nat) (P:Nat→Pt) (m o hh c d a b:Int) (w:World) (h:bO w v n P) (C:Hi (dT n P)) (N:bP n P<0) (e1:c=m-hh) (e2:d=o-hh) (e3:a=m+hh) (e4:b=o+hh) (g1:0≤hh∧hh≤5000) (ha:(-32768≤m∧m≤32768)∧ -32768≤o∧o≤32768):
 Gv 54 #[v,.agg #[c,d,a,b]] (.bool (fz n P (c,d) (a,b) (m,o))) w:=by
 generalize hR:fz n P (c,d) (a,b) (m,o)=R;have HR:=ar hR;have f6:Hi (Nr (c,d)):=by show Nr _;unfold Nr;dsimp only;omega
 have f5:Hi (Nr (a,b)):=by show Nr _;unfold Nr;dsimp only;omega
 have u1:IntKind.i64.wrap (c+a)=2*m:=by rw[show c+a=2*m by omega];exact iw
 have u2:IntKind.i64.wrap (d+b)=2*o:=by rw[show d+b=2*o by omega];exact iw
 have u3:(2*m).tdiv 2=m:=by rw[Int.mul_comm];exact Int.mul_tdiv_cancel _ (by decide)
 have u4:(2*o).tdiv 2=o:=by rw[Int.mul_comm];exact Int.mul_tdiv_cancel _ (by decide)
 have u5:IntKind.i64.wrap m=m:=iw;have u6:IntKind.i64.wrap o=o:=iw;have I:=C.o.rv;have z:=uh N;have L:=C.o.n32;have g8:=C.o.n3;have c7:Hi (∀i,i<n→Nr (P i)):=fun i hi=>by have:=C.o.nr i hi;unfold Nr;omega
 have f0:Hi (∀W,Below w.heap.size w W→Calls prog 96 #[v] W (fun e w'=>∃s,e= .returned s∧w'.ownsRow W.heap.size 43 2 s n (qH P n)∧Below W.heap.size W w')):=fun W hb=>by
  have:=mb v n (fun i j=>qb (P i) j) W (cE.below h hb) (fun i j _ _=>by unfold qb;split<;>rfl) (by omega);rw[←GL]at this;exact this
 have e9:Hi (∀W s,bO W s n (rv n P)→Gv 87 #[.agg #[s,Nat]] (.int .i64 0) W):=fun W s hv=>ky _ _ n 0 (rv n P) (fun _=>none) (fun _=>0) (fun _=>0) (fun _ _=>(0,0)) W hv (nK _ _ _ _ _) (rU I.pol L z _ _);have d6:Hi (∀W s J K,bO W s n (rv n P)→Gv 49 #[.agg #[s,Nat],.agg #[.int .i64 J,.int .i64 K]] (.int .i64 (db n (rv n P) (J,K))) W):=fun W s J K hv=>by
  have:=qo s n (rv n P) J K W hv I.pol L z;rw[mP I.pol]at this;exact this
 obtain⟨oa,cp,rfl,-,-,e5⟩:=h.form;have f1:=ar e5;clear h e5 hR e1 e2 e3 e4 g1 ha N I z;go_enter func54,ntmps54;go_wp2_with fail
 (go_at_call 96;refine(f0.o _ (by go_grown)).mono ?_;rintro e_ w1 ⟨s,rfl,H,y⟩);obtain⟨g,cap,rfl⟩:=Ed (by omega) H;have g7:w.heap.size+1≤g:=by have:=bU H g rfl;simp at this;omega
 have H1:=ar (aF.step ((aF.nil (ah w.heap.size w)).alloc (w.heap.size) rfl _ _) y);have c9:=ar H;clear H y;go_wp2_with fail
 (go_at_call 97;refine(wy g n cap _ P _ c9.o (by omega)).mono ?_;rintro e_ w2 ⟨rfl,e8,e7⟩);have H2:=ar (aF.grown H1.o e7 (fun q e=>by cases e;exact⟨by omega,fun x hx=>by
  simp only[bj,List.not_mem_nil,or_false]at hx;rcases hx with rfl;dsimp only;omega⟩))
 have d3:Hi (bO w2 (.slice (some ⟨g,0,none⟩) n cap) n (rv n P)):=Dn e8;clear e8 e7 c9 H1;obtain⟨SB,a3⟩:=oE w2.heap.size;have d2:=ar a3;obtain⟨L2,d9,h3⟩:=aF.ex (aF.alloc H2.o SB a3 #[.slice (some ⟨g,0,none⟩) n cap,Nat] 56);have p:=ar d9;have H3:=ar h3;have E:=ar (d3.o.below (w':=w2.alloc (.cells #[.slice (some ⟨g,0,none⟩) n cap,Nat] 56)) ((ah _ _).alloc (aB _) _));have g5:w.heap.size<SB:=by have:=H2.o.lt (bw ..);omega
 clear d9 h3 H2 d3 a3;go_wp2_with fail
 (go_at_call 87;refine mz (e9.o _ _ (by first|exact E.o|(rw[d2.o];exact E.o))) fun w3 a6=> ?_);have H4:=ar (aF.step H3.o a6);have U:=ar (E.o.below a6);clear a6 H3 E
 try rw[d2.o]
 obtain⟨s0,s1,-,-⟩:=al (aF.nth H4.o p.o 0 rfl);obtain⟨q0,J,K,q3,-,-⟩:=bR (aF.nth H4.o p.o 1 rfl);obtain⟨Z0,a4⟩:=oE (db n (rv n P) (m,o));have X:=ar (d6.o w3 _ m o U.o);rw[a4]at X;have d7:=ar a4;clear a4;go_wp2_with fail
 (go_at_call 49;refine mz (X.o) fun w4 a7=> ?_);have H5:=ar (aF.step H4.o a7);have d4:=ar (U.o.below a7);clear a7 X;clear s0 s1 q0 J K q3;obtain⟨q0,J,K,q3,-,-⟩:=bR (aF.nth H5.o p.o 1 rfl);by_cases r:Z0<1
 ·have kz:decide (Z0<1)=true:=decide_eq_true r;have Y:=ar r;clear r;have l:Hi (R=false):=by
   show _=_;rw[←HR.o,cG];intro hc;have C:=ii.1 hc;have a:=C.1;rw[d7.o]at a;have:=Y.o;omega
  go_wp2;go_returns;rw[l.o];exact⟨rfl,H5.o.1⟩
 have kz:decide (Z0<1)=false:=decide_eq_false r;have f9:Hi (1≤Z0):=by show _≤_;omega
 clear r;go_wp2_with fail
 (go_at_call 98;refine mz (qq _ _ _ _ _) fun w5 a8=> ?_);have H6:=ar (aF.step H5.o a8);have d5:=ar (d4.o.below a8);clear a8;clear q0 J K q3;go_wp2;go_loopw[42] (fun x wr=>∃k:Nat,k≤4∧x= .int .i64 (k:Int)∧Hi (∀q,q<k→0≤db n (rv n P) (dl (c,d) (a,b) q))∧Hi (aF w wr L2)∧Hi (bO wr (.slice (some ⟨g,0,none⟩) n cap) n (rv n P))) (fun x _=>4-(intOf x).toNat)
 case atStart=>exact⟨0,by omega,rfl,fun q D=>absurd D (by omega),H6,d5⟩
 case round=>
  clear H4 H5 H6 U d4 d5;obtain⟨t,rfl⟩:=wE wr;obtain⟨k,hk,rfl,HK,A,HV⟩:=hrel;obtain⟨s0,s1,-,sz⟩:=al (aF.nth A.o p.o 0 rfl);by_cases hk4:k<4
  ·have ix:∀W,(Instr.index 162 (.agg #[c,d,a,d,a,b,c,b]) (.int .i64 (k:Int))).run prog W= .ok (.agg #[(dl (c,d) (a,b) k).1,(dl (c,d) (a,b) k).2]) W:=by
    rcases(by omega:k=0∨k=1∨k=2∨k=3)with rfl|rfl|rfl|rfl
    ·intro W;kernel_rfl
    ·intro W;kernel_rfl
    ·intro W;kernel_rfl
    ·intro W;kernel_rfl
   obtain⟨Z,b0⟩:=oE ((dl (c,d) (a,b) k).1);obtain⟨c2,b1⟩:=oE ((dl (c,d) (a,b) k).2);have c4:Hi (dl (c,d) (a,b) k=(Z,c2)):=Prod.ext b0 b1;rw[b0,b1]at ix;clear b0 b1;obtain⟨Z1,a5⟩:=oE (db n (rv n P) (Z,c2));have f8:Hi (∀W,Below t.heap.size t W→Gv 49 #[.agg #[.slice (some ⟨g,0,none⟩) n cap,Nat],.agg #[Z,c2]] (.int .i64 Z1) W):=fun W hb=>by rw[←a5];exact d6.o W _ Z c2 (HV.o.below hb)
   have d8:=ar a5;clear a5;go_wp2_with fail
   (go_at_call 49;refine mz (f8.o _ (by go_grown)) fun w6 a9=> ?_);have H7:=ar (aF.tail (aF.step (A.o.alloc t.heap.size rfl _ _) a9));have f7:=ar (HV.o.below (ag (w:=t) (by go_grown) a9));clear a9 ix;by_cases r:Z1<0
   ·have kz:decide (Z1<0)=true:=decide_eq_true r;have Y:=ar r;clear r;have l:Hi (R=false):=by
     show _=_;rw[←HR.o,cG];intro hc;have C:=ii.1 hc;have a:=C.2.1 k hk4;rw[c4.o,d8.o]at a;have:=Y.o;omega
    go_wp2;go_returns;rw[l.o];exact⟨rfl,H7.o.1⟩
   have kz:decide (Z1<0)=false:=decide_eq_false r;have f3:Hi (∀q,q<k+1→0≤db n (rv n P) (dl (c,d) (a,b) q)):=fun q D=>by
    by_cases e:q=k
    ·rw[e,c4.o,d8.o];omega
    ·exact HK.o q (by omega)
   clear r;go_wp2;go_roundw
   case rel=>exact⟨k+1,by omega,by go_num,f3,H7,f7⟩
   case measure=>simp[intOf];omega
  ·have f4:Hi (∀q,q<4→0≤db n (rv n P) (dl (c,d) (a,b) q)):=fun q D=>HK.o q (by omega);have H8:=A;clear HK HV A;go_wp2;clear hk hk4;go_loopw[52] (fun x wr=>∃j:Nat,j≤n∧x= .int .i64 (j:Int)∧Hi (∀i,i<j→jA (P i) (P (nx n i)) (c,d) (a,b)=false)∧Hi (aF w wr L2)) (fun x _=>n-(intOf x).toNat)
   case atStart=>exact⟨0,by omega,rfl,fun q D=>absurd D (by omega),H8⟩
   case round=>
    clear H8;obtain⟨w9,rfl⟩:∃x:World,x=t:=⟨_,rfl⟩;obtain⟨t,rfl⟩:=wE wr;obtain⟨j,hj,rfl,HJ,A⟩:=hrel;obtain⟨-,-,-,sz⟩:=al (aF.nth A.o p.o 0 rfl);obtain⟨q0,J,K,q3,-,qz⟩:=bR (aF.nth A.o p.o 1 rfl);by_cases hlt:j<n
    ·obtain⟨J1,F⟩:=oE ((j:Int)+1);obtain⟨q,D⟩:=oE (nx n j);have qn:q<n:=by rw[←D];exact dW (by omega)
     have i1:IntKind.i64.wrap ((j:Int)+1)=J1:=by rw[F];exact iw
     have i2:J1.tmod (n:Int)=(q:Int):=by rw[←F,←D];exact gz hlt
     have i3:IntKind.i64.wrap (q:Int)=(q:Int):=iw;have i0:¬n=0:=by omega
     have i5:=dS q;have i6:(q:Int)<(n:Int):=by omega
     have c5:=ar F;have Hq:=ar D;have i8:=dS j;have i9:(j:Int)<(n:Int):=by omega
     clear F D;obtain⟨bc,fc,rfl,G,f⟩:=f1.o j hlt;have hB:=A.o.1;have c0:t.cell? (bc,fc+j*2)=some (.int .i64 (P j).1):=bI hB G (f j hlt).1;have Z:t.cell? (bc,fc+j*2+1)=some (.int .i64 (P j).2):=bI hB G (f j hlt).2;have d0:t.cell? (bc,fc+q*2)=some (.int .i64 (P q).1):=bI hB G (f q qn).1;have d1:t.cell? (bc,fc+q*2+1)=some (.int .i64 (P q).2):=bI hB G (f q qn).2;have g6:bc<t.heap.size:=by have:=hB.size;omega
     have c6:=ar (c7.o j hlt);have c8:=ar (c7.o q qn);obtain⟨x1,b5⟩:=oE ((P j).1);obtain⟨x2,b6⟩:=oE ((P j).2);obtain⟨y1,b8⟩:=oE ((P q).1);obtain⟨y2,b9⟩:=oE ((P q).2);have Q:Hi (P j=(x1,x2)):=Prod.ext b5 b6;have T:Hi (P q=(y1,y2)):=Prod.ext b8 b9;rw[Q.o]at c6;rw[T.o]at c8;rw[b5]at c0;rw[b6]at Z;rw[b8]at d0;rw[b9]at d1;obtain⟨B,a0⟩:=oE (jA (x1,x2) (y1,y2) (c,d) (a,b));have c3:=ar a0;have HC:Hi (∀W,Gv 99 #[.agg #[c,d,a,b],.agg #[x1,x2],.agg #[y1,y2]] (.bool B) W):=fun W=>by rw[←a0];exact DK c d a b x1 x2 y1 y2 W c6.o c8.o f6.o f5.o
     have HZ:=ar (A.o.alloc t.heap.size rfl #[x1,x2] 43);clear f hB b5 b6 b8 b9 a0;go_wp2_with fail
     refine aD 11 ?_;simp only[ac,aj,aK,aC,aa,ae,af];iterate 10 refine bJ ?_
     apply bg
     ·intro u wx r hc hf g4 hd;simp[aU,ai,aR,ay.is,ay.any]at hd;go_simp
      first|rfl|(go_at_call 99;refine(HC.o _).mono ?_;rintro e w1 ⟨rfl,y⟩;first|exact⟨rfl,y⟩|exact⟨_,rfl,y,rfl⟩)
     intro u w5 hb hE;simp only[cF,aR,ay.is,aE,aA,reduceIte]at hE;simp only[am,ax,ac,aj,aK,aC,aa,ae,af,hE];clear hE;obtain⟨g3,g2,e0,e6,O⟩:=pr hb;clear hb;have H9:=ar (aF.tail (aF.step HZ.o O.o));clear e0 e6 c0 Z d0 d1;obtain rfl|rfl:B=true∨B=false:=by cases B<;>simp
     ·have l:Hi (R=false):=by
       show _=_;rw[←HR.o,cG];intro hc;have C:=ii.1 hc;have a:=C.2.2 j hlt;rw[Hq.o,Q.o,T.o,c3.o]at a;cases a
      go_wp2;go_returns;rw[l.o];exact⟨rfl,H9.o.1⟩
     have f2:Hi (∀i,i<j+1→jA (P i) (P (nx n i)) (c,d) (a,b)=false):=fun i hi=>by
      by_cases e:i=j
      ·rw[e,Hq.o,Q.o,T.o,c3.o]
      ·exact HJ.o i (by omega)
     go_wp2;go_roundw
     case rel=>
      have g0:=c5.o;exact⟨j+1,by omega,by first|go_num|(rw[←g0];go_num),f2,H9⟩
     case measure=>simp[intOf];have:=c5.o;omega
    ·have l:Hi (R=true):=by
      show _=_;rw[←HR.o];exact ii.2 ⟨by rw[d7.o];exact f9.o,f4.o,fun i hi=>HJ.o i (by omega)⟩
     go_wp2;go_returns;rw[l.o];exact⟨rfl,A.o.1⟩
theorem Hl (v:Value) (m:Nat) (r:Nat→Option Addr) (o hn:Nat→Nat) (H:Nat→Nat→Pt) (q:Nat→Bool) (t:Nat) (w:World) (h:en w v m r o hn H) (L:Hi (∀W i,Below w.heap.size w W→i<m→Gv 53 #[.slice (r i) (hn i) (o i),.pointer (some t)] (.bool (q i)) W)):
 Gv 95 #[v,.func (.func 53) #[] #[.pointer (some t)]] (.int .i64 (if bq q m 0<m then(bq q m 0:Int)else -1)) w:=by
 obtain⟨oa,cap,rfl,K,P,n⟩:=h.form;have s:=ar n;clear h n;generalize B:bq q m 0=F;have E:=ar B;generalize C:(if F<m then(F:Int)else -1)=R;have z:=ar C;clear B C;go_enter func95,ntmps95;go_wp2;go_loopw[8] (fun i wr=>∃j:Nat,j≤m∧i= .int .i64 j∧Hi (bq q (m-j) j=F)∧Below w.heap.size w wr) (fun i _=>m-(intOf i).toNat)
 case atStart=>exact⟨0,by omega,rfl,E.o,ah _ _⟩
 case round=>
  obtain⟨y,rfl⟩:=wE wr;obtain⟨j,J,rfl,f,u⟩:=hrel;have b:=ar u;by_cases hlt:j<m
  ·obtain⟨G,I,rfl,l,a⟩:=s.o j hlt;have O:y.cell? (G,I+j)=some (.slice (r j) (hn j) (o j)):=bI u l (a j hlt);have Q:=dS j;have T:(j:Int)<(m:Int):=by omega
   obtain⟨A,e⟩:=oE (q j);have g:=ar e;have D:Hi (∀W,Below w.heap.size w W→Gv 53 #[.slice (r j) (hn j) (o j),.pointer (some t)] (.bool A) W):=fun W p=>by rw[←e];exact L.o W j p hlt
   clear a u e;go_wp2_with fail
   (go_at_call 53;refine mz (D.o _ b.o) fun N p=> ?_);have k:Below w.heap.size w N:=ag b.o p;clear p;cases A with
   |true=>
    have c:Hi (R=(j:Int)):=by
     show _=_;have d:F=j:=f.o.symm.trans (dI hlt g.o);rw[←z.o,d,if_pos hlt]
    go_wp2;go_returns;rw[c.o];exact⟨rfl,k⟩
   |false=>
    have x:Hi (bq q (m-(j+1)) (j+1)=F):=(dB hlt g.o).symm.trans f.o;go_wp2;go_roundw
    case rel=>exact⟨j+1,by omega,by go_num,x,k⟩
    case measure=>simp[intOf];omega
  ·have c:Hi (R= -1):=by
    show _=_;have d:F=m:=f.o.symm.trans (dX J hlt);rw[←z.o,d,if_neg (by omega)]
   go_wp2;go_returns;rw[c.o];exact⟨rfl,b.o⟩
theorem BM (v:Value) (m:Nat) (j:Nat→Option Addr) (d hn:Nat→Nat) (H:Nat→Nat→Pt) (q:Nat→Bool) (c:Nat) (w:World) (h:en w v m j d hn H) (t:Hi (∀W i,Below w.heap.size w W→i<m→Gv 53 #[.slice (j i) (hn i) (d i),.pointer (some c)] (.bool (q i)) W)):
 Gv 52 #[v,.func (.func 53) #[] #[.pointer (some c)]] (.bool (decide (∃k,k<m∧q k=true))) w:=by
 obtain⟨oa,cap,rfl,-,-,-⟩:=h.form;have l:=ar h;clear h;obtain⟨R,e⟩:=oE ((if bq q m 0<m then(bq q m 0:Int)else -1));generalize a:decide (∃k,k<m∧q k=true)=E;have o:Hi (decide (0≤R)=E):=by
  show _=_;obtain⟨A,B,u,x⟩:=dH q m 0;rw[←e,←a];by_cases hlt:bq q m 0<m
  ·rw[if_pos hlt,dt,decide_eq_true ⟨_,hlt,u (by omega)⟩]
  ·rw[if_neg hlt,show decide ((0:Int)≤ -1)=false by decide];refine(decide_eq_false ?_).symm;rintro ⟨k,z,g⟩;have:=x k (by omega) (by omega);rw[g]at this;cases this
 have p:Hi (∀W,Below w.heap.size w W→Gv 95 #[.slice oa m cap,.func (.func 53) #[] #[.pointer (some c)]] (.int .i64 R) W):=fun W b=>by
  have:=Hl _ m j d hn H q c W (l.o.below b) (fun r i f s=>t.o r i (ag b f) s);rw[e]at this;exact this
 clear e a;go_enter func52,ntmps52;go_wp2_with fail
 (go_at_call 95;refine mz (p.o _ (by go_grown)) fun y b=> ?_);have n:Hi (Below w.heap.size w y):=ag (w:=w) (by go_grown) b;clear b;go_wp2;go_returns;rw[←o.o];exact⟨rfl,n.o⟩
theorem wS (v:Value) (n:Nat) (P:Nat→Pt) (b c d g i e f:Int) (m:Nat) (w:World) (s:w.heap[m]?=some (.cells #[g,i,e,f] 123)) (h:bO w v n P) (y:Hi (dT n P)) (a:bP n P<0) (o:g=b-d) (p:i=c-d) (q:e=b+d) (r:f=c+d) (k:0≤d∧d≤5000) (t:(-32768≤b∧b≤32768)∧ -32768≤c∧c≤32768):
 Gv 53 #[v,.pointer (some m)] (.bool (fz n P (g,i) (e,f) (b,c))) w:=by
 obtain⟨R,l⟩:=oE (fz n P (g,i) (e,f) (b,c));have x:Hi (Gv 54 #[v,.agg #[g,i,e,f]] (.bool R) w):=by rw[←l];exact yL v n P b c d g i e f w h y a o p q r k t
 obtain⟨oa,z,rfl,-,-,-⟩:=h.form;rw[l];obtain⟨B,C,D,E,-,-⟩:=bR s;clear l h a o p q r k t s;go_enter func53,ntmps53;go_wp2_with fail
 (go_at_call 54;refine x.o.mono ?_;rintro A F ⟨rfl,j⟩);have u:=ar j;clear j;go_wp2;go_returns;exact⟨rfl,u.o⟩
theorem Ad (nh:Nat) (hn:Nat→Nat) (H:Nat→Nat→Pt) (sz a x y:Int) (e:a=(sz+1)/2):nJ nh hn H sz (x,y)=decide (∃k,k<nh∧fz (hn k) (H k) (x-a,y-a) (x+a,y+a) (x,y)=true):=by
 rw[e];rfl
theorem wT (D:bX) (S:cN) (sz x y:Int) (w:World) (u:dj w D S) (n:Hi (∀i,i<D.nh→dT (D.hn i) (D.H i)∧bP (D.hn i) (D.H i)<0)) (I:1≤sz∧sz≤10000) (H:(-32768≤x∧x≤32768)∧ -32768≤y∧y≤32768):
 Gv 19 #[.agg (aH D S),.agg #[.string D.id,x,y,sz]] (.bool (nJ D.nh D.hn D.H sz (x,y))) w:=by
 obtain⟨a,h⟩:=oE ((sz+1)/2);have t:0≤a∧a≤5000:=by omega
 rw[Ad D.nh D.hn D.H sz a x y h.symm];generalize A:decide (∃k,k<D.nh∧fz (D.hn k) (D.H k) (x-a,y-a) (x+a,y+a) (x,y)=true)=R;have J:=jX (x:=x) (y:=y);have K:=jY (x:=x) (y:=y);obtain⟨F,g⟩:=oE (mx x y);obtain⟨E,f⟩:=oE (mn x y);rw[g]at J;rw[f]at K;have N:decide (sz<1)=false:=df;have O:decide (10000<sz)=false:=df;have P:decide (32768<F)=false:=decide_eq_false (by rw[←g];unfold mx;split<;>omega);have Q:decide (E< -32768)=false:=decide_eq_false (by rw[←f];unfold mn;split<;>omega);have T:IntKind.i64.wrap (sz+1)=sz+1:=iw;have U:(sz+1).tdiv 2=a:=by rw[Int.tdiv_eq_ediv_of_nonneg (by omega)];exact h
 have X:IntKind.i64.wrap a=a:=iw;obtain⟨q,d⟩:=oE (x-a);obtain⟨r,e⟩:=oE (y-a);obtain⟨o,b⟩:=oE (x+a);obtain⟨p,c⟩:=oE (y+a);have Y:IntKind.i64.wrap (x-a)=q:=by rw[d];exact iw
 have Z:IntKind.i64.wrap (y-a)=r:=by rw[e];exact iw
 have u6:IntKind.i64.wrap (x+a)=o:=by rw[b];exact iw
 have u7:IntKind.i64.wrap (y+a)=p:=by rw[c];exact iw
 have s:Hi (∀W j,Below w.heap.size w W→W.heap[j]?=some (.cells #[q,r,o,p] 123)→Gv 52 #[.slice S.oq D.nh S.cq,.func (.func 53) #[] #[.pointer (some ⟨j,0,none⟩)]] (.bool R) W):=fun W j B z=>by
  rw[←A,d,e,b,c];exact BM _ D.nh S.oh S.ch D.hn D.H (fun k=>fz (D.hn k) (D.H k) (q,r) (o,p) (x,y)) j W (u.2.below B) (fun G i l v=>wS _ (D.hn i) (D.H i) x y a q r o p j G ((l.block j (av.1 z).1).trans z) ((u.2.2 i v).below (ag B l)) (n.o i v).1 (n.o i v).2 d.symm e.symm b.symm c.symm t H)
 clear A d e b c h u g f;unfold aH;go_enter func19,ntmps19;go_wp2_with fail
 (go_at_call 52;refine mz (s.o _ (w.heap.size+1+1) (by go_grown) (bf _ _ _ (by simp))) fun L m=> ?_);have C:Hi (Below w.heap.size w L):=ag (w:=w) (by go_grown) m;clear m;go_wp2;go_returns;exact⟨rfl,C.o⟩
theorem wU (c d a b f g h b2:Int) (w:World) (ha:Nr (f,g)) (q:Nr (h,b2)) (hl:Nr (c,d)) (hu:Nr (a,b)):
 Gv 107 #[.agg #[.int .i64 f,.int .i64 g],.agg #[.int .i64 h,.int .i64 b2],.agg #[.int .i64 c,.int .i64 d],.agg #[.int .i64 a,.int .i64 b]] (.bool (jA (f,g) (h,b2) (c,d) (a,b))) w:=by
 have q1:=jX;have q2:=jY;generalize hR:jA (f,g) (h,b2) (c,d) (a,b)=R;have H:Hi ((!gm (f,g) (h,b2) (c,d) (a,b)&&(fR (fun k=>decide (0<bQ (f,g) (h,b2) (dl (c,d) (a,b) k))) 4&&fR (fun k=>decide (bQ (f,g) (h,b2) (dl (c,d) (a,b) k)<0)) 4))=R):=(zT _ _ _ _).symm.trans hR;have a5:=ar ha;have a6:=ar q;have a7:=ar hl;have a8:=ar hu;clear hR ha q hl hu;by_cases o:mx f h≤c
 ·have U:decide (mx f h≤c)=true:=decide_eq_true o;have e:R=false:=by
   rw[←H.o];unfold gm;dsimp only;rw[U];simp
  subst e;clear o;go_enter func107,ntmps107;go_wp2;go_returns;exact⟨rfl,by go_grown⟩
 have U:decide (mx f h≤c)=false:=decide_eq_false o;by_cases p:a≤mn f h
 ·have X:decide (a≤mn f h)=true:=decide_eq_true p;have e:R=false:=by
   rw[←H.o];unfold gm;dsimp only;rw[X];simp
  subst e;clear p;go_enter func107,ntmps107;go_wp2;go_returns;exact⟨rfl,by go_grown⟩
 have X:decide (a≤mn f h)=false:=decide_eq_false p;by_cases c2:mx g b2≤d
 ·have Y:decide (mx g b2≤d)=true:=decide_eq_true c2;have e:R=false:=by
   rw[←H.o];unfold gm;dsimp only;rw[Y];simp
  subst e;clear c2;go_enter func107,ntmps107;go_wp2;go_returns;exact⟨rfl,by go_grown⟩
 have Y:decide (mx g b2≤d)=false:=decide_eq_false c2;by_cases c3:b≤mn g b2
 ·have Z:decide (b≤mn g b2)=true:=decide_eq_true c3;have e:R=false:=by
   rw[←H.o];unfold gm;dsimp only;rw[Z];simp
  subst e;clear c3;go_enter func107,ntmps107;go_wp2;go_returns;exact⟨rfl,by go_grown⟩
 have Z:decide (b≤mn g b2)=false:=decide_eq_false c3;have a9:Hi ((fR (fun k=>decide (0<bQ (f,g) (h,b2) (dl (c,d) (a,b) k))) 4&&fR (fun k=>decide (bQ (f,g) (h,b2) (dl (c,d) (a,b) k)<0)) 4)=R):=by
  show _=_;rw[←H.o];unfold gm;dsimp only;rw[U,X,Y,Z];rfl
 clear o p c2 c3 H;obtain⟨L,hL,h0⟩:=aF.ex (aF.alloc (aF.alloc (aF.alloc (aF.alloc (aF.alloc (aF.nil (ah w.heap.size w)) (w.heap.size) rfl #[.int .i64 f,.int .i64 g] 43) (w.heap.size+1) (by simp) #[.int .i64 h,.int .i64 b2] 43) (w.heap.size+1+1) (by simp) #[.int .i64 c,.int .i64 d] 43) (w.heap.size+1+1+1) (by simp) #[.int .i64 a,.int .i64 b] 43) (w.heap.size+1+1+1+1) (by simp) #[.int .i64 c,.int .i64 d,.int .i64 a,.int .i64 d,.int .i64 a,.int .i64 b,.int .i64 c,.int .i64 b] 43);have n:=ar hL;have H0:=ar h0;clear hL h0;go_enter func107,ntmps107;go_wp2;clear U X Y Z;go_loopw[10,11,12] (fun tl tr i wr=>∃(j:Nat) (E F:Bool),j≤4∧i= .int .i64 j∧tl= .bool E∧tr= .bool F∧Hi (E=fR (fun k=>decide (0<bQ (f,g) (h,b2) (dl (c,d) (a,b) k))) j)∧Hi (F=fR (fun k=>decide (bQ (f,g) (h,b2) (dl (c,d) (a,b) k)<0)) j)∧Hi (aF w wr L)) (fun _ _ i _=>4-(intOf i).toNat)
 case atStart=>exact⟨0,false,false,by omega,rfl,rfl,rfl,rfl,rfl,H0⟩
 case round=>
  clear H0;obtain⟨w4,rfl⟩:=wE wr;obtain⟨j,E,F,hj,rfl,rfl,rfl,J,K,v⟩:=hrel;by_cases hlt:j<4
  ·have m:#[.int .i64 c,.int .i64 d,.int .i64 a,.int .i64 d,.int .i64 a,.int .i64 b,.int .i64 c,.int .i64 b][j*2]?=some (Value.int .i64 (dl (c,d) (a,b) j).1)∧#[.int .i64 c,.int .i64 d,.int .i64 a,.int .i64 d,.int .i64 a,.int .i64 b,.int .i64 c,.int .i64 b][j*2+1]?=some (Value.int .i64 (dl (c,d) (a,b) j).2):=by
    rcases(by omega:j=0∨j=1∨j=2∨j=3)with rfl|rfl|rfl|rfl<;>exact⟨rfl,rfl⟩
   have A:Nr (dl (c,d) (a,b) j):=zS a7.o a8.o j hlt;obtain⟨x1,B⟩:=oE ((dl (c,d) (a,b) j).1);obtain⟨x2,D⟩:=oE ((dl (c,d) (a,b) j).2);have t:Hi (dl (c,d) (a,b) j=(x1,x2)):=Prod.ext B D;rw[B,D]at m;rw[t.o]at A;obtain⟨C,T⟩:=oE (bQ (f,g) (h,b2) (x1,x2));have I:Hi (∀W,Gv 142 #[.agg #[.int .i64 f,.int .i64 g],.agg #[.int .i64 h,.int .i64 b2],.agg #[.int .i64 x1,.int .i64 x2]] (.int .i64 C) W):=fun W=>by rw[←T];exact Bp f g h b2 x1 x2 W a5.o a6.o A
   obtain⟨XL,b6⟩:=oE (decide (0<C));obtain⟨XR,b8⟩:=oE (decide (C<0));have a4:Hi ((E||XL)=fR (fun k=>decide (0<bQ (f,g) (h,b2) (dl (c,d) (a,b) k))) (j+1)):=by show _=_;rw[fR,←J.o];(try dsimp only);rw[t.o,T,b6]
   have b5:Hi ((F||XR)=fR (fun k=>decide (bQ (f,g) (h,b2) (dl (c,d) (a,b) k)<0)) (j+1)):=by show _=_;rw[fR,←K.o];(try dsimp only);rw[t.o,T,b8]
   obtain⟨a0,x,-,az⟩:=al (aF.nth v.o n.o 4 rfl);obtain⟨b0,y,-,bz⟩:=al (aF.nth v.o n.o 3 rfl);have o:=aX (aF.nth v.o n.o 0 rfl) m.1;have p:=aX (aF.nth v.o n.o 0 rfl) m.2;have z4:=aF.len v.o n.o 0 rfl;have i0:=dS j;have i1:(j:Int)<4:=by omega
   clear B D T A;cases E<;>cases F
   all_goals
    go_wp2_with fail
    refine aD 11 ?_;simp only[ac,aj,aK,aC,aa,ae,af];iterate 8 refine bJ ?_
    apply bg
    ·intro u wx hz hc hf a3 hd;simp[aU,ai,aR,ay.is,ay.any]at hd;go_simp
     first|rfl|(go_at_call 142;refine(I.o _).mono ?_;rintro e w1 ⟨rfl,l⟩;first|exact⟨rfl,l⟩|exact⟨_,rfl,l,rfl⟩)
    iterate 2 refine bJ ?_
    intro u w5 q z;simp only[cF,aR,ay.is,aE,aA,reduceIte]at z;simp only[am,ax,ac,aj,aK,aC,aa,ae,af,z];clear z;obtain⟨c5,b9,N,P,r⟩:=pr q;clear q;have G:=ar (aF.step v.o r.o);clear N P;clear a0 x az b0 y bz o p z4;obtain⟨a0,x,-,az⟩:=al (aF.nth G.o n.o 4 rfl);obtain⟨b0,y,-,bz⟩:=al (aF.nth G.o n.o 3 rfl);have o:=aX (aF.nth G.o n.o 0 rfl) m.1;have p:=aX (aF.nth G.o n.o 0 rfl) m.2;have z4:=aF.len G.o n.o 0 rfl;go_wp2_with fail
    refine aD 11 ?_;simp only[ac,aj,aK,aC,aa,ae,af];iterate 8 refine bJ ?_
    apply bg
    ·intro u wx hz hc hf a3 hd;simp[aU,ai,aR,ay.is,ay.any]at hd;go_simp
     first|rfl|(go_at_call 142;refine(I.o _).mono ?_;rintro e w1 ⟨rfl,l⟩;first|exact⟨rfl,l⟩|exact⟨_,rfl,l,rfl⟩)
    iterate 2 refine bJ ?_
    intro u w6 q z;simp only[cF,aR,ay.is,aE,aA,reduceIte]at z;simp only[am,ax,ac,aj,aK,aC,aa,ae,af,z];clear z;obtain⟨c6,c4,O,Q,s⟩:=pr q;clear q;have H6:=ar (aF.step G.o s.o);clear O Q;clear a0 x az b0 y bz o p z4;go_wp2;go_roundw
    case rel=>exact⟨j+1,_,_,by omega,by go_num,rfl,rfl,a4,b5,H6⟩
    case measure=>simp[intOf];omega
  ·obtain rfl:j=4:=by omega
   have HE:Hi ((E&&F)=R):=by show _=_;rw[J.o,K.o];exact a9.o
   cases E<;>cases F
   all_goals
    have e:R=_:=HE.o.symm;subst e;go_wp2;go_returns;exact⟨rfl,v.o.1⟩
theorem Ee (n:Int) (w:World) (h: -32768≤n∧n≤32768):Gv 61 #[.int .i64 n] (.bool true) w:=by
 go_enter func61,ntmps61;go_wp2;go_returns;exact⟨rfl,by go_grown⟩
end
end Go.Proofs.YtencnijahlkbaaaGreatDoor
