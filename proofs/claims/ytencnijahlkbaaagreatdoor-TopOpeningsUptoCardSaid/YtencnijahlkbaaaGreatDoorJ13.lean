/-
  Lemmas of this claim, joined. Conditions: as stated. By an AI agent.
-/
import Derived.Test.YtencnijahlkbaaaGreatDoorJ1
import Derived.Test.YtencnijahlkbaaaGreatDoorJ2
import Derived.Test.YtencnijahlkbaaaGreatDoorJ4
import Derived.Test.YtencnijahlkbaaaGreatDoorJ5
import Derived.Test.YtencnijahlkbaaaGreatDoorJ9
import Derived.Test.YtencnijahlkbaaaGreatDoorJ11
import Derived.Test.YtencnijahlkbaaaGreatDoorJ12
import Derived.Maps.AppendAt
import Derived.Test.YtencnijahlkbaaaGreatDoorRows
open Go.Act renaming put → aC
open Array renaming getElem?_eq_some_iff → av
open Go.RowKit.Below renaming refl → ah
open Bool renaming false_and → aI, true_and → aN, and_false → aL, false_or → aP, true_or → aW, or_false → aQ, eq_false_iff → cG
open Classical renaming byContradiction → aG
open Int renaming mul_nonneg → bE
open List renaming take_succ_cons → ac, take_zero → aj, drop_succ_cons → am, drop_zero → ax, setIfInBounds_toArray → aa, set_cons_zero → ae, set_cons_succ → af, mem_cons_self → bw, getElem?_eq_getElem → aS, getD_eq_getElem?_getD → aO, getElem?_append_left → cV, getElem?_append_right → cD, length_append → aZ, mem_cons → bj
open Nat renaming le_refl → aB, lt_of_lt_of_le → aM, le_trans → bW, reduceAdd → aE, reduceEqDiff → aA
open Go.Region renaming binds → ai, wanted → au
open Go.World renaming size_setCell → aT, size_alloc → aw
namespace Go.Proofs.YtencnijahlkbaaaGreatDoor
set_option maxHeartbeats 8000000
set_option maxRecDepth 100000
set_option linter.unusedVariables false
set_option linter.unusedSimpArgs false
open Go.Proofs.Tryz
section
open Go Go.ChangeShapes Go.WideShapes Go.RowKit Go.ChangeAt
theorem it {w w':World} {B g:Nat} {t b:TypeId} {k n:Nat} {v:Value} {c:List Value} {C:Array Value} (h:w.ownsRow B t k v n c) (d:w.heap[g]?=some (.cells C b)) (i:t≠b) (f:∀q,q<w.heap.size→q≠g→w'.heap[q]?=w.heap[q]?):w'.ownsRow B t k v n c:=
 cZ h fun q a=>f q (eh h a).2 fun e=>jj h d i (by rw[a,e])
theorem dF.but {w w':World} {B g:Nat} {D:bX} {S:cN} {t:TypeId} {C:Array Value} (h:dF w B D S) (a:w.heap[g]?=some (.cells C t)) (c:43≠t) (d:53≠t) (b:∀q,q<w.heap.size→q≠g→w'.heap[q]?=w.heap[q]?):dF w' B D S:=⟨it h.o a c b,it h.q a d b,fun i e=>it (h.h i e) a c b⟩
theorem eI.but {w w':World} {B g:Nat} {x:jS} {s:jD} {t:TypeId} {C:Array Value} (h:eI w B x s) (b:w.heap[g]?=some (.cells C t)) (a:9≠t) (c:∀q,q<w.heap.size→q≠g→w'.heap[q]?=w.heap[q]?):eI w' B x s:=⟨it h.p b a c,it h.a b a c⟩
theorem sQ {B B':Nat} {w w':World} (h:Below B w w') (a:B'≤B):Below B' w w':=⟨h.os,h.tape,h.output,h.size,fun k b=>h.block k (by omega)⟩
theorem Gd (D b:bX) (S d:cN) (a:Nat) (w:World) (c:w.heap[a]?=some (.cells (cX b d) 73)):
 Gv 256 #[.agg (aH D S),.pointer (some a)] (.bool (D.id.toList==b.id.toList)) w:=by
 have e:w.cell? (a,6)=some b.id:=aX c rfl;have g:a<w.heap.size:=(av.1 c).1;have f:(w.alloc (.cells (aH D S) 62)).cell? w.heap.size=some D.id:=aX (bf _ _ _ rfl) rfl;clear c;go_enter func256,ntmps256;go_wp2;go_returns
 first|exact⟨rfl,by go_grown⟩|(refine⟨?_,by go_grown⟩;simp)|go_grown
theorem vn (X:bK) (n:Nat→cN) (oa:Option Addr) (cap:Nat) (c:bX) (v:cN) (f i:Nat) (w:World) (h:bs w (.slice oa X.np cap) X.np 18 (fun i=>aH (X.D i) (n i))) (A:Hi (w.heap[f]?=some (.cells (cX c v) 73))) (K:i<X.np) (J:Hi (∀q,q<i→((X.pI q).toList==c.id.toList)=false)) (G:Hi (X.pI i=c.id)):
 Gv 255 #[.slice oa X.np cap,.func (.func 256) #[] #[.pointer (some f)]] (.int .i64 (i:Int)) w:=by
 have B:=h.lim;have F:=ar h;clear h;go_enter func255,ntmps255;go_wp2;go_loopw[8] (fun x wr=>∃j:Nat,j≤i∧x= .int .i64 (j:Int)∧Below w.heap.size w wr) (fun x _=>i-(intOf x).toNat)
 case atStart=>exact⟨0,by omega,rfl,ah _ _⟩
 case round=>
  obtain⟨t,rfl⟩:=wE wr;obtain⟨j,L,rfl,m⟩:=hrel;have C:=ar m;have l:j<X.np:=by omega
  obtain⟨y,z,rfl,s,a⟩:=bs.at F.o (fun _=>rfl) l;have o:Hi (∀q u,(aH (X.D j) (n j))[q]?=some u→t.cell? (y,z+j*18+q)=some u):=fun q u I=>bI m s (a j l q u I);have p:Hi (t.heap[f]?=some (.cells (cX c v) 73)):=(m.block f (av.1 A.o).1).trans A.o;have N:=dS j;have O:(j:Int)<(X.np:Int):=by omega
  obtain⟨b,r⟩:=oE (((X.D j).id.toList==c.id.toList));have D:Hi (Gv 256 #[.agg (aH (X.D j) (n j)),.pointer (some f)] (.bool b) t):=by rw[←r];exact Gd _ _ _ _ _ _ p.o
  have e:=ar r;clear a m r;go_wp2_with (first|(with_reducible refine cY 62 y (z+j*18) 18 (aH (X.D j) (n j)) _ bF bv rfl rfl o.o ?_)|fail)
  (go_at_call 256;refine mz (D.o) fun P k=> ?_);have d:=ar (ag C.o k);clear k;cases b with
  |true=>
   have E:Hi (j=i):=by
    show _=_;rcases Nat.lt_or_ge j i with h1|h1
    ·have g:=J.o j h1;rw[show((X.pI j).toList==c.id.toList)=true from e.o]at g;cases g
    ·omega
   go_wp2;go_returns;rw[E.o];exact⟨rfl,d.o⟩
  |false=>
   have H:j<i:=by
    rcases Nat.lt_or_ge j i with h1|h1
    ·exact h1
    ·have g:=e.o;obtain rfl:j=i:=by omega
     rw[show(X.D j).id=c.id from G.o]at g;simp at g
   go_wp2;go_roundw
   case rel=>exact⟨j+1,by omega,by go_num,d.o⟩
   case measure=>simp[intOf];omega
theorem jJ:(prog.info? 180).map (fun i=>i.size)=some 8:=by kernel_rfl
theorem qC:prog.underlying 180=some (.struct (prog.fieldsOf 180)):=by kernel_rfl
theorem xc (w:World):Gv 167 #[] (.agg #[.bool false,.bool false,.func (.func 251) #[] #[],.func (.func 252) #[] #[],.func (.func 253) #[] #[],.func (.func 254) #[] #[],.func (.func 257) #[] #[],.func (.func 258) #[] #[]]) w:=by
 go_enter func167,ntmps167;go_wp2_with (first|((with_reducible refine bB 180 w.heap.size 8 _ 180 jJ rfl rfl rfl rfl (⟨_,bf _ _ _ rfl,rfl⟩) ?_);intro c b))
 have a:=bL.below ((ah w.heap.size w).alloc (aB _) _) b (aB _);refine bodyPost_ret (gE rfl rfl b.here qC jJ rfl) rfl ?_
 first|exact⟨rfl,a⟩|exact a
theorem Eg (w:World):Gv 125 #[.int .i64 5] (.tuple #[.agg #[.bool false,.bool false,.func (.func 251) #[] #[],.func (.func 252) #[] #[],.func (.func 253) #[] #[],.func (.func 254) #[] #[],.func (.func 257) #[] #[],.func (.func 258) #[] #[]],.bool true]) w:=by
 go_enter func125,ntmps125;go_wp2_with fail
 (go_at_call 167;refine mz (xc _) fun e b=> ?_);have a:Hi (aF w e [(w.heap.size,#[.bool false,.bool false,.nilFunc,.nilFunc,.nilFunc,.nilFunc,.nilFunc,.nilFunc],180)]):=aF.step ((aF.nil (ah w.heap.size w)).alloc (w.heap.size) rfl _ _) b;clear b;have f:Hi (e.heap[w.heap.size]?=some (.cells #[.bool false,.bool false,.nilFunc,.nilFunc,.nilFunc,.nilFunc,.nilFunc,.nilFunc] 180)):=a.o.get 0 rfl;go_wp2_with (first|((with_reducible refine bB 180 w.heap.size 8 _ 180 jJ rfl rfl rfl rfl (⟨#[.bool false,.bool false,.nilFunc,.nilFunc,.nilFunc,.nilFunc,.nilFunc,.nilFunc],f.o,rfl⟩) ?_);intro g d))
 have c:=bL.below a.o.1 d (aB _);refine bodyPost_ret (di rfl rfl d.here qC jJ rfl) rfl ?_
 first|exact⟨rfl,c⟩|exact c
theorem bz1 {P:Program} {ops:Array Oper} {c:List Oper} {a:Act} {w:World} {Q:Exit→Act→World→Prop} {d:Tmp} {T:TypeId} {g:String} {e:Array Edge} {t:TypeId} {b:Array (Nat×Operand)} (v:Value) (f:(Instr.build t (b.map fun(i,x)=>(i,a.eval x))).run P w=.ok v w) (h:wpList P ops Q c (a.put (some d) v) w):wpList P ops Q (⟨some d,.build t b,T,g,e,none⟩::c) a w:=by
 refine wpList_plain rfl fun K hK=> ?_
 unfold Oper.wp execOp;simp[f,Oper.upon];exact hK _ _ h
theorem bz2 (D:bX) (S:cN) (w:World):(Instr.build 73 #[(0,.int .i64 5),(4,.agg (aH D S))]).run prog w=.ok (.agg (cX D S)) w:=by kernel_rfl


theorem Eh (D:bX) (S:cN) (w:World):Gv 251 #[.agg (cX D S)] (.agg (cX D S)) w:=by
 have a:Hi (aF w ((w.alloc (.cells (cX D S) 73)).alloc (.cells #[.int .i64 0,.string ⟨#[]⟩,.string ⟨#[]⟩,.string ⟨#[]⟩,.int .i64 0,.string ⟨#[]⟩,.string ⟨#[]⟩,.int .i64 0,.int .i64 0,.string ⟨#[]⟩,.string ⟨#[]⟩,.int .i64 0,.slice none 0 0,.slice none 0 0,.string ⟨#[]⟩,.int .i64 0,.int .i64 0,.int .i64 0,.int .i64 0,.int .i64 0,.int .i64 0,.int .i64 0,.int .i64 0,.int .i64 0,.string ⟨#[]⟩,.string ⟨#[]⟩,.string ⟨#[]⟩,.int .i64 0,.int .i64 0,.int .i64 0,.string ⟨#[]⟩,.string ⟨#[]⟩,.slice none 0 0,.int .i64 0,.slice none 0 0,.int .i64 0,.string ⟨#[]⟩,.string ⟨#[]⟩] 73)) [(w.heap.size+1,#[.int .i64 0,.string ⟨#[]⟩,.string ⟨#[]⟩,.string ⟨#[]⟩,.int .i64 0,.string ⟨#[]⟩,.string ⟨#[]⟩,.int .i64 0,.int .i64 0,.string ⟨#[]⟩,.string ⟨#[]⟩,.int .i64 0,.slice none 0 0,.slice none 0 0,.string ⟨#[]⟩,.int .i64 0,.int .i64 0,.int .i64 0,.int .i64 0,.int .i64 0,.int .i64 0,.int .i64 0,.int .i64 0,.int .i64 0,.string ⟨#[]⟩,.string ⟨#[]⟩,.string ⟨#[]⟩,.int .i64 0,.int .i64 0,.int .i64 0,.string ⟨#[]⟩,.string ⟨#[]⟩,.slice none 0 0,.int .i64 0,.slice none 0 0,.int .i64 0,.string ⟨#[]⟩,.string ⟨#[]⟩],73),(w.heap.size,cX D S,73)]):=((aF.nil (ah w.heap.size w)).alloc (w.heap.size) rfl _ _).alloc (w.heap.size+1) (by simp) _ _;have b:Hi (((w.alloc (.cells (cX D S) 73)).alloc (.cells #[.int .i64 0,.string ⟨#[]⟩,.string ⟨#[]⟩,.string ⟨#[]⟩,.int .i64 0,.string ⟨#[]⟩,.string ⟨#[]⟩,.int .i64 0,.int .i64 0,.string ⟨#[]⟩,.string ⟨#[]⟩,.int .i64 0,.slice none 0 0,.slice none 0 0,.string ⟨#[]⟩,.int .i64 0,.int .i64 0,.int .i64 0,.int .i64 0,.int .i64 0,.int .i64 0,.int .i64 0,.int .i64 0,.int .i64 0,.string ⟨#[]⟩,.string ⟨#[]⟩,.string ⟨#[]⟩,.int .i64 0,.int .i64 0,.int .i64 0,.string ⟨#[]⟩,.string ⟨#[]⟩,.slice none 0 0,.int .i64 0,.slice none 0 0,.int .i64 0,.string ⟨#[]⟩,.string ⟨#[]⟩] 73)).heap[w.heap.size+1]?=some (.cells #[.int .i64 0,.string ⟨#[]⟩,.string ⟨#[]⟩,.string ⟨#[]⟩,.int .i64 0,.string ⟨#[]⟩,.string ⟨#[]⟩,.int .i64 0,.int .i64 0,.string ⟨#[]⟩,.string ⟨#[]⟩,.int .i64 0,.slice none 0 0,.slice none 0 0,.string ⟨#[]⟩,.int .i64 0,.int .i64 0,.int .i64 0,.int .i64 0,.int .i64 0,.int .i64 0,.int .i64 0,.int .i64 0,.int .i64 0,.string ⟨#[]⟩,.string ⟨#[]⟩,.string ⟨#[]⟩,.int .i64 0,.int .i64 0,.int .i64 0,.string ⟨#[]⟩,.string ⟨#[]⟩,.slice none 0 0,.int .i64 0,.slice none 0 0,.int .i64 0,.string ⟨#[]⟩,.string ⟨#[]⟩] 73)):=a.o.get 0 rfl;have u:=aX (j:=0) (v:= .int .i64 5) (a.o.get 1 rfl) rfl;have hq:Hi _:=vl (a.o.get 1 rfl);go_enter func251,ntmps251;go_wp2_with (first|(with_reducible refine cY 62 w.heap.size 6 18 (aH D S) _ bF bv rfl rfl hq.o ?_)|((with_reducible refine bz1 (.agg (cX D S)) ?_ ?_);focus (simp[Act.eval];exact bz2 D S _))|((with_reducible refine bB 73 (w.heap.size+1) 38 _ 73 fB rfl rfl rfl rfl (⟨#[.int .i64 0,.string ⟨#[]⟩,.string ⟨#[]⟩,.string ⟨#[]⟩,.int .i64 0,.string ⟨#[]⟩,.string ⟨#[]⟩,.int .i64 0,.int .i64 0,.string ⟨#[]⟩,.string ⟨#[]⟩,.int .i64 0,.slice none 0 0,.slice none 0 0,.string ⟨#[]⟩,.int .i64 0,.int .i64 0,.int .i64 0,.int .i64 0,.int .i64 0,.int .i64 0,.int .i64 0,.int .i64 0,.int .i64 0,.string ⟨#[]⟩,.string ⟨#[]⟩,.string ⟨#[]⟩,.int .i64 0,.int .i64 0,.int .i64 0,.string ⟨#[]⟩,.string ⟨#[]⟩,.slice none 0 0,.int .i64 0,.slice none 0 0,.int .i64 0,.string ⟨#[]⟩,.string ⟨#[]⟩],b.o,rfl⟩) ?_);intro t d)|fail)
 have c:=bL.below a.o.1 d (by omega);refine bodyPost_ret (gE rfl rfl d.here fM fB rfl) rfl ?_
 first|exact⟨rfl,c⟩|exact c
theorem Ei (X:bK) (S:dq) (D:bX) (d:cN) (i:Nat) (w:World) (o:Hi (bs w (.slice S.op X.np S.cp) X.np 18 (fun i=>aH (X.D i) (S.sp i)))) (u:i<X.np) (n:dj w (X.D i) (S.sp i)) (b:gF (X.D i)) (p:Hi (∀q,q<i→((X.pI q).toList==D.id.toList)=false)) (m:Hi (X.pI i=D.id)):
 Gv 252 #[.agg (bH X S),.agg (cX D d)] (.bool true) w:=by
 have s:Hi (∀W,Below w.heap.size w W→Calls prog 127 #[.agg (bH X S),.string D.id] W (fun e w'=>∃f,e= .returned (.tuple #[.agg (aH (X.D i) f),.bool true])∧Below W.heap.size W w')):=fun W l=>xb X S D.id i W (o.o.below l) u (n.below l) b p m;clear o n b p m;have c:Hi (aF w ((w.alloc (.cells (bH X S) 28)).alloc (.cells (cX D d) 73)) [(w.heap.size+1,cX D d,73),(w.heap.size,bH X S,28)]):=((aF.nil (ah w.heap.size w)).alloc (w.heap.size) rfl _ _).alloc (w.heap.size+1) (by simp) _ _;have h:Hi (((w.alloc (.cells (bH X S) 28)).alloc (.cells (cX D d) 73)).heap[w.heap.size]?=some (.cells (bH X S) 28)):=c.o.get 1 rfl;have t:=aX (j:=6) (v:= .string D.id) (c.o.get 0 rfl) rfl;go_enter func252,ntmps252;go_wp2_with (first|(with_reducible refine bA 28 w.heap.size 6 (bH X S) 28 _ cH cz rfl rfl h.o ?_)|fail)
 (go_at_call 127;refine(s.o _ c.o.1).mono ?_;rintro y x ⟨f,rfl,a⟩);have r:=ar (aF.step c.o a);clear a t h;go_wp2_with (first|((with_reducible refine bB 62 x.heap.size 18 (aH (X.D i) f) 62 bv rfl rfl rfl rfl (⟨_,bf _ _ _ rfl,rfl⟩) ?_);intro z g)|fail)
 have k:=(aF.put r.o g).1;go_returns
 first|exact⟨rfl,k⟩|exact k
theorem Il (X:bK) (S:dq) (D:bX) (s:cN) (B i:Nat) (w:World) (hd:dg w B X S) (hB:B≤w.heap.size) (hi:i<X.np) (hp:dj w D s) (Y:gF D) (hs:Hi (∀q,q<i→((X.pI q).toList==D.id.toList)=false)) (he:Hi (X.pI i=D.id)) (W:0≤(X.D i).rv∧(X.D i).rv≤1000000):
 Calls prog 254 #[.agg (bH X S),.agg (cX D s)] w (fun e w'=>∃S',e= .returned (.agg (bH (X.setD i {D with rv:=(X.D i).rv+1}) S'))∧dg w' B (X.setD i {D with rv:=(X.D i).rv+1}) S'∧Below B w w'):=by
 have d:=ar hd;have HP:=ar hp;have a3:=ar Y;have y:=ar hd.row.p;clear hd hp Y;obtain⟨g,cap,n,z,hg,hc,P,-,Q,o⟩:=kF d.o.p (by omega);have zg:g<w.heap.size:=(av.1 hc).1;have t:=ar hc;have I:=ar o;have a2:Hi (w.cell? (g,i*18+1)=some (.int .i64 (X.D i).rv)):=aX hc (o i 1 hi (by decide));have J:Hi ((bH X S)[2]?=some (.slice (some ⟨g,0,none⟩) X.np cap)):=by
  show some (Value.slice S.op X.np S.cp)=_;rw[z]
 have a4:Hi (i*18+18≤n.size):=by
  show _≤_;rw[Q];have:=Nat.mul_le_mul_right 18 (show i+1≤cap by omega);omega
 have h0:aF w (((w.alloc (.cells (bH X S) 28)).alloc (.cells (cX D s) 73)).alloc (.cells #["",Nat,Nat,Nat,Nat,Nat] 28)) [(w.heap.size+1+1,#["",Nat,Nat,Nat,Nat,Nat],28),(w.heap.size+1,cX D s,73),(w.heap.size,bH X S,28)]:=(((aF.nil (ah w.heap.size w)).alloc (w.heap.size) rfl _ _).alloc (w.heap.size+1) (by simp) _ _).alloc (w.heap.size+1+1) (by simp) _ _;obtain⟨L,hL,h0⟩:=aF.ex h0;have u:=ar hL;have F:=ar h0;have K:Hi (bs w (.slice (some ⟨g,0,none⟩) X.np cap) X.np 18 (fun i=>aH (X.D i) (S.sp i))):=by rw[z]at y;exact y.o
 have m2:(((w.alloc (.cells (bH X S) 28)).alloc (.cells (cX D s) 73)).alloc (.cells #["",Nat,Nat,Nat,Nat,Nat] 28)).cell? (w.heap.size,2)=some (.slice (some ⟨g,0,none⟩) X.np cap):=aX (aF.nth F.o u.o 2 rfl) J.o;clear hc o hL h0 y;go_enter func254,ntmps254;go_wp2_with fail
 (go_at_call 255;refine mz (vn X S.sp (some ⟨g,0,none⟩) cap D s (w.heap.size+1) i _ (K.o.below F.o.1) (aF.nth F.o u.o 1 rfl) hi hs he) fun w1 O=> ?_);have Z:=ar (aF.step F.o O);have HE:=ar (vl (aF.nth Z.o u.o 1 rfl));have z1:=aF.len Z.o u.o 0 rfl;clear O m2 F K;go_wp2_with (first|(with_reducible refine cY 62 (w.heap.size+1) 6 18 (aH D s) _ bF bv rfl rfl (HE.o) ?_)|fail)
 (go_at_call 180;refine(na D s _ (HP.o.below Z.o.1) a3.o).mono ?_;rintro e_ m ⟨l,rfl,T,A⟩);have H2:=ar (aF.step Z.o A);have x:=ar T;have z2:w1.heap.size≤m.heap.size:=A.size;clear A T HE;have k0:=dS i;have k1:(i:Int)<(X.np:Int):=by omega
 have r0:=W.1;have r1:=W.2;go_wp2_with (first|((with_reducible refine bB 62 m.heap.size 18 (aH D l) 62 bv rfl rfl rfl rfl (⟨_,bf _ _ _ rfl,rfl⟩) ?_);intro C a;(have r:=ar (aF.put H2.o a));(have z3:m.heap.size<C.heap.size:=r.o.lt (bw ..));(have G:=ar (bL.below ((ah m.heap.size m).alloc (aB _) _) a (aB _)));(have m2:C.cell? (w.heap.size,2)=some (.slice (some ⟨g,0,none⟩) X.np cap):=aX (aF.nth r.o.tail u.o 2 rfl) J.o);(have mr:C.cell? (g,i*18+1)=some (.int .i64 (X.D i).rv):=bI r.o.1 zg a2.o);(have m1:C.cell? (m.heap.size,1)=some D.rv:=aX a.here rfl);(have mf:∀q,C.frozen? ⟨m.heap.size,q,none⟩=false:=(bT a.here).2.1);(have h:=ar (cS (i:=1) (v:= .int .i64 ((X.D i).rv+1)) a.here));(have a1:Hi ((C.setCell (m.heap.size,1) (.int .i64 ((X.D i).rv+1))).heap[m.heap.size]?=some (.cells (aH {D with rv:=(X.D i).rv+1} l) 62)):=h.o.here);(have H:Hi ((C.setCell (m.heap.size,1) (.int .i64 ((X.D i).rv+1))).heap[g]?=some (.cells n 62)):=(h.o.other g (by omega)).trans ((r.o.1.block g zg).trans t.o));clear a)|(with_reducible refine bA 62 m.heap.size 18 (aH {D with rv:=(X.D i).rv+1} l) 62 _ bF bv rfl rfl a1.o ?_)|((with_reducible refine iG 62 g (i*18) 18 n (aH {D with rv:=(X.D i).rv+1} l) 62 bv rfl rfl rfl rfl H.o a4.o ?_);intro w9 a;(have k:=ar a);(have a0:Hi (w9.heap[w.heap.size]?=some (.cells (bH X S) 28)):=(k.o.other _ (by omega)).trans ((h.o.other _ (by omega)).trans (aF.nth r.o.tail u.o 2 rfl)));(have a5:Hi (w9.heap[w.heap.size+1+1]?=some (.cells #["",Nat,Nat,Nat,Nat,Nat] 28)):=(k.o.other _ (by omega)).trans ((h.o.other _ (by omega)).trans (aF.nth r.o.tail u.o 0 rfl)));clear a)|(with_reducible refine bA 28 w.heap.size 6 (bH X S) 28 _ cH cz rfl rfl a0.o ?_)|((with_reducible refine bB 28 (w.heap.size+1+1) 6 _ 28 cz rfl rfl rfl rfl (⟨_,a5.o,rfl⟩) ?_);intro j f)|fail)
 have N:Below B w j:=bL.below (bL.below (bL.below (sQ r.o.1 hB) h.o (by omega)) k.o hg) f (by omega);refine bodyPost_ret (gE rfl rfl f.here cH cz rfl) rfl ?_;have U:=vm (cs:=aH {D with rv:=(X.D i).rv+1} l) Q P hi rfl I.o;have E:∀q,q<w.heap.size→q≠g→j.heap[q]?=w.heap[q]?:=fun q h1 h2=>(f.other q (by omega)).trans ((k.o.other q h2).trans ((h.o.other q (by omega)).trans (r.o.1.block q h1)));have R:j.heap[g]?=some (.cells (n.toList.take (i*18)++((aH {D with rv:=(X.D i).rv+1} l).toList++n.toList.drop (i*18+18))).toArray 62):=(f.other g (by omega)).trans k.o.here;have a7:dF j B {D with rv:=(X.D i).rv+1} l:=by
  have h2:dF m w1.heap.size {D with rv:=(X.D i).rv+1} l:=⟨x.o.o,x.o.q,x.o.h⟩;have h3:=h2.keep (bL.below G.o h.o (aB _));have h9:=h3.away H.o (by decide) (by decide) k.o.other;exact(h9.low (b:=w.heap.size+1+1) (by omega) f.other).weak (by omega)
 have hr:gO j B X S:=⟨it d.o.r.n t.o (by decide) E,it d.o.r.s t.o (by decide) E,it d.o.r.d t.o (by decide) E⟩;have a8:j.ownsRow B 62 18 (.slice S.op X.np S.cp) X.np (eG (eN (fun q=>aH ((X.setD i {D with rv:=(X.D i).rv+1}).D q) (iX S.sp i l q))) 18 X.np):=by
  have h1:=d.o.p;rw[z]at h1⊢
  refine jH h1 R U.1 (fun q c p a6=> ?_);rw[U.2 q c p a6];unfold eN;by_cases e:q=i
  ·subst e;rw[dr];dsimp only;rw[dr];show _=some ((aH (if q=q then{D with rv:=(X.D q).rv+1}else X.D q) l).getD c undef);rw[if_pos rfl]
  ·rw[dy _ _ e];dsimp only;rw[dy _ _ e];show _=some ((aH (if q=i then{D with rv:=(X.D i).rv+1}else X.D q) (S.sp q)).getD c undef);rw[if_neg e]
 refine⟨{S with sp:=iX S.sp i l},rfl,⟨⟨hr.n,hr.s,hr.d⟩,a8,it d.o.k t.o (by decide) E,fun q p=> ?_,fun q p=>(d.o.ko q p).but t.o (by decide) E⟩,N⟩;show dF j B (if q=i then{D with rv:=(X.D i).rv+1}else X.D q) (iX S.sp i l q);by_cases e:q=i
 ·subst e;rw[dr,if_pos rfl];exact a7
 ·rw[dy _ _ e,if_neg e];exact(d.o.po q p).but t.o (by decide) (by decide) E
theorem xd {B:Nat} {a b c:World} (d:Below B a b) (e:Below B b c):Below B a c:=⟨e.os.trans d.os,e.tape.trans d.tape,e.output.trans d.output,bW d.size e.size,fun k f=>(e.block k f).trans (d.block k f)⟩
def ay.des (B:Nat) (X:bK):ay:=⟨fun v w=>∃S',v= .agg (bH X S')∧dg w B X S',fun v w w' hb h=>by obtain⟨S',h1,h2⟩:=h;exact⟨S',h1,h2.keep hb⟩⟩
theorem BW (X:bK) (S:dq) (D:bX) (f:cN) (i:Nat) (v:Value) (m:fZ) (gv:Nat→Value) (w:World) (h:cJ w X S) (c2:∀q,q<X.np→dj w (X.D q) (S.sp q)) (c5:oT X) (hp:dj w D f) (O:gF D) (Y:i<X.np)
 (hs:Hi (∀q,q<i→((X.pI q).toList==D.id.toList)=false)) (he:Hi (X.pI i=D.id)) (d1:Hi ((X.D i).nd=D.nd)) (N:Hi (D.rv=0)) (d2:0≤(X.D i).rv∧(X.D i).rv≤1000000)
 (hm:fE w v m gv) (b9:dN w) (c3:Hi (∀i,i<m.ng→(m.nm i).size≤1048576)) (c4:Hi (∀i,i<m.ns→(m.sn i).size≤1048576)) (F:Hi (eY (X.setD i {D with rv:=(X.D i).rv+1}))) (hr:Hi (io m (X.setD i {D with rv:=(X.D i).rv+1}))):
 Calls prog 69 #[.agg (bH X S),v,.agg (cX D f)] w (fun e w'=>∃n,e= .returned (.tuple #[.agg (bH (X.setD i {D with rv:=(X.D i).rv+1}) n),()])∧dg w' w.heap.size (X.setD i {D with rv:=(X.D i).rv+1}) n∧Below w.heap.size w w'):=by
 have HX:=ar h;have Q:=ar c2;have R:=ar c5;have HP:=ar hp;have c9:=ar O;have c8:Hi ((cX D f)[7]?=some (.int .i64 0)):=by show some (Value.int .i64 D.rv)=_;rw[N.o]
 have a7:Hi (∀W n,Below w.heap.size w W→(∃B,dg W B (X.setD i {D with rv:=(X.D i).rv+1}) n)→Gv 68 #[.agg (bH (X.setD i {D with rv:=(X.D i).rv+1}) n),v] (.int .i64 0) W):=fun W n E ⟨B,c⟩=>ug (X.setD i {D with rv:=(X.D i).rv+1}) n v m gv W c.row F (b9.below E) (hm.below E) c.parts c3 c4 hr;clear h c2 c5 hp O b9 c3 c4 F hr N;obtain⟨vg,vs,rfl,a9,b0,-,-,-⟩:=hm;obtain⟨og,cg,rfl,-,-⟩:=a9.form;obtain⟨H,C,rfl,-,-⟩:=b0.form;obtain⟨ng,c0⟩:=oE m.ng;obtain⟨G,c1⟩:=oE m.ns;rw[c0,c1]at a7⊢
 clear a9 b0 c0 c1;have h0:aF w ((((w.alloc (.cells (bH X S) 28)).alloc (.cells #[.slice og ng cg,.slice H G C] 32)).alloc (.cells (cX D f) 73)).alloc (.cells #["",Nat,Nat,Nat,Nat,Nat] 28)) [(w.heap.size+1+1+1,#["",Nat,Nat,Nat,Nat,Nat],28),(w.heap.size+1+1,cX D f,73),(w.heap.size+1,#[.slice og ng cg,.slice H G C],32),(w.heap.size,bH X S,28)]:=((((aF.nil (ah w.heap.size w)).alloc (w.heap.size) rfl _ _).alloc (w.heap.size+1) (by simp) _ _).alloc (w.heap.size+1+1) (by simp) _ _).alloc (w.heap.size+1+1+1) (by simp) _ _;obtain⟨L,hL,h0⟩:=aF.ex h0;have d:=ar hL;have H0:=ar h0;have x0:=aX (j:=0) (v:= .int .i64 5) (aF.nth H0.o d.o 1 rfl) rfl;clear hL h0;go_enter func69,ntmps69;go_wp2_with fail
 (go_at_call 125;refine cy (Eg _) H0 fun w1 H1=> ?_);clear x0 H0;have z1:=aF.len H1.o d.o 0 rfl;go_wp2_with (first|((with_reducible refine bB 180 w1.heap.size 8 #[.bool false,.bool false,.func (.func 251) #[] #[],.func (.func 252) #[] #[],.func (.func 253) #[] #[],.func (.func 254) #[] #[],.func (.func 257) #[] #[],.func (.func 258) #[] #[]] 180 jJ rfl rfl rfl rfl (⟨_,bf _ _ _ rfl,rfl⟩) ?_);intro w2 b;(have y:=ar (aF.put H1.o b));(have c6:w1.heap.size<w2.heap.size:=y.o.lt (bw ..));clear b)|fail)
 obtain⟨T,U⟩:=oE w1.heap.size;rw[U]at y c6 z1;rw[U];clear U H1 c6;have x0:w2.cell? (w.heap.size+1+1,0)=some (.int .i64 5):=aX (aF.nth y.o.tail d.o 1 rfl) rfl;have x7:w2.cell? (w.heap.size+1+1,7)=some (.int .i64 0):=aX (aF.nth y.o.tail d.o 1 rfl) c8.o;have q2:w2.cell? (T,2)=some (.func (.func 251) #[] #[]):=aX (y.o.get 0 rfl) rfl;have t:Hi (w2.heap[w.heap.size+1+1]?=some (.cells (cX D f) 73)):=aF.nth y.o.tail d.o 1 rfl;have ze:=aF.len y.o.tail d.o 1 rfl;have zk:T<w2.heap.size:=y.o.lt (bw ..);have Z:=aF.len y.o.tail d.o 3 rfl;go_wp2_with fail
 refine aD 18 ?_;simp only[ac,aj,aK,aC,aa,ae,af];apply bg (x:= .agg (cX D f))
 ·intro u I F hc hf a c;simp[aU,ai,aR,ay.is,ay.any]at c;refine cI 73 (w.heap.size+1+1) 0 38 (cX D f) _ fM fB (by first|exact c|simp[Act.eval]) rfl (eA ((a.o.block _ (by first|exact ze|exact Z)).trans t.o)) ⟨ah _ _,rfl⟩
 iterate 2 refine bJ ?_
 apply bg (x:= .agg (cX D f))
 ·intro u I F hc hf a c;simp[aU,ai,aR,ay.is,ay.any]at c;refine cI 73 (w.heap.size+1+1) 0 38 (cX D f) _ fM fB (by first|exact c|simp[Act.eval]) rfl (eA ((a.o.block _ (by first|exact ze|exact Z)).trans t.o)) ⟨ah _ _,rfl⟩
 apply bg
 ·intro u I F hc hf a c;simp[aU,ai,aR,ay.is,ay.any]at c;go_simp
  first|rfl|(go_at_call 251;refine(Eh D f I).mono ?_;rintro e w1 ⟨rfl,l⟩;first|exact⟨rfl,l⟩|exact⟨_,rfl,l,rfl⟩)
 apply bg
 ·intro u I F hc hf a c;simp[aU,ai,aR,ay.is,ay.any]at c;go_simp
  first|rfl|(go_at_call 126;refine(BT D f I (HP.o.below (ag y.o.1 a.o))).mono ?_;rintro e w1 ⟨rfl,l⟩;first|exact⟨rfl,l⟩|exact⟨_,rfl,l,rfl⟩)
 iterate 12 refine bJ ?_
 intro u w3 E K;simp only[cF,aR,ay.is,aE,aA,reduceIte]at K;simp only[am,ax,ac,aj,aK,aC,aa,ae,af,K];clear K;obtain⟨e0,d8,d4,d6,P⟩:=pr E;clear E;have H3:=ar (aF.step y.o P.o);clear x0 x7 q2 t ze zk Z;have q3:w3.cell? (T,3)=some (.func (.func 252) #[] #[]):=aX (H3.o.get 0 rfl) rfl;have t:Hi (w3.heap[w.heap.size+1+1]?=some (.cells (cX D f) 73)):=aF.nth H3.o.tail d.o 1 rfl;have g:Hi (w3.heap[w.heap.size]?=some (.cells (bH X S) 28)):=aF.nth H3.o.tail d.o 3 rfl;go_wp2_with (first|(with_reducible refine bA 28 w.heap.size 6 (bH X S) 28 _ cH cz rfl rfl g.o ?_)|(with_reducible refine bA 73 (w.heap.size+1+1) 38 (cX D f) 73 _ fM fB rfl rfl t.o ?_)|fail)
 (go_at_call 252;refine cy (Ei X S D f i _ (ar (HX.o.p.below H3.o.1)) Y ((Q.o i Y).below H3.o.1) (R.o.p i Y) hs he) H3 fun w4 J=> ?_);clear q3 t g;have x0:w4.cell? (w.heap.size+1+1,0)=some (.int .i64 5):=aX (aF.nth J.o.tail d.o 1 rfl) rfl;have x6:w4.cell? (w.heap.size+1+1,6)=some D.id:=aX (aF.nth J.o.tail d.o 1 rfl) rfl;have q0:w4.cell? T=some (.bool false):=aX (J.o.get 0 rfl) rfl;have t:Hi (w4.heap[w.heap.size+1+1]?=some (.cells (cX D f) 73)):=aF.nth J.o.tail d.o 1 rfl;have g:Hi (w4.heap[w.heap.size]?=some (.cells (bH X S) 28)):=aF.nth J.o.tail d.o 3 rfl;go_wp2_with (first|(with_reducible refine bA 28 w.heap.size 6 (bH X S) 28 _ cH cz rfl rfl g.o ?_)|(with_reducible refine bA 73 (w.heap.size+1+1) 38 (cX D f) 73 _ fM fB rfl rfl t.o ?_)|fail)
 (go_at_call 127;refine(xb X S D.id i _ (ar (HX.o.p.below J.o.1)) Y ((Q.o i Y).below J.o.1) (R.o.p i Y) hs he).mono ?_;rintro e_ w5 ⟨n,rfl,b1⟩);have H5:=ar (aF.step J.o b1);clear b1;clear x0 x6 q0 t g;go_wp2_with (first|((with_reducible refine bB 62 w5.heap.size 18 (aH (X.D i) n) 62 bv rfl rfl rfl rfl (⟨_,bf _ _ _ rfl,rfl⟩) ?_);intro p b;(have a0:=ar (aF.put H5.o b));(have r:=ar a0.o.tail);(have p3:p.cell? (w5.heap.size,3)=some D.nd:=aX b.here (by show some (Value.string (X.D i).nd)=_;rw[d1.o]));(have zp:w5.heap.size<p.heap.size:=a0.o.lt (bw ..));(have y9:p.cell? (w.heap.size+1+1,9)=some D.nd:=aX (aF.nth r.o.tail d.o 1 rfl) rfl);(have e4:w.heap.size+1+1<p.heap.size:=aF.len r.o.tail d.o 1 rfl);(have y1:p.cell? (T,1)=some (.bool false):=aX (r.o.get 0 rfl) rfl);clear b)|fail)
 have q5:p.cell? (T,5)=some (.func (.func 254) #[] #[]):=aX (r.o.get 0 rfl) rfl;have t:Hi (p.heap[w.heap.size+1+1]?=some (.cells (cX D f) 73)):=aF.nth r.o.tail d.o 1 rfl;have g:Hi (p.heap[w.heap.size]?=some (.cells (bH X S) 28)):=aF.nth r.o.tail d.o 3 rfl;have ze:=aF.len r.o.tail d.o 1 rfl;have zk:T<p.heap.size:=r.o.lt (bw ..);have Z:=aF.len r.o.tail d.o 3 rfl;refine aD 5 ?_;simp only[ac,aj,aK,aC,aa,ae,af];iterate 2 refine bJ ?_
 apply bg (x:= .agg (bH X S))
 ·intro u I F hc hf a c;simp[aU,ai,aR,ay.is,ay.any]at c;refine cI 28 (w.heap.size) 0 6 (bH X S) _ cH cz (by first|exact c|simp[Act.eval]) rfl (eA ((a.o.block _ (by first|exact ze|exact Z)).trans g.o)) ⟨ah _ _,rfl⟩
 refine bG (ay.des p.heap.size X) ?_ ?_
 ·intro u I F hc hf a c;simp[aU,ai,aR,ay.is,ay.any]at c;refine⟨by simp[au],?_⟩;go_simp;(go_at_call 128;refine(BV X S I (HX.o.below (ag r.o.1 a.o)) (fun q hq=>(Q.o q hq).below (ag r.o.1 a.o)) R.o).mono ?_;rintro e w9 ⟨n,rfl,ho,l⟩);exact⟨_,rfl,l,n,rfl,ho.weak a.o.size⟩
 apply bg (x:= .agg (cX D f))
 ·intro u I F hc hf a c;simp[aU,ai,aR,ay.is,ay.any]at c;refine cI 73 (w.heap.size+1+1) 0 38 (cX D f) _ fM fB (by first|exact c|simp[Act.eval]) rfl (eA ((a.o.block _ (by first|exact ze|exact Z)).trans t.o)) ⟨ah _ _,rfl⟩
 intro u w7 E K;obtain⟨S1,e3,b6⟩:∃n,u 3= .agg (bH X n)∧dg w7 p.heap.size X n:=eS K 3;have a5:=ar b6;clear b6;simp only[cF,aR,ay.is,aE,aA,reduceIte]at K;simp only[am,ax,ac,aj,aK,aC,aa,ae,af,e3,K];clear e3 K;have a3:=ar E;obtain⟨e1,d9,d5,d7,k⟩:=pr E;clear E;go_wp2_with fail
 (go_at_call 254;refine(Il X S1 D f p.heap.size i _ a5.o k.o.size Y (HP.o.below (ag r.o.1 k.o)) c9.o hs he d2).mono ?_;rintro e_ w8 ⟨A,rfl,b8,b5⟩);have H8:=ar (aF.step r.o (xd k.o b5));have c7:=ar b8;have d0:Hi (w8.heap[w.heap.size+1+1+1]?=some (.cells #["",Nat,Nat,Nat,Nat,Nat] 28)):=aF.nth H8.o.tail d.o 0 rfl;have a8:Hi (w8.heap[w.heap.size+1]?=some (.cells #[.slice og ng cg,.slice H G C] 32)):=aF.nth H8.o.tail d.o 2 rfl;have z8:w.heap.size+1+1+1<p.heap.size:=by omega
 clear b5 b8 a5 a3;clear q5 t g ze zk Z;go_wp2_with (first|((with_reducible refine bB 28 (w.heap.size+1+1+1) 6 (bH (X.setD i {D with rv:=(X.D i).rv+1}) A) 28 cz rfl rfl rfl rfl (⟨#["",Nat,Nat,Nat,Nat,Nat],d0.o,rfl⟩) ?_);intro w9 b;(have s:Hi (w9.heap[w.heap.size+1+1+1]?=some (.cells (bH (X.setD i {D with rv:=(X.D i).rv+1}) A) 28)):=b.here);(have a2:=ar (bL.below H8.o.1 b (by omega)));(have a6:Hi (dg w9 p.heap.size (X.setD i {D with rv:=(X.D i).rv+1}) A):=c7.o.low z8 b.other);(have m0:w9.cell? (w.heap.size+1,0)=some (.slice og ng cg):=aX ((b.other _ (by omega)).trans a8.o) rfl);(have m1:w9.cell? (w.heap.size+1,1)=some (.slice H G C):=aX ((b.other _ (by omega)).trans a8.o) rfl);clear b)|(with_reducible refine bA 28 (w.heap.size+1+1+1) 6 (bH (X.setD i {D with rv:=(X.D i).rv+1}) A) 28 _ cH cz rfl rfl s.o ?_)|fail)
 (go_at_call 68;refine mz (a7.o _ A a2.o ⟨_,a6.o⟩) fun d3 o=> ?_);have a1:=ar (ag a2.o o);have a4:=ar (a6.o.keep o);have s:Hi (d3.heap[w.heap.size+1+1+1]?=some (.cells (bH (X.setD i {D with rv:=(X.D i).rv+1}) A) 28)):=(o.block _ (av.1 s.o).1).trans s.o;clear o m0 m1;go_wp2_with (first|(with_reducible refine bA 28 (w.heap.size+1+1+1) 6 (bH (X.setD i {D with rv:=(X.D i).rv+1}) A) 28 _ cH cz rfl rfl s.o ?_)|((with_reducible refine bB 28 (w.heap.size+1+1+1) 6 (bH (X.setD i {D with rv:=(X.D i).rv+1}) A) 28 cz rfl rfl rfl rfl (⟨_,s.o,rfl⟩) ?_);intro e2 z)|fail)
 have hB:=bL.below a1.o z (by omega);refine bodyPost_ret (di rfl rfl z.here cH cz rfl) rfl ?_;exact⟨A,rfl,(a4.o.low z8 z.other).weak (by omega),hB⟩
end
section
open Go Go.RowKit
section
variable {P:Program} {md:Region.Mode}
def kG (T:World→World→Prop) (w0:World) (q k:Nat) (w w':World):Prop:=if k=q then Below w0.heap.size w w'∧T w w' else Below w.heap.size w w'
def rc (P:Program) (md:Region.Mode) (ops:Array Oper) (w0:World) (T:World→World→Prop) (W:ay) (V:Nat→ay) (p q:Nat) (fr:(Nat→Value)→Act):List Oper→Nat→Prop
 | [],_=>True
 |o::l,k=>(((k≠p∧k≠q∧gt md o q=false→∀v w w',T w w'→(V k).p v w→(V k).p v w')∧(k=q→gt md o p=true))∧∀(u:Nat→Value) (w:World),Below w0.heap.size w0 w→fJ md V p q k u w o.after.toList→
  if au o (yielded ops (fr u).tmps)=true then dh P o (fr u) w (fun v w'=>kG T w0 q k w w'∧(V k).p v w'∧(k=q→W.p (u p) w'))else k≠q∧(V k).p undef w)∧rc P md ops w0 T W V p q fr l (k+1)
theorem nS {ops:Array Oper} {a:World} {T:World→World→Prop} {W:ay} {V:Nat→ay} {p q:Nat} {b:(Nat→Value)→Act}:∀(l:List Oper) (k i:Nat) (o:Oper),rc P md ops a T W V p q b l k→l[i]?=some o→
 ((k+i≠p∧k+i≠q∧gt md o q=false→∀v w w',T w w'→(V (k+i)).p v w→(V (k+i)).p v w')∧(k+i=q→gt md o p=true))∧∀(u:Nat→Value) (w:World),Below a.heap.size a w→fJ md V p q (k+i) u w o.after.toList→
  if au o (yielded ops (b u).tmps)=true then dh P o (b u) w (fun v w'=>kG T a q (k+i) w w'∧(V (k+i)).p v w'∧(k+i=q→W.p (u p) w'))else k+i≠q∧(V (k+i)).p undef w
 | [],_,_,_,_,h=>by simp at h
 |o'::l,k,0,o,hr,h=>by
  obtain rfl:o'=o:=by simpa using h
  exact hr.1
 |o'::l,k,i+1,o,hr,h=>by
  have:=nS l (k+1) i o hr.2 (by simpa using h)
  rwa [show k+1+i=k+(i+1)by omega]at this
theorem yR {l:List Oper} {n:Nat} {L:Act} {A:World} {T:World→World→Prop} {W:ay} {V:Nat→ay} {p q:Nat} {Q:Exit→Act→World→Prop} (hB:lu md l n=true) (hq:q<n)
 (C:rc P md l.toArray A T W V p q (fun u=>aK L (l.take n) u 0) (l.take n) 0)
 (hT:∀w,T w w) (a6:p<q) (Y:∀(u:Nat→Value) (w:World),Below A.heap.size A w→(∀j,j<n→j≠p→(V j).p (u j) w)→W.p (u p) w→wpList P l.toArray Q (l.drop n) (aK L (l.take n) u 0) w):
 ∀(f:Nat) (a:Array Bool) (u:Nat→Value) (w:World),dv n a=f→HeadInv md l.toArray n a→Below A.heap.size A w→(∀j,j<n→a.getD j false=true→(j=p→a.getD q false=false)→(V j).p (u j) w)→(a.getD q false=true→a.getD p false=true∧W.p (u p) w)→
  wpAny P md l.toArray Q (f+(l.length-n)) a (aK L (l.take n) u 0) w:=by
 simp only[lu,Bool.and_eq_true,Bool.or_eq_true,decide_eq_true_eq]at hB;obtain⟨⟨⟨hn,r⟩,a7⟩,hd⟩:=hB;have b6:n≤l.length:=by omega
 intro f
 induction f with
 |zero=>
  intro a u w hf g N O hW;have k:∀j,j<n→a.getD j false=true:=by
   intro j t;have h0:(List.range n).countP (fun j=> !a.getD j false)=0:=hf;rw[List.countP_eq_zero]at h0;simpa using h0 j (List.mem_range.2 t)
  have I:a=eP n l.length:=by
   apply Array.ext
   ·simp[eP,g.size];omega
   ·intro i E B;have b9:a.size=l.length:=by rw[g.size];simp
    have h3:i<(List.replicate n true++List.replicate (l.length-n) false).length:=by simpa [eP]using B
    show a[i]=(List.replicate n true++List.replicate (l.length-n) false)[i]'h3;by_cases G:i<n
    ·rw[List.getElem_append_left (by simpa using G),List.getElem_replicate];have:=k i G;simpa [E]using this
    ·rw[List.getElem_append_right (by simpa using G),List.getElem_replicate];have:=g.tail i (by omega) (by simp;omega);simpa [E]using this
  rw[Nat.zero_add];have:=wpAny_of_seq (P:=P) (ops:=l.toArray) (md:=md) (Q':=Q) (l.drop n) n a (aK L (l.take n) u 0) w (fun j=>by simp[List.getElem?_drop])
   (by rw[List.length_drop,I];exact a7) (Y u w N (fun j t y=>O j t (k j t) (fun e=>absurd e y)) (hW (k q hq)).2)
  rwa [List.length_drop]at this
 |succ f ih=>
  intro a u w hf g N O hW;have b9:a.size=l.length:=by rw[g.size];simp
  obtain⟨i0,a1,D⟩:∃i,i<n∧a.getD i false=false:=by
   apply aG;intro b8;have:dv n a=0:=by
    unfold dv;rw[List.countP_eq_zero];intro j t;have:a.getD j false=true:=by
     cases h:a.getD j false with
     |true=>rfl
     |false=>exact absurd ⟨j,List.mem_range.1 t,h⟩ b8
    rw[this]
    decide
   omega
  rw[show f+1+(l.length-n)=(f+(l.length-n))+1 by omega];refine⟨fun h=>absurd h (kJ r (by simpa using b6) i0 i0 rfl a1 D (by omega) (fun j t=>by omega)),fun i G=> ?_⟩;obtain⟨a2,o,ho,s⟩:=mem_ready.1 G;have c3:i<l.length:=by have:=(av.1 ho).1;simpa using this
  have x:i<n:=by
   rcases hn with hn|⟨⟨hn,hs⟩,hc⟩
   ·omega
   ·exact(Nat.lt_or_ge i n).resolve_right fun h=>tail_waits hs hc (by simpa using hn) g _ i0 rfl a1 (getD_in (by omega) D) i h G
  have d:a.getD i false=false:=getD_both a2;have a5:(l.take n)[i]?=some o:=by
   rw[List.getElem?_take_of_lt x];simpa using ho
  have b0:fJ md V p q i u w o.after.toList:=vN _ fun e he R a6=>by
   have U:=List.all_eq_true.1 r i (List.mem_range.2 x);simp only[ho]at U;have B:=List.all_eq_true.1 U e he;simp only[R,Bool.not_true,aP,decide_eq_true_eq]at B;refine O e.on (by omega) (s e (by simpa using he) R) (fun b1=> ?_);rcases a6 with h|h
   ·exact absurd b1 h
   ·rw[←h];exact d
  obtain⟨⟨X,c0⟩,z⟩:=nS _ 0 i o C a5;have b:=z u w N (by rw[Nat.zero_add];exact b0);simp only[Nat.zero_add]at b;have Z:∀v w',kG T A q i w w'→(V i).p v w'→(i=q→W.p (u p) w')→wpAny P md l.toArray Q (f+(l.length-n)) (a.setIfInBounds i true) ((aK L (l.take n) u 0).put o.dst v) w':=by
   intro v w' c hv c1;have a9:Below A.heap.size A w':=by
    unfold kG at c;split at c
    ·exact N.trans c.1
    ·exact N.trans (c.mono N.size)
   rw[iM (l.take n) L u 0 i o hd a5];refine ih _ _ _ ?_ (g.set G x) a9 ?_ ?_
   ·have:=jg x (by omega:i<a.size) d;omega
   ·intro j t H a3;unfold qD;by_cases hji:j=0+i
    ·rw[if_pos hji];have:j=i:=by omega
     subst this;exact hv
    ·rw[if_neg hji];rw[getD_set_ne false (by omega)]at H;unfold kG at c;by_cases hiq:i=q
     ·subst hiq;have y:j≠p:=by
       intro e;have h9:=a3 e;rw[Array.getD_eq_getD_getElem?,Array.getElem?_setIfInBounds_self_of_lt (by omega)]at h9;cases h9
      obtain⟨K,J⟩:∃K,(l.take n)[j]?=some K:=⟨_,aS (by rw[List.length_take];omega)⟩;have hc:=(nS _ 0 j K C J).1.1;rw[Nat.zero_add]at hc;have c2:gt md K i=false:=by
       cases hwb:gt md K i with
       |false=>rfl
       |true=>
        unfold gt at hwb;obtain⟨ed,F,m⟩:=List.any_eq_true.1 hwb;simp only[Bool.and_eq_true,decide_eq_true_eq]at m;have a4:l.toArray[j]?=some K:=by
         rw[List.getElem?_take_of_lt t]at J;simpa using J
        have:=g.closed j K a4 H ed (by simpa using F) m.2;rw[m.1,d]at this;cases this
      rw[if_pos rfl]at c;exact hc ⟨y,by omega,c2⟩ _ _ _ c.2 (O j t H (fun e=>absurd e y))
     ·rw[if_neg hiq]at c;refine(V j).grow _ _ _ c (O j t H (fun e=> ?_));have h9:=a3 e
      rwa [getD_set_ne false (by omega)]at h9
   ·intro H;by_cases hiq:i=q
    ·have b5:a.getD p false=true:=by
      obtain⟨ed,F,m⟩:=List.any_eq_true.1 (c0 (by rw[Nat.zero_add];exact hiq));simp only[Bool.and_eq_true,decide_eq_true_eq]at m;have:=s ed (by simpa using F) m.2
      rwa [m.1]at this
     refine⟨?_,?_⟩
     ·rw[getD_set_ne false (by omega)];exact b5
     ·unfold qD;rw[if_neg (by omega)];exact c1 hiq
    ·rw[getD_set_ne false (by omega)]at H;obtain⟨E,B⟩:=hW H;have c4:i≠p:=fun e=>by rw[e,E]at d;cases d
     refine⟨?_,?_⟩
     ·rw[getD_set_ne false (by omega)];exact E
     ·unfold qD kG at*
      rw[if_neg hiq]at c;rw[if_neg (by omega)];exact W.grow _ _ _ c B
  have a8:kG T A q i w w:=by
   unfold kG;split
   ·exact⟨ah _ _,hT w⟩
   ·exact ah _ _
  unfold wpOp;simp only[ho];split
  ·rename_i hw;rw[if_pos hw]at b;exact .inl (jv b fun v w' ⟨E,B⟩=>Z v w' E B.1 B.2)
  ·rename_i hw;rw[if_neg hw]at b;exact Z _ _ a8 b.2 (fun e=>absurd e b.1)
def gC (P:Program) (md:Region.Mode) (ops:Array Oper) (w0:World) (T:World→World→Prop) (W:ay) (p q:Nat) (fr:(Nat→Value)→Act) (fin:(Nat→ay)→Prop):List Oper→Nat→(Nat→ay)→Prop
 | [],_,V=>fin V
 |o::l,k,V=>∃s:ay,(((k≠p∧k≠q∧gt md o q=false→∀v w w',T w w'→s.p v w→s.p v w')∧(k=q→gt md o p=true))∧∀(u:Nat→Value) (w:World),Below w0.heap.size w0 w→fJ md V p q k u w o.after.toList→
  if au o (yielded ops (fr u).tmps)=true then dh P o (fr u) w (fun v w'=>kG T w0 q k w w'∧s.p v w'∧(k=q→W.p (u p) w'))else k≠q∧s.p undef w)∧gC P md ops w0 T W p q fr fin l (k+1) (aR V k s)
theorem sR {ops:Array Oper} {m:World} {T:World→World→Prop} {W:ay} {p q:Nat} {d:(Nat→Value)→Act} {b:(Nat→ay)→Prop}:∀(l:List Oper) (k:Nat) (V:Nat→ay),jM md l k=true→gC P md ops m T W p q d b l k V→
 ∃a:Nat→ay,(∀j,j<k→a j=V j)∧rc P md ops m T W a p q d l k∧b a
 | [],_,V,_,h=>⟨V,fun _ _=>rfl,trivial,h⟩
 |o::l,k,V,hb,h=>by
  obtain⟨s,e,n⟩:=h;simp only[jM,Bool.and_eq_true]at hb;obtain⟨a,g,t,x⟩:=sR l (k+1) _ hb.2 n;have f:∀j,j<k→a j=V j:=fun j y=>by rw[g j (by omega)];unfold aR;rw[if_neg (by omega)]
  have i:a k=s:=by rw[g k (by omega)];unfold aR;rw[if_pos rfl]
  refine⟨a,f,⟨⟨?_,fun u w c v=> ?_⟩,t⟩,x⟩
  ·rw[i];exact e.1
  ·have r:=e.2 u w c (pX _ hb.1 f v);rw[i];exact r
theorem sS (T:World→World→Prop) (W:ay) {B:Nat} {Q:Exit→Act→World→Prop} {a:Act} {w:World} {l:List Oper} (n p q:Nat) (v:P.follows .mixedOrders=true) (i:lu .any l n=true) (m:jM .any (l.take n) 0=true) (x:q<n) (o:∀w,T w w) (g:p<q)
 (h:gC P .any l.toArray w T W p q (fun u=>aK a (l.take n) u 0) (fun V=>∀(u:Nat→Value) (w':World),Below w.heap.size w w'→cF (aR V p W) u w' n→wpList P l.toArray Q (l.drop n) (aK a (l.take n) u 0) w') (l.take n) 0 (fun _=>ay.any)):
 (Code.region B l.toArray true).wp P Q a w:=by
 obtain⟨V,_,c,d⟩:=sR _ _ _ m h;refine wp_region_any v ?_;have f:HeadInv .any l.toArray n (Array.replicate l.toArray.size false):=
  ⟨by simp,fun j C _ b=>(by rw[getD_replicate_false]at b;cases b),fun t _ y=>getD_in (by simpa using y) (getD_replicate_false _ _)⟩
 have hn:n≤l.length:=by
  simp only[lu,Bool.and_eq_true,Bool.or_eq_true,decide_eq_true_eq]at i;omega
 have k:dv n (Array.replicate l.toArray.size false)=n:=by
  unfold dv;rw[List.countP_eq_length.2]
  ·simp
  ·intro j _;rw[getD_replicate_false];rfl
 have:=yR i x c o g (fun u w' r z A=>d u w' r (uv n (fun j s=>by
  unfold aR;by_cases e:j=p
  ·rw[if_pos e,e];exact A
  ·rw[if_neg e];exact z j s e))) n _ (fun j=>xn a (l.take n) j) {w with drawn:=w.drawn+1} k f ⟨rfl,rfl,rfl,aB _,fun _ _=>rfl⟩ (fun j _ b=>by rw[getD_replicate_false]at b;cases b) (fun b=>by rw[getD_replicate_false]at b;cases b)
 rw[ly a (l.take n) 0 _ (fun j=>by rw[Nat.zero_add]),show n+(l.length-n)=l.toArray.size by simp;omega]at this;exact this
section
variable {ops:Array Oper} {w0:World} {T:World→World→Prop} {W:ay} {p q:Nat} {fr:(Nat→Value)→Act} {fin:(Nat→ay)→Prop} {o:Oper} {l:List Oper} {k:Nat} {V:Nat→ay}
theorem jn {x:Value} (b:k≠q)
 (h:∀(u:Nat→Value) (w:World),Below w0.heap.size w0 w→fJ md V p q k u w o.after.toList→if au o (yielded ops (fr u).tmps)=true then dh P o (fr u) w (fun v w'=>Below w.heap.size w w'∧v=x)else undef=x)
 (f:gC P md ops w0 T W p q fr fin l (k+1) (aR V k (ay.is x))):gC P md ops w0 T W p q fr fin (o::l) k V:=by
 refine⟨ay.is x,⟨⟨fun _ _ _ _ _ h=>h,fun e=>absurd e b⟩,fun u w c d=> ?_⟩,f⟩;have a:=h u w c d;split
 ·rename_i hw;rw[if_pos hw]at a;exact dY a (fun v w' h=>⟨by unfold kG;rw[if_neg b];exact h.1,h.2,fun e=>absurd e b⟩)
 ·rename_i hw;rw[if_neg hw]at a;exact⟨b,a⟩
theorem sT (s:ay) (a:k≠q) (g:∀v w w',T w w'→s.p v w→s.p v w')
 (h:∀(u:Nat→Value) (w:World),Below w0.heap.size w0 w→fJ md V p q k u w o.after.toList→au o (yielded ops (fr u).tmps)=true∧dh P o (fr u) w (fun v w'=>Below w.heap.size w w'∧s.p v w'))
 (f:gC P md ops w0 T W p q fr fin l (k+1) (aR V k s)):gC P md ops w0 T W p q fr fin (o::l) k V:=by
 refine⟨s,⟨⟨fun _=>g,fun e=>absurd e a⟩,fun u w c d=> ?_⟩,f⟩;have b:=h u w c d;rw[if_pos b.1];exact dY b.2 (fun v w' h=>⟨by unfold kG;rw[if_neg a];exact h.1,h.2,fun e=>absurd e a⟩)
theorem BX (s:ay) (a:p≠q)
 (h:∀(u:Nat→Value) (w:World),Below w0.heap.size w0 w→fJ md V p q p u w o.after.toList→au o (yielded ops (fr u).tmps)=true∧dh P o (fr u) w (fun v w'=>Below w.heap.size w w'∧s.p v w'))
 (f:gC P md ops w0 T W p q fr fin l (p+1) (aR V p s)):gC P md ops w0 T W p q fr fin (o::l) p V:=by
 refine⟨s,⟨⟨fun h=>absurd rfl h.1,fun e=>absurd e a⟩,fun u w c d=> ?_⟩,f⟩;have b:=h u w c d;rw[if_pos b.1];exact dY b.2 (fun v w' h=>⟨by unfold kG;rw[if_neg a];exact h.1,h.2,fun e=>absurd e a⟩)
theorem yS (e:gt md o p=true)
 (h:∀(u:Nat→Value) (w:World),Below w0.heap.size w0 w→fJ md V p q q u w o.after.toList→au o (yielded ops (fr u).tmps)=true∧dh P o (fr u) w (fun v w'=>Below w0.heap.size w w'∧T w w'∧W.p (u p) w'))
 (d:gC P md ops w0 T W p q fr fin l (q+1) (aR V q ay.any)):gC P md ops w0 T W p q fr fin (o::l) q V:=by
 refine⟨ay.any,⟨⟨fun h=>absurd rfl h.2.1,fun _=>e⟩,fun u w b c=> ?_⟩,d⟩;have a:=h u w b c;rw[if_pos a.1];exact dY a.2 (fun v w' h=>⟨by unfold kG;rw[if_pos rfl];exact⟨h.1,h.2.1⟩,trivial,fun _=>h.2.2⟩)
end
end
end
section
open Go Go.ChangeShapes Go.WideShapes Go.RowKit Go.ChangeAt
theorem Ej:(prog.info? 28).map (fun i=>(i.zero,i.size,i.bytes))=some (some (.agg #["",Nat,Nat,Nat,Nat,Nat]),6,136):=by kernel_rfl
def vp (m:fZ) (Y Y':bK) (D:bX):Prop:=∃i,i<Y.np∧(∀q,q<i→((Y.pI q).toList==D.id.toList)=false)∧Y.pI i=D.id∧(Y.D i).nd=D.nd∧D.rv=0∧(0≤(Y.D i).rv∧(Y.D i).rv≤1000000)∧gF D∧oT Y∧Y'=Y.setD i {D with rv:=(Y.D i).rv+1}∧eY Y'∧io m Y'
theorem xe (Y b:bK) (S:dq) (D:bX) (a:cN) (v:Value) (m:fZ) (o:Nat→Value) (w:World) (g:vp m Y b D) (h:cJ w Y S) (j:∀q,q<Y.np→dj w (Y.D q) (S.sp q)) (B:dj w D a)
 (A:fE w v m o) (f:dN w) (k:Hi (∀i,i<m.ng→(m.nm i).size≤1048576)) (l:Hi (∀i,i<m.ns→(m.sn i).size≤1048576)):
 Calls prog 69 #[.agg (bH Y S),v,.agg (cX D a)] w (fun e w'=>∃n,e= .returned (.tuple #[.agg (bH b n),()])∧dg w' w.heap.size b n∧Below w.heap.size w w'):=by
 obtain⟨i,p,r,s,t,u,x,y,z,rfl,c,d⟩:=g;exact BW Y S D a i v m o w h j z B y p r s t u x A f k l c d
def ay.apl (B:Nat) (Y:bK):ay:=⟨fun v w=>∃S',v= .tuple #[.agg (bH Y S'),()]∧dg w B Y S',fun v w w' hb h=>by obtain⟨S',h1,h2⟩:=h;exact⟨S',h1,h2.keep hb⟩⟩
def ay.cell (B:Nat) (z:Array Value) (t:TypeId):ay:=⟨fun v w=>∃b,v= .pointer (some ⟨b,0,none⟩)∧B≤b∧w.heap[b]?=some (.cells z t),fun v w w' hb h=>by obtain⟨b,h1,h2,h3⟩:=h;exact⟨b,h1,h2,(hb.block b (av.1 h3).1).trans h3⟩⟩
def BY (w w':World):Prop:=∀g:Nat,(∀C,w.heap[g]?≠some (Obj.cells C 28))→w'.heap[g]?=w.heap[g]?
theorem gO.grown {w w':World} {B:Nat} {X:bK} {S:dq} {r:Option Nat} (h:gO w B X S) (f:w.grownBy w' r) (i:∀q,r=some q→∃C,w.heap[q]?=some (.cells C 28)):gO w' B X S:=by
 have b:∀{t:TypeId} {k n:Nat} {v:Value} {c:List Value},t≠28→w.ownsRow B t k v n c→w'.ownsRow B t k v n c:=fun j h=>cZ h fun g a=>f.block g (eh h a).2 fun e=>by
  obtain⟨C,d⟩:=i g e.symm;exact jj h d j a
 exact⟨b (by decide) h.n,b (by decide) h.s,b (by decide) h.d⟩
theorem dg.grown {w w':World} {B:Nat} {X:bK} {S:dq} {r:Option Nat} (h:dg w B X S) (f:w.grownBy w' r) (j:∀q,r=some q→∃C,w.heap[q]?=some (.cells C 28)):dg w' B X S:=by
 have b:∀{t:TypeId} {k n:Nat} {v:Value} {l:List Value},t≠28→w.ownsRow B t k v n l→w'.ownsRow B t k v n l:=fun u h=>cZ h fun g d=>f.block g (eh h d).2 fun e=>by
  obtain⟨C,m⟩:=j g e.symm;exact jj h m u d
 exact⟨h.r.grown f j,b (by decide) h.p,b (by decide) h.k,fun i c=>⟨b (by decide) (h.po i c).o,b (by decide) (h.po i c).q,fun q s=>b (by decide) ((h.po i c).h q s)⟩,fun i c=>⟨b (by decide) (h.ko i c).p,b (by decide) (h.ko i c).a⟩⟩
theorem gP {w w':World} {B:Nat} {t:TypeId} {k n:Nat} {v:Value} {a:List Value} (h:w.ownsRow B t k v n a) (e:t≠28) (c:BY w w'):w'.ownsRow B t k v n a:=cZ h fun g d=>c g fun C b=>jj h b e d
theorem dg.tee {w w':World} {B:Nat} {X:bK} {S:dq} (h:dg w B X S) (b:BY w w'):dg w' B X S:=
 ⟨⟨gP h.r.n (by decide) b,gP h.r.s (by decide) b,gP h.r.d (by decide) b⟩,gP h.p (by decide) b,gP h.k (by decide) b,fun i c=>⟨gP (h.po i c).o (by decide) b,gP (h.po i c).q (by decide) b,fun q d=>gP ((h.po i c).h q d) (by decide) b⟩,fun i c=>⟨gP (h.ko i c).p (by decide) b,gP (h.ko i c).a (by decide) b⟩⟩
theorem Ah {B:Nat} {Y:bK}:∀v w w',BY w w'→(ay.apl B Y).p v w→(ay.apl B Y).p v w':=fun v w w' d h=>by obtain⟨a,b,c⟩:=h;exact⟨a,b,c.tee d⟩
theorem Ge {B:Nat} {Y:bK}:∀v w w',BY w w'→(ay.des B Y).p v w→(ay.des B Y).p v w':=fun v w w' d h=>by obtain⟨a,b,c⟩:=h;exact⟨a,b,c.tee d⟩
def ay.newD (B:Nat) (Y:bK):ay:=⟨fun v w=>∃(b:Nat) (S':_),v= .pointer (some b)∧B≤b∧w.heap[b]?=some (.cells (bH Y S') 28)∧dg w B Y S',fun v w w' hb h=>by obtain⟨b,S',h1,h2,h3,h4⟩:=h;exact⟨b,S',h1,h2,(hb.block b (av.1 h3).1).trans h3,h4.keep hb⟩⟩
theorem yT (n:Nat) (Y:Nat→bK) (S:dq) (K:ByteArray) (oe:Option Addr) (ce:Nat) (E:Nat→bX) (ES:Nat→cN) (v:Value) (m:fZ) (gv:Nat→Value) (w:World) (h:cJ w (Y 0) S) (b1:∀q,q<(Y 0).np→dj w ((Y 0).D q) (S.sp q))
 (ho:bs w (.slice oe n ce) n 38 (fun k=>cX (E k) (ES k))) (d7:∀k,k<n→dj w (E k) (ES k)) (hn:0<n∧n≤32) (t:Hi (∀k,k<n→vp m (Y k) (Y (k+1)) (E k))) (d9:jZ K=true) (j7:K.size≤1048576)
 (hm:fE w v m gv) (a2:dN w) (b5:Hi (∀i,i<m.ng→(m.nm i).size≤1048576)) (b6:Hi (∀i,i<m.ns→(m.sn i).size≤1048576)) (s:Hi (eY (Y 0))) (hr:Hi (io m (Y 0))):
 Calls prog 24 #[.agg (bH (Y 0) S),v,.agg #[.string K,.slice oe n ce]] w (fun e w'=>∃vo U c,e= .returned (.tuple #[vo,()])∧bs w' vo (n+1) 6 U∧(∀i,(U i).size=6)∧U n=bH (Y n) c∧dg w' w.heap.size (Y n) c∧Below w.heap.size w w'):=by
 obtain⟨i0,hi,o,r,i3⟩:=info_parts Ej;have HX:=ar h;have g6:=ar b1;have g5:=ar ho;have i8:=ho.lim;have f4:Hi (∀W,Below w.heap.size w W→Gv 67 #[.string K] (.bool true) W):=fun W a=>by rw[←d9];exact iP _ W (by omega) (a2.below a)
 have c0:Hi (∀W,Below w.heap.size w W→Gv 68 #[.agg (bH (Y 0) S),v] (.int .i64 0) W):=fun W a=>ug (Y 0) S v m gv W (h.below a) s (a2.below a) (hm.below a) (fun q Q=>(b1 q Q).below a) b5 b6 hr;have b9:Hi (∀W k A,Below w.heap.size w W→k<n→cJ W (Y k) A→(∀q,q<(Y k).np→dj W ((Y k).D q) (A.sp q))→Calls prog 69 #[.agg (bH (Y k) A),v,.agg (cX (E k) (ES k))] W (fun e w'=>∃c,e= .returned (.tuple #[.agg (bH (Y (k+1)) c),()])∧dg w' W.heap.size (Y (k+1)) c∧Below W.heap.size W w')):=fun W k A a hk f h6=>xe (Y k) (Y (k+1)) A (E k) (ES k) v m gv W (t.o k hk) f h6 ((d7 k hk).below a) (hm.below a) (a2.below a) b5 b6;clear h b1 ho d7 t d9 a2 b5 b6 s hr;obtain⟨vg,vs,rfl,d3,d4,-,-,-⟩:=hm;obtain⟨og,cg,rfl,-,-⟩:=d3.form;obtain⟨a4,a1,rfl,-,-⟩:=d4.form;obtain⟨ng,f1⟩:=oE m.ng;obtain⟨a3,f2⟩:=oE m.ns;rw[f1,f2]at c0 b9⊢
 clear d3 d4 f1 f2;have h0:aF w (((w.alloc (.cells (bH (Y 0) S) 28)).alloc (.cells #[.slice og ng cg,.slice a4 a3 a1] 32)).alloc (.cells #[.string K,.slice oe n ce] 48)) [(w.heap.size+1+1,#[.string K,.slice oe n ce],48),(w.heap.size+1,#[.slice og ng cg,.slice a4 a3 a1],32),(w.heap.size,bH (Y 0) S,28)]:=(((aF.nil (ah w.heap.size w)).alloc (w.heap.size) rfl _ _).alloc (w.heap.size+1) (by simp) _ _).alloc (w.heap.size+1+1) (by simp) _ _;obtain⟨L,hL,h0⟩:=aF.ex h0;have P:=ar hL;have H0:=ar h0;have g3:Hi (∀x∈L,x.1<w.heap.size+1+1+1):=fun x hx=>by
  rw[P.o]at hx;simp only[bj,List.not_mem_nil,or_false]at hx;rcases hx with rfl|rfl|rfl<;>dsimp only<;>omega
 clear hL h0;have n0:((n:Int)==0)=false:=by simp;omega
 have n1:(n:Int)≤32:=by omega
 go_enter func24,ntmps24;go_wp2_with fail
 (go_at_call 67;refine cy (f4.o _ H0.o.1) H0 fun B H1=> ?_);have o1:B.cell? (w.heap.size+1+1,1)=some (.slice oe n ce):=aX (aF.nth H1.o P.o 0 rfl) rfl;have m0:B.cell? (w.heap.size+1,0)=some (.slice og ng cg):=aX (aF.nth H1.o P.o 1 rfl) rfl;have m1:B.cell? (w.heap.size+1,1)=some (.slice a4 a3 a1):=aX (aF.nth H1.o P.o 1 rfl) rfl;have T:Hi (B.heap[w.heap.size]?=some (.cells (bH (Y 0) S) 28)):=aF.nth H1.o P.o 2 rfl;go_wp2_with (first|(with_reducible refine bA 28 w.heap.size 6 (bH (Y 0) S) 28 _ cH cz rfl rfl T.o ?_)|fail)
 (go_at_call 68;refine cy (c0.o _ H1.o.1) H1 fun w2 H2=> ?_);clear H0 H1;clear o1 m0 m1 T;have o1:w2.cell? (w.heap.size+1+1,1)=some (.slice oe n ce):=aX (aF.nth H2.o P.o 0 rfl) rfl;have T:Hi (w2.heap[w.heap.size]?=some (.cells (bH (Y 0) S) 28)):=aF.nth H2.o P.o 2 rfl;have z2:=aF.len H2.o P.o 0 rfl;have c7:Hi (w2.heap[w.heap.size]?=some (.cells #[.string (Y 0).hull,.slice S.on (Y 0).nn S.cn,.slice S.op (Y 0).np S.cp,.slice S.os (Y 0).ns S.cs,.slice S.ok (Y 0).nk S.ck,.slice S.od (Y 0).nd S.cd] 28)):=T.o;go_wp2_with (first|(with_reducible refine bA 28 w.heap.size 6 #[.string (Y 0).hull,.slice S.on (Y 0).nn S.cn,.slice S.op (Y 0).np S.cp,.slice S.os (Y 0).ns S.cs,.slice S.ok (Y 0).nk S.ck,.slice S.od (Y 0).nd S.cd] 28 _ cH cz rfl rfl c7.o ?_)|fail)
 have c8:Hi ((w2.alloc (.cells #[.string (Y 0).hull,.slice S.on (Y 0).nn S.cn,.slice S.op (Y 0).np S.cp,.slice S.os (Y 0).ns S.cs,.slice S.ok (Y 0).nk S.ck,.slice S.od (Y 0).nd S.cd] 28)).ownsRow (w.heap.size+1+1+1) 28 6 (.slice (some ⟨w2.heap.size,0,none⟩) 1 1) 1 (eG (eN (fun _=>bH (Y 0) S)) 6 1)):=⟨rfl,.inr ⟨w2.heap.size,1,_,rfl,by omega,bf _ _ _ rfl,by omega,by unfold maxLen;omega,rfl,rfl⟩⟩;have b8:=ar (aF.obj H2.o (.cells #[.string (Y 0).hull,.slice S.on (Y 0).nn S.cn,.slice S.op (Y 0).np S.cp,.slice S.os (Y 0).ns S.cs,.slice S.ok (Y 0).nk S.ck,.slice S.od (Y 0).nd S.cd] 28));clear o1 T;clear c7;go_loopw[9,40] (fun v x wr=>∃(k N:Nat) (o9:Option Addr) (c9:Nat) (U:Nat→Array Value) (A:dq),k≤n∧N=k+1∧x= .int .i64 (k:Int)∧v= .slice o9 N c9∧Hi (wr.ownsRow (w.heap.size+1+1+1) 28 6 (.slice o9 N c9) N (eG (eN U) 6 N))∧Hi (∀i,(U i).size=6)∧Hi (U k=bH (Y k) A)∧Hi (k=0∧A=S∨dg wr w.heap.size (Y k) A)∧Hi (aF w wr L)) (fun _ x _=>n-(intOf x).toNat)
 case atStart=>exact⟨0,1,_,1,fun _=>bH (Y 0) S,S,by omega,rfl,rfl,rfl,c8,fun _=>rfl,rfl,.inl ⟨rfl,rfl⟩,b8⟩
 case round=>
  clear c8 b8 H2 z2;obtain⟨B,rfl⟩:=wE wr;obtain⟨k,N,o9,c9,U,A,hk,hN,rfl,rfl,HR,d0,d1,c6,HO⟩:=hrel;subst hN;by_cases hlt:k<n
  ·obtain⟨be,fe,rfl,h5,a7⟩:=bs.at g5.o (fun _=>rfl) hlt;have f6:Hi (∀q u,(cX (E k) (ES k))[q]?=some u→B.cell? (be,fe+k*38+q)=some u):=fun q u Q=>bI HO.o.1 h5 (a7 k hlt q u Q);obtain⟨g,cap,i9,e,hg,C,i7,j1,j2,a8⟩:=kF HR.o (by omega);cases e;have f5:Hi (∀q u,(bH (Y k) A)[q]?=some u→B.cell? (g,k*6+q)=some u):=fun q u Q=>by
    have h8:q<6:=(av.1 Q).1;refine aX C ((a8 k q (by omega) h8).trans ?_);unfold eN;rw[d1.o,Array.getD_eq_getD_getElem?,Q];rfl
   have zg:g<B.heap.size:=(av.1 C).1;have a5:Hi (∀W,Below B.heap.size B W→cJ W (Y k) A∧∀q,q<(Y k).np→dj W ((Y k).D q) (A.sp q)):=fun W a=>by
    rcases c6.o with⟨rfl,rfl⟩|f
    ·exact⟨HX.o.below (ag HO.o.1 a),fun q Q=>(g6.o q Q).below (ag HO.o.1 a)⟩
    ·exact⟨(f.keep a).row,(f.keep a).parts⟩
   clear C a8 a7;have k0:=dS k;have k1:(k:Int)<(n:Int):=by omega
   go_wp2_with (first|(with_reducible refine cY 73 be (fe+k*38) 38 (cX (E k) (ES k)) _ fM fB rfl rfl f6.o ?_)|((with_reducible refine bB 73 B.heap.size 38 (cX (E k) (ES k)) 73 fB rfl rfl rfl rfl (⟨_,bf _ _ _ rfl,rfl⟩) ?_);intro O t;(have H3:=ar (aF.put HO.o t));(have z3:B.heap.size<O.heap.size:=H3.o.lt (bw ..));(have y:=ar (bL.below ((ah B.heap.size B).alloc (aB _) _) t (aB _)));clear t)|fail)
   have j3:IntKind.i64.wrap (k:Int)=(k:Int):=iw;have j6:(k:Int)<(k:Int)+1:=by omega
   obtain⟨F,b0⟩:=oE B.heap.size;have g1:Hi (O.heap[F]?=some (.cells (cX (E k) (ES k)) 73)):=by rw[←b0];exact H3.o.get 0 rfl
   rw[b0]at H3 z3;rw[b0];have j5:g<O.heap.size:=by omega
   have y:Hi (Below B.heap.size B O):=y;have zm:=aF.len H3.o.tail P.o 1 rfl;have m0:O.cell? (w.heap.size+1,0)=some (.slice og ng cg):=aX (aF.nth H3.o.tail P.o 1 rfl) rfl;have m1:O.cell? (w.heap.size+1,1)=some (.slice a4 a3 a1):=aX (aF.nth H3.o.tail P.o 1 rfl) rfl;refine sS BY (ay.newD O.heap.size (Y (k+1))) 14 12 13 (by kernel_rfl) (by kernel_rfl) (by kernel_rfl) (by decide) (fun w g _=>rfl) (by decide) ?_;simp only[am,ax,ac,aj,aK,aC,aa,ae,af];apply jn (by decide)
   ·intro u d a f;have s:=dx a;have o:F<d.heap.size:=by omega
    have r:g<d.heap.size:=by omega
    obtain⟨C,J⟩:=br a;have l:=ar a;clear a s;simp[fJ,ai,aR,ay.is,ay.any]at f;go_simp
    first|exact⟨ah _ _,rfl⟩|rfl
   apply jn (by decide)
   ·intro u d a f;have s:=dx a;have o:F<d.heap.size:=by omega
    have r:g<d.heap.size:=by omega
    obtain⟨C,J⟩:=br a;have l:=ar a;clear a s;simp[fJ,ai,aR,ay.is,ay.any]at f;go_simp
    first|exact⟨ah _ _,rfl⟩|rfl
   apply jn (by decide)
   ·intro u d a f;have s:=dx a;have o:F<d.heap.size:=by omega
    have r:g<d.heap.size:=by omega
    obtain⟨C,J⟩:=br a;have l:=ar a;clear a s;simp[fJ,ai,aR,ay.is,ay.any]at f;go_simp
    first|exact⟨ah _ _,rfl⟩|rfl
   apply jn (by decide)
   ·intro u d a f;have s:=dx a;have o:F<d.heap.size:=by omega
    have r:g<d.heap.size:=by omega
    obtain⟨C,J⟩:=br a;have l:=ar a;clear a s;simp[fJ,ai,aR,ay.is,ay.any]at f;go_simp
    first|exact⟨ah _ _,rfl⟩|rfl
   apply jn (by decide)
   ·intro u d a f;have s:=dx a;have o:F<d.heap.size:=by omega
    have r:g<d.heap.size:=by omega
    obtain⟨C,J⟩:=br a;have l:=ar a;clear a s;simp[fJ,ai,aR,ay.is,ay.any]at f;go_simp
    first|exact⟨ah _ _,rfl⟩|rfl
   apply jn (x:= .agg (bH (Y k) A)) (by decide)
   ·intro u d a f;have s:=dx a;have o:F<d.heap.size:=by omega
    have r:g<d.heap.size:=by omega
    obtain⟨C,J⟩:=br a;have l:=ar a;clear a s;simp[fJ,ai,aR,ay.is,ay.any]at f;refine cI 28 g (k*6) 6 (bH (Y k) A) _ cH cz (by first|exact f|simpa [Act.eval]using f|simp[Act.eval]) rfl (fun q u Q=>((ag y.o l.o).cell (p:=⟨_,_,none⟩) zg).trans (f5.o q u Q)) ⟨ah _ _,rfl⟩
   apply jn (by decide)
   ·intro u d a f;have s:=dx a;have o:F<d.heap.size:=by omega
    have r:g<d.heap.size:=by omega
    obtain⟨C,J⟩:=br a;have l:=ar a;clear a s;simp[fJ,ai,aR,ay.is,ay.any]at f;go_simp
    first|exact⟨ah _ _,rfl⟩|rfl
   apply jn (x:= .agg (cX (E k) (ES k))) (by decide)
   ·intro u d a f;have s:=dx a;have o:F<d.heap.size:=by omega
    have r:g<d.heap.size:=by omega
    obtain⟨C,J⟩:=br a;have l:=ar a;clear a s;simp[fJ,ai,aR,ay.is,ay.any]at f;refine cI 73 F 0 38 (cX (E k) (ES k)) _ fM fB (by first|exact f|simp[Act.eval]) rfl (eA ((l.o.block _ (by omega)).trans g1.o)) ⟨ah _ _,rfl⟩
   refine sT (ay.apl O.heap.size (Y (k+1))) (by decide) Ah ?_ ?_
   ·intro u d a f;have s:=dx a;have o:F<d.heap.size:=by omega
    have r:g<d.heap.size:=by omega
    obtain⟨C,J⟩:=br a;have l:=ar a;clear a s;simp[fJ,ai,aR,ay.is,ay.any]at f;refine⟨by simp[au],?_⟩;go_simp;(go_at_call 69;refine(b9.o d k A (ag H3.o.1 l.o) hlt (a5.o d (ag y.o l.o)).1 (a5.o d (ag y.o l.o)).2).mono ?_;rintro e w9 ⟨c,rfl,ho,g9⟩);exact⟨_,rfl,g9,c,rfl,ho.weak l.o.size⟩
   refine sT (ay.apl O.heap.size (Y (k+1))) (by decide) Ah ?_ ?_
   ·intro u d a f;have s:=dx a;have o:F<d.heap.size:=by omega
    have r:g<d.heap.size:=by omega
    obtain⟨C,J⟩:=br a;have l:=ar a;clear a s;simp[fJ,ai,aR,ay.is,ay.any]at f;refine⟨by simp[au],?_⟩;obtain⟨S9,e9,h9⟩:=f;have H9:=ar h9;clear h9;go_simp;exact⟨ah _ _,S9,rfl,H9.o⟩
   refine sT (ay.des O.heap.size (Y (k+1))) (by decide) Ge ?_ ?_
   ·intro u d a f;have s:=dx a;have o:F<d.heap.size:=by omega
    have r:g<d.heap.size:=by omega
    obtain⟨C,J⟩:=br a;have l:=ar a;clear a s;simp[fJ,ai,aR,ay.is,ay.any]at f;refine⟨by simp[au],?_⟩;obtain⟨S9,e9,h9⟩:=f;have H9:=ar h9;clear h9;go_simp;exact⟨ah _ _,S9,rfl,H9.o⟩
   apply jn (x:= .int .i64 0) (by decide)
   ·intro u d a f;have s:=dx a;have o:F<d.heap.size:=by omega
    have r:g<d.heap.size:=by omega
    obtain⟨C,J⟩:=br a;have l:=ar a;clear a s;simp[fJ,ai,aR,ay.is,ay.any]at f;obtain⟨S9,e9,-⟩:=f;go_simp
    first|done|exact⟨ah _ _,rfl⟩|exact ah _ _|rfl
   refine BX (ay.cell O.heap.size #["",Nat,Nat,Nat,Nat,Nat] 28) (by decide) ?_ ?_
   ·intro u d a f;have s:=dx a;have o:F<d.heap.size:=by omega
    have r:g<d.heap.size:=by omega
    obtain⟨C,J⟩:=br a;have l:=ar a;clear a s;simp[fJ,ai,aR,ay.is,ay.any]at f;refine⟨by simp[au],?_⟩;go_simp;exact⟨(ah _ _).alloc (aB _) _,_,rfl,l.o.size,bf _ _ _ rfl⟩
   refine yS (by kernel_rfl) ?_ ?_
   ·intro u d a f;have s:=dx a;have o:F<d.heap.size:=by omega
    have r:g<d.heap.size:=by omega
    obtain⟨C,J⟩:=br a;have l:=ar a;clear a s;simp[fJ,ai,aR,ay.is,ay.any]at f;obtain⟨⟨b,I,a6,a0⟩,⟨S9,X,g8⟩,-⟩:=f;refine⟨by simp[au],?_⟩;refine gQ 28 b 6 #["",Nat,Nat,Nat,Nat,Nat] (bH (Y (k+1)) S9) 28 cz (by first|exact I|simpa [Act.eval]using I) (by first|exact X|simpa [Act.eval]using X) rfl rfl rfl a0 (fun v=> ?_);have t:=fY (cs:=bH (Y (k+1)) S9) a0;have ht:BY d (d.setRow b (bH (Y (k+1)) S9)):=fun g' hg=>t.other g' (fun e=>by subst e;exact hg _ a0);exact⟨bL.below (ah _ _) t a6,ht,b,S9,I,a6,t.here,g8.tee ht⟩
   intro u w4 a Z;have e0:u 0=_:=eS Z 0;have e1:u 1=_:=eS Z 1;have e2:u 2=_:=eS Z 2;have e3:u 3=_:=eS Z 3;have e4:u 4=_:=eS Z 4;have e5:u 5=_:=eS Z 5;have e6:u 6=_:=eS Z 6;have e7:u 7=_:=eS Z 7;obtain⟨f8,e8⟩:=oE (u 8);obtain⟨f9,e9⟩:=oE (u 9);obtain⟨j0,X⟩:=oE (u 10);have d2:u 11=_:=eS Z 11;obtain⟨nb,c,I,-,f0,d6⟩:∃(b:Nat) (c:_),u 12= .pointer (some b)∧O.heap.size≤b∧w4.heap[b]?=some (.cells (bH (Y (k+1)) c) 28)∧dg w4 O.heap.size (Y (k+1)) c:=eS Z 12;have f7:=ar d6;have g4:=ar f0;clear d6 f0;simp only[am,ax,ac,aj,aK,aC,aa,ae,af,e0,e1,e2,e3,e4,e5,e6,e7,e8,e9,X,d2,I];clear e0 e1 e2 e3 e4 e5 e6 e7 e8 e9 X d2 I Z;have R:=ar a;clear a;have a9:=ar (bD HR.o (ag y.o R.o));have H4:=ar (aF.step H3.o.tail R.o);have j8:w.heap.size+1+1+1≤w4.heap.size:=by have:=aF.len H4.o P.o 0 rfl;omega
   have g0:Hi (w4.heap[nb]?=some (.cells #[.string (Y (k+1)).hull,.slice c.on (Y (k+1)).nn c.cn,.slice c.op (Y (k+1)).np c.cp,.slice c.os (Y (k+1)).ns c.cs,.slice c.ok (Y (k+1)).nk c.ck,.slice c.od (Y (k+1)).nd c.cd] 28)):=g4.o;have i6:k+1≤33:=by omega
   go_wp2_with (first|(with_reducible refine bA 28 nb 6 #[.string (Y (k+1)).hull,.slice c.on (Y (k+1)).nn c.cn,.slice c.op (Y (k+1)).np c.cp,.slice c.os (Y (k+1)).ns c.cs,.slice c.ok (Y (k+1)).nk c.ck,.slice c.od (Y (k+1)).nd c.cd] 28 _ cH cz rfl rfl g0.o ?_)|(at_builtin;refine wpList_append_own_at _ rfl _ _ 81 rfl (w.heap.size+1+1+1) 28 i0 (.agg #["",Nat,Nat,Nat,Nat,Nat]) 6 136 underlying81 hi o r i3 rfl (by decide) _ _ _ rfl (a9.o.alloc _) ⟨w4.heap.size,0,none⟩ 1 1 [(.string (Y (k+1)).hull),(.slice c.on (Y (k+1)).nn c.cn),(.slice c.op (Y (k+1)).np c.cp),(.slice c.os (Y (k+1)).ns c.cs),(.slice c.ok (Y (k+1)).nk c.ck),(.slice c.od (Y (k+1)).nd c.cd)] rfl rfl ?c1 ?c2 ?c3 ?c4 ?c5 ?_)|go_in)
   case c1=>
    intro j u z
    match j,z with
    |0,z=>
     simp at z;subst z;simp[Addr.add]
     first|done|rfl|(simp[go_sem];done)
    |1,z=>
     simp at z;subst z;simp[Addr.add]
     first|done|rfl|(simp[go_sem];done)
    |2,z=>
     simp at z;subst z;simp[Addr.add]
     first|done|rfl|(simp[go_sem];done)
    |3,z=>
     simp at z;subst z;simp[Addr.add]
     first|done|rfl|(simp[go_sem];done)
    |4,z=>
     simp at z;subst z;simp[Addr.add]
     first|done|rfl|(simp[go_sem];done)
    |5,z=>
     simp at z;subst z;simp[Addr.add]
     first|done|rfl|(simp[go_sem];done)
   case c2=>intro u hu;simp at hu;(first|(subst hu;rfl)|(rcases hu with rfl|rfl|rfl|rfl|rfl|rfl<;>rfl))
   case c3=>unfold maxLen;omega
   case c4=>omega
   case c5=>simp;omega
   intro v' w9 H G _ d5;have d8:dg w9 w.heap.size (Y (k+1)) c:=by
    have h4:=(f7.o.weak (B':=w.heap.size) (by have:=H3.o.1.size;omega)).keep ((ah w4.heap.size w4).alloc (aB _) (.cells #[.string (Y (k+1)).hull,.slice c.on (Y (k+1)).nn c.cn,.slice c.op (Y (k+1)).np c.cp,.slice c.os (Y (k+1)).ns c.cs,.slice c.ok (Y (k+1)).nk c.ck,.slice c.od (Y (k+1)).nd c.cd] 28));refine h4.grown G (fun q Q=> ?_);have i1:=a9.o.alloc (.cells #[.string (Y (k+1)).hull,.slice c.on (Y (k+1)).nn c.cn,.slice c.op (Y (k+1)).np c.cp,.slice c.os (Y (k+1)).ns c.cs,.slice c.ok (Y (k+1)).nk c.ck,.slice c.od (Y (k+1)).nd c.cd] 28);have h7:some g=some q:=Q;cases h7;obtain⟨h1,⟨h2,-⟩|⟨g',i4,i5,e',j4,h3,-⟩⟩:=i1
    ·cases h2
    ·cases e';exact⟨_,h3⟩
   have H9:aF w w9 L:=aF.row (aF.obj H4.o _) g3.o (by omega) a9.o G;have g2:=ar d8;have f3:=ar H9;have g7:=ar H;obtain⟨o',c',i2⟩:=cj H;subst i2;clear H G d8 H9 d5;go_wp2;go_roundw
   case rel=>
    refine⟨k+1,k+1+1,o',c',iX U (k+1) (bH (Y (k+1)) c),c,by omega,by omega,by go_num,rfl,?_,fun i=> ?_,dr _ _ _,.inr g2.o,f3⟩
    ·have h1:=g7.o;rw[iK (g:=eN (iX U (k+1) (bH (Y (k+1)) c))) (fun i j hi z=>by unfold eN;rw[dy _ _ (by omega)])]at h1;have e1:(List.range 6).map (eN (iX U (k+1) (bH (Y (k+1)) c)) (k+1))=#[.string (Y (k+1)).hull,.slice c.on (Y (k+1)).nn c.cn,.slice c.op (Y (k+1)).np c.cp,.slice c.os (Y (k+1)).ns c.cs,.slice c.ok (Y (k+1)).nk c.ck,.slice c.od (Y (k+1)).nd c.cd].toList:=by
      unfold eN;rw[dr];rfl
     show World.ownsRow _ _ _ _ _ _ _;rw[eG,e1];exact h1
    ·by_cases e:i=k+1
     ·subst e;rw[dr];rfl
     ·rw[dy _ _ e];exact d0.o i
   case measure=>simp[intOf];omega
  ·obtain rfl:k=n:=by omega
   have f:dg B w.heap.size (Y k) A:=by
    rcases c6.o with⟨h1,-⟩|f
    ·omega
    ·exact f
   have HD:=ar f;clear f;go_wp2;go_returns;exact⟨_,U,A,rfl,jI HR.o (by decide),d0.o,d1.o,HD.o,HO.o.1⟩
theorem BZ (n:Nat) (Y:Nat→bK) (S:dq) (a:ByteArray) (o:Option Addr) (j:Nat) (E:Nat→bX) (R:Nat→cN) (v:Value) (m:fZ) (gv:Nat→Value) (w:World) (h:cJ w (Y 0) S) (I:∀q,q<(Y 0).np→dj w ((Y 0).D q) (S.sp q))
 (ho:bs w (.slice o n j) n 38 (fun k=>cX (E k) (R k))) (B:∀k,k<n→dj w (E k) (R k)) (hn:0<n∧n≤32) (L:Hi (∀k,k<n→vp m (Y k) (Y (k+1)) (E k))) (C:jZ a=true) (a0:a.size≤1048576)
 (hm:fE w v m gv) (F:dN w) (J:Hi (∀i,i<m.ng→(m.nm i).size≤1048576)) (K:Hi (∀i,i<m.ns→(m.sn i).size≤1048576)) (hz:Hi (eY (Y 0))) (hr:Hi (io m (Y 0))):
 Calls prog 10 #[.agg (bH (Y 0) S),v,.agg #[.string a,.slice o n j]] w (fun e w'=>∃c,e= .returned (.tuple #[.agg (bH (Y n) c),()])∧dg w' w.heap.size (Y n) c∧Below w.heap.size w w'):=by
 have t:Hi (∀W,Below w.heap.size w W→Calls prog 24 #[.agg (bH (Y 0) S),v,.agg #[.string a,.slice o n j]] W (fun e w'=>∃vo U c,e= .returned (.tuple #[vo,()])∧bs w' vo (n+1) 6 U∧(∀i,(U i).size=6)∧U n=bH (Y n) c∧dg w' W.heap.size (Y n) c∧Below W.heap.size W w')):=fun W s=>yT n Y S a o j E R v m gv W (h.below s) (fun q hq=>(I q hq).below s) (ho.below s) (fun k hk=>(B k hk).below s) hn L C a0 (hm.below s) (F.below s) J K hz hr;clear h I ho B L C F J K hz hr;obtain⟨vg,vs,rfl,y,z,-,-,-⟩:=hm;obtain⟨Q,O,rfl,-,-⟩:=y.form;obtain⟨g,d,rfl,-,-⟩:=z.form;obtain⟨P,G⟩:=oE m.ng;obtain⟨f,H⟩:=oE m.ns;rw[G,H]at t⊢
 clear y z G H;have T:Hi (aF w ((((w.alloc (.cells (bH (Y 0) S) 28)).alloc (.cells #[.slice Q P O,.slice g f d] 32)).alloc (.cells #[.string a,.slice o n j] 48)).alloc (.cells #["",Nat,Nat,Nat,Nat,Nat] 28)) [(w.heap.size+1+1+1,#["",Nat,Nat,Nat,Nat,Nat],28),(w.heap.size+1+1,#[.string a,.slice o n j],48),(w.heap.size+1,#[.slice Q P O,.slice g f d],32),(w.heap.size,bH (Y 0) S,28)]):=((((aF.nil (ah w.heap.size w)).alloc (w.heap.size) rfl _ _).alloc (w.heap.size+1) (by simp) _ _).alloc (w.heap.size+1+1) (by simp) _ _).alloc (w.heap.size+1+1+1) (by simp) _ _;have x:Hi (((((w.alloc (.cells (bH (Y 0) S) 28)).alloc (.cells #[.slice Q P O,.slice g f d] 32)).alloc (.cells #[.string a,.slice o n j] 48)).alloc (.cells #["",Nat,Nat,Nat,Nat,Nat] 28)).heap[w.heap.size]?=some (.cells (bH (Y 0) S) 28)):=T.o.get 3 rfl;go_enter func10,ntmps10;go_wp2_with (first|(with_reducible refine bA 28 w.heap.size 6 (bH (Y 0) S) 28 _ cH cz rfl rfl x.o ?_)|fail)
 (go_at_call 24;refine(t.o _ T.o.1).mono ?_;rintro e_ w1 ⟨vo,U,c,rfl,p,r,N,hd,A⟩);have H1:=ar (aF.step T.o A);have HD:=ar hd;have Z:Hi (w1.heap[w.heap.size+1+1+1]?=some (.cells #["",Nat,Nat,Nat,Nat,Nat] 28)):=H1.o.get 0 rfl;have z0:w.heap.size+1+1+1<((((((w.alloc (.cells (bH (Y 0) S) 28)).alloc (.cells #[.slice Q P O,.slice g f d] 32)).alloc (.cells #[.string a,.slice o n j] 48)).alloc (.cells #["",Nat,Nat,Nat,Nat,Nat] 28))).heap.size):=by simp
 obtain⟨oa,cap,rfl,-,-,-⟩:=p.form r;obtain⟨bc,fc,rfl,-,l⟩:=bs.at p r (i:=n) (by omega);have X:Hi (∀q u,(bH (Y n) c)[q]?=some u→w1.cell? (bc,fc+n*6+q)=some u):=fun q u hq=>l n (by omega) q u (by rw[N];exact hq);have j3:IntKind.i64.wrap (n:Int)=(n:Int):=iw;have j6:(n:Int)<(n:Int)+1:=by omega
 have j0:=dS n;clear l p r N hd A x;go_wp2_with (first|(with_reducible refine cY 28 bc (fc+n*6) 6 (bH (Y n) c) _ cH cz rfl rfl X.o ?_)|((with_reducible refine bB 28 (w.heap.size+1+1+1) 6 _ 28 cz rfl rfl rfl rfl (⟨_,Z.o,rfl⟩) ?_);intro w7 hs)|fail)
 have hB:=bL.below H1.o.1 hs (by omega);refine bodyPost_ret (di rfl rfl hs.here cH cz rfl) rfl ?_;exact⟨c,rfl,(HD.o.low (b:=w.heap.size+1+1+1) z0 hs.other).weak (by simp;omega),hB⟩
theorem Ca (x y h:Int) (w:World) (b: -1048576≤x∧x≤1048576) (c: -1048576≤y∧y≤1048576) (a:0≤h∧h≤1048576):
 Calls prog 22 #[.agg #[x,y],h] w (fun e w'=>∃v,e= .returned v∧w'.ownsRow w.heap.size 43 2 v 4 (eG (fun i j=>qb (mV (x,y) h i) j) 2 4)∧Below w.heap.size w w'):=by
 have d:IntKind.i64.wrap (x-h)=x-h:=iw;have f:IntKind.i64.wrap (x+h)=x+h:=iw;have g:IntKind.i64.wrap (y-h)=y-h:=iw;have k:IntKind.i64.wrap (y+h)=y+h:=iw;go_enter func22,ntmps22;go_wp2;go_returns;refine⟨_,rfl,⟨rfl,.inr ⟨w.heap.size+1,4,_,by first|rfl|simp,by omega,bf _ _ _ (by simp),by omega,by unfold maxLen;omega,rfl,rfl⟩⟩,by go_grown⟩
end
section
open Go Go.ChangeShapes Go.WideShapes Go.RowKit Go.ChangeAt Go.Deep Go.Joins
theorem Cb {H:Type} (d:DataW H):1≤Rows.uptoBulk d:=by
 cases d with
 |lit l=>cases l<;>simp[Rows.uptoBulk]
 |nil=>simp[Rows.uptoBulk]
 |ptr d=>simp[Rows.uptoBulk]
 |slice elems spare=>simp[Rows.uptoBulk]
 |agg parts=>simp[Rows.uptoBulk]
 |iface t d=>simp[Rows.uptoBulk]
 |map entries=>simp[Rows.uptoBulk]
 |held h=>simp[Rows.uptoBulk]
theorem sU {H:Type} {d:DataW H} {l:List (DataW H)} (h:d∈l):Rows.uptoBulk d≤Rows.uptoBulkAll l:=by
 induction l with
 |nil=>cases h
 |cons x r ih=>
  simp only[Rows.uptoBulkAll];cases bj.1 h with
  |inl e=>subst e;omega
  |inr e=>have:=ih e;omega
theorem Cc {H:Type} (l:List (DataW H)):l.length≤Rows.uptoBulkAll l:=by
 induction l with
 |nil=>simp[Rows.uptoBulkAll]
 |cons x r ih=>have:=Cb x;simp only[Rows.uptoBulkAll,List.length_cons];omega
theorem ul {H:Type} {d:DataW H} {l:List (DataW H)} (h:d∈l):Rows.uptoBulk d≤Rows.uptoBulk (.agg l):=by
 have:=sU h;simp only[Rows.uptoBulk];omega
theorem yU {H:Type} {d:DataW H} {l r:List (DataW H)} (h:d∈l):Rows.uptoBulk d≤Rows.uptoBulk (.slice l r):=by
 have:=sU h;simp only[Rows.uptoBulk];omega
theorem xg {H:Type} (l r:List (DataW H)):l.length≤Rows.uptoBulk (.slice l r):=by
 have:=Cc l;simp only[Rows.uptoBulk];omega
section
variable {H:Type} {enc:TypeId×Value→H} {P:Program} {w:World} {base:Nat} {spare:Nat→Bool} {held:Bool}
def vq (enc:TypeId×Value→H) (P:Program) (w:World) (base:Nat) (spare:Nat→Bool) (held:Bool) (K:Nat) (u:TypeId) (v:Value):Prop:=∃fuel x,DataW.trod enc P w base spare held fuel u [v]=some x∧Rows.uptoBulk x.1≤K
theorem oV:∀(n:Nat) (t:TypeId) (j:Nat) (u:TypeId),nC P n t j=some u→∀(b:Nat) (cs:List Value) (x:DataW H×List MemPlace) (v:Value),
 DataW.trod enc P w base spare held b t cs=some x→cs[j]?=some v→vq enc P w base spare held (Rows.uptoBulk x.1) u v
 |0,_,_,_,h,_,_,_,_,_,_=>by simp[nC]at h
 |n+1,t,j,u,h,b,cs,x,v,hx,hv=>by
  unfold nC at h;split at h
  ·rename_i fs hu;obtain⟨N,m,_,rfl,d,r,E⟩:=DataW.trod_struct hu hx;obtain⟨f,G,l⟩:=List.exists_of_findSome?_eq_some h;split at l
   ·rename_i hcond;obtain⟨i,K,F⟩:=List.mem_iff_getElem.1 G;have J:=E i f (by simp at K;rw[←F];simp);have p:i<N.length:=by rw[r];simpa using K
    rw[aS p]at J;obtain⟨g,y,s,A⟩:=oV n f.type _ u l m _ _ v J (by rw[rx hcond.1 hcond.2];exact hv);exact⟨g,y,s,bW A (ul (List.mem_map.2 ⟨_,List.getElem_mem p,rfl⟩))⟩
   ·cases l
  ·rename_i m e hu;split at h
   ·rename_i hc;obtain⟨N,k,_,rfl,d,r,E⟩:=DataW.trod_array hu hx;obtain⟨B,C⟩:=hc;have c:j<cs.length:=(List.getElem?_eq_some_iff.1 hv).1;have R:j/P.cellsOf e<m:=by
     apply Nat.div_lt_of_lt_mul;rw[Nat.mul_comm,←C,←d];exact c
    have s:=E _ R;rw[aS (by omega)]at s;have Q:=Nat.div_add_mod j (P.cellsOf e);have L:=Nat.mod_lt j B;rw[Nat.mul_comm]at Q;obtain⟨g,y,A,O⟩:=oV n e _ u h k _ _ v s (by
     rw[←hv,←rx (cs:=cs) (o:=j/P.cellsOf e*P.cellsOf e) (k:=P.cellsOf e) (j:=j) (by omega) (by omega)];congr 1;omega)
    exact⟨g,y,A,bW O (ul (List.mem_map.2 ⟨_,List.getElem_mem _,rfl⟩))⟩
   ·cases h
  ·rename_i k hu;split at h
   ·rename_i c;subst c;cases h;obtain⟨z,rfl,q,_⟩:=DataW.trod_int hu hx;obtain rfl:v= .int k z:=by simpa using hv.symm
    exact⟨b,x,hx,aB _⟩
   ·cases h
  ·rename_i hu;split at h
   ·rename_i c;subst c;cases h;obtain⟨z,rfl,q⟩:=DataW.trod_bool hu hx;obtain rfl:v= .bool z:=by simpa using hv.symm
    exact⟨b,x,hx,aB _⟩
   ·cases h
  ·rename_i hu;split at h
   ·rename_i c;subst c;cases h;obtain⟨z,rfl,q,_⟩:=DataW.trod_string hu hx;obtain rfl:v= .string z:=by simpa using hv.symm
    exact⟨b,x,hx,aB _⟩
   ·cases h
  ·rename_i e hu;split at h
   ·rename_i c;subst c;cases h;rcases open_slice hu hx with⟨rfl,_⟩|⟨a,I,cap,m,n,D,T,rfl,_⟩
    ·obtain rfl:v= .slice none 0 0:=by simpa using hv.symm
     exact⟨b,x,hx,aB _⟩
    ·obtain rfl:v= .slice (some a) I cap:=by simpa using hv.symm
     exact⟨b,x,hx,aB _⟩
   ·cases h
  ·cases h
variable {K:Nat}
theorem dV {u:TypeId} {v:Value} (a:P.underlying u=some (.int .i64)) (h:vq enc P w base spare held K u v):∃z:Int,v= .int .i64 z:=by
 obtain⟨_,_,h,-⟩:=h;obtain⟨z,e,-⟩:=CR a h;exact⟨z,e⟩
theorem dQ {u:TypeId} {v:Value} (b:P.underlying u=some .string) (h:vq enc P w base spare held K u v):∃s:ByteArray,v= .string s∧s.size≤K:=by
 obtain⟨_,x,h,a⟩:=h;obtain⟨s,e,d,-⟩:=DataW.trod_string b h;refine⟨s,by simpa using e,?_⟩;have q:=Lib.size_eq s;rw[d]at a;simp only[Rows.uptoBulk]at a;omega
theorem fX {t e:TypeId} {sz:Nat} {v:Value} (O:P.underlying t=some (.slice e)) (H:P.cellsOf e=sz) (h:vq enc P w 0 spare held K t v):
 ∃(oa:Option Addr) (n cap:Nat),v= .slice oa n cap∧n≤cap∧cap≤maxLen∧n≤K∧∀i,i<n→∃a,oa=some a∧∃cs:List Value,cs.length=sz∧(∀j,j<sz→w.cell? (a.add (i*sz+j))=cs[j]?)∧
  ∀j c,cs[j]?=some c→∀k u,nC P k e j=some u→vq enc P w 0 spare held K u c:=by
 obtain⟨z,x,h,C⟩:=h;rcases open_slice O h with⟨E,_⟩|⟨a,b,cap,m,n,D,T,l,_,J,L,r,rfl,o⟩
 ·exact⟨none,0,0,by simpa using E,aB _,by unfold maxLen;omega,Nat.zero_le _,fun i o=>absurd o (by omega)⟩
 ·have A:=xg ((List.range b).map D) ((List.range (m-b)).map fun j=>D (b+j));simp only[List.length_map,List.length_range]at A;refine⟨some a,b,cap,by simpa using l,J,L,bW A C,fun i p=>⟨a,rfl,?_⟩⟩;have N:b≤m:=by rw[r];split<;>omega
  obtain⟨cs,B,I⟩:=o i (by omega);rw[H]at B;obtain⟨_,d,f⟩:=World.cells?_some B;refine⟨cs,d,fun j q=> ?_,fun j c q R u Q=> ?_⟩
  ·have s:=f j q;rw[add_add]at s;exact s
  ·obtain⟨g,y,F,G⟩:=oV R e j u Q n cs _ c I q;exact⟨g,y,F,bW G (bW (yU (List.mem_map.2 ⟨i,by simpa using p,rfl⟩)) C)⟩
theorem pK {t:TypeId} {fs:Array Field} {k:Nat} {v:Value} {d:DataW H} {ps:List MemPlace} {r:Reach} {f:Nat} (x:P.underlying t=some (.struct fs)) (p:P.cellsOf t=k) (z:Value.okWide P w r f t v) (h:DataW.Trod enc P w base spare held t v d ps) (o:Rows.uptoBulk d≤K):
 ∃cs:List Value,v= .agg cs.toArray∧cs.length=k∧∀j c,cs[j]?=some c→∀n u,nC P n t j=some u→vq enc P w base spare held K u c:=by
 obtain⟨⟨l⟩,rfl,b⟩:=okWide_struct x z;obtain⟨a,q⟩:=h;refine⟨l,rfl,by simpa using b.trans p,fun j c s n u e=> ?_⟩;obtain⟨g,y,i,m⟩:=oV n t j u e a l _ c (by simpa [Value.cells]using q) s;exact⟨g,y,i,bW m o⟩
end
end
section
open Go Go.ChangeShapes Go.WideShapes Go.RowKit Go.ChangeAt
section
variable {H:Type} {enc:TypeId×Value→H} {W:World} {K:Nat}
theorem jc {α:Type} (d:α) {oa:Option Addr} {n cap sz:Nat} (C:α→Array Value) (p:α→Prop) (l:n≤cap) (m:cap≤maxLen) (c:0<sz)
 (h:∀i,i<n→∃a,oa=some a∧∃y:α,(∀j,j<sz→W.cell? (a.add (i*sz+j))=(C y).toList[j]?)∧(C y).size=sz∧p y):
 ∃g:Nat→α,bs W (.slice oa n cap) n sz (fun i=>C (g i))∧∀i,i<n→p (g i):=by
 haveI:Inhabited α:=⟨d⟩
 rcases Nat.eq_zero_or_pos n with rfl|hn
 ·exact⟨fun _=>d,⟨oa,cap,rfl,l,by unfold maxLen at m;omega,fun h=>absurd h (by omega)⟩,fun i b=>absurd b (by omega)⟩
 ·obtain⟨a,rfl,-⟩:=h 0 hn;obtain⟨g,k⟩:=Az (n:=n) (p:=fun i (y:α)=>(∀j,j<sz→W.cell? (a.add (i*sz+j))=(C y).toList[j]?)∧(C y).size=sz∧p y) (fun i b=>by
   obtain⟨s,e,y,r⟩:=h i b;cases e;exact⟨y,r⟩)
  refine⟨g,xB _ l m c fun i b j q=> ?_,fun i b=>(k i b).2.2⟩;obtain⟨o,t,-⟩:=k i b;have f:j<(C (g i)).size:=by omega
  rw[o j q,Array.getElem?_toList,Array.getElem?_eq_getElem f];simp[f]
theorem Ai {v:Value} (h:vq enc prog W 0 (fun _=>true) true K 67 v):∃(oa:Option Addr) (n cap:Nat) (g:Nat→ByteArray),v= .slice oa n cap∧n≤K∧bs W (.slice oa n cap) n 1 (fun i=>#[.string (g i)])∧∀i,i<n→(g i).size≤K:=by
 obtain⟨oa,n,cap,rfl,q,r,l,p⟩:=fX (sz:=1) (e:=9) (by kernel_rfl) (by kernel_rfl) h;obtain⟨g,j,k⟩:=jc (α:=ByteArray) ⟨#[]⟩ (fun y=>#[.string y]) (fun y=>y.size≤K) q r (sz:=1) (by decide) (fun i f=>by
  obtain⟨a,m,cs,b,d,o⟩:=p i f
  match cs,b with
  | [c0],_=>
   obtain⟨s,rfl,c⟩:=dQ underlying9 (o 0 c0 rfl 8 9 (by kernel_rfl));exact⟨a,m,s,d,rfl,c⟩)
 exact⟨oa,n,cap,g,rfl,l,j,k⟩
theorem Ek {v:Value} (h:vq enc prog W 0 (fun _=>true) true K 22 v):∃(oa:Option Addr) (n cap:Nat) (g:Nat→mW),v= .slice oa n cap∧n≤K∧bs W (.slice oa n cap) n 3 (fun i=>(g i).c)∧∀i,i<n→((g i).id.size≤K∧(g i).up.size≤K):=by
 obtain⟨oa,n,cap,rfl,s,t,p,r⟩:=fX (sz:=3) (e:=64) (by kernel_rfl) (by kernel_rfl) h;obtain⟨g,m,o⟩:=jc (α:=mW) ⟨⟨#[]⟩,0,⟨#[]⟩⟩ (fun y=>y.c) (fun y=>(y.id.size≤K∧y.up.size≤K)) s t (sz:=3) (by decide) (fun i l=>by
  obtain⟨a,q,cs,b,j,k⟩:=r i l
  match cs,b with
  | [c0,c1,c2],_=>
   obtain⟨u,rfl,d⟩:=dQ underlying9 (k 0 c0 rfl 8 9 (by kernel_rfl));obtain⟨x,rfl⟩:=dV underlying3 (k 1 c1 rfl 8 3 (by kernel_rfl));obtain⟨w,rfl,f⟩:=dQ underlying9 (k 2 c2 rfl 8 9 (by kernel_rfl));exact⟨a,q,⟨u,x,w⟩,j,rfl,d,f⟩)
 exact⟨oa,n,cap,g,rfl,p,m,o⟩
theorem Em {v:Value} (h:vq enc prog W 0 (fun _=>true) true K 24 v):∃(oa:Option Addr) (n cap:Nat) (g:Nat→tW),v= .slice oa n cap∧n≤K∧bs W (.slice oa n cap) n 6 (fun i=>(g i).c)∧∀i,i<n→((g i).id.size≤K∧(g i).a.size≤K∧(g i).b.size≤K):=by
 obtain⟨oa,n,cap,rfl,u,w,r,t⟩:=fX (sz:=6) (e:=66) (by kernel_rfl) (by kernel_rfl) h;obtain⟨g,p,q⟩:=jc (α:=tW) ⟨⟨#[]⟩,⟨#[]⟩,⟨#[]⟩,0,0,0⟩ (fun y=>y.c) (fun y=>(y.id.size≤K∧y.a.size≤K∧y.b.size≤K)) u w (sz:=6) (by decide) (fun i o=>by
  obtain⟨a,s,cs,f,m,d⟩:=t i o
  match cs,f with
  | [c0,c1,c2,c3,c4,c5],_=>
   obtain⟨x,rfl,j⟩:=dQ underlying9 (d 0 c0 rfl 8 9 (by kernel_rfl));obtain⟨z,rfl,k⟩:=dQ underlying9 (d 1 c1 rfl 8 9 (by kernel_rfl));obtain⟨A,rfl,l⟩:=dQ underlying9 (d 2 c2 rfl 8 9 (by kernel_rfl));obtain⟨B,rfl⟩:=dV underlying3 (d 3 c3 rfl 8 3 (by kernel_rfl));obtain⟨C,rfl⟩:=dV underlying3 (d 4 c4 rfl 8 3 (by kernel_rfl));obtain⟨D,rfl⟩:=dV underlying3 (d 5 c5 rfl 8 3 (by kernel_rfl));exact⟨a,s,⟨x,z,A,B,C,D⟩,m,rfl,j,k,l⟩)
 exact⟨oa,n,cap,g,rfl,r,p,q⟩
theorem En {v:Value} (h:vq enc prog W 0 (fun _=>true) true K 26 v):∃(oa:Option Addr) (n cap:Nat) (g:Nat→qg),v= .slice oa n cap∧n≤K∧bs W (.slice oa n cap) n 3 (fun i=>(g i).c)∧∀i,i<n→((g i).bl.size≤K∧(g i).on.size≤K):=by
 obtain⟨oa,n,cap,rfl,s,t,p,r⟩:=fX (sz:=3) (e:=71) (by kernel_rfl) (by kernel_rfl) h;obtain⟨g,m,o⟩:=jc (α:=qg) ⟨0,⟨#[]⟩,⟨#[]⟩⟩ (fun y=>y.c) (fun y=>(y.bl.size≤K∧y.on.size≤K)) s t (sz:=3) (by decide) (fun i l=>by
  obtain⟨a,q,cs,b,j,k⟩:=r i l
  match cs,b with
  | [c0,c1,c2],_=>
   obtain⟨x,rfl⟩:=dV underlying3 (k 0 c0 rfl 8 3 (by kernel_rfl));obtain⟨u,rfl,d⟩:=dQ underlying9 (k 1 c1 rfl 8 9 (by kernel_rfl));obtain⟨w,rfl,f⟩:=dQ underlying9 (k 2 c2 rfl 8 9 (by kernel_rfl));exact⟨a,q,⟨x,u,w⟩,j,rfl,d,f⟩)
 exact⟨oa,n,cap,g,rfl,p,m,o⟩
theorem Eo {v:Value} (h:vq enc prog W 0 (fun _=>true) true K 25 v):∃(oa:Option Addr) (n cap:Nat) (g:Nat→jS×jD),v= .slice oa n cap∧n≤K∧bs W (.slice oa n cap) n 5 (fun i=>eO (g i).1 (g i).2)∧∀i,i<n→(bs W (.slice (g i).2.op (g i).1.m (g i).2.cp) (g i).1.m 1 (fun j=>#[.string ((g i).1.P j)])∧bs W (.slice (g i).2.oa (g i).1.k (g i).2.ca) (g i).1.k 1 (fun j=>#[.string ((g i).1.A j)])∧(g i).1.id.size≤K∧(g i).1.bl.size≤K∧(∀j,j<(g i).1.m→((g i).1.P j).size≤K)∧∀j,j<(g i).1.k→((g i).1.A j).size≤K):=by
 obtain⟨oa,n,cap,rfl,z,B,u,x⟩:=fX (sz:=5) (e:=69) (by kernel_rfl) (by kernel_rfl) h;obtain⟨g,s,t⟩:=jc (α:=jS×jD) (Dr,Ds) (fun y=>eO y.1 y.2) (fun y=>(bs W (.slice y.2.op y.1.m y.2.cp) y.1.m 1 (fun j=>#[.string (y.1.P j)])∧bs W (.slice y.2.oa y.1.k y.2.ca) y.1.k 1 (fun j=>#[.string (y.1.A j)])∧y.1.id.size≤K∧y.1.bl.size≤K∧(∀j,j<y.1.m→(y.1.P j).size≤K)∧∀j,j<y.1.k→(y.1.A j).size≤K)) z B (sz:=5) (by decide) (fun i o=>by
  obtain⟨a,w,cs,c,l,b⟩:=x i o
  match cs,c with
  | [c0,c1,c2,c3,c4],_=>
   obtain⟨F,rfl,d⟩:=dQ underlying9 (b 0 c0 rfl 8 9 (by kernel_rfl));obtain⟨G,rfl,f⟩:=dQ underlying9 (b 1 c1 rfl 8 9 (by kernel_rfl));obtain⟨H,rfl⟩:=dV underlying3 (b 3 c3 rfl 8 3 (by kernel_rfl));obtain⟨C,m,r,P,rfl,-,D,b2⟩:=Ai (b 2 c2 rfl 8 67 (by kernel_rfl));obtain⟨p,k,q,A,rfl,-,E,b4⟩:=Ai (b 4 c4 rfl 8 67 (by kernel_rfl));exact⟨a,w,(⟨F,G,m,P,H,k,A⟩,⟨C,r,p,q⟩),l,rfl,D,E,d,f,b2,b4⟩)
 exact⟨oa,n,cap,g,rfl,u,s,t⟩
theorem Ep {v:Value} (h:vq enc prog W 0 (fun _=>true) true K 53 v):∃(oa:Option Addr) (n cap:Nat) (g:Nat→Pt),v= .slice oa n cap∧n≤K∧bs W (.slice oa n cap) n 2 (fun i=>#[(g i).1,(g i).2])∧∀i,i<n→True:=by
 obtain⟨oa,n,cap,rfl,p,q,l,o⟩:=fX (sz:=2) (e:=43) (by kernel_rfl) (by kernel_rfl) h;obtain⟨g,j,k⟩:=jc (α:=Pt) (0,0) (fun y=>#[y.1,y.2]) (fun y=>True) p q (sz:=2) (by decide) (fun i d=>by
  obtain⟨a,m,cs,b,c,f⟩:=o i d
  match cs,b with
  | [c0,c1],_=>
   obtain⟨r,rfl⟩:=dV underlying3 (f 0 c0 rfl 8 3 (by kernel_rfl));obtain⟨s,rfl⟩:=dV underlying3 (f 1 c1 rfl 8 3 (by kernel_rfl));exact⟨a,m,(r,s),c,rfl,trivial⟩)
 exact⟨oa,n,cap,g,rfl,l,j,k⟩
theorem Er {v:Value} {oa:Option Addr} {n cap:Nat} {g:Nat→Pt} (h:bs W v n 2 (fun i=>#[(g i).1,(g i).2])):bO W v n g:=by
 obtain⟨oa,c,e,l,m,o⟩:=h;refine⟨oa,c,e,l,m,fun hn=> ?_⟩;obtain⟨b,a,d,f,k⟩:=o hn;refine⟨b,a,d,f,fun i j p q=>(k i j p q).trans ?_⟩;rcases(by omega:j=0∨j=1)with rfl|rfl<;>rfl
theorem Es {v:Value} (h:vq enc prog W 0 (fun _=>true) true K 54 v):∃(oa:Option Addr) (n cap:Nat) (g:Nat→Option Addr×Nat×Nat×(Nat→Pt)),v= .slice oa n cap∧n≤K∧bs W (.slice oa n cap) n 1 (fun i=>#[.slice (g i).1 (g i).2.1 (g i).2.2.1])∧∀i,i<n→(bO W (.slice (g i).1 (g i).2.1 (g i).2.2.1) (g i).2.1 (g i).2.2.2∧(g i).2.1≤K):=by
 obtain⟨oa,n,cap,rfl,r,s,l,q⟩:=fX (sz:=1) (e:=53) (by kernel_rfl) (by kernel_rfl) h;obtain⟨g,j,k⟩:=jc (α:=Option Addr×Nat×Nat×(Nat→Pt)) (none,0,0,fun _=>(0,0)) (fun y=>#[.slice y.1 y.2.1 y.2.2.1]) (fun y=>bO W (.slice y.1 y.2.1 y.2.2.1) y.2.1 y.2.2.2∧y.2.1≤K) r s (sz:=1) (by decide) (fun i d=>by
  obtain⟨a,o,cs,b,c,p⟩:=q i d
  match cs,b with
  | [c0],_=>
   obtain⟨o',m,c',P,rfl,f,t,-⟩:=Ep (p 0 c0 rfl 8 53 (by kernel_rfl));exact⟨a,o,(o',m,c',P),c,rfl,Er (oa:=none) (cap:=0) t,f⟩)
 exact⟨oa,n,cap,g,rfl,l,j,k⟩
theorem Et {oa:Option Addr} {n cap:Nat} {g:Nat→Option Addr×Nat×Nat×(Nat→Pt)} (h:bs W (.slice oa n cap) n 1 (fun i=>#[.slice (g i).1 (g i).2.1 (g i).2.2.1])) (r:∀i,i<n→bO W (.slice (g i).1 (g i).2.1 (g i).2.2.1) (g i).2.1 (g i).2.2.2):
 en W (.slice oa n cap) n (fun i=>(g i).1) (fun i=>(g i).2.2.1) (fun i=>(g i).2.1) (fun i=>(g i).2.2.2):=by
 refine⟨?_,r⟩;obtain⟨oa,c,e,l,m,o⟩:=h;refine⟨oa,c,e,l,m,fun hn=> ?_⟩;obtain⟨b,a,d,f,k⟩:=o hn;refine⟨b,a,d,f,fun i j p q=>(k i j p q).trans ?_⟩;obtain rfl:j=0:=by omega
 rfl
theorem Eu {v:Value} (h:vq enc prog W 0 (fun _=>true) true K 23 v):∃(oa:Option Addr) (n cap:Nat) (g:Nat→bX×cN),v= .slice oa n cap∧n≤K∧bs W (.slice oa n cap) n 18 (fun i=>aH (g i).1 (g i).2)∧∀i,i<n→(dj W (g i).1 (g i).2∧(g i).1.id.size≤K∧(g i).1.nd.size≤K∧(g i).1.no≤K∧(g i).1.nh≤K∧∀k,k<(g i).1.nh→(g i).1.hn k≤K):=by
 obtain⟨oa,n,cap,rfl,H,I,F,c⟩:=fX (sz:=18) (e:=62) (by kernel_rfl) (by kernel_rfl) h;obtain⟨g,D,E⟩:=jc (α:=bX×cN) (jE,je) (fun y=>aH y.1 y.2) (fun y=>(dj W y.1 y.2∧y.1.id.size≤K∧y.1.nd.size≤K∧y.1.no≤K∧y.1.nh≤K∧∀k,k<y.1.nh→y.1.hn k≤K)) H I (sz:=18) (by decide) (fun i m=>by
  obtain⟨a,G,cs,d,l,b⟩:=c i m
  match cs,d with
  | [c0,c1,c2,c3,c4,c5,c6,c7,c8,c9,c10,c11,c12,c13,c14,c15,c16,c17],_=>
   obtain⟨J,rfl,f⟩:=dQ underlying9 (b 0 c0 rfl 8 9 (by kernel_rfl));obtain⟨rv,rfl⟩:=dV underlying3 (b 1 c1 rfl 8 3 (by kernel_rfl));obtain⟨L,rfl⟩:=dV underlying3 (b 2 c2 rfl 8 3 (by kernel_rfl));obtain⟨Q,rfl,j⟩:=dQ underlying9 (b 3 c3 rfl 8 9 (by kernel_rfl));obtain⟨g,rfl,-⟩:=dQ underlying9 (b 4 c4 rfl 8 9 (by kernel_rfl));obtain⟨Z,rfl⟩:=dV underlying3 (b 5 c5 rfl 8 3 (by kernel_rfl));obtain⟨s,rfl,-⟩:=dQ underlying9 (b 8 c8 rfl 8 9 (by kernel_rfl));obtain⟨N,rfl⟩:=dV underlying3 (b 9 c9 rfl 8 3 (by kernel_rfl));obtain⟨O,rfl⟩:=dV underlying3 (b 10 c10 rfl 8 3 (by kernel_rfl));obtain⟨A,rfl⟩:=dV underlying3 (b 11 c11 rfl 8 3 (by kernel_rfl));obtain⟨B,rfl⟩:=dV underlying3 (b 12 c12 rfl 8 3 (by kernel_rfl));obtain⟨C,rfl⟩:=dV underlying3 (b 13 c13 rfl 8 3 (by kernel_rfl));obtain⟨r,rfl⟩:=dV underlying3 (b 14 c14 rfl 8 3 (by kernel_rfl));obtain⟨u,rfl⟩:=dV underlying3 (b 15 c15 rfl 8 3 (by kernel_rfl));obtain⟨w,rfl⟩:=dV underlying3 (b 16 c16 rfl 8 3 (by kernel_rfl));obtain⟨t,rfl⟩:=dV underlying3 (b 17 c17 rfl 8 3 (by kernel_rfl));obtain⟨T,R,x,P,rfl,p,X,-⟩:=Ep (b 6 c6 rfl 8 53 (by kernel_rfl));obtain⟨U,nh,z,q,rfl,o,Y,b7⟩:=Es (b 7 c7 rfl 8 54 (by kernel_rfl));exact⟨a,G,(⟨J,rv,L,Q,g,Z,R,P,nh,fun i=>(q i).2.1,fun i=>(q i).2.2.2,s,N,O,A,B,C,r,u,w,t⟩,⟨T,x,U,z,fun i=>(q i).1,fun i=>(q i).2.2.1⟩),l,rfl,⟨Er (oa:=none) (cap:=0) X,Et Y (fun i c=>(b7 i c).1)⟩,f,j,p,o,fun i c=>(b7 i c).2⟩)
 exact⟨oa,n,cap,g,rfl,F,D,E⟩
theorem Gf {v:Value} (h:vq enc prog W 0 (fun _=>true) true K 33 v):∃(oa:Option Addr) (n cap:Nat) (g:Nat→V),v= .slice oa n cap∧n≤K∧bs W (.slice oa n cap) n 3 (fun i=>vC (g i))∧∀i,i<n→True:=by
 obtain⟨oa,n,cap,rfl,p,q,l,o⟩:=fX (sz:=3) (e:=58) (by kernel_rfl) (by kernel_rfl) h;obtain⟨g,j,k⟩:=jc (α:=V) (0,0,0) (fun y=>vC y) (fun y=>True) p q (sz:=3) (by decide) (fun i f=>by
  obtain⟨a,m,cs,b,c,d⟩:=o i f
  match cs,b with
  | [c0,c1,c2],_=>
   obtain⟨r,rfl⟩:=dV underlying3 (d 0 c0 rfl 8 3 (by kernel_rfl));obtain⟨s,rfl⟩:=dV underlying3 (d 1 c1 rfl 8 3 (by kernel_rfl));obtain⟨t,rfl⟩:=dV underlying3 (d 2 c2 rfl 8 3 (by kernel_rfl));exact⟨a,m,(r,s,t),c,rfl,trivial⟩)
 exact⟨oa,n,cap,g,rfl,l,j,k⟩
theorem Gg {v:Value} (h:vq enc prog W 0 (fun _=>true) true K 109 v):∃(oa:Option Addr) (n cap:Nat) (g:Nat→Int),v= .slice oa n cap∧n≤K∧bs W (.slice oa n cap) n 1 (fun i=>#[(g i)])∧∀i,i<n→True:=by
 obtain⟨oa,n,cap,rfl,p,q,k,o⟩:=fX (sz:=1) (e:=3) (by kernel_rfl) (by kernel_rfl) h;obtain⟨g,f,j⟩:=jc (α:=Int) 0 (fun y=>#[y]) (fun y=>True) p q (sz:=1) (by decide) (fun i d=>by
  obtain⟨a,l,cs,b,c,m⟩:=o i d
  match cs,b with
  | [c0],_=>
   obtain⟨r,rfl⟩:=dV underlying3 (m 0 c0 rfl 8 3 (by kernel_rfl));exact⟨a,l,r,c,rfl,trivial⟩)
 exact⟨oa,n,cap,g,rfl,k,f,j⟩
theorem Gh {v:Value} {n:Nat} {g:Nat→Int} (h:bs W v n 1 (fun i=>#[(g i)])):ew W v n g:=by
 obtain⟨oa,c,e,l,m,o⟩:=h;refine⟨oa,c,e,l,m,fun hn=> ?_⟩;obtain⟨b,a,d,f,k⟩:=o hn;refine⟨b,a,d,f,fun i j p q=>(k i j p q).trans ?_⟩;obtain rfl:j=0:=by omega
 rfl
theorem Cd {v:Value} (h:vq enc prog W 0 (fun _=>true) true K 29 v):∃(oa:Option Addr) (n cap:Nat) (g:Nat→ByteArray×Int×Int×Value×Nat×(Nat→Int)),v= .slice oa n cap∧n≤K∧bs W (.slice oa n cap) n 4 (fun i=>#[.string (g i).1,(g i).2.1,(g i).2.2.1,(g i).2.2.2.1])∧∀i,i<n→((g i).1.size≤K∧ew W (g i).2.2.2.1 (g i).2.2.2.2.1 (g i).2.2.2.2.2∧(g i).2.2.2.2.1≤K):=by
 obtain⟨oa,n,cap,rfl,u,w,r,t⟩:=fX (sz:=4) (e:=135) (by kernel_rfl) (by kernel_rfl) h;obtain⟨g,p,q⟩:=jc (α:=ByteArray×Int×Int×Value×Nat×(Nat→Int)) (⟨#[]⟩,0,0,.slice none 0 0,0,fun _=>0) (fun y=>#[.string y.1,y.2.1,y.2.2.1,y.2.2.2.1]) (fun y=>(y.1.size≤K∧ew W y.2.2.2.1 y.2.2.2.2.1 y.2.2.2.2.2∧y.2.2.2.2.1≤K)) u w (sz:=4) (by decide) (fun i k=>by
  obtain⟨a,s,cs,b,j,c⟩:=t i k
  match cs,b with
  | [c0,c1,c2,c3],_=>
   obtain⟨A,rfl,d⟩:=dQ underlying9 (c 0 c0 rfl 8 9 (by kernel_rfl));obtain⟨B,rfl⟩:=dV underlying3 (c 1 c1 rfl 8 3 (by kernel_rfl));obtain⟨C,rfl⟩:=dV underlying3 (c 2 c2 rfl 8 3 (by kernel_rfl));obtain⟨x,m,o,f,rfl,l,z,-⟩:=Gg (c 3 c3 rfl 8 109 (by kernel_rfl));exact⟨a,s,(A,B,C,.slice x m o,m,f),j,rfl,d,Gh z,l⟩)
 exact⟨oa,n,cap,g,rfl,r,p,q⟩
theorem xh {v:Value} (h:vq enc prog W 0 (fun _=>true) true K 30 v):∃(oa:Option Addr) (n cap:Nat) (g:Nat→ByteArray×Int×Int×Int),v= .slice oa n cap∧n≤K∧bs W (.slice oa n cap) n 4 (fun i=>#[.string (g i).1,(g i).2.1,(g i).2.2.1,(g i).2.2.2])∧∀i,i<n→(g i).1.size≤K:=by
 obtain⟨oa,n,cap,rfl,q,r,m,p⟩:=fX (sz:=4) (e:=86) (by kernel_rfl) (by kernel_rfl) h;obtain⟨g,k,l⟩:=jc (α:=ByteArray×Int×Int×Int) (⟨#[]⟩,0,0,0) (fun y=>#[.string y.1,y.2.1,y.2.2.1,y.2.2.2]) (fun y=>y.1.size≤K) q r (sz:=4) (by decide) (fun i j=>by
  obtain⟨a,o,cs,b,f,c⟩:=p i j
  match cs,b with
  | [c0,c1,c2,c3],_=>
   obtain⟨s,rfl,d⟩:=dQ underlying9 (c 0 c0 rfl 8 9 (by kernel_rfl));obtain⟨t,rfl⟩:=dV underlying3 (c 1 c1 rfl 8 3 (by kernel_rfl));obtain⟨u,rfl⟩:=dV underlying3 (c 2 c2 rfl 8 3 (by kernel_rfl));obtain⟨w,rfl⟩:=dV underlying3 (c 3 c3 rfl 8 3 (by kernel_rfl));exact⟨a,o,(s,t,u,w),f,rfl,d⟩)
 exact⟨oa,n,cap,g,rfl,m,k,l⟩
theorem Hm {base:Nat} {r:Reach} {v:Value} {d:DataW H} {ps:List MemPlace} (F:Value.okWide prog W r base 32 v) (h:DataW.Trod enc prog W 0 (fun _=>true) true 32 v d ps) (D:Rows.uptoBulk d≤1048576):
 ∃(m:fZ) (z:Nat→Value),fE W v m z∧(∀i,i<m.ng→(m.nm i).size≤1048576)∧∀i,i<m.ns→(m.sn i).size≤1048576:=by
 obtain⟨cs,rfl,E,x⟩:=pK (fs:=prog.fieldsOf 32) (k:=2) (by kernel_rfl) (by kernel_rfl) F h D
 match cs,E with
 | [c0,c1],_=>
  obtain⟨N,G,J,g,rfl,K,A,p⟩:=Cd (x 0 c0 rfl 8 29 (by kernel_rfl));obtain⟨O,I,y,q,rfl,L,B,C⟩:=xh (x 1 c1 rfl 8 30 (by kernel_rfl));refine⟨⟨G,fun i=>(g i).1,fun i=>(g i).2.1,fun i=>(g i).2.2.1,fun i=>(g i).2.2.2.2.1,fun i=>(g i).2.2.2.2.2,I,fun i=>(q i).1,fun i=>(q i).2.1,fun i=>(q i).2.2.1,fun i=>(q i).2.2.2⟩,fun i=>(g i).2.2.2.1,⟨_,_,rfl,⟨?_,fun i a=>(p i a).2.1⟩,?_,by dsimp only;omega,by dsimp only;omega,fun i a=>by have:=(p i a).2.2;dsimp only;omega⟩,fun i a=>(p i a).1,C⟩
  ·obtain⟨oa,c,e,t,u,w⟩:=A;refine⟨oa,c,e,t,u,fun hn=> ?_⟩;obtain⟨b,f,l,n,o⟩:=w hn;refine⟨b,f,l,n,fun i j a s=>(o i j a s).trans ?_⟩;rcases(by omega:j=0∨j=1∨j=2∨j=3)with rfl|rfl|rfl|rfl<;>rfl
  ·obtain⟨oa,c,e,t,u,w⟩:=B;refine⟨oa,c,e,t,u,fun hn=> ?_⟩;obtain⟨b,f,l,n,o⟩:=w hn;refine⟨b,f,l,n,fun i j a s=>(o i j a s).trans ?_⟩;rcases(by omega:j=0∨j=1∨j=2∨j=3)with rfl|rfl|rfl|rfl<;>rfl
theorem Ev {base:Nat} {r:Reach} {v:Value} {d:DataW H} {ps:List MemPlace} (e:Value.okWide prog W r base 35 v) (h:DataW.Trod enc prog W 0 (fun _=>true) true 35 v d ps):
 ∃(oa:Option Addr) (n cap:Nat) (K:Nat→V) (sz:Int),v= .agg #[.slice oa n cap,sz]∧gL W (.slice oa n cap) n K:=by
 obtain⟨cs,rfl,c,a⟩:=pK (fs:=prog.fieldsOf 35) (k:=2) (by kernel_rfl) (by kernel_rfl) e h (aB _)
 match cs,c with
 | [c0,c1],_=>
  obtain⟨oa,n,cap,K,rfl,-,b,-⟩:=Gf (a 0 c0 rfl 8 33 (by kernel_rfl));obtain⟨z,rfl⟩:=dV underlying3 (a 1 c1 rfl 8 3 (by kernel_rfl));exact⟨oa,n,cap,K,z,rfl,b⟩
structure GM (X:bK):Prop where
 h:X.hull.size≤1048576
 n:∀i,i<X.nn→(X.N i).id.size≤1048576∧(X.N i).up.size≤1048576
 p:∀i,i<X.np→(X.D i).id.size≤1048576∧(X.D i).nd.size≤1048576
 s:∀i,i<X.ns→(X.Q i).id.size≤1048576∧(X.Q i).a.size≤1048576∧(X.Q i).b.size≤1048576
 k:∀i,i<X.nk→(X.K i).id.size≤1048576∧(X.K i).bl.size≤1048576∧(∀j,j<(X.K i).m→((X.K i).P j).size≤1048576)∧(∀j,j<(X.K i).k→((X.K i).A j).size≤1048576)
 d:∀i,i<X.nd→(X.R i).bl.size≤1048576∧(X.R i).on.size≤1048576
theorem Ce {base:Nat} {r:Reach} {v:Value} {d:DataW H} {ps:List MemPlace} (t:Value.okWide prog W r base 28 v) (h:DataW.Trod enc prog W 0 (fun _=>true) true 28 v d ps) (p:Rows.uptoBulk d≤1048576):
 ∃(X:bK) (S:dq),v= .agg (bH X S)∧cJ W X S∧qZ W X S∧GM X:=by
 obtain⟨cs,rfl,q,b⟩:=pK (fs:=prog.fieldsOf 28) (k:=6) (by kernel_rfl) (by kernel_rfl) t h p
 match cs,q with
 | [c0,c1,c2,c3,c4,c5],_=>
  obtain⟨s,rfl,g⟩:=dQ underlying9 (b 0 c0 rfl 8 9 (by kernel_rfl));obtain⟨I,A,cn,N,rfl,-,w,x⟩:=Ek (b 1 c1 rfl 8 22 (by kernel_rfl));obtain⟨J,B,m,D,rfl,-,L,f⟩:=Eu (b 2 c2 rfl 8 23 (by kernel_rfl));obtain⟨K,C,c,Q,rfl,-,O,P⟩:=Em (b 3 c3 rfl 8 24 (by kernel_rfl));obtain⟨F,z,l,G,rfl,-,u,e⟩:=Eo (b 4 c4 rfl 8 25 (by kernel_rfl));obtain⟨E,y,j,R,rfl,-,n,o⟩:=En (b 5 c5 rfl 8 26 (by kernel_rfl));exact⟨⟨s,A,N,B,fun i=>(D i).1,C,Q,z,fun i=>(G i).1,y,R⟩,⟨I,cn,J,m,fun i=>(D i).2,K,c,F,l,fun i=>(G i).2,E,j⟩,rfl,⟨w,L,O,u,n,fun i a=>(e i a).1,fun i a=>(e i a).2.1⟩,fun i a=>(f i a).1,⟨g,x,fun i a=>⟨(f i a).2.1,(f i a).2.2.1⟩,P,fun i a=>(e i a).2.2,o⟩⟩
end
section
variable {P:Program} {w:World}
theorem me {ops:Array Oper} {k:List Oper} {o:Oper} {a:Act} {Q:Exit→Act→World→Prop} (C:o.guard=none) (s x:Operand) (t:TypeId)
 (R:o.op= .call {callee:= .builtin .append,args:=#[s,x],argTypes:=#[t,t]})
 (base:Nat) (e:TypeId) (i:TypeInfo) (z:Value) (size f:Nat) (U:P.underlying t=some (.slice e)) (L:P.info? e=some i) (X:i.zero=some z)
 (q:i.size=size) (B:i.bytes=f) (E:z.cells.size=size) (D:0<size)
 (v:Value) (n:Nat) (F:List Value) (T:a.eval s=v) (r:w.ownsRow base e size v n F)
 (oa:Option Addr) (m c:Nat) (d:List Value) (W:a.eval x= .slice oa m c) (O:d.length=m*size) (H:oa=none→m=0) (p:∀G,oa=some G→∀j u,d[j]?=some u→w.cell? (G.add j)=some u) (I:∀u∈d,u.oneCell'=true)
 (A:n+m≤maxLen) (g:(n+m)*f≤140737488355328) (l:base≤w.heap.size)
 (h:∀y w',w'.ownsRow base e size y (n+m) (F++d)→w.grownBy w' v.ownBlock→(∀b,y.ownBlock=some b→w.heap.size≤b∨v.ownBlock=some b)→wpList P ops Q k (a.put o.dst y) w'):wpList P ops Q (o::k) a w:=by
 refine wpList_plain C fun K J=> ?_;obtain⟨y,w',Y,Z,r3,r4⟩:=lp w base t o.type e i z size f U L X q B E D v n F r oa m c d O H p I A g l;have N:=h y w' Z r3 r4;unfold Oper.wp;simp[execOp,R,resolve,invoke,builtin,T,W,Y,Result.andThen];exact J _ _ N
end
def yV (l:List (ByteArray×Pt)) (id:ByteArray) (k:Nat):List Pt:=((l.take k).filter (fun x=>decide (x.1=id))).map (fun x=>x.2)
theorem xi {l:List (ByteArray×Pt)} {k:Nat} (a:k<l.length):l.take (k+1)=l.take k++ [l.getD k lr]:=by
 rw[List.take_add_one,aO,aS a];rfl
theorem Gi {l:List (ByteArray×Pt)} {a:ByteArray} {k:Nat} (b:k<l.length) (h:(l.getD k lr).1=a):yV l a (k+1)=yV l a k++ [(l.getD k lr).2]:=by
 unfold yV;rw[xi b,List.filter_append,List.map_append,List.filter_cons,if_pos (decide_eq_true h)];rfl
theorem Ew {l:List (ByteArray×Pt)} {a:ByteArray} {k:Nat} (b:k<l.length) (h:(l.getD k lr).1≠a):yV l a (k+1)=yV l a k:=by
 unfold yV;rw[xi b,List.filter_append,List.map_append,List.filter_cons,if_neg (by rw[decide_eq_false h];decide)];simp
theorem Gj (l:List (ByteArray×Pt)) (a:ByteArray) (k:Nat):(yV l a k).length≤l.length:=by
 unfold yV;rw[List.length_map];refine bW (List.length_filter_le _ _) ?_;rw[List.length_take];omega
theorem Gk (l:List (ByteArray×Pt)) (a:ByteArray):yV l a l.length=(l.filter (fun x=>decide (x.1=a))).map (fun x=>x.2):=by
 unfold yV;rw[List.take_length]
def pL (D:bX) (sz:Int) (q:List Pt):bX:={D with nh:=D.nh+q.length,hn:=eX D.nh D.hn,H:=iu D.nh D.H sz q}
structure gp (w:World) (B:Nat) (D:bX) (S0:cN) (q:List Pt) (sz:Int) (T:cN):Prop where
 o:T.oo=S0.oo∧T.co=S0.co
 r:w.ownsRow B 53 1 (.slice T.oq (D.nh+q.length) T.cq) (D.nh+q.length) (eG (fun a _=> .slice (T.oh a) (eX D.nh D.hn a) (T.ch a)) 1 (D.nh+q.length))
 a:∀a,a<D.nh→T.oh a=S0.oh a∧T.ch a=S0.ch a
 b:∀a,a<q.length→w.ownsRow B 43 2 (.slice (T.oh (D.nh+a)) 4 (T.ch (D.nh+a))) 4 (eG (fun i j=>qb (mV (q.getD a (0,0)) (sz/2+1) i) j) 2 4)
theorem gp.keep {w w':World} {B:Nat} {D:bX} {b T:cN} {q:List Pt} {sz:Int} (h:gp w B D b q sz T) (c:Below w.heap.size w w'):gp w' B D b q sz T:=⟨h.o,bD h.r c,h.a,fun a d=>bD (h.b a d) c⟩
theorem gp.weak {w:World} {B B':Nat} {D:bX} {b T:cN} {q:List Pt} {sz:Int} (h:gp w B D b q sz T) (c:B'≤B):gp w B' D b q sz T:=⟨h.o,cA h.r c,h.a,fun a d=>cA (h.b a d) c⟩
theorem ll {w w':World} {B B':Nat} {t c:TypeId} {k s n u:Nat} {v d:Value} {f b:List Value} (h:w.ownsRow B t k v n f) (m:w.ownsRow B' c s d u b) (r:t≠c) (q:w.grownBy w' d.ownBlock):w'.ownsRow B t k v n f:=
 cZ h fun g a=>q.block g (eh h a).2 fun e=>by
  obtain⟨-,⟨o,-⟩|⟨l,cap,i,j,-,p,-⟩⟩:=m
  ·rw[o]at e;cases e
  ·rw[j]at e;have:g=l:=by simpa [Value.ownBlock]using e
   subst this;exact jj h p r a
theorem gp.grown {w w':World} {B B':Nat} {D:bX} {d T:cN} {q:List Pt} {sz:Int} {b:TypeId} {l m:Nat} {g:Value} {c:List Value} (h:gp w B D d q sz T) (e:w.ownsRow B' b l g m c) (i:43≠b) (j:53≠b) (f:w.grownBy w' g.ownBlock):gp w' B D d q sz T:=
 ⟨h.o,ll h.r e j f,h.a,fun a k=>ll (h.b a k) e i f⟩
theorem gp.part {w':World} {B:Nat} {D:bX} {d T:cN} {q:List Pt} {sz:Int} (h:gp w' B D d q sz T) (f:dj w' D d):dj w' (pL D sz q) T:=by
 refine⟨?_,⟨lZ h.r (by decide),fun i g=> ?_⟩⟩
 ·have:=f.1;rw[←h.o.1,←h.o.2]at this;exact this
 ·show bO w' (.slice (T.oh i) (eX D.nh D.hn i) (T.ch i)) (eX D.nh D.hn i) (iu D.nh D.H sz q i);by_cases c:i<D.nh
  ·have a:eX D.nh D.hn i=D.hn i:=if_pos c;have b:iu D.nh D.H sz q i=D.H i:=if_pos c;rw[a,b,(h.a i c).1,(h.a i c).2];exact f.2.2 i c
  ·have a:eX D.nh D.hn i=4:=if_neg c;have b:iu D.nh D.H sz q i=mV (q.getD (i-D.nh) (0,0)) (sz/2+1):=if_neg c;have j:i<D.nh+q.length:=g;have e:=lZ (h.b (i-D.nh) (by omega)) (by decide);rw[a,b];rw[show D.nh+(i-D.nh)=i by omega]at e;exact e
theorem gp.push {w':World} {B:Nat} {D:bX} {b T:cN} {q:List Pt} {sz:Int} {p:Pt} {o4 o':Option Addr} {c4 c' n:Nat} (hn:D.nh+q.length=n) (k:T.oo=b.oo∧T.co=b.co) (l:∀a,a<D.nh→T.oh a=b.oh a∧T.ch a=b.ch a) (m:∀a,a<q.length→w'.ownsRow B 43 2 (.slice (T.oh (D.nh+a)) 4 (T.ch (D.nh+a))) 4 (eG (fun i j=>qb (mV (q.getD a (0,0)) (sz/2+1) i) j) 2 4))
 (s:w'.ownsRow B 53 1 (.slice o' (n+1) c') (n+1) (eG (fun a _=> .slice (T.oh a) (eX D.nh D.hn a) (T.ch a)) 1 n++ [.slice o4 4 c4]))
 (o:w'.ownsRow B 43 2 (.slice o4 4 c4) 4 (eG (fun i j=>qb (mV p (sz/2+1) i) j) 2 4)):gp w' B D b (q++ [p]) sz {T with oq:=o',cq:=c',oh:=iX T.oh n o4,ch:=iX T.ch n c4}:=by
 subst hn;have r:(q++ [p]).length=q.length+1:=by simp
 refine⟨k,?_,fun a e=> ?_,fun a e=> ?_⟩
 ·rw[r];have f:eG (fun a _=>Value.slice (iX T.oh (D.nh+q.length) o4 a) (eX D.nh D.hn a) (iX T.ch (D.nh+q.length) c4 a)) 1 (D.nh+(q.length+1))=eG (fun a _=> .slice (T.oh a) (eX D.nh D.hn a) (T.ch a)) 1 (D.nh+q.length)++ [.slice o4 4 c4]:=by
   rw[show D.nh+(q.length+1)=D.nh+q.length+1 by omega,eG];rw[iK (g:=fun a _=>Value.slice (T.oh a) (eX D.nh D.hn a) (T.ch a)) (fun i j t u=>by rw[dy _ _ (by omega),dy _ _ (by omega)])];have h:eX D.nh D.hn (D.nh+q.length)=4:=if_neg (by omega);simp[dr,h]
  show w'.ownsRow B 53 1 _ _ (eG (fun a _=>Value.slice (iX T.oh (D.nh+q.length) o4 a) (eX D.nh D.hn a) (iX T.ch (D.nh+q.length) c4 a)) 1 (D.nh+(q.length+1)));rw[f];exact s
 ·dsimp only;rw[dy _ _ (by omega),dy _ _ (by omega)];exact l a e
 ·dsimp only;by_cases c:a=q.length
  ·subst c;rw[dr,dr,aO,cD (aB _),Nat.sub_self];exact o
  ·have d:a<q.length:=by omega
   rw[dy _ _ (by omega),dy _ _ (by omega),aO,cV d,←aO];exact m a d
theorem yW {D:bX} {T:cN} {q:List Pt} {sz:Int} {p:Pt} {o4 o':Option Addr} {c4 c' n:Nat} (hn:D.nh+q.length=n):(aH (pL D sz q) T).setIfInBounds 7 (.slice o' (n+1) c')=aH (pL D sz (q++ [p])) {T with oq:=o',cq:=c',oh:=iX T.oh n o4,ch:=iX T.ch n c4}:=by
 subst hn;simp only[aH,pL,aZ];rfl
theorem gp.zero {w:World} {B:Nat} {D:bX} {b:cN} {sz:Int} {o':Option Addr} {c':Nat} (e:w.ownsRow B 53 1 (.slice o' D.nh c') D.nh (eG (fun a _=> .slice (b.oh a) (D.hn a) (b.ch a)) 1 D.nh)):gp w B D b [] sz {b with oq:=o',cq:=c'}:=by
 refine⟨⟨rfl,rfl⟩,?_,fun a c=>⟨rfl,rfl⟩,fun a c=>absurd c (by simp)⟩;show w.ownsRow B 53 1 (.slice o' D.nh c') D.nh (eG (fun a _=> .slice (b.oh a) (eX D.nh D.hn a) (b.ch a)) 1 D.nh);rw[iK (g:=fun a _=>Value.slice (b.oh a) (D.hn a) (b.ch a)) (fun i j d f=>by rw[show eX D.nh D.hn i=D.hn i from if_pos d])];exact e
def sV (X:bK) (M:Nat→List Pt) (sz:Int) (i k:Nat):bX:={pL (X.D ((fI M i).getD k 0)) sz (M ((fI M i).getD k 0))with rv:=0}
theorem sW {M:Nat→List Pt} {i:Nat} (h:M i= []):fI M (i+1)=fI M i:=by
 rw[fI,if_pos h,List.append_nil]
theorem sX {M:Nat→List Pt} {i:Nat} (h:M i≠ []):fI M (i+1)=fI M i++ [i]:=by
 rw[fI,if_neg h]
theorem Aj {M:Nat→List Pt} {i k:Nat} (h:M i≠ []) (a:k<(fI M i).length):(fI M (i+1)).getD k 0=(fI M i).getD k 0:=by rw[sX h,FP a]
theorem xj {M:Nat→List Pt} {i:Nat} (h:M i≠ []):(fI M (i+1)).getD (fI M i).length 0=i:=by rw[sX h,Ij (aB _),Nat.sub_self];rfl
def xk (X:bK) (M:Nat→List Pt) (sz:Int) (w:World) (e:Ending) (w':World):Prop:=∃(s:ByteArray) (oe:Option Addr) (n c:Nat) (b:Bool),e= .returned (.tuple #[.agg #[.string s,.slice oe n c],.bool b])∧Below w.heap.size w w'∧
 (b=true→s=⟨#[79,80,49]⟩∧n=(fI M X.np).length∧0<n∧rY X M sz∧∃ES:Nat→cN,bs w' (.slice oe n c) n 38 (fun k=>cX (sV X M sz X.np k) (ES k))∧∀k,k<n→dj w' (sV X M sz X.np k) (ES k))
end
end Go.Proofs.YtencnijahlkbaaaGreatDoor
