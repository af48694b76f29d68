/-
  Lemmas of this claim, joined. Conditions: as stated. By an AI agent.
-/
import Derived.Test.YtencnijahlkbaaaGreatDoorJ1
import Derived.Test.YtencnijahlkbaaaGreatDoorJ2
import Derived.Test.YtencnijahlkbaaaGreatDoorJ5
import Derived.Test.YtencnijahlkbaaaGreatDoorJ7
import Derived.Test.YtencnijahlkbaaaGreatDoorJ8
import Derived.Test.YtencnijahlkbaaaGreatDoorJ9
open Go.Act renaming put → aC
open Array renaming getElem?_eq_some_iff → av
open Go.RowKit.Below renaming refl → ah
open Bool renaming false_and → aI, true_and → aN, and_false → aL, false_or → aP, true_or → aW, or_false → aQ, eq_false_iff → cG
open Classical renaming byContradiction → aG
open Int renaming mul_nonneg → bE
open List renaming take_succ_cons → ac, take_zero → aj, drop_succ_cons → am, drop_zero → ax, setIfInBounds_toArray → aa, set_cons_zero → ae, set_cons_succ → af, mem_cons_self → bw, getElem?_eq_getElem → aS, getD_eq_getElem?_getD → aO, getElem?_append_left → cV, getElem?_append_right → cD, length_append → aZ, mem_cons → bj
open Nat renaming le_refl → aB, lt_of_lt_of_le → aM, le_trans → bW, reduceAdd → aE, reduceEqDiff → aA
open Go.Region renaming binds → ai, wanted → au
open Go.World renaming size_setCell → aT, size_alloc → aw
namespace Go.Proofs.YtencnijahlkbaaaGreatDoor
set_option maxHeartbeats 8000000
set_option maxRecDepth 100000
set_option linter.unusedVariables false
set_option linter.unusedSimpArgs false
open Go.Proofs.Tryz
section
open Go Go.ChangeShapes Go.WideShapes Go.RowKit Go.ChangeAt
theorem sM {f:Nat→Bool}:∀{n:Nat},fR f n=true↔∃i,i<n∧f i=true
 |0=>by simp[fR]
 |n+1=>by
  unfold fR;rw[Bool.or_eq_true,sM];constructor
  ·rintro (⟨i,a,h⟩|h)
   ·exact⟨i,by omega,h⟩
   ·exact⟨n,by omega,h⟩
  ·rintro ⟨i,a,h⟩;by_cases e:i=n
   ·exact .inr (by rw[←e];exact h)
   ·exact .inl ⟨i,by omega,h⟩
theorem DU (l:List Pt) (q:Pt):fR (fun i=>decide (l.getD i (0,0)=q)) l.length=decide (q∈l):=by
 cases e:decide (q∈l)with
 |true=>
  obtain⟨i,a,b⟩:=List.mem_iff_getElem.1 (of_decide_eq_true e);exact sM.2 ⟨i,a,decide_eq_true (by rw[aO,aS a];exact b)⟩
 |false=>
  rw[cG];intro h;obtain⟨i,a,b⟩:=sM.1 h;refine of_decide_eq_false e ?_;have:=of_decide_eq_true b;rw[←this,aO,aS a];exact List.getElem_mem a
theorem BH (D:bX) (S:cN) (v:Value) (n:Nat) (K:Nat→V) (sz:Int) (w:World) (h:gL w v n K) (hp:bO w (.slice S.oo D.no S.co) D.no D.P) (l7:eL (D.a1,D.a2,D.a3) D.t=true) (f3:Hi (D.kd=1→dT D.no D.P∧0<bP D.no D.P)) (t1:n≤8):
 Calls prog 20 #[.agg (aH D S),v,sz] w (mR D n K sz w):=by
 obtain⟨i0,hi,a8,a9,p0⟩:=info_parts jm;obtain⟨RR,h5⟩:=oE (decide (fS n K sz));obtain⟨TT,h6⟩:=oE (decide (D.kd=1));have n8:Hi (∀W,Below w.heap.size w W→Gv 56 #[v,sz] (.bool RR) W):=fun W d=>by rw[←h5];exact yD v n K sz W (h.below d)
 have o0:Hi (∀W,Below w.heap.size w W→Gv 55 #[.agg (aH D S)] (.bool TT) W):=fun W d=>by rw[←h6];exact yF D S W (hp.below d) l7 f3
 have g6:=ar h5;have d3:=ar h6;obtain⟨p1,i3⟩:=oE ((dD (D.a1,D.a2,D.a3) D.t).1.1);obtain⟨p2,i4⟩:=oE ((dD (D.a1,D.a2,D.a3) D.t).1.2.1);obtain⟨p3,i5⟩:=oE ((dD (D.a1,D.a2,D.a3) D.t).1.2.2);obtain⟨pk,i6⟩:=oE ((dD (D.a1,D.a2,D.a3) D.t).2);have f8:Hi (∀v,fT D v=ft (p1,p2,p3) pk v):=fun v=>by
  unfold fT;rw[←i3,←i4,←i5,←i6]
 have m8:Hi (∀W,Gv 57 #[.agg #[D.a1,D.a2,D.a3,D.t]] (.agg #[p1,p2,p3,pk]) W):=fun W=>by
  have:=uq D.a1 D.a2 D.a3 D.t W;rw[i3,i4,i5,i6]at this;exact this
 have HO:Hi (∀W,Gv 60 #[.agg (aH D S)] (.agg #[.slice S.oo D.no S.co,Nat]) W):=fun W=>uc D S W;obtain⟨oa,cap,rfl,-,Q,l3⟩:=h.form;have m7:=ar l3;have n6:=ar hp;have j9:Hi ((w.alloc (.cells (aH D S) 62)).heap[w.heap.size]?=some (.cells (aH D S) 62)):=bf _ _ _ rfl;clear h hp h5 h6 i3 i4 i5 i6 l7 l3;go_enter func20,ntmps20;go_wp2_with (first|(with_reducible refine bA 62 w.heap.size 18 (aH D S) 62 _ bF bv rfl rfl j9.o ?_)|fail)
 (go_at_call 55;refine mz (o0.o _ (by go_grown)) fun w1 a=> ?_);obtain⟨L,hL,h1⟩:=aF.ex (aF.step ((aF.nil (ah w.heap.size w)).alloc (w.heap.size) rfl _ _) a);have HL:=ar hL;have H1:=ar h1;clear hL h1 a j9;have d0:Hi (w1.heap[w.heap.size]?=some (.cells (aH D S) 62)):=aF.nth H1.o HL.o 0 rfl;obtain rfl|rfl:TT=false∨TT=true:=by cases TT<;>simp
 ·have g5:Hi (dJ D n K sz= []):=mQ (fun c=>of_decide_eq_false d3.o c.2);go_wp2;go_returns;refine⟨_,rfl,?_,H1.o.1⟩;rw[g5.o];exact World.ownsRow_nil _ _ _ _
 go_wp2_with fail
 (go_at_call 56;refine cy (n8.o _ H1.o.1) H1 fun w2 H2=> ?_);clear d0;have d0:Hi (w2.heap[w.heap.size]?=some (.cells (aH D S) 62)):=aF.nth H2.o HL.o 0 rfl;obtain⟨-,-,-,-,-,-,-,-,-,-,-,-,-,-,m1,m2,m3,p9⟩:=tb d0.o;have f6:=H2.o.len HL.o 0 rfl;obtain rfl|rfl:RR=false∨RR=true:=by cases RR<;>simp
 ·have g5:Hi (dJ D n K sz= []):=mQ (fun c=>of_decide_eq_false g6.o c.1);go_wp2;go_returns;refine⟨_,rfl,?_,H2.o.1⟩;rw[g5.o];exact World.ownsRow_nil _ _ _ _
 have a6:=(f3.o (of_decide_eq_true d3.o)).1.pol;have n5:=ar a6;have k1:Hi (dJ D n K sz=cU D K (n-1)):=sL (of_decide_eq_true g6.o) (of_decide_eq_true d3.o);have t0:2≤n:=(of_decide_eq_true g6.o:fS n K sz).1;have o1:Hi (∀W q1 q2,Below w.heap.size w W→Gv 59 #[.agg #[.slice S.oo D.no S.co,Nat],.agg #[.int .i64 q1,.int .i64 q2]] (.int .i64 (fd D.no D.P (q1,q2))) W):=fun W q1 q2 d=>oL _ D.no D.P q1 q2 W (n6.o.below d) (f3.o (of_decide_eq_true d3.o)).1 (f3.o (of_decide_eq_true d3.o)).2;clear a6;go_wp2_with fail
 (go_at_call 57;refine cy (m8.o _) H2 fun w3 H3=> ?_);clear m1 m2 m3 p9;clear d0 f6;obtain⟨O,k9⟩:=oE w3.heap.size;have i7:=ar k9;have t3:w.heap.size<O:=by have:=H3.o.len HL.o 0 rfl;omega
 have m9:Hi (∀x∈L,x.1<O):=fun x hx=>by
  have:=H3.o.lt hx;omega
 clear k9;go_wp2;rw[i7.o];obtain⟨L2,l0,h4⟩:=aF.ex (aF.alloc H3.o O i7.o #[p1,p2,p3,pk] 60);have A:=ar (l0.trans (congrArg _ HL.o));have H4:=ar h4;clear l0 h4;have i8:Hi (∀x∈L2,x.1<O+1):=fun x hx=>by
  rw[A.o]at hx;rcases bj.1 hx with rfl|hx
  ·exact Nat.lt_succ_self _
  ·rw[←HL.o]at hx;have:=m9.o x hx;omega
 go_loopw[9,7] (fun i v wr=>∃(j:Nat) (l:List Pt),1≤j∧j≤n∧i= .int .i64 (j:Int)∧Hi (cU D K (j-1)=l)∧Hi (wr.ownsRow (O+1) 45 4 v l.length (eo (vk D.id sz) l))∧aF w wr L2∧O<wr.heap.size) (fun i _ _=>n-(intOf i).toNat)
 case atStart=>exact⟨1,[],by omega,by omega,rfl,rfl,World.ownsRow_nil _ _ _ _,H4.o,H4.o.len A.o 0 rfl⟩
 case round=>
  clear H4;obtain⟨w4,rfl⟩:=wE wr;obtain⟨j,l,s8,hj,rfl,hl,HR,hO,t4⟩:=hrel;have H4:=ar hO;clear hO;obtain⟨ov,cv,o7⟩:=cj HR.o;subst o7;by_cases hlt:j<n
  ·obtain⟨k,f2⟩:∃k:Nat,k+1=j:=⟨j-1,by omega⟩;have a7:=ar f2;have i2:k<n:=by omega
   have d6:cU D K k=l:=by rw[show k=j-1 by omega];exact hl.o
   have n0:Hi (l.length≤8):=by
    show _≤_;rw[←d6];exact bW (mC k) (by omega)
   obtain⟨H,f0⟩:=oE ((fT D (K k)).1);obtain⟨I,f1⟩:=oE ((fT D (K k)).2.1);obtain⟨a3,h7⟩:=oE ((fT D (K k)).2.2);obtain⟨b1,a⟩:=oE ((fT D (K (k+1))).1);obtain⟨b2,h8⟩:=oE ((fT D (K (k+1))).2.1);obtain⟨b3,h9⟩:=oE ((fT D (K (k+1))).2.2);obtain⟨MN,h0⟩:=oE (mn a3 b3);obtain⟨MX,h3⟩:=oE (mx a3 b3);obtain⟨Z,hZ⟩:=oE (fd D.no D.P (H,I));have a6:=n5.o;have b5:Hi (jb D K k↔((H=b1∧I=b2∧¬0<MN∧¬MX<0)∧0≤Z∧(H,I)∉l)):=by
    show _↔_;unfold jb;rw[f0,f1,h7,a,h8,h9,←h0,←h3,uZ,vb,d6,←hZ,mP a6];constructor
    ·rintro ⟨⟨q1,q2,q3,q4⟩,q5⟩;exact⟨⟨q1,q2,by omega,by omega⟩,q5⟩
    ·rintro ⟨⟨q1,q2,q3,q4⟩,q5⟩;exact⟨⟨q1,q2,by omega,by omega⟩,q5⟩
   have m5:Hi (jb D K k→cU D K (k+1)=l++ [(H,I)]):=fun h=>by rw[sK h,d6,f0,f1]
   have b8:Hi (¬jb D K k→cU D K (k+1)=l):=fun h=>by rw[qA h,d6]
   have HA:Hi (∀W,Gv 58 #[.agg #[p1,p2,p3,pk],.agg #[(K k).1,(K k).2.1,(K k).2.2]] (.agg #[H,I,a3]) W):=fun W=>by
    have:=rl p1 p2 p3 pk (K k).1 (K k).2.1 (K k).2.2 W;rw[show(((K k).1,(K k).2.1,(K k).2.2):V)=K k from rfl,←f8.o,f0,f1,h7]at this;exact this
   have HB:Hi (∀W,Gv 58 #[.agg #[p1,p2,p3,pk],.agg #[(K j).1,(K j).2.1,(K j).2.2]] (.agg #[b1,b2,b3]) W):=fun W=>by
    have:=rl p1 p2 p3 pk (K j).1 (K j).2.1 (K j).2.2 W;rw[show(((K j).1,(K j).2.1,(K j).2.2):V)=K j from rfl,←f8.o,←f2,a,h8,h9]at this;rw[←f2];exact this
   have HW:Hi (∀W,Below w.heap.size w W→Gv 59 #[.agg #[.slice S.oo D.no S.co,Nat],.agg #[H,I]] (.int .i64 Z) W):=fun W d=>by rw[←hZ];exact o1.o W H I d
   have j0:=dS j;have j1:(j:Int)<(n:Int):=by omega
   have j2:=dS k;have j3:(k:Int)<(n:Int):=by omega
   have j4:IntKind.i64.wrap ((j:Int)-1)=(k:Int):=by rw[show(j:Int)-1=(k:Int)by omega];exact iw
   have j5:(j:Int)-1=(k:Int):=by omega
   have j6:IntKind.i64.wrap (k:Int)=(k:Int):=iw;obtain⟨bc,fc,rfl,b9,N⟩:=m7.o j hlt;have c0:w4.cell? (bc,fc+j*3)=some (.int .i64 (K j).1):=bI H4.o.1 b9 (N j hlt 0 _ rfl);have c1:w4.cell? (bc,fc+j*3+1)=some (.int .i64 (K j).2.1):=bI H4.o.1 b9 (N j hlt 1 _ rfl);have c2:w4.cell? (bc,fc+j*3+2)=some (.int .i64 (K j).2.2):=bI H4.o.1 b9 (N j hlt 2 _ rfl);have e0:w4.cell? (bc,fc+k*3)=some (.int .i64 (K k).1):=bI H4.o.1 b9 (N k i2 0 _ rfl);have e1:w4.cell? (bc,fc+k*3+1)=some (.int .i64 (K k).2.1):=bI H4.o.1 b9 (N k i2 1 _ rfl);have e2:w4.cell? (bc,fc+k*3+2)=some (.int .i64 (K k).2.2):=bI H4.o.1 b9 (N k i2 2 _ rfl);have s6:bc<w4.heap.size:=by have:=H4.o.1.size;omega
   obtain⟨u0,u1,u2,u3,-,-⟩:=bR (aF.nth H4.o A.o 0 rfl);have r1:=jX (x:=a3) (y:=b3);have r2:=jY (x:=a3) (y:=b3);rw[h3]at r1;rw[h0]at r2;clear h0 h3 f0 f1 h7 a h8 h9 a6 hZ d6 f2 N;go_wp2_with fail
   refine dd 17 [⟨13,15,#[(),(),()],58⟩,⟨14,16,#[(),(),()],58⟩] [] (by kernel_rfl) (by kernel_rfl) (by kernel_rfl) (by kernel_rfl) (by kernel_rfl) ?_ ?_ ?_
   ·intro r hr;cases hr
   ·intro r hr;cases hr
   simp only[ac,aj,aK,aC,aa,ae,af];iterate 6
    apply dE (by kernel_rfl)
    ·intro u t d p;replace d:=d.nil;have C:=dx d;have a8:O<t.heap.size:=by omega
     have a9:bc<t.heap.size:=by omega
     obtain⟨Q,U⟩:=br d;clear d C;simp[cL,ai,dK,bN,dm.is,dm.any]at p;go_simp
     first|exact⟨ah _ _,rfl⟩|rfl
   apply dE (by kernel_rfl)
   ·intro u t d p;replace d:=d.nil;have C:=dx d;have a8:O<t.heap.size:=by omega
    have a9:bc<t.heap.size:=by omega
    obtain⟨Q,U⟩:=br d;clear d C;simp[cL,ai,dK,bN,dm.is,dm.any]at p;go_simp
    first|rfl|(go_at_call 58;refine(HA.o _).mono ?_;rintro e w1 ⟨rfl,a⟩;first|exact⟨rfl,a⟩|exact⟨_,rfl,a,rfl⟩)
   iterate 5
    apply dE (by kernel_rfl)
    ·intro u t d p;replace d:=d.nil;have C:=dx d;have a8:O<t.heap.size:=by omega
     have a9:bc<t.heap.size:=by omega
     obtain⟨Q,U⟩:=br d;clear d C;simp[cL,ai,dK,bN,dm.is,dm.any]at p;go_simp
     first|exact⟨ah _ _,rfl⟩|rfl
   apply dE (by kernel_rfl)
   ·intro u t d p;replace d:=d.nil;have C:=dx d;have a8:O<t.heap.size:=by omega
    have a9:bc<t.heap.size:=by omega
    obtain⟨Q,U⟩:=br d;clear d C;simp[cL,ai,dK,bN,dm.is,dm.any]at p;go_simp
    first|rfl|(go_at_call 58;refine(HB.o _).mono ?_;rintro e w1 ⟨rfl,a⟩;first|exact⟨rfl,a⟩|exact⟨_,rfl,a,rfl⟩)
   refine dZ ⟨13,15,#[(),(),()],58⟩ (by simp) rfl ?_ ?_
   ·intro u t d;refine⟨by simp[au],?_⟩;go_simp
    first|done|rfl|exact⟨rfl,rfl⟩
   refine dZ ⟨14,16,#[(),(),()],58⟩ (by simp) rfl ?_ ?_
   ·intro u t d;refine⟨by simp[au],?_⟩;go_simp
    first|done|rfl|exact⟨rfl,rfl⟩
   apply cC ⟨13,15,#[(),(),()],58⟩ (by simp) rfl (by kernel_rfl) rfl (by kernel_rfl)
   ·intro u t d p;replace d:=d.nil;have C:=dx d;have a8:O<t.heap.size:=by omega
    have a9:bc<t.heap.size:=by omega
    obtain⟨Q,U⟩:=br d;clear d C;simp[cL,ai,dK,bN,dm.is,dm.any]at p;refine⟨by simp[au],fun b' d8 o6 F=> ?_⟩;have l6:u 13= .pointer (some b'):=d8;have m:t.heap[b']?=some (.cells #[(),(),()] 58):=F;have o3:=bV m;have g4:=ar m;clear F m d8;go_simp;exact bL.c3 g4.o _ _ _
   apply cC ⟨14,16,#[(),(),()],58⟩ (by simp) rfl (by kernel_rfl) rfl (by kernel_rfl)
   ·intro u t d p;replace d:=d.nil;have C:=dx d;have a8:O<t.heap.size:=by omega
    have a9:bc<t.heap.size:=by omega
    obtain⟨Q,U⟩:=br d;clear d C;simp[cL,ai,dK,bN,dm.is,dm.any]at p;refine⟨by simp[au],fun b' d8 o6 F=> ?_⟩;have l6:u 14= .pointer (some b'):=d8;have m:t.heap[b']?=some (.cells #[(),(),()] 58):=F;have o3:=bV m;have g4:=ar m;clear F m d8;go_simp;exact bL.c3 g4.o _ _ _
   intro u w5 d g hV hP;replace d:=d.nil;clear hP;have e0:u 0=_:=eE g 0;have e1:u 1=_:=eE g 1;have e2:u 2=_:=eE g 2;have e3:u 3=_:=eE g 3;have e4:u 4=_:=eE g 4;have e5:u 5=_:=eE g 5;have e6:u 6=_:=eE g 6;have e7:u 7=_:=eE g 7;have e8:u 8=_:=eE g 8;have e9:u 9=_:=eE g 9;have k6:u 10=_:=eE g 10;have k7:u 11=_:=eE g 11;have k8:u 12=_:=eE g 12;have g8:u 15=_:=eE g 15;have g9:u 16=_:=eE g 16;obtain⟨⟨VA,f4,l8,c6⟩,⟨m0,-⟩,⟨⟨VB,f5,l9,c7⟩,-,-⟩⟩:=hV;replace c6:w5.heap[VA]?=some (.cells (u 15).cells 58):=c6;rw[g8]at c6;replace f4:u 13= .pointer (some VA):=f4;obtain⟨r7,r8,r9,-,s3⟩:=bV c6;have q8:=ar c6;clear c6;replace c7:w5.heap[VB]?=some (.cells (u 16).cells 58):=c7;rw[g9]at c7;replace f5:u 14= .pointer (some VB):=f5;obtain⟨s0,s1,s2,-,s4⟩:=bV c7;have q9:=ar c7;clear c7;clear m0;(try simp only[aw,aT]at l8);(try have r5:w4.heap.size≤VA:=by omega);clear l8;(try simp only[aw,aT]at l9);(try have r6:w4.heap.size≤VB:=by omega);clear l9;simp only[am,ax,ac,aj,aK,aC,aa,ae,af,e0,e1,e2,e3,e4,e5,e6,e7,e8,e9,k6,k7,k8,g8,g9,f4,f5];clear e0 e1 e2 e3 e4 e5 e6 e7 e8 e9 k6 k7 k8 g8 g9 f4 f5 g;have c9:=ar d;obtain⟨r4,r0,l2,l4,m6⟩:=pr d;clear d;have H5:=ar (aF.step H4.o c9.o);have n7:=ar (bD HR.o c9.o);clear u0 u1 u2 u3 c0 c1 c2 e0 e1 e2 l2 l4;have d0:Hi (w5.heap[w.heap.size]?=some (.cells (aH D S) 62)):=aF.nth H5.o A.o 1 rfl;have f6:=H5.o.len A.o 1 rfl;have H6:=ar (aF.alloc H5.o w5.heap.size rfl #[H,I] 43);have b6:=ar (n7.o.alloc (.cells #[H,I] 43));have f9:=ar (aF.nth (aF.tail H6.o) A.o 1 rfl);by_cases x0:H=b1;rotate_left
   ·have p5:(H !=b1)=true:=by simpa using x0
    have G:Hi (cU D K (k+1)=l):=b8.o (fun c=>by have:=(b5.o.1 c).1.1;omega);clear x0;go_wp2_with fail
    refine aD 35 ?_;simp only[ac,aj,aK,aC,aa,ae,af];iterate 30 refine bJ ?_
    apply bg
    ·intro u t C Q U o p;simp[aU,ai,aR,ay.is,ay.any]at p;go_simp
     first|rfl|(go_at_call 60;refine(HO.o _).mono ?_;rintro e w1 ⟨rfl,a⟩;first|exact⟨rfl,a⟩|exact⟨_,rfl,a,rfl⟩)
    refine bJ ?_;apply bg
    ·intro u t C Q U o p;simp[aU,ai,aR,ay.is,ay.any]at p;go_simp
     first|rfl|(go_at_call 59;refine(HW.o _ (ag H6.o.1 o.o)).mono ?_;rintro e w1 ⟨rfl,a⟩;first|exact⟨rfl,a⟩|exact⟨_,rfl,a,rfl⟩)
    iterate 2 refine bJ ?_
    intro u s d g;simp only[cF,aR,ay.is,aE,aA,reduceIte]at g;simp only[am,ax,ac,aj,aK,aC,aa,ae,af,g];clear g;have b0:=ar (ag (w:=w) H6.o.1 d);have f:=ar d;have z:=dx d;have X:w.heap.size<s.heap.size:=by omega
    have Y:O<s.heap.size:=by omega
    have a0:VA<s.heap.size:=by omega
    have a4:VB<s.heap.size:=by omega
    have a5:w5.heap.size<s.heap.size:=by omega
    obtain⟨R,T⟩:=br d;clear d z;have H7:=ar (aF.tail (aF.step H6.o f.o));have J:=ar (bD b6.o f.o);have P:=H7.o.len A.o 0 rfl;go_wp2;go_roundw
    case rel=>exact⟨j+1,l,by omega,by omega,by go_num,by show cU D K (j+1-1)=_;rw[show j+1-1=k+1 by have:=a7.o;omega];exact G.o,J.o,H7.o,P⟩
    case measure=>simp[intOf];omega
   have p5:(H !=b1)=false:=by simpa using x0
   have k2:=ar x0;clear x0;by_cases x1:I=b2;rotate_left
   ·have p6:(I !=b2)=true:=by simpa using x1
    have G:Hi (cU D K (k+1)=l):=b8.o (fun c=>by have:=(b5.o.1 c).1.2.1;omega);clear x1;go_wp2_with fail
    refine aD 35 ?_;simp only[ac,aj,aK,aC,aa,ae,af];iterate 30 refine bJ ?_
    apply bg
    ·intro u t C Q U o p;simp[aU,ai,aR,ay.is,ay.any]at p;go_simp
     first|rfl|(go_at_call 60;refine(HO.o _).mono ?_;rintro e w1 ⟨rfl,a⟩;first|exact⟨rfl,a⟩|exact⟨_,rfl,a,rfl⟩)
    refine bJ ?_;apply bg
    ·intro u t C Q U o p;simp[aU,ai,aR,ay.is,ay.any]at p;go_simp
     first|rfl|(go_at_call 59;refine(HW.o _ (ag H6.o.1 o.o)).mono ?_;rintro e w1 ⟨rfl,a⟩;first|exact⟨rfl,a⟩|exact⟨_,rfl,a,rfl⟩)
    iterate 2 refine bJ ?_
    intro u s d g;simp only[cF,aR,ay.is,aE,aA,reduceIte]at g;simp only[am,ax,ac,aj,aK,aC,aa,ae,af,g];clear g;have b0:=ar (ag (w:=w) H6.o.1 d);have f:=ar d;have z:=dx d;have X:w.heap.size<s.heap.size:=by omega
    have Y:O<s.heap.size:=by omega
    have a0:VA<s.heap.size:=by omega
    have a4:VB<s.heap.size:=by omega
    have a5:w5.heap.size<s.heap.size:=by omega
    obtain⟨R,T⟩:=br d;clear d z;have H7:=ar (aF.tail (aF.step H6.o f.o));have J:=ar (bD b6.o f.o);have P:=H7.o.len A.o 0 rfl;go_wp2;go_roundw
    case rel=>exact⟨j+1,l,by omega,by omega,by go_num,by show cU D K (j+1-1)=_;rw[show j+1-1=k+1 by have:=a7.o;omega];exact G.o,J.o,H7.o,P⟩
    case measure=>simp[intOf];omega
   have p6:(I !=b2)=false:=by simpa using x1
   have k3:=ar x1;clear x1;by_cases x2:0<MN
   ·have p7:decide (0<MN)=true:=decide_eq_true x2;have G:Hi (cU D K (k+1)=l):=b8.o (fun c=>by have:=(b5.o.1 c).1.2.2.1;omega);clear x2;go_wp2_with fail
    refine aD 35 ?_;simp only[ac,aj,aK,aC,aa,ae,af];iterate 30 refine bJ ?_
    apply bg
    ·intro u t C Q U o p;simp[aU,ai,aR,ay.is,ay.any]at p;go_simp
     first|rfl|(go_at_call 60;refine(HO.o _).mono ?_;rintro e w1 ⟨rfl,a⟩;first|exact⟨rfl,a⟩|exact⟨_,rfl,a,rfl⟩)
    refine bJ ?_;apply bg
    ·intro u t C Q U o p;simp[aU,ai,aR,ay.is,ay.any]at p;go_simp
     first|rfl|(go_at_call 59;refine(HW.o _ (ag H6.o.1 o.o)).mono ?_;rintro e w1 ⟨rfl,a⟩;first|exact⟨rfl,a⟩|exact⟨_,rfl,a,rfl⟩)
    iterate 2 refine bJ ?_
    intro u s d g;simp only[cF,aR,ay.is,aE,aA,reduceIte]at g;simp only[am,ax,ac,aj,aK,aC,aa,ae,af,g];clear g;have b0:=ar (ag (w:=w) H6.o.1 d);have f:=ar d;have z:=dx d;have X:w.heap.size<s.heap.size:=by omega
    have Y:O<s.heap.size:=by omega
    have a0:VA<s.heap.size:=by omega
    have a4:VB<s.heap.size:=by omega
    have a5:w5.heap.size<s.heap.size:=by omega
    obtain⟨R,T⟩:=br d;clear d z;have H7:=ar (aF.tail (aF.step H6.o f.o));have J:=ar (bD b6.o f.o);have P:=H7.o.len A.o 0 rfl;go_wp2;go_roundw
    case rel=>exact⟨j+1,l,by omega,by omega,by go_num,by show cU D K (j+1-1)=_;rw[show j+1-1=k+1 by have:=a7.o;omega];exact G.o,J.o,H7.o,P⟩
    case measure=>simp[intOf];omega
   have p7:decide (0<MN)=false:=decide_eq_false x2;have k4:=ar x2;clear x2;by_cases x3:MX<0
   ·have p8:decide (MX<0)=true:=decide_eq_true x3;have G:Hi (cU D K (k+1)=l):=b8.o (fun c=>by have:=(b5.o.1 c).1.2.2.2;omega);clear x3;go_wp2_with fail
    refine aD 35 ?_;simp only[ac,aj,aK,aC,aa,ae,af];iterate 30 refine bJ ?_
    apply bg
    ·intro u t C Q U o p;simp[aU,ai,aR,ay.is,ay.any]at p;go_simp
     first|rfl|(go_at_call 60;refine(HO.o _).mono ?_;rintro e w1 ⟨rfl,a⟩;first|exact⟨rfl,a⟩|exact⟨_,rfl,a,rfl⟩)
    refine bJ ?_;apply bg
    ·intro u t C Q U o p;simp[aU,ai,aR,ay.is,ay.any]at p;go_simp
     first|rfl|(go_at_call 59;refine(HW.o _ (ag H6.o.1 o.o)).mono ?_;rintro e w1 ⟨rfl,a⟩;first|exact⟨rfl,a⟩|exact⟨_,rfl,a,rfl⟩)
    iterate 2 refine bJ ?_
    intro u s d g;simp only[cF,aR,ay.is,aE,aA,reduceIte]at g;simp only[am,ax,ac,aj,aK,aC,aa,ae,af,g];clear g;have b0:=ar (ag (w:=w) H6.o.1 d);have f:=ar d;have z:=dx d;have X:w.heap.size<s.heap.size:=by omega
    have Y:O<s.heap.size:=by omega
    have a0:VA<s.heap.size:=by omega
    have a4:VB<s.heap.size:=by omega
    have a5:w5.heap.size<s.heap.size:=by omega
    obtain⟨R,T⟩:=br d;clear d z;have H7:=ar (aF.tail (aF.step H6.o f.o));have J:=ar (bD b6.o f.o);have P:=H7.o.len A.o 0 rfl;go_wp2;go_roundw
    case rel=>exact⟨j+1,l,by omega,by omega,by go_num,by show cU D K (j+1-1)=_;rw[show j+1-1=k+1 by have:=a7.o;omega];exact G.o,J.o,H7.o,P⟩
    case measure=>simp[intOf];omega
   have p8:decide (MX<0)=false:=decide_eq_false x3;have k5:=ar x3;clear x3;have g3:Hi (jb D K k↔(0≤Z∧(H,I)∉l)):=⟨fun c=>(b5.o.1 c).2,fun c=>b5.o.2 ⟨⟨k2.o,k3.o,by have:=k4.o;omega,by have:=k5.o;omega⟩,c⟩⟩;clear k2 k3 k4 k5;by_cases C:Z<0
   ·have kz:decide (Z<0)=true:=decide_eq_true C;have G:Hi (cU D K (k+1)=l):=b8.o (fun c=>by have:=(g3.o.1 c).1;omega);clear C;go_wp2_with fail
    refine aD 35 ?_;simp only[ac,aj,aK,aC,aa,ae,af];iterate 29 refine bJ ?_
    apply bg (x:= .agg (aH D S))
    ·intro u t C Q U o p;simp[aU,ai,aR,ay.is,ay.any]at p;rw[if_pos (by first|rfl|simp[au,yielded,p])];exact cI 62 w.heap.size 0 18 (aH D S) _ bF bv (by first|rfl|simp[Act.eval]) rfl (eA ((o.o.block w.heap.size (by first|(simp;omega)|exact f6|omega)).trans f9.o)) ⟨ah _ _,rfl⟩
    apply bg
    ·intro u t C Q U o p;simp[aU,ai,aR,ay.is,ay.any]at p;go_simp
     first|rfl|(go_at_call 60;refine(HO.o _).mono ?_;rintro e w1 ⟨rfl,a⟩;first|exact⟨rfl,a⟩|exact⟨_,rfl,a,rfl⟩)
    refine bJ ?_;apply bg
    ·intro u t C Q U o p;simp[aU,ai,aR,ay.is,ay.any]at p;go_simp
     first|rfl|(go_at_call 59;refine(HW.o _ (ag H6.o.1 o.o)).mono ?_;rintro e w1 ⟨rfl,a⟩;first|exact⟨rfl,a⟩|exact⟨_,rfl,a,rfl⟩)
    iterate 2 refine bJ ?_
    intro u s d g;simp only[cF,aR,ay.is,aE,aA,reduceIte]at g;simp only[am,ax,ac,aj,aK,aC,aa,ae,af,g];clear g;have b0:=ar (ag (w:=w) H6.o.1 d);have f:=ar d;have z:=dx d;have X:w.heap.size<s.heap.size:=by omega
    have Y:O<s.heap.size:=by omega
    have a0:VA<s.heap.size:=by omega
    have a4:VB<s.heap.size:=by omega
    have a5:w5.heap.size<s.heap.size:=by omega
    obtain⟨R,T⟩:=br d;clear d z;have H7:=ar (aF.tail (aF.step H6.o f.o));have J:=ar (bD b6.o f.o);have P:=H7.o.len A.o 0 rfl;go_wp2;go_roundw
    case rel=>exact⟨j+1,l,by omega,by omega,by go_num,by show cU D K (j+1-1)=_;rw[show j+1-1=k+1 by have:=a7.o;omega];exact G.o,J.o,H7.o,P⟩
    case measure=>simp[intOf];omega
   have kz:decide (Z<0)=false:=decide_eq_false C;have HZ:Hi (0≤Z):=by show _≤_;omega
   clear C;go_wp2_with fail
   refine aD 35 ?_;simp only[ac,aj,aK,aC,aa,ae,af];iterate 29 refine bJ ?_
   apply bg (x:= .agg (aH D S))
   ·intro u t C Q U o p;simp[aU,ai,aR,ay.is,ay.any]at p;rw[if_pos (by first|rfl|simp[au,yielded,p])];exact cI 62 w.heap.size 0 18 (aH D S) _ bF bv (by first|rfl|simp[Act.eval]) rfl (eA ((o.o.block w.heap.size (by first|(simp;omega)|exact f6|omega)).trans f9.o)) ⟨ah _ _,rfl⟩
   apply bg
   ·intro u t C Q U o p;simp[aU,ai,aR,ay.is,ay.any]at p;go_simp
    first|rfl|(go_at_call 60;refine(HO.o _).mono ?_;rintro e w1 ⟨rfl,a⟩;first|exact⟨rfl,a⟩|exact⟨_,rfl,a,rfl⟩)
   refine bJ ?_;apply bg
   ·intro u t C Q U o p;simp[aU,ai,aR,ay.is,ay.any]at p;go_simp
    first|rfl|(go_at_call 59;refine(HW.o _ (ag H6.o.1 o.o)).mono ?_;rintro e w1 ⟨rfl,a⟩;first|exact⟨rfl,a⟩|exact⟨_,rfl,a,rfl⟩)
   iterate 2 refine bJ ?_
   intro u s d g;simp only[cF,aR,ay.is,aE,aA,reduceIte]at g;simp only[am,ax,ac,aj,aK,aC,aa,ae,af,g];clear g;obtain⟨z,r3,R,T,f⟩:=pr d;clear d;have H7:=ar (aF.tail (aF.step H6.o f.o));have J:=ar (bD b6.o f.o);have P:=H7.o.len A.o 0 rfl;have j7:Hi (s.heap[w5.heap.size]?=some (.cells #[H,I] 43)):=(f.o.block w5.heap.size (by simp)).trans (bf _ _ _ rfl);have q7:w5.heap.size<s.heap.size:=(av.1 j7.o).1;obtain⟨q,hq⟩:=oE l.length;have d9:=ar hq;have o8:q≤8:=by rw[←hq];exact n0.o
   have n3:=ar (qY J.o);have n4:Hi (bs s (.slice ov q cv) q 4 (fun i=>(vk D.id sz (l.getD i (0,0))).toArray)):=by
    have:=n3.o;unfold lX at this;rw[hq]at this;exact this
   clear R T;rw[hq];clear hq;go_wp2;go_loopw[13,14] (fun b x wr=>∃(i:Nat) (bb:Bool),i≤q∧b= .bool bb∧x= .int .i64 i∧Hi (fR (fun i=>decide (l.getD i (0,0)=(H,I))) i=bb)∧Hi (Below s.heap.size s wr)) (fun _ x _=>q-(intOf x).toNat)
   case atStart=>exact⟨0,false,by omega,rfl,rfl,rfl,ah _ _⟩
   case round=>
    obtain⟨w8,rfl⟩:=wE wr;obtain⟨i,bb,s7,rfl,rfl,l1,c8⟩:=hrel;have j8:Hi (w8.heap[w5.heap.size]?=some (.cells #[H,I] 43)):=(c8.o.block w5.heap.size q7).trans j7.o;have t5:w5.heap.size<w8.heap.size:=(av.1 j8.o).1;obtain⟨g0,g1,-,-⟩:=al j8.o;by_cases hil:i<q
    ·obtain⟨bo,fo,rfl,s9,d4⟩:=bs.at (bs.below n4.o c8.o) (fun _=>rfl) hil;obtain⟨E,g⟩:=oE (l.getD i (0,0));have d1:w8.cell? (bo,fo+i*4+1)=some E.1:=by rw[←g];exact d4 i hil 1 _ rfl
     have d2:w8.cell? (bo,fo+i*4+1+1)=some E.2:=by rw[←g];exact d4 i hil 2 _ rfl
     have i0:=dS i;have i1:(i:Int)<(q:Int):=by omega
     obtain⟨e1,h1⟩:=oE E.1;obtain⟨e2,h2⟩:=oE E.2;rw[h1]at d1;rw[h2]at d2;obtain⟨B,hB⟩:=oE (decide ((e1,e2)=(H,I)));have qp:=fun W=>pn e1 e2 H I W;rw[hB]at qp;have n1:Hi (fR (fun i=>decide (l.getD i (0,0)=(H,I))) (i+1)=(bb||B)):=by
      show(fR _ i||decide (l.getD i (0,0)=(H,I)))=_;rw[l1.o,g,show E=(e1,e2)from Prod.ext h1 h2,hB]
     clear d4 g h1 h2 hB;cases bb
     all_goals
      go_wp2_with fail
      refine aD 10 ?_;simp only[ac,aj,aK,aC,aa,ae,af];iterate 10 refine bJ ?_
      intro u t2 d g;simp only[cF,aR,ay.is,aE,aA,reduceIte]at g;simp only[am,ax,ac,aj,aK,aC,aa,ae,af,g];clear g;have g2:=ar (ag c8.o d);obtain⟨p4,o9,o4,o5,m4⟩:=pr d;clear d;go_wp2;go_roundw
      case rel=>exact⟨i+1,_,by omega,rfl,by go_num,n1,g2⟩
      case measure=>simp[intOf];omega
    ·obtain rfl:i=q:=by omega
     have f7:Hi (bb=decide ((H,I)∈l)):=by
      show _=_;rw[←l1.o,←d9.o];exact DU l (H,I)
     have H8:=ar (aF.step H7.o c8.o);have g7:Hi (w8.ownsRow (O+1) 45 4 (.slice ov i cv) i (eo (vk D.id sz) l)):=by
      have:=bD J.o c8.o;rw[d9.o]at this;exact this
     have n9:Hi (w8.ownsRow (O+1) 45 4 (.slice ov i cv) l.length (eo (vk D.id sz) l)):=by
      show w8.ownsRow _ _ _ _ _ _;rw[d9.o];exact g7.o
     have q0:=H8.o.len A.o 0 rfl;have i9:Hi (i≤8):=o8;cases bb with
     |true=>
      have G:Hi (cU D K (k+1)=l):=b8.o (fun c=>(g3.o.1 c).2 (of_decide_eq_true f7.o.symm));go_wp2;go_roundw
      case rel=>exact⟨j+1,l,by omega,by omega,by go_num,by show cU D K (j+1-1)=_;rw[show j+1-1=k+1 by have:=a7.o;omega];exact G.o,n9,H8.o,q0⟩
      case measure=>simp[intOf];omega
     |false=>
      have G:Hi (cU D K (k+1)=l++ [(H,I)]):=m5.o (g3.o.2 ⟨HZ.o,of_decide_eq_false f7.o.symm⟩);have k0:=ar (aF.nth H8.o A.o 1 rfl);have s5:w8.cell? w.heap.size=some D.id:=aX k0.o rfl;go_wp2_with (first|(at_builtin;refine wpList_append_own _ rfl _ _ 39 rfl ((O+1)) 45 i0 (.agg #["",(),(),()]) 4 40 underlying39 hi a8 a9 p0 rfl (by decide) _ _ _ rfl (g7.o.alloc _) ⟨w8.heap.size,0,none⟩ 1 1 [(.string D.id),(.int .i64 H),(.int .i64 I),(.int .i64 sz)] rfl rfl ?c1 ?c2 ?c3 ?c4 ?c5 ?_)|go_in)
      case c1=>
       intro j u hj
       match j,hj with
       |0,hj=>
        simp at hj;subst hj;simp[Addr.add]
        first|done|rfl|(simp[go_sem];done)
       |1,hj=>
        simp at hj;subst hj;simp[Addr.add]
        first|done|rfl|(simp[go_sem];done)
       |2,hj=>
        simp at hj;subst hj;simp[Addr.add]
        first|done|rfl|(simp[go_sem];done)
       |3,hj=>
        simp at hj;subst hj;simp[Addr.add]
        first|done|rfl|(simp[go_sem];done)
      case c2=>intro u hu;simp at hu;(first|(subst hu;rfl)|(rcases hu with rfl|rfl|rfl|rfl<;>rfl))
      case c3=>unfold maxLen;have:=i9.o;omega
      case c4=>have:=i9.o;omega
      case c5=>simp;omega
      intro v' w9 d7 d5 _;have H9:Hi (aF w w9 L2):=aF.row (B:=O+1) (aF.step H8.o (by go_grown)) i8.o (by omega) g7.o d5;have n2:Hi (w9.ownsRow (O+1) 45 4 v' (l++ [(H,I)]).length (eo (vk D.id sz) (l++ [(H,I)]))):=by
       show w9.ownsRow _ _ _ _ _ _;rw[zZ,aZ,d9.o];exact d7
      have q6:=H9.o.len A.o 0 rfl;clear d7 d5;go_wp2;go_roundw
      case rel=>exact⟨j+1,l++ [(H,I)],by omega,by omega,by go_num,by show cU D K (j+1-1)=_;rw[show j+1-1=k+1 by have:=a7.o;omega];exact G.o,n2.o,H9.o,q6⟩
      case measure=>simp[intOf];omega
  ·have l5:j=n:=by omega
   have o2:Hi (dJ D n K sz=l):=by
    show _=_;rw[k1.o,←l5];exact hl.o
   clear l5;go_wp2;go_returns;refine⟨_,rfl,?_,H4.o.1⟩;rw[o2.o];exact zY HR.o (by omega)
theorem DV (D:bX) (S:cN) (v:Value) (m:fZ) (gv:Nat→Value) (w:World) (hm:fE w v m gv) (hd:dj w D S) (q:D.id.size≤2147483648) (h2:D.nd.size≤2147483648) (c2:dN w) (o:Hi (em m D)):
 Gv 161 #[.agg (aH D S),v] (.tuple #[(eD m D),()]) w:=by
 generalize B:eD m D=R;unfold eD at B;obtain⟨G,hG⟩:=oE (m.hasG D.g);obtain⟨DE,A⟩:=oE (m.de (m.gi D.g));obtain⟨SB,a5⟩:=oE (m.hasS D.s);obtain⟨SA,O⟩:=oE (m.sa (m.si D.s));obtain⟨AR,N⟩:=oE (fx D.no D.P D.nh D.hn D.H);have c8:Hi (∀W,Below w.heap.size w W→Gv 160 #[.agg (aH D S),v] (.int .i64 0) W):=fun W f=>mZ D S v m gv W (hm.below f) (hd.below f) q h2 (c2.below f) o.o;have c9:Hi (∀W,Below w.heap.size w W→Calls prog 203 #[v,.string D.g] W (fun e w'=>∃Z d y o1 n1 c1,e= .returned (.tuple #[.agg #[.string Z,.int .i64 d,.int .i64 y,.slice o1 n1 c1],.bool G])∧(G=true→d=DE)∧Below W.heap.size W w')):=fun W f=>(mj v m gv D.g W (hm.below f)).mono fun e w' hp=>by
  obtain⟨Z,d,y,g1,q,h2,h3,h4⟩:=hp;obtain⟨o1,c1,rfl,-,-⟩:=h3.form;rw[hG]at q h2;rw[A]at h2;exact⟨Z,d,y,_,_,_,q,h2,h4⟩
 have d0:Hi (∀W,Below w.heap.size w W→Calls prog 204 #[v,.string D.s] W (fun e w'=>∃Z a h k,e= .returned (.tuple #[.agg #[.string Z,.int .i64 a,.int .i64 h,.int .i64 k],.bool SB])∧(SB=true→a=SA)∧Below W.heap.size W w')):=fun W f=>(pY v m gv D.s W (hm.below f)).mono fun e w' hp=>by
  obtain⟨Z,a,h,k,q1,q2,q3⟩:=hp;rw[a5]at q1 q2;rw[O]at q2;exact⟨Z,a,h,k,q1,fun e=>(q2 e).1,q3⟩
 have x:D.kd=1→Hi (∀W,Below w.heap.size w W→Gv 205 #[.agg #[.slice S.oo D.no S.co,.slice S.oq D.nh S.cq]] (.int .i64 AR) W):=fun g W f=>by rw[←N];exact AZ _ _ _ _ _ _ _ _ _ W (hd.1.below f) (hd.2.below f) (o.o.sh g).reg
 have P:D.kd=1→Hi ((0≤AR∧AR≤32*34359738368)∧(0≤D.th∧D.th≤120)∧(0≤DE∧DE≤20000)∧G=true):=fun g=>by
  have hr:=(o.o.sh g).reg;have a1:=hr.area_pos;have a2:=pD hr;have a3:=o.o.p1 g;have a4:=o.o.gr (by omega);rw[N]at a1 a2;rw[A,hG]at a4;exact⟨⟨by omega,a2⟩,⟨by omega,a3.2.1⟩,⟨by omega,a4.2.2⟩,a4.1⟩
 have Q:D.kd=2∨D.kd=3→Hi ((0≤SA∧SA≤1000000)∧(0≤D.ln∧D.ln≤32768)∧(0≤DE∧DE≤20000)∧G=true∧SB=true):=fun g=>by
  have a3:=o.o.p2 g;have a4:=o.o.gr (by omega);rw[O,a5]at a3;rw[A,hG]at a4;exact⟨⟨by omega,a3.2.1.2⟩,⟨by omega,a3.2.2.2.2⟩,⟨by omega,a4.2.2⟩,a4.1,a3.1⟩
 have d4:=o.o.kd;rw[N,A,O]at B;obtain⟨vg,vs,rfl,b0,b5,-,-,-⟩:=hm;obtain⟨og,cg,rfl,-,-⟩:=b0.form;obtain⟨d5,d1,rfl,-,-⟩:=b5.form;have J:Hi (((w.alloc (.cells (aH D S) 62)).alloc (.cells #[.slice og m.ng cg,.slice d5 m.ns d1] 32)).heap[w.heap.size]?=some (.cells (aH D S) 62)):=(aV _ _ _ (by simp)).trans (bf _ _ _ rfl);clear b0 b5 hG A a5 O N hd c2 q h2;have d3:D.kd=1∨D.kd=4∨(D.kd=2∨D.kd=3):=by omega
 clear d4;go_enter func161,ntmps161;go_wp2_with (first|(with_reducible refine bA 62 w.heap.size 18 (aH D S) 62 _ bF bv rfl rfl J.o ?_)|fail)
 (go_at_call 160;refine mz (c8.o _ (by go_grown)) fun w1 C=> ?_);obtain⟨L,hL,a9⟩:=aF.ex (aF.step (((aF.nil (ah w.heap.size w)).alloc (w.heap.size) rfl _ _).alloc (w.heap.size+1) (by simp) _ _) C);have s:=ar hL;have H1:=ar a9;clear hL a9 C;have c:Hi (w1.heap[w.heap.size]?=some (.cells (aH D S) 62)):=aF.nth H1.o s.o 1 rfl;have d6:w1.cell? (w.heap.size,4)=some D.g:=aX c.o rfl;obtain⟨m0,m1,-,-⟩:=al (aF.nth H1.o s.o 0 rfl);go_wp2_with fail
 (go_at_call 203;refine(c9.o _ H1.o.1).mono ?_;rintro e_ w2 ⟨Z,d,y,o1,n1,c1,rfl,c0,b8⟩);have H2:=ar (aF.step H1.o b8);have a8:=ar c0;clear b8 c0;clear d6;clear m0 m1 c;have c:Hi (w2.heap[w.heap.size]?=some (.cells (aH D S) 62)):=aF.nth H2.o s.o 1 rfl;have d7:w2.cell? (w.heap.size,8)=some D.s:=aX c.o rfl;obtain⟨m0,m1,-,mz⟩:=al (aF.nth H2.o s.o 0 rfl);have r:=H2.o.len s.o 1 rfl;go_wp2_with fail
 (go_at_call 204;refine(d0.o _ (by have:=H2.o.1;go_grown)).mono ?_;rintro e_ w3 ⟨s2,a,h,k,rfl,b6,b9⟩);have I:=ar (aF.step (H2.o.alloc w2.heap.size rfl _ _) b9);have H3:Hi (aF w w3 L):=I.o.tail;have c3:=ar b6;clear b9 b6;clear d7;clear m0 m1 mz r c;have c:Hi (w3.heap[w.heap.size]?=some (.cells (aH D S) 62)):=aF.nth H3.o s.o 1 rfl;have F:w3.cell? (w.heap.size,2)=some D.kd:=aX c.o rfl;have r:=H3.o.len s.o 1 rfl;rcases d3 with g|g|g
 ·have Y:Hi (∀W,Gv 199 #[D.kd] (.int .i64 1) W):=fun W=>by
   have q:=eR D.kd W (by omega);rw[show ip D.kd=1 by unfold ip;rw[if_pos g]]at q;exact q
  have z:=ar g;clear g;go_wp2_with fail
  (go_at_call 199;refine mz (Y.o _) fun H n=> ?_);have l:=ar (aF.step (I.o.alloc w3.heap.size rfl _ _) n);have t:Hi (aF w H L):=l.o.tail.tail;clear n Y;obtain⟨-,y1,-,-,-,yz⟩:=bR (l.o.get 1 rfl);clear F;clear r c;have c:Hi (H.heap[w.heap.size]?=some (.cells (aH D S) 62)):=aF.nth t.o s.o 1 rfl;obtain⟨-,-,-,-,-,e9,e7,e8,-,-,-,-,-,-,-,-,-,-⟩:=tb c.o;obtain⟨-,-,-,mz⟩:=al (aF.nth t.o s.o 0 rfl);have r:=t.o.len s.o 1 rfl;have g:=z.o;rw[if_pos g]at B;have x:=x g;have c4:=P g;clear P Q g;have f:=c4.o;have a6:d=DE:=a8.o f.2.2.2;subst a6;have K:=gS (a:=AR) (b:=D.th) (f.1).1 (f.1).2 (f.2.1).1 (f.2.1).2;obtain⟨T,i⟩:=oE (AR*D.th);rw[i]at K;have b2:=gS (a:=T) (b:=d) K.1 K.2 (f.2.2.1).1 (f.2.2.1).2;obtain⟨U,j⟩:=oE (T*d);rw[j]at b2;have d8:IntKind.i64.wrap (AR*D.th)=T:=by rw[i];exact iw
  have d9:IntKind.i64.wrap (T*d)=U:=by rw[j];exact iw
  obtain⟨X,p⟩:=oE (U.tdiv 2000000);have E:X=U/2000000:=by rw[←p,Int.tdiv_eq_ediv_of_nonneg b2.1]
  have e0:IntKind.i64.wrap (U.tdiv 2000000)=X:=by rw[p];exact iw
  have a0:Hi (X=AR*D.th*d/2000000):=by show _=_;rw[E,←j,←i]
  clear i j p E K b2;have HE:Hi (R=X):=B.symm.trans a0.o.symm;clear B f J;have f0:=t.o.1;go_wp2_with fail
  refine aD 12 ?_;simp only[ac,aj,aK,aC,aa,ae,af];iterate 2 refine bJ ?_
  apply bg
  ·intro u wx hz hc hf c6 hd;simp[aU,ai,aR,ay.is,ay.any]at hd;go_simp
   first|rfl|(go_at_call 205;refine(x.o _ (ag (w:=w) (by have:=t.o.1;go_grown) c6.o)).mono ?_;rintro e w1 ⟨rfl,C⟩;first|exact⟨rfl,C⟩|exact⟨_,rfl,C,rfl⟩)
  iterate 9 refine bJ ?_
  intro u w5 f hE;simp only[cF,aR,ay.is,aE,aA,reduceIte]at hE;simp only[am,ax,ac,aj,aK,aC,aa,ae,af,hE];clear hE;have a7:=ar (ag (w:=w) (by first|assumption|go_grown) f);obtain⟨e4,e3,e1,e2,c7⟩:=pr f;clear f;go_wp2;go_returns;exact⟨by rw[HE.o];rfl,a7.o⟩
 ·have Y:Hi (∀W,Gv 199 #[D.kd] (.int .i64 3) W):=fun W=>by
   have q:=eR D.kd W (by omega);rw[show ip D.kd=3 by unfold ip;rw[if_neg (by omega),if_pos g]]at q;exact q
  have z:=ar g;clear g;go_wp2_with fail
  (go_at_call 199;refine mz (Y.o _) fun H n=> ?_);have l:=ar (aF.step (I.o.alloc w3.heap.size rfl _ _) n);have t:Hi (aF w H L):=l.o.tail.tail;clear n Y;clear F;clear r c;have c:Hi (H.heap[w.heap.size]?=some (.cells (aH D S) 62)):=aF.nth t.o s.o 1 rfl;have e6:H.cell? (w.heap.size,10)=some D.ma:=aX c.o rfl;have g:=z.o;rw[if_neg (by omega),if_pos g]at B;have HE:Hi (R=D.ma):=B.symm;clear B g P Q x J;go_wp2;go_returns;exact⟨by rw[HE.o];rfl,by have:=t.o.1;go_grown⟩
 ·have Y:Hi (∀W,Gv 199 #[D.kd] (.int .i64 2) W):=fun W=>by
   have q:=eR D.kd W (by omega);rw[show ip D.kd=2 by unfold ip;rw[if_neg (by omega),if_neg (by omega)]]at q;exact q
  have z:=ar g;clear g;go_wp2_with fail
  (go_at_call 199;refine mz (Y.o _) fun H n=> ?_);have l:=ar (aF.step (I.o.alloc w3.heap.size rfl _ _) n);have t:Hi (aF w H L):=l.o.tail.tail;clear n Y;obtain⟨-,y1,-,-,-,-⟩:=bR (l.o.get 1 rfl);obtain⟨-,t1,-,-,-,-⟩:=bR (l.o.get 0 rfl);clear F;clear r c;have c:Hi (H.heap[w.heap.size]?=some (.cells (aH D S) 62)):=aF.nth t.o s.o 1 rfl;have e5:H.cell? (w.heap.size,9)=some D.ln:=aX c.o rfl;have g:=z.o;rw[if_neg (by omega),if_neg (by omega)]at B;have c5:=Q g;clear P Q g x;have f:=c5.o;have a6:d=DE:=a8.o f.2.2.2.1;subst a6;have d2:a=SA:=c3.o f.2.2.2.2;subst d2;have K:=gS (a:=a) (b:=D.ln) (f.1).1 (f.1).2 (f.2.1).1 (f.2.1).2;obtain⟨T,i⟩:=oE (a*D.ln);rw[i]at K;have b2:=gS (a:=T) (b:=d) K.1 K.2 (f.2.2.1).1 (f.2.2.1).2;obtain⟨U,j⟩:=oE (T*d);rw[j]at b2;have d8:IntKind.i64.wrap (a*D.ln)=T:=by rw[i];exact iw
  have d9:IntKind.i64.wrap (T*d)=U:=by rw[j];exact iw
  obtain⟨X,p⟩:=oE (U.tdiv 1000000);have E:X=U/1000000:=by rw[←p,Int.tdiv_eq_ediv_of_nonneg b2.1]
  have e0:IntKind.i64.wrap (U.tdiv 1000000)=X:=by rw[p];exact iw
  have a0:Hi (X=a*D.ln*d/1000000):=by show _=_;rw[E,←j,←i]
  clear i j p E K b2;have HE:Hi (R=X):=B.symm.trans a0.o.symm;clear B f J;go_wp2;go_returns;exact⟨by rw[HE.o];rfl,by have:=t.o.1;go_grown⟩
theorem aF.put {w W c:World} {L:List (Nat×Array Value×TypeId)} {z cs:Array Value} {d t:TypeId} (h:aF w W L) (b:bL (W.alloc (.cells z d)) c W.heap.size cs t):aF w c ((W.heap.size,cs,t)::L):=
 ⟨bL.below (h.1.alloc h.1.size _) b h.1.size,fun x a=>by
  rcases bj.1 a with rfl|a
  ·exact b.here
  ·have:=h.lt a;exact(b.other x.1 (by omega)).trans ((aV _ _ _ this).trans (h.2 x a))⟩
theorem BI {f:Nat→Int} {n:Nat} (h:∀i,i<n→0≤f i):∀{j:Nat},j≤n→0≤cB f j∧cB f j≤cB f n:=by
 have b:∀j,j≤n→0≤cB f j:=fun j a=>by
  induction j with
  |zero=>exact Int.le_refl _
  |succ k ih=>have:=ih (by omega);have:=h k (by omega);rw[cB];omega
 have c:∀d j,j+d=n→cB f j≤cB f n:=fun d=>by
  induction d with
  |zero=>intro j a;rw[show j=n by omega];exact Int.le_refl _
  |succ d ih=>intro j a;have:=ih (j+1) (by omega);have:=h j (by omega);rw[cB]at*;omega
 exact fun{j} a=>⟨b j a,c (n-j) j (by omega)⟩
theorem sN (X:bK) (S:dq) (TB DB:Nat) (v:Value) (m:fZ) (gv:Nat→Value) (w:World) (h:Hi (ff w TB DB X S)) (B:Hi (eY X)) (a5:dN w) (hm:fE w v m gv) (hp:Hi (∀i,i<X.np→dj w (X.D i) (S.sp i)))
 (hr:Hi ((∀i,i<X.np→em m (X.D i)∧bZ X.nI X.nn (X.D i).nd=true)∧cB (fun i=>eD m (X.D i)) X.np≤1099511627776)):
 Gv 121 #[.pointer (some TB),v] (.int .i64 0) w:=by
 have c8:=B.o.few.2.1;have Y:Hi (∀W i,Below w.heap.size w W→i<X.np→Gv 160 #[.agg (aH (X.D i) (S.sp i)),v] (.int .i64 0) W):=fun W i g z=>mZ _ _ v m gv W (hm.below g) ((hp.o i z).below g) (by have:=(B.o.p i z).1;omega) (by have:=(B.o.p i z).2;omega) (a5.below g) (hr.o.1 i z).1;have Z:Hi (∀W i,Below w.heap.size w W→i<X.np→Gv 161 #[.agg (aH (X.D i) (S.sp i)),v] (.tuple #[(eD m (X.D i)),()]) W):=fun W i g z=>DV _ _ v m gv W (hm.below g) ((hp.o i z).below g) (by have:=(B.o.p i z).1;omega) (by have:=(B.o.p i z).2;omega) (a5.below g) (hr.o.1 i z).1;have c6:Hi (∀j,j≤X.np→0≤cB (fun i=>eD m (X.D i)) j∧cB (fun i=>eD m (X.D i)) j≤1099511627776):=fun j hj=>by
  have:=BI (f:=fun i=>eD m (X.D i)) (n:=X.np) (fun i z=>(qV (hr.o.1 i z).1).1) hj;have:=hr.o.2;omega
 obtain⟨vg,vs,rfl,a8,b0,-,-,-⟩:=hm;obtain⟨og,cg,rfl,-,-⟩:=a8.form;obtain⟨c0,a7,rfl,-,-⟩:=b0.form;clear a8 b0 hp;obtain⟨b1,b2,b3,b4,h0,h1,h2,h3,h4,h5,h6⟩:=h.o;have c3:=ar h1;have HR:=ar h6;have d2:TB<w.heap.size:=eB h0;have d1:DB<w.heap.size:=eB h5;obtain⟨on,cn,op,cp,o,os,cs,ok,ck,sk,od,cd⟩:=S;obtain⟨L,hL⟩:∃L:List (Nat×Array Value×TypeId),L= [(TB,#[.pointer (some DB),.map (some b1),.map (some b2),.map (some b3),.map (some b4)],198),(DB,#[.string X.hull,.slice on X.nn cn,.slice op X.np cp,.slice os X.ns cs,.slice ok X.nk ck,.slice od X.nd cd],28)]:=⟨_,rfl⟩;have HL:=ar hL;have H0:Hi (aF w w L):=⟨ah _ _,fun x hx=>by
  rw[hL]at hx;simp only[bj,List.not_mem_nil,or_false]at hx;rcases hx with rfl|rfl
  ·exact h0
  ·exact h5⟩
 clear h0 h1 h2 h3 h4 h5 h6 a5 hL;dsimp only at Y Z;have hn:=(HR.o.p).lim;dsimp only at hn;obtain⟨L3,a9,h3⟩:=aF.ex (aF.alloc H0.o w.heap.size rfl #[.slice og m.ng cg,.slice c0 m.ns a7] 32);have a:=ar (a9.trans (congrArg _ HL.o));have b:=ar h3;clear a9 h3;obtain⟨K,r,N,O,P,Q,t⟩:=bM (aF.nth H0.o HL.o 0 rfl);obtain⟨D,E,p,F,G,H,I,J⟩:=aJ (aF.nth H0.o HL.o 1 rfl);go_enter func121,ntmps121;go_wp2;clear K r N O P Q t D E p F G H I J;go_loopw[23] (fun i wr=>∃j:Nat,j≤X.np∧i= .int .i64 j∧aF w wr L3) (fun i _=>X.np-(intOf i).toNat)
 case atStart=>exact⟨0,by omega,rfl,b.o⟩
 case round=>
  clear b;obtain⟨k,rfl⟩:=wE wr;obtain⟨j,-,rfl,hO⟩:=hrel;have d:=ar hO;clear hO;obtain⟨m0,m1,mf,mz⟩:=al (aF.nth d.o a.o 0 rfl);obtain⟨K,r,N,O,P,Q,t⟩:=bM (aF.nth d.o a.o 1 rfl);obtain⟨D,E,p,F,G,H,I,J⟩:=aJ (aF.nth d.o a.o 2 rfl);have zm:=aF.len d.o a.o 0 rfl;have zy:=aF.len d.o a.o 1 rfl;have zx:=aF.len d.o a.o 2 rfl;by_cases hlt:j<X.np
  ·have c4:=ar (fun W g=>Y.o W j g hlt);have b9:=(hr.o.1 j hlt).2;have c2:Hi (∀W,Below w.heap.size w W→∃c:Int,(Instr.lookup 194 (.map (some b1)) (.string (X.D j).nd) true).run prog W= .ok (.tuple #[c,.bool true]) W):=fun W g=>by
    obtain⟨c,A,-⟩:=gW.look (c3.o.below g) (s:=(X.D j).nd) (by have:=(B.o.p j hlt).2;omega);rw[b9]at A;exact⟨c,A⟩
   clear b9;obtain⟨bc,fc,rfl,a4,e⟩:=bs.at (HR.o.p) (fun _=>rfl) hlt;have HC:Hi (∀W,Below w.heap.size w W→∀q u,(aH (X.D j) (o j))[q]?=some u→W.cell? (bc,fc+j*18+q)=some u):=fun W hW q u T=>bI hW a4 (e j hlt q u T);have a1:Hi (∀q u,(aH (X.D j) (o j))[q]?=some u→k.cell? (bc,fc+j*18+q)=some u):=fun q u T=>HC.o k d.o.1 q u T;clear e;go_wp2_with (first|(with_reducible refine cY 62 bc (fc+j*18) 18 (aH (X.D j) (o j)) _ bF bv rfl rfl a1.o ?_)|((with_reducible refine bB 62 k.heap.size 18 (aH (X.D j) (o j)) 62 bv rfl rfl rfl rfl (⟨_,bf _ _ _ rfl,rfl⟩) ?_);intro U hs;have b:=ar (aF.put d.o hs);clear hs;clear m0 m1 mf mz K r N O P Q t D E p F G H I J zm zy zx;obtain⟨m0,m1,mf,mz⟩:=al (aF.nth b.o.tail a.o 0 rfl);obtain⟨K,r,N,O,P,Q,t⟩:=bM (aF.nth b.o.tail a.o 1 rfl);obtain⟨D,E,p,F,G,H,I,J⟩:=aJ (aF.nth b.o.tail a.o 2 rfl);have zm:w.heap.size<U.heap.size:=aF.len b.o.tail a.o 0 rfl;have zy:TB<U.heap.size:=aF.len b.o.tail a.o 1 rfl;have zx:DB<U.heap.size:=aF.len b.o.tail a.o 2 rfl;have a2:=ar (b.o.get 0 rfl);have zs:k.heap.size<U.heap.size:=b.o.lt (bw ..))|(with_reducible refine bA 62 k.heap.size 18 (aH (X.D j) (o j)) 62 _ bF bv rfl rfl a2.o ?_)|fail)
   (go_at_call 160;refine cy (c4.o _ b.o.1) b fun w4 R=> ?_);clear m0 m1 mf mz K r N O P Q t D E p F G H I J zm zy zx;obtain⟨-,r,-,-,-,-,t⟩:=bM (aF.nth R.o.tail a.o 1 rfl);obtain⟨-,-,p,-,-,-,-,-⟩:=aJ (aF.nth R.o.tail a.o 2 rfl);have c7:=ar (R.o.get 0 rfl);have d3:k.heap.size<w4.heap.size:=R.o.lt (bw ..);have c1:w4.cell? (k.heap.size,3)=some (.string (X.D j).nd):=aX (C:=aH (X.D j) (o j)) c7.o rfl;have hB:=R.o.1;go_wp2_with fail
   refine aD 12 ?_;simp only[ac,aj,aK,aC,aa,ae,af];iterate 6 refine bJ ?_
   refine bG (ay.val (fun v=>∃c:Int,v= .tuple #[c,.bool true])) ?_ ?_
   ·intro u wx B hc hf y l;simp[aU,ai,aR,ay.is,ay.any]at l;refine⟨by simp[au],?_⟩;obtain⟨c,A⟩:=c2.o _ (ag (w:=w) (by have:=R.o.1;go_grown) y.o);go_simp;exact⟨ah _ _,c,rfl⟩
   refine bG (ay.val (fun v=>∃c:Int,v= .tuple #[c,.bool true])) ?_ ?_
   ·intro u wx B hc hf y l;simp[aU,ai,aR,ay.is,ay.any]at l;refine⟨by simp[au],?_⟩;obtain⟨c,hx⟩:=l;go_simp
    first|done|exact⟨ah _ _,c,rfl⟩|exact⟨ah _ _,rfl⟩|exact⟨ah _ _,trivial⟩|exact ah _ _|rfl
   refine bG (ay.val (fun v=>True)) ?_ ?_
   ·intro u wx B hc hf y l;simp[aU,ai,aR,ay.is,ay.any]at l;refine⟨by simp[au],?_⟩;obtain⟨c,hx⟩:=l;go_simp
    first|done|exact⟨ah _ _,c,rfl⟩|exact⟨ah _ _,rfl⟩|exact⟨ah _ _,trivial⟩|exact ah _ _|rfl
   apply bg (x:= .bool true)
   ·intro u wx B hc hf y l;simp[aU,ai,aR,ay.is,ay.any]at l;obtain⟨c,hx⟩:=l;go_simp
    first|done|exact⟨ah _ _,c,rfl⟩|exact⟨ah _ _,rfl⟩|exact⟨ah _ _,trivial⟩|exact ah _ _|rfl
   refine bG (ay.val (fun v=>True)) ?_ ?_
   ·intro u wx B hc hf y l;simp[aU,ai,aR,ay.is,ay.any]at l;refine⟨by simp[au],?_⟩;go_simp
    first|done|exact⟨ah _ _,c,rfl⟩|exact⟨ah _ _,rfl⟩|exact⟨ah _ _,trivial⟩|exact ah _ _|rfl
   refine bJ ?_;intro u w5 g hE;simp only[cF,aR,ay.is,aE,aA,reduceIte]at hE;simp only[am,ax,ac,aj,aK,aC,aa,ae,af,hE];clear hE;obtain⟨d0,c9,b6,b8,a0⟩:=pr g;clear g;clear hB;have H5:=ar (aF.step R.o a0.o);clear b6 b8 c1;clear r t p;go_wp2;go_roundw
   case rel=>exact⟨j+1,by omega,by go_num,H5.o.tail⟩
   case measure=>simp[intOf];omega
  ·have H1:=d;clear d;go_wp2;clear m0 m1 mf mz K r N O P Q t D E p F G H I J zm zy zx;clear hlt;go_loopw[10,54] (fun s i wr=>∃(j:Nat) (q:Int),j≤X.np∧i= .int .i64 j∧s= .int .i64 q∧Hi (q=cB (fun i=>eD m (X.D i)) j)∧aF w wr L3) (fun _ i _=>X.np-(intOf i).toNat)
   case atStart=>exact⟨0,0,by omega,rfl,rfl,rfl,H1.o⟩
   case round=>
    clear H1;obtain⟨w9,rfl⟩:∃x:World,x=k:=⟨_,rfl⟩;obtain⟨k,rfl⟩:=wE wr;obtain⟨j,q,-,rfl,rfl,T,hO⟩:=hrel;have d:=ar hO;clear hO;obtain⟨m0,m1,mf,mz⟩:=al (aF.nth d.o a.o 0 rfl);obtain⟨K,r,N,O,P,Q,t⟩:=bM (aF.nth d.o a.o 1 rfl);obtain⟨D,E,p,F,G,H,I,J⟩:=aJ (aF.nth d.o a.o 2 rfl);have zm:=aF.len d.o a.o 0 rfl;have zy:=aF.len d.o a.o 1 rfl;have zx:=aF.len d.o a.o 2 rfl;by_cases hlt:j<X.np
    ·obtain⟨MS,a3⟩:=oE (eD m (X.D j));have c5:Hi (∀W,Below w.heap.size w W→Gv 161 #[.agg (aH (X.D j) (o j)),.agg #[.slice og m.ng cg,.slice c0 m.ns a7]] (.tuple #[MS,()]) W):=fun W g=>by
      have:=Z.o W j g hlt;rw[a3]at this;exact this
     have b5:=c6.o (j+1) hlt;have a6:Hi (q+MS=cB (fun i=>eD m (X.D i)) (j+1)):=by show _=_;rw[cB,←T.o,a3]
     rw[←a6.o]at b5;have u1:IntKind.i64.wrap (q+MS)=q+MS:=iw;have g1:decide (1099511627776<q+MS)=false:=df;obtain⟨bc,fc,rfl,a4,e⟩:=bs.at (HR.o.p) (fun _=>rfl) hlt;have HC:Hi (∀W,Below w.heap.size w W→∀q u,(aH (X.D j) (o j))[q]?=some u→W.cell? (bc,fc+j*18+q)=some u):=fun W hW q u T=>bI hW a4 (e j hlt q u T);have a1:Hi (∀q u,(aH (X.D j) (o j))[q]?=some u→k.cell? (bc,fc+j*18+q)=some u):=fun q u T=>HC.o k d.o.1 q u T;clear e;clear a3 b5;go_wp2_with (first|(with_reducible refine cY 62 bc (fc+j*18) 18 (aH (X.D j) (o j)) _ bF bv rfl rfl a1.o ?_)|((with_reducible refine bB 62 k.heap.size 18 (aH (X.D j) (o j)) 62 bv rfl rfl rfl rfl (⟨_,bf _ _ _ rfl,rfl⟩) ?_);intro U hs;have b:=ar (aF.put d.o hs);clear hs;clear m0 m1 mf mz K r N O P Q t D E p F G H I J zm zy zx;obtain⟨m0,m1,mf,mz⟩:=al (aF.nth b.o.tail a.o 0 rfl);obtain⟨K,r,N,O,P,Q,t⟩:=bM (aF.nth b.o.tail a.o 1 rfl);obtain⟨D,E,p,F,G,H,I,J⟩:=aJ (aF.nth b.o.tail a.o 2 rfl);have zm:w.heap.size<U.heap.size:=aF.len b.o.tail a.o 0 rfl;have zy:TB<U.heap.size:=aF.len b.o.tail a.o 1 rfl;have zx:DB<U.heap.size:=aF.len b.o.tail a.o 2 rfl;have a2:=ar (b.o.get 0 rfl);have zs:k.heap.size<U.heap.size:=b.o.lt (bw ..))|(with_reducible refine bA 62 k.heap.size 18 (aH (X.D j) (o j)) 62 _ bF bv rfl rfl a2.o ?_)|fail)
     (go_at_call 161;refine cy (c5.o _ b.o.1) b fun w4 R=> ?_);clear m0 m1 mf mz K r N O P Q t D E p F G H I J zm zy zx;go_wp2;go_roundw
     case rel=>exact⟨j+1,q+MS,by omega,by go_num,rfl,a6,R.o.tail⟩
     case measure=>simp[intOf];omega
    ·go_wp2;go_returns;exact⟨rfl,d.o.1⟩
end
end Go.Proofs.YtencnijahlkbaaaGreatDoor
