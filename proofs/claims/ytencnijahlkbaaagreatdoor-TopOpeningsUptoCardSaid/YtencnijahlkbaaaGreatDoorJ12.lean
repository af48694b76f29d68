/-
  Lemmas of this claim, joined. Conditions: as stated. By an AI agent.
-/
import Derived.Test.YtencnijahlkbaaaGreatDoorJ1
import Derived.Test.YtencnijahlkbaaaGreatDoorJ2
import Derived.Test.YtencnijahlkbaaaGreatDoorJ5
import Derived.Test.YtencnijahlkbaaaGreatDoorJ6
import Derived.Test.YtencnijahlkbaaaGreatDoorJ7
import Derived.Test.YtencnijahlkbaaaGreatDoorJ10
import Derived.Test.YtencnijahlkbaaaGreatDoorJ11
import Derived.Maps.AppendAt
open Go.Act renaming put → aC
open Array renaming getElem?_eq_some_iff → av
open Go.RowKit.Below renaming refl → ah
open Bool renaming false_and → aI, true_and → aN, and_false → aL, false_or → aP, true_or → aW, or_false → aQ, eq_false_iff → cG
open Classical renaming byContradiction → aG
open Int renaming mul_nonneg → bE
open List renaming take_succ_cons → ac, take_zero → aj, drop_succ_cons → am, drop_zero → ax, setIfInBounds_toArray → aa, set_cons_zero → ae, set_cons_succ → af, mem_cons_self → bw, getElem?_eq_getElem → aS, getD_eq_getElem?_getD → aO, getElem?_append_left → cV, getElem?_append_right → cD, length_append → aZ, mem_cons → bj
open Nat renaming le_refl → aB, lt_of_lt_of_le → aM, le_trans → bW, reduceAdd → aE, reduceEqDiff → aA
open Go.Region renaming binds → ai, wanted → au
open Go.World renaming size_setCell → aT, size_alloc → aw
namespace Go.Proofs.YtencnijahlkbaaaGreatDoor
set_option maxHeartbeats 8000000
set_option maxRecDepth 100000
set_option linter.unusedVariables false
set_option linter.unusedSimpArgs false
open Go.Proofs.Tryz
section
open Go Go.ChangeShapes Go.WideShapes Go.RowKit Go.ChangeAt
theorem yM (v:Value) (n:Nat) (P:Nat→Pt) (K N hh c d a b:Int) (w:World) (h:bO w v n P) (hp:Hi (dT n P)) (a8:bP n P<0) (e1:c=K-hh) (e2:d=N-hh) (e3:a=K+hh) (e4:b=N+hh) (k2:0≤hh∧hh≤5000) (ha:(-32768≤K∧K≤32768)∧ -32768≤N∧N≤32768):
 Gv 62 #[v,.agg #[c,d],.agg #[a,b]] (.bool (fz n P (c,d) (a,b) (K,N))) w:=by
 generalize hR:fz n P (c,d) (a,b) (K,N)=R;have HR:=ar hR;have j4:Hi (Nr (c,d)):=by show Nr _;unfold Nr;dsimp only;omega
 have j3:Hi (Nr (a,b)):=by show Nr _;unfold Nr;dsimp only;omega
 have u1:IntKind.i64.wrap (c+a)=2*K:=by rw[show c+a=2*K by omega];exact iw
 have u2:IntKind.i64.wrap (d+b)=2*N:=by rw[show d+b=2*N by omega];exact iw
 have u3:(2*K).tdiv 2=K:=by rw[Int.mul_comm];exact Int.mul_tdiv_cancel _ (by decide)
 have u4:(2*N).tdiv 2=N:=by rw[Int.mul_comm];exact Int.mul_tdiv_cancel _ (by decide)
 have u5:IntKind.i64.wrap K=K:=iw;have u6:IntKind.i64.wrap N=N:=iw;have d3:=hp.o.rv;have f9:=ar d3;have a0:=uh a8;have l0:=hp.o.n32;have l4:=hp.o.n3;have f7:Hi (∀i,i<n→Nr (P i)):=fun i hi=>by have:=hp.o.nr i hi;unfold Nr;omega
 have h9:Hi (∀W v',bO W v' n (rv n P)→Gv 23 #[.agg #[v',Nat]] (.int .i64 0) W):=fun W v' hv=>ld _ n (rv n P) W hv f9 a0;have g3:Hi (∀W v' q1 q2,bO W v' n (rv n P)→Gv 59 #[.agg #[v',Nat],.agg #[.int .i64 q1,.int .i64 q2]] (.int .i64 (db n (rv n P) (q1,q2))) W):=fun W v' q1 q2 hv=>by
  have:=oL v' n (rv n P) q1 q2 W hv f9 a0;rw[mP d3.pol]at this;exact this
 obtain⟨oa,cp,rfl,-,-,g7⟩:=h.form;have f3:=ar g7;have k5:prog.underlying 53=some (.slice 43):=underlying53;obtain⟨i0,k3,h4,h5,h6⟩:=dC Ab;obtain⟨L,hL,h0⟩:=aF.ex (aF.alloc (aF.alloc (aF.nil (ah w.heap.size w)) (w.heap.size) rfl #[c,d] 43) (w.heap.size+1) (by simp) #[a,b] 43);have HL:=ar hL;have H0:=ar h0;have f5:Hi (∀x∈L,x.1<w.heap.size+1+1):=fun x hx=>by
  rw[HL.o]at hx;simp only[bj,List.not_mem_nil,or_false]at hx;rcases hx with rfl|rfl<;>(dsimp only;omega)
 have e7:Hi ((((w.alloc (.cells #[c,d] 43)).alloc (.cells #[a,b] 43)).alloc (.cells #[Nat,Nat] 56)).heap[w.heap.size+1+1]?=some (.cells #[Nat,Nat] 56)):=bf _ _ _ (by simp);have e6:=ar (aF.obj H0.o (.cells #[Nat,Nat] 56));obtain⟨n1,k4⟩:=oE ((n:Int)-1:Int);have un:IntKind.i64.wrap ((n:Int)-1)=(n:Int)-1:=iw;clear h g7 hR e1 e2 e3 e4 k2 ha a8 d3 a0 hL h0 k4 H0;go_enter func62,ntmps62;go_wp2;clear un;go_loopw[8] (fun x wr=>∃(p k:Nat) (ov:Option Addr) (cv:Nat),Hi (p+k=n)∧x= .int .i64 ((p:Int)-1)∧Hi (wr.ownsRow (w.heap.size+1+1+1) 43 2 (.slice ov k cv) k (qH (rv n P) k))∧Hi (wr.heap[w.heap.size+1+1]?=some (.cells #[.slice ov k cv,Nat] 56))∧Hi (aF w wr L)) (fun x _=>(intOf x+1).toNat)
 case atStart=>exact⟨n,0,none,0,rfl,rfl,World.ownsRow_nil _ _ _ _,e7,e6⟩
 case round=>
  clear e7 e6;obtain⟨w2,rfl⟩:=wE wr;obtain⟨p,k,ov,cv,X,rfl,U,HA,s⟩:=hrel;obtain⟨s0,s1,-,sz⟩:=al HA.o;have zs:w.heap.size+1+1<w2.heap.size:=(av.1 HA.o).1;by_cases hp0:0<p
  ·obtain⟨r,hr⟩:∃r:Nat,(p:Int)-1=r:=⟨p-1,by omega⟩;have g0:=ar hr;have d5:r<n:=by have:=X.o;omega
   have j6:Hi (rv n P k=P r):=by
    show P (n-1-k)=P r;rw[show n-1-k=r by have:=X.o;omega]
   have k9:k≤32:=by have:=X.o;omega
   rw[hr];obtain⟨Y,fc,rfl,E,f⟩:=f3.o r d5;have Z:=s.o.1;obtain⟨y1,I⟩:=oE ((P r).1);obtain⟨y2,J⟩:=oE ((P r).2);have c0:w2.cell? (Y,fc+r*2)=some y1:=by rw[←I];exact bI Z E (f r d5).1
   have c1:w2.cell? (Y,fc+r*2+1)=some y2:=by rw[←J];exact bI Z E (f r d5).2
   have i4:Hi (qH (rv n P) (k+1)=qH (rv n P) k++ [.int .i64 y1,.int .i64 y2]):=by
    show _=_;rw[qH,j6.o,I,J]
   have k0:Y<w2.heap.size:=aM E Z.size;have r0:=dS r;have r1:(r:Int)<(n:Int):=by omega
   have r2:IntKind.i64.wrap ((r:Int)-1)=(r:Int)-1:=iw;clear f Z I J hr;have HR:=U;go_wp2_with fail
   refine gx 9 7 [0,1,2,3,4,5,6] (by kernel_rfl) (by kernel_rfl) (by kernel_rfl) (by decide) (by kernel_rfl) ?_;simp only[ac,aj,aK,aC,aa,ae,af];refine ej ?_;refine ej ?_;refine ej ?_;refine ej ?_;refine ej ?_;refine ej ?_;refine kk (ay.built 1 #[y1,y2] 43) (by decide) (by decide) ?_ ?_
   ·intro u wx o hd;have y:=dx o;have k7:w.heap.size+1+1<wx.heap.size:=by omega
    have k8:Y<wx.heap.size:=by omega
    obtain⟨hc,hf⟩:=br o;have T:=ar o;clear o y;simp[aU,ai,aR,ay.is,ay.any]at hd;go_simp;exact⟨(ah _ _).alloc (aB _) _,ki _ _ _ _⟩
   refine iV ((w.heap.size+1+1+1)) (.tmp 20) (.tmp 25) 53 rfl rfl 43 i0 (.agg #[(),()]) 2 16 (k) (1) (qH (rv n P) k) [.int .i64 y1,.int .i64 y2] k5 k3 h4 h5 h6 rfl (by decide) (.slice ov k cv) (by decide) (HR.o) (by omega) (by unfold maxLen;omega) (by omega) rfl (by intro u hu;simp only[bj,List.not_mem_nil,or_false]at hu;rcases hu with rfl|rfl<;>rfl) ?_ ?_
   ·intro u wx o hd;have y:=dx o;have k7:w.heap.size+1+1<wx.heap.size:=by omega
    have k8:Y<wx.heap.size:=by omega
    obtain⟨hc,hf⟩:=br o;have T:=ar o;clear o y;simp[aU,ai,aR,ay.is,ay.any]at hd;obtain⟨a,b⟩:=hd;obtain⟨g,g8,k1⟩:=b;refine⟨by first|exact a|simpa [Act.eval]using a,some ⟨g,0,none⟩,1,by first|exact g8|simpa [Act.eval]using g8,fun h=>(by cases h),fun ad j9 j u hj=> ?_⟩;cases j9;exact ie k1 j u hj
   refine vO ?_;intro u w5 d4 t;replace d4:(ay.app _ _ _ _ _ _ _).p (u 7) w5:=d4;have e0:u 0=_:=t 0 (by decide) (by decide) (dp.is _);have e1:u 1=_:=t 1 (by decide) (by decide) (dp.is _);have e2:u 2=_:=t 2 (by decide) (by decide) (dp.is _);have e3:u 3=_:=t 3 (by decide) (by decide) (dp.is _);have e4:u 4=_:=t 4 (by decide) (by decide) (dp.is _);have e5:u 5=_:=t 5 (by decide) (by decide) (dp.is _);have e8:u 8=_:=t 8 (by decide) (by decide) (dp.is _);obtain⟨z,a7,h3,g9⟩:=d4;(try simp only[aw,aT]at h3 g9);simp only[am,ax,ac,aj,aK,aC,aa,ae,af,e0,e1,e2,e3,e4,e5,e8];clear e0 e1 e2 e3 e4 e5 e8 t;generalize u 7=vw5 at*
   replace z:=ar z;obtain⟨o5,c5,k6⟩:=cj z.o;subst k6;have e9:Hi (w5.heap[w.heap.size+1+1]?=some (.cells #[.slice ov k cv,Nat] 56)):=(a7.block _ zs (fun e=>by have:=bU U.o _ e.symm;omega)).trans HA.o;clear s0 s1 sz c0 c1;obtain⟨s0,-,sf,-⟩:=al e9.o;go_wp2;generalize g6:w5.setCell (w.heap.size+1+1,0) (.slice o5 (k+1) c5)=w7;have b6:=ar g6;clear g6;have h8:Hi (w7.heap[w.heap.size+1+1]?=some (.cells #[.slice o5 (k+1) c5,Nat] 56)):=by
    show _=_;rw[←b6.o,heap_setCell_same w5 (w.heap.size+1+1) 0 _ _ _ e9.o];rfl
   have j5:Hi (w7.ownsRow (w.heap.size+1+1+1) 43 2 (.slice o5 (k+1) c5) (k+1) (qH (rv n P) (k+1))):=by
    show World.ownsRow _ _ _ _ _ _ _;rw[i4.o,←b6.o];exact cZ z.o fun g hg=>da _ _ _ _ _ (by show g≠_;have:=bU z.o g hg;omega)
   have H7:Hi (aF w w7 L):=by
    show aF _ _ _;rw[←b6.o];exact(aF.grown s.o a7 fun g hg=>⟨by have:=bU U.o g hg;omega,fun x hx e=>by have:=f5.o x hx;have:=bU U.o g hg;omega⟩).setO (by omega) (fun x hx e=>by have:=f5.o x hx;omega)
   go_roundw
   case rel=>exact⟨r,k+1,o5,c5,by have a:=g0.o;have b:=X.o;show _=_;omega,rfl,j5,h8,H7⟩
   case measure=>first|(simp[intOf];done)|(simp[intOf];have:=g0.o;omega)
  ·obtain rfl:p=0:=by omega
   have a6:k=n:=by have:=X.o;omega
   have HV:Hi (bO w2 (.slice ov n cv) n (rv n P)):=by
    have:=Dn U.o;rw[a6]at this;exact this
   have H4:Hi (aF w w2 ((w.heap.size+1+1,#[.slice ov n cv,Nat],56)::L)):=⟨s.o.1,fun x hx=>by
    rcases bj.1 hx with rfl|hx
    ·rw[←a6];exact HA.o
    ·exact s.o.2 x hx⟩
   rw[a6]at s0;have km:((0:Nat):Int)-1= -1:=rfl;rw[km];clear U HA s a6 X hp0 km;obtain⟨-,-,-,tz⟩:=al (aF.nth (aF.tail H4.o) HL.o 0 rfl);obtain⟨-,-,-,qz⟩:=al (aF.nth (aF.tail H4.o) HL.o 1 rfl);go_wp2_with fail
   (go_at_call 23;refine mz (h9.o _ _ HV.o) fun w3 c7=> ?_);have H5:=ar (aF.step H4.o c7);have b1:=ar (HV.o.below c7);clear c7 H4 HV s0 s1 sz tz qz zs;obtain⟨s0,s1,-,-⟩:=al (H5.o.get 0 rfl);obtain⟨t0,t1,-,tz⟩:=al (aF.nth (aF.tail H5.o) HL.o 0 rfl);obtain⟨q0,q1,-,qz⟩:=al (aF.nth (aF.tail H5.o) HL.o 1 rfl);obtain⟨Z0,c4⟩:=oE (db n (rv n P) (K,N));have b5:=ar (g3.o w3 _ K N b1.o);rw[c4]at b5;have g4:=ar c4;clear c4;go_wp2_with fail
   (go_at_call 59;refine mz (b5.o) fun Q c8=> ?_);have H6:=ar (aF.step H5.o c8);have g1:=ar (b1.o.below c8);clear c8 b5 H5 b1;clear s0 s1 t0 t1 tz q0 q1 qz;obtain⟨t0,t1,-,tz⟩:=al (aF.nth (aF.tail H6.o) HL.o 0 rfl);obtain⟨q0,q1,-,qz⟩:=al (aF.nth (aF.tail H6.o) HL.o 1 rfl);by_cases y:Z0<1
   ·have kz:decide (Z0<1)=true:=decide_eq_true y;have b8:=ar y;clear y;have H:Hi (R=false):=by
     show _=_;rw[←HR.o,cG];intro hc;have hp:=ii.1 hc;have a:=hp.1;rw[g4.o]at a;have:=b8.o;omega
    go_wp2;go_returns;rw[H.o];exact⟨rfl,H6.o.1⟩
   have kz:decide (Z0<1)=false:=decide_eq_false y;have j7:Hi (1≤Z0):=by show _≤_;omega
   clear y;obtain⟨L2,c3,h7⟩:=aF.ex (aF.alloc H6.o Q.heap.size rfl #[c,d,a,d,a,b,c,b] 43);obtain⟨G,hG⟩:=oE Q.heap.size;rw[hG]at c3;have i7:=ar hG;have F:=ar (c3.trans (congrArg (fun l=>(G,#[.int .i64 c,.int .i64 d,.int .i64 a,.int .i64 d,.int .i64 a,.int .i64 b,.int .i64 c,.int .i64 b],43)::(w.heap.size+1+1,#[.slice ov n cv,.slice none 0 0],56)::l) HL.o));have H7:=ar h7;have a3:=ar (g1.o.below (w':=Q.alloc (.cells #[c,d,a,d,a,b,c,b] 43)) ((ah _ _).alloc (aB _) _));clear c3 h7 hG;go_wp2;rw[i7.o];clear t0 t1 tz q0 q1 qz;go_loopw[10] (fun x wr=>∃k:Nat,k≤4∧x= .int .i64 (k:Int)∧Hi (∀q,q<k→0≤db n (rv n P) (dl (c,d) (a,b) q))∧Hi (aF w wr L2)∧Hi (bO wr (.slice ov n cv) n (rv n P))) (fun x _=>4-(intOf x).toNat)
   case atStart=>exact⟨0,by omega,rfl,fun q hq=>absurd hq (by omega),H7,a3⟩
   case round=>
    clear H6 H7 g1 a3;obtain⟨w9,rfl⟩:∃x:World,x=Q:=⟨_,rfl⟩;obtain⟨Q,rfl⟩:=wE wr;obtain⟨k,hk,rfl,HK,s,HV⟩:=hrel;obtain⟨s0,s1,-,sz⟩:=al (aF.nth s.o F.o 1 rfl);by_cases hk4:k<4
    ·have a5:#[.int .i64 c,.int .i64 d,.int .i64 a,.int .i64 d,.int .i64 a,.int .i64 b,.int .i64 c,.int .i64 b][k*2]?=some (Value.int .i64 (dl (c,d) (a,b) k).1)∧#[.int .i64 c,.int .i64 d,.int .i64 a,.int .i64 d,.int .i64 a,.int .i64 b,.int .i64 c,.int .i64 b][k*2+1]?=some (Value.int .i64 (dl (c,d) (a,b) k).2):=by
      rcases(by omega:k=0∨k=1∨k=2∨k=3)with rfl|rfl|rfl|rfl<;>exact⟨rfl,rfl⟩
     obtain⟨c1,c9⟩:=oE ((dl (c,d) (a,b) k).1);obtain⟨c2,d2⟩:=oE ((dl (c,d) (a,b) k).2);have f2:Hi (dl (c,d) (a,b) k=(c1,c2)):=Prod.ext c9 d2;rw[c9,d2]at a5;have d0:=aX (aF.nth s.o F.o 0 rfl) a5.1;have d1:=aX (aF.nth s.o F.o 0 rfl) a5.2;have zg:=aF.len s.o F.o 0 rfl;have i0:=dS k;have i1:(k:Int)<4:=by omega
     obtain⟨Z1,c6⟩:=oE (db n (rv n P) (c1,c2));have g2:Hi (∀W,Below Q.heap.size Q W→Gv 59 #[.agg #[.slice ov n cv,Nat],.agg #[c1,c2]] (.int .i64 Z1) W):=fun W o=>by rw[←c6];exact g3.o W _ c1 c2 (HV.o.below o)
     have g5:=ar c6;clear c9 d2 c6 a5;by_cases y:Z1<0
     ·have kz:decide (Z1<0)=true:=decide_eq_true y;have b8:=ar y;clear y;go_wp2_with fail
      refine aD 7 ?_;simp only[ac,aj,aK,aC,aa,ae,af];iterate 5 refine bJ ?_
      apply bg
      ·intro u wx y hc hf T hd;simp[aU,ai,aR,ay.is,ay.any]at hd;go_simp
       first|rfl|(go_at_call 59;refine(g2.o _ T.o).mono ?_;rintro e w1 ⟨rfl,A⟩;first|exact⟨rfl,A⟩|exact⟨_,rfl,A,rfl⟩)
      refine bJ ?_;intro u w6 o t;simp only[cF,aR,ay.is,aE,aA,reduceIte]at t;simp only[am,ax,ac,aj,aK,aC,aa,ae,af,t];clear t;have f1:=ar o;have m:=ar o;have O:=dx o;have d8:w.heap.size+1+1<w6.heap.size:=by omega
      have d9:G<w6.heap.size:=by omega
      obtain⟨C,D⟩:=br o;clear o O;have H7:=ar (aF.step s.o m.o);clear C D d0 d1 zg;have H:Hi (R=false):=by
       show _=_;rw[←HR.o,cG];intro hc;have hp:=ii.1 hc;have a:=hp.2.1 k hk4;rw[f2.o,g5.o]at a;have:=b8.o;omega
      go_wp2;go_returns;rw[H.o];exact⟨rfl,H7.o.1⟩
     have kz:decide (Z1<0)=false:=decide_eq_false y;have j1:Hi (∀q,q<k+1→0≤db n (rv n P) (dl (c,d) (a,b) q)):=fun q hq=>by
      by_cases e:q=k
      ·rw[e,f2.o,g5.o];omega
      ·exact HK.o q (by omega)
     clear y;go_wp2_with fail
     refine aD 7 ?_;simp only[ac,aj,aK,aC,aa,ae,af];iterate 5 refine bJ ?_
     apply bg
     ·intro u wx y hc hf T hd;simp[aU,ai,aR,ay.is,ay.any]at hd;go_simp
      first|rfl|(go_at_call 59;refine(g2.o _ T.o).mono ?_;rintro e w1 ⟨rfl,A⟩;first|exact⟨rfl,A⟩|exact⟨_,rfl,A,rfl⟩)
     refine bJ ?_;intro u w6 o t;simp only[cF,aR,ay.is,aE,aA,reduceIte]at t;simp only[am,ax,ac,aj,aK,aC,aa,ae,af,t];clear t;have f1:=ar o;have m:=ar o;have O:=dx o;have d8:w.heap.size+1+1<w6.heap.size:=by omega
     have d9:G<w6.heap.size:=by omega
     obtain⟨C,D⟩:=br o;clear o O;have H7:=ar (aF.step s.o m.o);have a3:=ar (HV.o.below m.o);clear C D d0 d1 zg;go_wp2;go_roundw
     case rel=>exact⟨k+1,by omega,by go_num,j1,H7,a3⟩
     case measure=>simp[intOf];omega
    ·have j2:Hi (∀q,q<4→0≤db n (rv n P) (dl (c,d) (a,b) q)):=fun q hq=>HK.o q (by omega);have H8:=s;clear HK HV s;go_wp2;clear hk hk4;go_loopw[11] (fun x wr=>∃j:Nat,j≤n∧x= .int .i64 (j:Int)∧Hi (∀i,i<j→jA (P i) (P (nx n i)) (c,d) (a,b)=false)∧Hi (aF w wr L2)) (fun x _=>n-(intOf x).toNat)
     case atStart=>exact⟨0,by omega,rfl,fun q hq=>absurd hq (by omega),H8⟩
     case round=>
      clear H8;obtain⟨w8,rfl⟩:∃x:World,x=Q:=⟨_,rfl⟩;obtain⟨Q,rfl⟩:=wE wr;obtain⟨j,hj,rfl,HJ,s⟩:=hrel;obtain⟨-,-,-,sz⟩:=al (aF.nth s.o F.o 1 rfl);obtain⟨t0,t1,-,tz⟩:=al (aF.nth s.o F.o 2 rfl);obtain⟨q0,q1,-,qz⟩:=al (aF.nth s.o F.o 3 rfl);by_cases hlt:j<n
      ·obtain⟨J1,a4⟩:=oE ((j:Int)+1);obtain⟨q,hq⟩:=oE (nx n j);have qn:q<n:=by rw[←hq];exact dW (by omega)
       have i1:IntKind.i64.wrap ((j:Int)+1)=J1:=by rw[a4];exact iw
       have i2:J1.tmod (n:Int)=(q:Int):=by rw[←a4,←hq];exact gz hlt
       have i3:IntKind.i64.wrap (q:Int)=(q:Int):=iw;have i0:¬n=0:=by omega
       have i5:=dS q;have i6:(q:Int)<(n:Int):=by omega
       have f4:=ar a4;have Hq:=ar hq;have i8:=dS j;have i9:(j:Int)<(n:Int):=by omega
       clear a4 hq;obtain⟨Y,fc,rfl,E,f⟩:=f3.o j hlt;have Z:=s.o.1;have c0:Q.cell? (Y,fc+j*2)=some (.int .i64 (P j).1):=bI Z E (f j hlt).1;have c1:Q.cell? (Y,fc+j*2+1)=some (.int .i64 (P j).2):=bI Z E (f j hlt).2;have d0:Q.cell? (Y,fc+q*2)=some (.int .i64 (P q).1):=bI Z E (f q qn).1;have d1:Q.cell? (Y,fc+q*2+1)=some (.int .i64 (P q).2):=bI Z E (f q qn).2;have k0:Y<Q.heap.size:=by have:=Z.size;omega
       have f6:=ar (f7.o j hlt);have f8:=ar (f7.o q qn);obtain⟨x1,d6⟩:=oE ((P j).1);obtain⟨x2,d7⟩:=oE ((P j).2);obtain⟨y1,I⟩:=oE ((P q).1);obtain⟨y2,J⟩:=oE ((P q).2);have a9:Hi (P j=(x1,x2)):=Prod.ext d6 d7;have b0:Hi (P q=(y1,y2)):=Prod.ext I J;rw[a9.o]at f6;rw[b0.o]at f8;rw[d6]at c0;rw[d7]at c1;rw[I]at d0;rw[J]at d1;obtain⟨B,b9⟩:=oE (jA (x1,x2) (y1,y2) (c,d) (a,b));have f0:=ar b9;have HC:Hi (∀W,Gv 107 #[.agg #[x1,x2],.agg #[y1,y2],.agg #[c,d],.agg #[a,b]] (.bool B) W):=fun W=>by rw[←b9];exact wU c d a b x1 x2 y1 y2 W f6.o f8.o j4.o j3.o
       clear f Z d6 d7 I J b9;go_wp2_with fail
       refine aD 15 ?_;simp only[ac,aj,aK,aC,aa,ae,af];iterate 14 refine bJ ?_
       apply bg
       ·intro u wx y hc hf T hd;simp[aU,ai,aR,ay.is,ay.any]at hd;go_simp
        first|rfl|(go_at_call 107;refine(HC.o _).mono ?_;rintro e w1 ⟨rfl,A⟩;first|exact⟨rfl,A⟩|exact⟨_,rfl,A,rfl⟩)
       intro u w6 o t;simp only[cF,aR,ay.is,aE,aA,reduceIte]at t;simp only[am,ax,ac,aj,aK,aC,aa,ae,af,t];clear t;obtain⟨O,l3,C,D,m⟩:=pr o;clear o;have H9:=ar (aF.step s.o m.o);clear C D c0 c1 d0 d1;obtain rfl|rfl:B=true∨B=false:=by cases B<;>simp
       ·have H:Hi (R=false):=by
         show _=_;rw[←HR.o,cG];intro hc;have hp:=ii.1 hc;have a:=hp.2.2 j hlt;rw[Hq.o,a9.o,b0.o,f0.o]at a;cases a
        go_wp2;go_returns;rw[H.o];exact⟨rfl,H9.o.1⟩
       have j0:Hi (∀i,i<j+1→jA (P i) (P (nx n i)) (c,d) (a,b)=false):=fun i hi=>by
        by_cases e:i=j
        ·rw[e,Hq.o,a9.o,b0.o,f0.o]
        ·exact HJ.o i (by omega)
       go_wp2;go_roundw
       case rel=>
        have j8:=f4.o;exact⟨j+1,by omega,by first|go_num|(rw[←j8];go_num),j0,H9⟩
       case measure=>simp[intOf];have:=f4.o;omega
      ·have H:Hi (R=true):=by
        show _=_;rw[←HR.o];exact ii.2 ⟨by rw[g4.o];exact j7.o,j2.o,fun i hi=>HJ.o i (by omega)⟩
       go_wp2;go_returns;rw[H.o];exact⟨rfl,s.o.1⟩
theorem aF.add {w W:World} {L:List (Nat×Array Value×TypeId)} {b:Nat} {C:Array Value} {t:TypeId} (h:aF w W L) (c:W.heap[b]?=some (.cells C t)):aF w W ((b,C,t)::L):=⟨h.1,fun x a=>by
 rcases bj.1 a with rfl|a
 ·exact c
 ·exact h.2 x a⟩
theorem wV (D:bX) (S:cN) (sz x y:Int) (w:World) (h:dj w D S) (d8:Hi (∀i,i<D.nh→dT (D.hn i) (D.H i)∧bP (D.hn i) (D.H i)<0)) (i3:1≤sz∧sz≤10000) (ha:(-32768≤x∧x≤32768)∧ -32768≤y∧y≤32768) (i2:D.nh≤8):
 Gv 21 #[.agg (aH D S),.agg #[.string D.id,x,y,sz]] (.bool (nJ D.nh D.hn D.H sz (x,y))) w:=by
 obtain⟨f,Y⟩:=oE ((sz+1)/2);have c9:0≤f∧f≤5000:=by omega
 rw[Ad D.nh D.hn D.H sz f x y Y.symm];generalize hR:decide (∃k,k<D.nh∧fz (D.hn k) (D.H k) (x-f,y-f) (x+f,y+f) (x,y)=true)=R;have g1:decide (sz<1)=false:=df;have g2:decide (10000<sz)=false:=df;have u1:IntKind.i64.wrap (sz+1)=sz+1:=iw;have u2:(sz+1).tdiv 2=f:=by rw[Int.tdiv_eq_ediv_of_nonneg (by omega)];exact Y
 have u3:IntKind.i64.wrap f=f:=iw;obtain⟨v,G⟩:=oE (x-f);obtain⟨z,H⟩:=oE (y-f);obtain⟨s,E⟩:=oE (x+f);obtain⟨t,F⟩:=oE (y+f);have u4:IntKind.i64.wrap (x-f)=v:=by rw[G];exact iw
 have u5:IntKind.i64.wrap (y-f)=z:=by rw[H];exact iw
 have u6:IntKind.i64.wrap (x+f)=s:=by rw[E];exact iw
 have u7:IntKind.i64.wrap (y+f)=t:=by rw[F];exact iw
 have f8:Hi (∀W k,Below w.heap.size w W→k<D.nh→Gv 62 #[.slice (S.oh k) (D.hn k) (S.ch k),.agg #[v,z],.agg #[s,t]] (.bool (fz (D.hn k) (D.H k) (v,z) (s,t) (x,y))) W):=fun W k b hk=>yM _ (D.hn k) (D.H k) x y f v z s t W ((h.2.2 k hk).below b) (d8.o k hk).1 (d8.o k hk).2 G.symm H.symm E.symm F.symm c9 ha;have a3:Hi (∀W n,-32768≤n∧n≤32768→Gv 61 #[.int .i64 n] (.bool true) W):=fun W n hn=>Ee n W hn;have HR:Hi (decide (∃k,k<D.nh∧fz (D.hn k) (D.H k) (v,z) (s,t) (x,y)=true)=R):=by show _=_;rw[←hR,G,H,E,F]
 have f9:=ar h.2;have d6:=h.2.form;obtain⟨i4,g8,c6,g7,g5,-⟩:=d6;have a2:=ar ha;simp only[Value.slice.injEq]at c6;clear hR G H E F Y h ha c6 g7 g5 c9;go_enter func21,ntmps21;have a4:Hi (((w.alloc (.cells (aH D S) 62)).alloc (.cells #[.string D.id,x,y,sz] 45)).heap[w.heap.size]?=some (.cells (aH D S) 62)):=(aV _ _ _ (by simp)).trans (bf _ _ _ rfl);have f5:((w.alloc (.cells (aH D S) 62)).alloc (.cells #[.string D.id,x,y,sz] 45)).cell? w.heap.size=some D.id:=aX a4.o rfl;go_wp2_with fail
 (go_at_call 61;refine mz (a3.o _ _ a2.o.1) fun w1 l=> ?_);obtain⟨L,hL,c7⟩:=aF.ex (aF.step (((aF.nil (ah w.heap.size w)).alloc (w.heap.size) rfl _ _).alloc (w.heap.size+1) (by simp) _ _) l);have HL:=ar hL;have H1:=ar c7;clear hL c7 l f5 a4;obtain⟨-,-,o2,-,-,-⟩:=bR (aF.nth H1.o HL.o 0 rfl);go_wp2_with fail
 (go_at_call 61;refine cy (a3.o _ _ a2.o.2) H1 fun w2 H2=> ?_);clear o2;obtain⟨-,o1,o2,o3,-,oz⟩:=bR (aF.nth H2.o HL.o 0 rfl);go_wp2_with fail
 refine dd 26 [⟨22,24,#[(),()],43⟩,⟨23,25,#[(),()],43⟩] [] (by kernel_rfl) (by kernel_rfl) (by kernel_rfl) (by kernel_rfl) (by kernel_rfl) ?_ ?_ ?_
 ·intro r hr;cases hr
 ·intro r hr;cases hr
 simp only[ac,aj,aK,aC,aa,ae,af];iterate 22
  apply dE (by kernel_rfl)
  ·intro u g b h;replace b:=b.nil;have hz:=dx b;have f0:w.heap.size<g.heap.size:=by omega
   have f1:w.heap.size+1<g.heap.size:=by omega
   obtain⟨hc,hf⟩:=br b;clear b hz;simp[cL,ai,dK,bN,dm.is,dm.any]at h;go_simp
   first|exact⟨ah _ _,rfl⟩|rfl
 refine dZ ⟨22,24,#[(),()],43⟩ (by simp) rfl ?_ ?_
 ·intro u g b;refine⟨by simp[au],?_⟩;go_simp
  first|done|rfl|exact⟨rfl,rfl⟩
 refine dZ ⟨23,25,#[(),()],43⟩ (by simp) rfl ?_ ?_
 ·intro u g b;refine⟨by simp[au],?_⟩;go_simp
  first|done|rfl|exact⟨rfl,rfl⟩
 apply cC ⟨22,24,#[(),()],43⟩ (by simp) rfl (by kernel_rfl) rfl (by kernel_rfl)
 ·intro u g b h;replace b:=b.nil;have hz:=dx b;have f0:w.heap.size<g.heap.size:=by omega
  have f1:w.heap.size+1<g.heap.size:=by omega
  obtain⟨hc,hf⟩:=br b;clear b hz;simp[cL,ai,dK,bN,dm.is,dm.any]at h;refine⟨by simp[au],fun b' m g6 d=> ?_⟩;have d9:u 22= .pointer (some b'):=m;have a:g.heap[b']?=some (.cells #[(),()] 43):=d;have g4:=al a;have P:=ar a;clear d a m;go_simp;exact bL.c2 P.o _ _
 apply cC ⟨23,25,#[(),()],43⟩ (by simp) rfl (by kernel_rfl) rfl (by kernel_rfl)
 ·intro u g b h;replace b:=b.nil;have hz:=dx b;have f0:w.heap.size<g.heap.size:=by omega
  have f1:w.heap.size+1<g.heap.size:=by omega
  obtain⟨hc,hf⟩:=br b;clear b hz;simp[cL,ai,dK,bN,dm.is,dm.any]at h;refine⟨by simp[au],fun b' m g6 d=> ?_⟩;have d9:u 23= .pointer (some b'):=m;have a:g.heap[b']?=some (.cells #[(),()] 43):=d;have g4:=al a;have P:=ar a;clear d a m;go_simp;exact bL.c2 P.o _ _
 intro u w5 b c hV hP;replace b:=b.nil;clear hP;have e0:u 0=_:=eE c 0;have e1:u 1=_:=eE c 1;have e2:u 2=_:=eE c 2;have e3:u 3=_:=eE c 3;have e4:u 4=_:=eE c 4;have e5:u 5=_:=eE c 5;have e6:u 6=_:=eE c 6;have e7:u 7=_:=eE c 7;have e8:u 8=_:=eE c 8;have e9:u 9=_:=eE c 9;have a7:u 10=_:=eE c 10;have a8:u 11=_:=eE c 11;have a9:u 12=_:=eE c 12;have b5:u 13=_:=eE c 13;have b6:u 14=_:=eE c 14;have b8:u 15=_:=eE c 15;have b9:u 16=_:=eE c 16;have c1:u 17=_:=eE c 17;have c2:u 18=_:=eE c 18;have c3:u 19=_:=eE c 19;have c4:u 20=_:=eE c 20;have c5:u 21=_:=eE c 21;have T:u 24=_:=eE c 24;have U:u 25=_:=eE c 25;obtain⟨⟨VA,I,f2,p⟩,⟨f4,-⟩,⟨⟨VB,J,f3,q⟩,-,-⟩⟩:=hV;replace p:w5.heap[VA]?=some (.cells (u 24).cells 43):=p;rw[T]at p;replace I:u 22= .pointer (some VA):=I;have a5:=ar p;clear p;replace q:w5.heap[VB]?=some (.cells (u 25).cells 43):=q;rw[U]at q;replace J:u 23= .pointer (some VB):=J;have a6:=ar q;clear q;clear f4;(try simp only[aw,aT]at f2);(try have h7:w2.heap.size≤VA:=by omega);clear f2;(try simp only[aw,aT]at f3);(try have h8:w2.heap.size≤VB:=by omega);clear f3;simp only[am,ax,ac,aj,aK,aC,aa,ae,af,e0,e1,e2,e3,e4,e5,e6,e7,e8,e9,a7,a8,a9,b5,b6,b8,b9,c1,c2,c3,c4,c5,T,U,I,J];clear e0 e1 e2 e3 e4 e5 e6 e7 e8 e9 a7 a8 a9 b5 b6 b8 b9 c1 c2 c3 c4 c5 T U I J c;have N:=ar b;obtain⟨h4,h0,d0,d3,f7⟩:=pr b;clear b;have H5:=ar (aF.step H2.o N.o);obtain⟨L2,c8,h6⟩:=aF.ex (aF.add (aF.add H5.o a5.o) a6.o);have A:Hi (L2= [(VB,#[.int .i64 s,.int .i64 t],43),(VA,#[.int .i64 v,.int .i64 z],43),(w.heap.size+1,#[.string D.id,.int .i64 x,.int .i64 y,.int .i64 sz],45),(w.heap.size,aH D S,62)]):=by show _=_;rw[c8,HL.o];rfl
 have H6:=ar h6;clear c8 h6 d0 d3 o1 o2 o3 oz H5;go_wp2;go_loopw[8] (fun i wr=>∃j:Nat,j≤D.nh∧i= .int .i64 (j:Int)∧Hi (∀k,k<j→fz (D.hn k) (D.H k) (v,z) (s,t) (x,y)=false)∧Hi (aF w wr L2)) (fun i _=>D.nh-(intOf i).toNat)
 case atStart=>exact⟨0,by omega,rfl,fun k hk=>absurd hk (by omega),H6⟩
 case round=>
  clear H6;obtain⟨w6,rfl⟩:=wE wr;obtain⟨j,hj,rfl,HK,C⟩:=hrel;have g3:Hi (w6.heap[w.heap.size]?=some (.cells (aH D S) 62)):=aF.nth C.o A.o 3 rfl;have o:w6.cell? (w.heap.size,7)=some (.slice S.oq D.nh S.cq):=aX g3.o rfl;have zp:=aF.len C.o A.o 3 rfl;obtain⟨a0,a1,-,az⟩:=al (aF.nth C.o A.o 1 rfl);obtain⟨b0,b1,-,bz⟩:=al (aF.nth C.o A.o 0 rfl);by_cases hlt:j<D.nh
  ·obtain⟨oa,d7⟩:=oE S.oq;have Z:=f9.o;rw[d7]at Z o;obtain⟨i5,g9,e2,-,-,d2⟩:=Z.form;simp only[Value.slice.injEq]at e2;obtain⟨bc,fc,X,d5,K⟩:=d2 j hlt;rw[←e2.1]at X;rw[X]at o;have c0:w6.cell? (bc,fc+j)=some (.slice (S.oh j) (D.hn j) (S.ch j)):=bI C.o.1 d5 (K j hlt);have h9:bc<w6.heap.size:=aM d5 C.o.1.size;have i0:=dS j;have i1:(j:Int)<(D.nh:Int):=by omega
   obtain⟨B,hB⟩:=oE (fz (D.hn j) (D.H j) (v,z) (s,t) (x,y));have HB:=ar hB;have HC:Hi (∀W,Below w.heap.size w W→Gv 62 #[.slice (S.oh j) (D.hn j) (S.ch j),.agg #[v,z],.agg #[s,t]] (.bool B) W):=fun W b=>by rw[←hB];exact f8.o W j b hlt
   clear K Z d2 d7 e2 X hB;go_wp2_with fail
   refine aD 9 ?_;simp only[ac,aj,aK,aC,aa,ae,af];iterate 8 refine bJ ?_
   apply bg
   ·intro u g hz hc hf f6 h;simp[aU,ai,aR,ay.is,ay.any]at h;go_simp
    first|rfl|(go_at_call 62;refine(HC.o _ (ag (w:=w) C.o.1 f6.o)).mono ?_;rintro e w1 ⟨rfl,l⟩;first|exact⟨rfl,l⟩|exact⟨_,rfl,l,rfl⟩)
   intro u w7 b c;simp only[cF,aR,ay.is,aE,aA,reduceIte]at c;simp only[am,ax,ac,aj,aK,aC,aa,ae,af,c];clear c;obtain⟨h5,h3,d1,d4,O⟩:=pr b;clear b;have H7:=ar (aF.step C.o O.o);clear d1 d4 c0 o a0 a1 az b0 b1 bz;obtain rfl|rfl:B=true∨B=false:=by cases B<;>simp
   ·have Q:Hi (R=true):=by
     show _=_;rw[←HR.o];exact decide_eq_true ⟨j,hlt,HB.o⟩
    go_wp2;go_returns;rw[Q.o];exact⟨rfl,H7.o.1⟩
   have g0:Hi (∀k,k<j+1→fz (D.hn k) (D.H k) (v,z) (s,t) (x,y)=false):=fun k hk=>by
    by_cases e:k=j
    ·rw[e,HB.o]
    ·exact HK.o k (by omega)
   go_wp2;go_roundw
   case rel=>exact⟨j+1,by omega,by go_num,g0,H7⟩
   case measure=>simp[intOf];omega
  ·have Q:Hi (R=false):=by
    show _=_;rw[←HR.o];refine decide_eq_false ?_;rintro ⟨k,hk,hc⟩;rw[HK.o k (by omega)]at hc;cases hc
   go_wp2;go_returns;rw[Q.o];exact⟨rfl,C.o.1⟩
def Cl (sz:Int) (x:ByteArray×Pt):List Value:= [.string x.1,.int .i64 x.2.1,.int .i64 x.2.2,.int .i64 sz]
def lr:ByteArray×Pt:=(⟨#[]⟩,(0,0))
def iq (w:World) (v:Value) (sz:Int) (l:List (ByteArray×Pt)):Prop:=bs w v l.length 4 (fun i=>(Cl sz (l.getD i lr)).toArray)
theorem iq.below {w w':World} {v:Value} {sz:Int} {l:List (ByteArray×Pt)} (h:iq w v sz l) (a:Below w.heap.size w w'):iq w' v sz l:=bs.below h a
theorem wW {w:World} {B:Nat} {t:TypeId} {v:Value} {sz:Int} {l:List (ByteArray×Pt)} (h:w.ownsRow B t 4 v l.length (eo (Cl sz) l)):iq w v sz l:=
 fv h _ (by decide) fun i j b a=>by
  rw[rD (k:=4) (fun _=>rfl) l i j (l.getD i lr) (by rw[aO,aS b];rfl) a]
  match j,a with
  |0,_=>rfl
  |1,_=>rfl
  |2,_=>rfl
  |3,_=>rfl
theorem Ae (sz:Int) (l:List (ByteArray×Pt)) (x:ByteArray×Pt):eo (Cl sz) (l++ [x])=eo (Cl sz) l++ [.string x.1,.int .i64 x.2.1,.int .i64 x.2.2,.int .i64 sz]:=by
 rw[ow];rfl
theorem Ga {w a:World} {B k n:Nat} {t e f:TypeId} {v:Value} {b:List Value} {z cs:Array Value} (h:w.ownsRow B t k v n b) (d:bL (w.alloc (.cells z e)) a w.heap.size cs f):a.ownsRow B t k v n b:=
 cZ h fun g c=>by
  have:=(eh h c).2;exact(d.other g (by omega)).trans (aV _ _ _ this)
theorem aF.rowx {w W b:World} {L:List (Nat×Array Value×TypeId)} {B n k:Nat} {t:TypeId} {v:Value} {j:List Value} (h:aF w W L) (g:∀x∈L,x.1<B∨t≠x.2.2) (f:w.heap.size≤B) (a:W.ownsRow B t k v n j) (i:W.grownBy b v.ownBlock):aF w b L:=
 h.grown i fun q e=>⟨bW f (bU a q e),fun x c d=>by
  rcases g x c with h1|h1
  ·have:=bU a q e;omega
  ·exact jj a (h.2 x c) h1 (e.trans (congrArg some d.symm))⟩
def jf (nh:Nat) (hn:Nat→Nat) (H:Nat→Nat→Pt) (sz:Int) (l:List Pt):Nat→List Pt
 |0=> []
 |j+1=>jf nh hn H sz l j++(if nJ nh hn H sz (l.getD j (0,0))=true then []else [l.getD j (0,0)])
theorem wX {nh:Nat} {hn:Nat→Nat} {H:Nat→Nat→Pt} {sz:Int} {l:List Pt}:∀{j:Nat},j≤l.length→jf nh hn H sz l j=jC nh hn H sz (l.take j)
 |0,_=>rfl
 |j+1,hj=>by
  have a:=wX (nh:=nh) (hn:=hn) (H:=H) (sz:=sz) (l:=l) (j:=j) (by omega);unfold jf;rw[a];unfold jC;rw[List.take_add_one,List.filter_append];congr 1;have e:l[j]?=some (l.getD j (0,0)):=by rw[aO,aS (by omega)];rfl
  rw[e];show(if nJ nh hn H sz (l.getD j (0,0))=true then []else [l.getD j (0,0)])=List.filter (fun q=> !nJ nh hn H sz q) [l.getD j (0,0)];cases c:nJ nh hn H sz (l.getD j (0,0))with
  |true=>rw[if_pos rfl,List.filter_cons_of_neg (by rw[c];decide)];rfl
  |false=>rw[if_neg (by decide),List.filter_cons_of_pos (by rw[c];decide)];rfl
theorem ui {nh:Nat} {hn:Nat→Nat} {H:Nat→Nat→Pt} {sz:Int} {l:List Pt}:jf nh hn H sz l l.length=jC nh hn H sz l:=by rw[wX (aB _),List.take_length]
theorem pJ (nh:Nat) (hn:Nat→Nat) (H:Nat→Nat→Pt) (sz:Int) (l:List Pt):∀j,(jf nh hn H sz l j).length≤j
 |0=>aB _
 |j+1=>by
  have:=pJ nh hn H sz l j;unfold jf;rw[aZ];split<;>simp<;>omega
def qZ (w:World) (X:bK) (S:dq):Prop:=∀i,i<X.np→dj w (X.D i) (S.sp i)
def mc (X:bK):Prop:=∀i,i<X.np→eL ((X.D i).a1,(X.D i).a2,(X.D i).a3) (X.D i).t=true∧((X.D i).kd=1→fP (X.D i).no (X.D i).P (X.D i).nh (X.D i).hn (X.D i).H)
theorem uj {m:fZ} {X:bK} (h:io m X):mc X:=fun i a=>⟨(h.pt i a).1.va,(h.pt i a).1.sh⟩
def oS (X:bK) (n:Nat) (K:Nat→V) (sz:Int) (w:World) (e:Ending) (w':World):Prop:=∃v,e= .returned v∧iq w' v sz (gI X n K sz X.np)∧Below w.heap.size w w'
theorem qB (X:bK) (S:dq) (v:Value) (n:Nat) (K:Nat→V) (sz:Int) (w:World) (s:gD w) (hr:Hi (cJ w X S)) (b0:Hi (qZ w X S)) (a:Hi (mc X)) (h:gL w v n K) (e7:n≤8) (g0:X.np≤40):
 Calls prog 6 #[.agg (bH X S),v,sz] w (oS X n K sz w):=by
 obtain⟨i0,G,f1,f2,f3⟩:=info_parts jm;have b1:Hi (∀W i,Below w.heap.size w W→i<X.np→Calls prog 18 #[.agg (aH (X.D i) (S.sp i)),v,sz] W (mR (X.D i) n K sz W)):=fun W i A G=>BG (X.D i) (S.sp i) v n K sz W (s.below A) (h.below A) ((b0.o i G).1.below A) (a.o i G).1 (fun hk=>⟨((a.o i G).2 hk).po,((a.o i G).2 hk).pos⟩) e7;have d5:Hi (∀W i q,Below w.heap.size w W→i<X.np→q∈dJ (X.D i) n K sz→Gv 19 #[.agg (aH (X.D i) (S.sp i)),.agg #[.string (X.D i).id,.int .i64 q.1,.int .i64 q.2,sz]] (.bool (nJ (X.D i).nh (X.D i).hn (X.D i).H sz q)) W):=fun W i q A G hq=>by
  have h1:=jl hq;have Z:=(a.o i G).2 h1.2;exact wT (X.D i) (S.sp i) sz q.1 q.2 W ((b0.o i G).below A) (fun k hk=>⟨Z.hp k hk,Z.neg k hk⟩) ⟨h1.1.2.2.1,h1.1.2.2.2.1⟩ (lW (fun hk=>((a.o i G).2 hk).po.pol) hq)
 obtain⟨oa,cap,rfl,-,-,-⟩:=h.form;have HR:=hr;have d7:=(HR.o.p).lim;clear s h b0 a hr;obtain⟨on,cn,op,cp,I,os,cs,ok,ck,sk,od,cd⟩:=S;unfold bH;dsimp only at b1 d5 d7⊢
 obtain⟨L,hL,h0⟩:=aF.ex (aF.alloc (aF.nil (ah w.heap.size w)) (w.heap.size) rfl #[.string X.hull,.slice on X.nn cn,.slice op X.np cp,.slice os X.ns cs,.slice ok X.nk ck,.slice od X.nd cd] 28);have HL:=ar hL;have H0:=ar h0;have e2:Hi (∀x∈L,x.1<w.heap.size+1):=fun x hx=>by
  rw[HL.o]at hx;simp only[bj,List.not_mem_nil,or_false]at hx;rcases hx with rfl;dsimp only;omega
 clear hL h0;go_enter func6,ntmps6;go_wp2;go_loopw[6,14] (fun v x wr=>∃(i:Nat) (l:List (ByteArray×Pt)),i≤X.np∧x= .int .i64 (i:Int)∧Hi (gI X n K sz i=l)∧Hi (wr.ownsRow (w.heap.size+1) 45 4 v l.length (eo (Cl sz) l))∧Hi (aF w wr L)∧w.heap.size<wr.heap.size) (fun _ x _=>X.np-(intOf x).toNat)
 case atStart=>exact⟨0,[],by omega,rfl,rfl,World.ownsRow_nil _ _ _ _,H0,by simp⟩
 case round=>
  clear H0;obtain⟨w2,rfl⟩:=wE wr;obtain⟨i,l,f8,rfl,hl,J,HO,g2⟩:=hrel;obtain⟨R,N,e8⟩:=cj J.o;subst e8;obtain⟨x0,x1,x2,x3,x4,x5,xf,xz⟩:=aJ (aF.nth HO.o HL.o 0 rfl);by_cases hlt:i<X.np
  ·have b6:=ar (fun W A=>b1.o W i A hlt);have d9:=ar (fun W q A hq=>d5.o W i q A hlt hq);have e3:Hi (l.length≤31*40):=by
    have:=mN X n K sz i;rw[hl.o]at this;show _≤_;omega
   obtain⟨bc,fc,rfl,e6,a1⟩:=bs.at (HR.o.p) (fun _=>rfl) hlt;have e0:Hi (∀W,Below w.heap.size w W→∀q u,(aH (X.D i) (I i))[q]?=some u→W.cell? (bc,fc+i*18+q)=some u):=fun W hW q u hq=>bI hW e6 (a1 i hlt q u hq);have b5:Hi (∀q u,(aH (X.D i) (I i))[q]?=some u→w2.cell? (bc,fc+i*18+q)=some u):=fun q u hq=>e0.o w2 HO.o.1 q u hq;clear a1;go_wp2_with (first|(with_reducible refine cY 62 bc (fc+i*18) 18 (aH (X.D i) (I i)) _ bF bv rfl rfl b5.o ?_)|((with_reducible refine bB 62 w2.heap.size 18 (aH (X.D i) (I i)) 62 bv rfl rfl rfl rfl (⟨_,bf _ _ _ rfl,rfl⟩) ?_);intro w3 hs;have H3:=ar (aF.put HO.o hs);have z:=ar (Ga J.o hs);clear hs;clear x0 x1 x2 x3 x4 x5 xf xz;obtain⟨x0,x1,x2,x3,x4,x5,xf,xz⟩:=aJ (aF.nth H3.o.tail HL.o 0 rfl);have d4:=ar (H3.o.get 0 rfl);have zs:w2.heap.size<w3.heap.size:=H3.o.lt (bw ..))|(with_reducible refine bA 62 w2.heap.size 18 (aH (X.D i) (I i)) 62 _ bF bv rfl rfl d4.o ?_)|fail)
   (go_at_call 18;refine(b6.o _ H3.o.1).mono ?_;rintro e_ w4 ⟨vc,rfl,a3,a8⟩);have H4:=ar (aF.step H3.o a8);have d2:Hi (w4.ownsRow (w.heap.size+1) 45 4 (.slice R l.length N) l.length (eo (Cl sz) l)):=bD z.o a8;obtain⟨C,hC⟩:=oE (dJ (X.D i) n K sz);have HC:=ar hC;have r:=a3;rw[hC]at r;obtain⟨m,hm⟩:=oE C.length;have HM:=ar hm;have f7:m≤31:=by rw[←hm,←hC];exact nR _ _ _ _
   rw[hm]at r;obtain⟨oc,cc,f0⟩:=cj r;subst f0;have a4:=r;have o:Hi (∀g,(Value.slice R l.length N).ownBlock=some g→(Value.slice oc m cc).ownBlock≠some g):=fun g s O=>by
    have h1:=(eh z.o s).2;have Z:=bU r g O;omega
   have y:=ar a4;obtain⟨Y,a7⟩:=oE w2.heap.size;rw[a7]at H4;rw[a7];have g1:w.heap.size<Y:=by omega
   clear a8 hC hm r a3 a4 a7 H3 d4 zs z b5 J HO;clear x0 x1 x2 x3 x4 x5 xf xz;go_wp2;go_loopw[6,23] (fun v x wr=>∃(j:Nat) (R:Option Addr) (N:Nat) (f:List (ByteArray×Pt)),j≤m∧x= .int .i64 (j:Int)∧v= .slice R f.length N∧Hi (l++(jf (X.D i).nh (X.D i).hn (X.D i).H sz C j).map (fun q=>((X.D i).id,q))=f)∧Hi (wr.ownsRow (w.heap.size+1) 45 4 (.slice R f.length N) f.length (eo (Cl sz) f))∧Hi (aF w wr ((Y,(aH (X.D i) (I i)),62)::L))∧Hi (wr.ownsRow w3.heap.size 45 4 (.slice oc m cc) m (eo (vk (X.D i).id sz) C))∧Hi (∀g,v.ownBlock=some g→(Value.slice oc m cc).ownBlock≠some g)∧Y<wr.heap.size) (fun _ x _=>m-(intOf x).toNat)
   case atStart=>exact⟨0,R,N,l,by omega,rfl,rfl,List.append_nil _,d2,H4,y,o,H4.o.lt (bw ..)⟩
   case round=>
    clear H4 d2 y o;obtain⟨w6,rfl⟩:=wE wr;obtain⟨j,R,N,f,f9,rfl,rfl,P,d3,H6,y,o,f4⟩:=hrel;by_cases hlj:j<m
    ·have e9:bs w6 (.slice oc m cc) m 4 (fun i'=>(vk (X.D i).id sz (C.getD i' (0,0))).toArray):=by
      have:=y.o;rw[←HM.o]at this;have Z:=qY this;unfold lX at Z;rw[HM.o]at Z;exact Z
     obtain⟨bo,fo,e5,-,b⟩:=bs.at e9 (fun _=>rfl) hlj;cases e5;obtain⟨Q,hQ⟩:=oE (C.getD j (0,0));rw[←HM.o]at hlj;have d8:Q∈C:=by
      rw[←hQ,aO,aS hlj];exact List.getElem_mem hlj
     rw[HM.o]at hlj;have a5:Q∈dJ (X.D i) n K sz:=by rw[HC.o];exact d8
     have HQ:=ar hQ;obtain⟨T,E⟩:=oE Q.1;obtain⟨U,F⟩:=oE Q.2;obtain⟨B,hB⟩:=oE (nJ (X.D i).nh (X.D i).hn (X.D i).H sz Q);have HB:=ar hB;have HV:Hi (∀W,Below w.heap.size w W→Gv 19 #[.agg (aH (X.D i) (I i)),.agg #[.string (X.D i).id,T,U,sz]] (.bool B) W):=fun W A=>by
      have:=d9.o W Q A a5;rw[hB,E,F]at this;exact this
     rw[←hQ]at E F;have c0:w6.cell? (bo,fo+j*4)=some (.string (X.D i).id):=b j hlj 0 _ rfl;have c1:w6.cell? (bo,fo+j*4+1)=some T:=by rw[←E];exact b j hlj 1 _ rfl
     have c2:w6.cell? (bo,fo+j*4+2)=some U:=by rw[←F];exact b j hlj 2 _ rfl
     have c3:w6.cell? (bo,fo+j*4+3)=some sz:=b j hlj 3 _ rfl;have j0:=dS j;have j1:(j:Int)<(m:Int):=by omega
     have d0:=ar (H6.o.get 0 rfl);have d1:Hi ((w6.alloc (.cells #[.string (X.D i).id,T,U,sz] 45)).heap[Y]?=some (.cells (aH (X.D i) (I i)) 62)):=(aV _ _ _ f4).trans d0.o;have b9:Hi (f.length≤31*40+31):=by
      have h1:=e3.o;have Z:=pJ (X.D i).nh (X.D i).hn (X.D i).H sz C j;have h3:=congrArg List.length P.o;rw[aZ,List.length_map]at h3;show _≤_;omega
     have e4:Hi (Q=(T,U)):=by show _=_;rw[←E,←F,hQ]
     clear b E F hQ d8 a5 hB;go_wp2_with (first|(with_reducible refine bA 62 Y 18 (aH (X.D i) (I i)) 62 _ bF bv rfl rfl d1.o ?_)|fail)
     (go_at_call 19;refine mz (HV.o _ (by have:=H6.o.1;have:=H6.o.1.size;go_grown)) fun w7 a9=> ?_);have H7:=ar (aF.step (H6.o.alloc w6.heap.size rfl _ _) a9);have t:=ar (ag (w:=w6) (by go_grown) a9);have a6:=ar (bD d3.o t.o);have d:=ar (bD y.o t.o);have f5:Y<w7.heap.size:=by have:=t.o.size;omega
     clear a9 c0 c1 c2 c3;obtain⟨o0,o1,o2,o3,-,-⟩:=bR (H7.o.get 0 rfl);cases B with
     |true=>
      have HN:Hi (l++(jf (X.D i).nh (X.D i).hn (X.D i).H sz C (j+1)).map (fun q=>((X.D i).id,q))=f):=by
       show _=_;rw[jf,HQ.o,HB.o,if_pos rfl,List.append_nil];exact P.o
      go_wp2;go_roundw
      case rel=>exact⟨j+1,R,N,f,by omega,by go_num,rfl,HN,a6,H7.o.tail,d,o,f5⟩
      case measure=>simp[intOf];omega
     |false=>
      have HN:Hi (l++(jf (X.D i).nh (X.D i).hn (X.D i).H sz C (j+1)).map (fun q=>((X.D i).id,q))=f++ [((X.D i).id,(T,U))]):=by
       show _=_;rw[jf,HQ.o,HB.o,if_neg (by decide),List.map_append,←List.append_assoc,P.o,e4.o];rfl
      go_wp2_with (first|(at_builtin;refine wpList_append_own_at _ rfl _ _ 39 rfl ((w.heap.size+1)) 45 i0 (.agg #["",(),(),()]) 4 40 underlying39 G f1 f2 f3 rfl (by decide) _ _ _ rfl (a6.o.alloc _) ⟨w7.heap.size,0,none⟩ 1 1 [(.string (X.D i).id),(.int .i64 T),(.int .i64 U),(.int .i64 sz)] rfl rfl ?c1 ?c2 ?c3 ?c4 ?c5 ?_)|go_in)
      case c1=>
       intro j u p
       match j,p with
       |0,p=>
        simp at p;subst p;simp[Addr.add]
        first|done|rfl|(simp[go_sem];done)
       |1,p=>
        simp at p;subst p;simp[Addr.add]
        first|done|rfl|(simp[go_sem];done)
       |2,p=>
        simp at p;subst p;simp[Addr.add]
        first|done|rfl|(simp[go_sem];done)
       |3,p=>
        simp at p;subst p;simp[Addr.add]
        first|done|rfl|(simp[go_sem];done)
      case c2=>intro u hu;simp at hu;(first|(subst hu;rfl)|(rcases hu with rfl|rfl|rfl|rfl<;>rfl))
      case c3=>unfold maxLen;have:=b9.o;omega
      case c4=>have:=b9.o;omega
      case c5=>simp;omega
      intro v' w9 D c _ a0;have H9:Hi (aF w w9 ((Y,(aH (X.D i) (I i)),62)::L)):=aF.rowx (aF.obj H7.o.tail _) (fun x hx=>by
       rcases bj.1 hx with rfl|hx
       ·exact .inr (show 45≠62 by decide)
       ·exact .inl (e2.o x hx)) (by omega) (a6.o.alloc _) c
      have c7:Hi (w9.ownsRow (w.heap.size+1) 45 4 v' (f++ [((X.D i).id,(T,U))]).length (eo (Cl sz) (f++ [((X.D i).id,(T,U))]))):=by
       show w9.ownsRow _ _ _ _ _ _;rw[Ae,aZ];exact D
      have c8:Hi (w9.ownsRow w3.heap.size 45 4 (.slice (some ⟨bo,fo,none⟩) m cc) m (eo (vk (X.D i).id sz) C)):=cZ (d.o.alloc (.cells #[.string (X.D i).id,T,U,sz] 45)) fun g s=>c.block g (eh (d.o.alloc _) s).2 (fun e=>o.o g e.symm s);have c6:Hi (∀g,v'.ownBlock=some g→(Value.slice (some ⟨bo,fo,none⟩) m cc).ownBlock≠some g):=fun g s O=>by
       rcases a0 with e|e
       ·rw[e]at s;exact o.o g s O
       ·rw[e]at s;cases s;have:=(eh d.o O).2;(try simp at this);omega
      have f6:Y<w9.heap.size:=H9.o.lt (bw ..);have e1:=ar (cj c7.o);clear D c a0;obtain⟨o9,c9,rfl⟩:=e1.o;go_wp2;go_roundw
      case rel=>exact⟨j+1,o9,c9,_,by omega,by go_num,rfl,HN,c7,H9,c8,c6,f6⟩
      case measure=>simp[intOf];omega
    ·have a2:j=m:=by omega
     have b8:Hi (gI X n K sz (i+1)=f):=by
      show _=_;rw[gI,hl.o,←P.o,a2,←HM.o,ui];unfold gB;rw[HC.o];rfl
     clear a2;go_wp2;go_roundw
     case rel=>exact⟨i+1,f,by omega,by go_num,b8,d3,H6.o.tail,by omega⟩
     case measure=>simp[intOf];omega
  ·have d6:i=X.np:=by omega
   have HE:Hi (iq w2 (.slice R l.length N) sz (gI X n K sz X.np)):=by
    show iq _ _ _ _;rw[←d6,hl.o];exact wW J.o
   clear d6;go_wp2;go_returns;exact⟨_,rfl,HE.o,HO.o.1⟩
theorem wY (c:ByteArray) (sz a b:Int) (W:World):(binOp .neq 45 (.agg #[.string c,a,b,sz]) (.agg #[.string c,a,b,sz])).run prog W= .ok (.bool false) W:=by
 simp only[binOp];simp[go_sem,Op.equal,Op.maxDepth]
theorem wZ (X:bK) (S:dq) (v:Value) (n:Nat) (K:Nat→V) (sz:Int) (w:World) (hr:Hi (cJ w X S)) (a7:Hi (qZ w X S)) (b:Hi (mc X)) (h:gL w v n K) (f0:n≤8) (g4:X.np≤40):
 Calls prog 8 #[.agg (bH X S),v,sz] w (oS X n K sz w):=by
 obtain⟨i0,I,f3,f4,f5⟩:=info_parts jm;have a8:Hi (∀W i,Below w.heap.size w W→i<X.np→Calls prog 20 #[.agg (aH (X.D i) (S.sp i)),v,sz] W (mR (X.D i) n K sz W)):=fun W i r I=>BH (X.D i) (S.sp i) v n K sz W (h.below r) ((a7.o i I).1.below r) (b.o i I).1 (fun hk=>⟨((b.o i I).2 hk).po,((b.o i I).2 hk).pos⟩) f0;have d4:Hi (∀W i q,Below w.heap.size w W→i<X.np→q∈dJ (X.D i) n K sz→Gv 21 #[.agg (aH (X.D i) (S.sp i)),.agg #[.string (X.D i).id,.int .i64 q.1,.int .i64 q.2,sz]] (.bool (nJ (X.D i).nh (X.D i).hn (X.D i).H sz q)) W):=fun W i q r I J=>by
  have h1:=jl J;have O:=(b.o i I).2 h1.2;exact wV (X.D i) (S.sp i) sz q.1 q.2 W ((a7.o i I).below r) (fun k hk=>⟨O.hp k hk,O.neg k hk⟩) ⟨h1.1.2.2.1,h1.1.2.2.2.1⟩ (lW (fun hk=>((b.o i I).2 hk).po.pol) J) O.m8
 obtain⟨oa,cap,rfl,-,-,-⟩:=h.form;have HR:=hr;have d9:=(HR.o.p).lim;clear h a7 b hr;obtain⟨on,cn,op,cp,sp,os,cs,ok,ck,sk,od,cd⟩:=S;unfold bH;dsimp only at a8 d4 d9⊢
 obtain⟨L,hL,h0⟩:=aF.ex (aF.alloc (aF.nil (ah w.heap.size w)) (w.heap.size) rfl #[.string X.hull,.slice on X.nn cn,.slice op X.np cp,.slice os X.ns cs,.slice ok X.nk ck,.slice od X.nd cd] 28);have HL:=ar hL;have H0:=ar h0;have e5:Hi (∀x∈L,x.1<w.heap.size+1):=fun x hx=>by
  rw[HL.o]at hx;simp only[bj,List.not_mem_nil,or_false]at hx;rcases hx with rfl;dsimp only;omega
 clear hL h0;go_enter func8,ntmps8;go_wp2;go_loopw[7,8] (fun v x wr=>∃(i:Nat) (l:List (ByteArray×Pt)),i≤X.np∧x= .int .i64 (i:Int)∧Hi (gI X n K sz i=l)∧Hi (wr.ownsRow (w.heap.size+1) 45 4 v l.length (eo (Cl sz) l))∧Hi (aF w wr L)∧w.heap.size<wr.heap.size) (fun _ x _=>X.np-(intOf x).toNat)
 case atStart=>exact⟨0,[],by omega,rfl,rfl,World.ownsRow_nil _ _ _ _,H0,by simp⟩
 case round=>
  clear H0;obtain⟨w2,rfl⟩:=wE wr;obtain⟨i,l,g2,rfl,hl,z,HO,g7⟩:=hrel;obtain⟨Z,N,f1⟩:=cj z.o;subst f1;obtain⟨-,-,x2,-,-,-,-,-⟩:=aJ (aF.nth HO.o HL.o 0 rfl);by_cases hlt:i<X.np
  ·have b0:=ar (fun W r=>a8.o W i r hlt);have e3:=ar (fun W q r J=>d4.o W i q r hlt J);have e6:Hi (l.length≤31*40):=by
    have:=mN X n K sz i;rw[hl.o]at this;show _≤_;omega
   obtain⟨bc,fc,rfl,e9,a1⟩:=bs.at (HR.o.p) (fun _=>rfl) hlt;have b1:Hi (∀W,Below w.heap.size w W→∀q u,(aH (X.D i) (sp i))[q]?=some u→W.cell? (bc,fc+i*18+q)=some u):=fun W hW q u J=>bI hW e9 (a1 i hlt q u J);have a9:Hi (∀q u,(aH (X.D i) (sp i))[q]?=some u→w2.cell? (bc,fc+i*18+q)=some u):=fun q u J=>b1.o w2 HO.o.1 q u J;clear a1;have g5:=dS i;have g6:(i:Int)<(X.np:Int):=by omega
   go_wp2_with (first|(with_reducible refine cY 62 bc (fc+i*18) 18 (aH (X.D i) (sp i)) _ bF bv rfl rfl a9.o ?_)|fail)
   (go_at_call 20;refine(b0.o _ HO.o.1).mono ?_;rintro e_ w4 ⟨vc,rfl,a3,P⟩);have H4:=ar (aF.step HO.o P);have c7:Hi (w4.ownsRow (w.heap.size+1) 45 4 (.slice Z l.length N) l.length (eo (Cl sz) l)):=bD z.o P;obtain⟨C,hC⟩:=oE (dJ (X.D i) n K sz);have HC:=ar hC;have t:=a3;rw[hC]at t;obtain⟨m,hm⟩:=oE C.length;have HM:=ar hm;have f9:m≤31:=by rw[←hm,←hC];exact nR _ _ _ _
   rw[hm]at t;obtain⟨oc,cc,f2⟩:=cj t;subst f2;have p:Hi (∀g,(Value.slice Z l.length N).ownBlock=some g→(Value.slice oc m cc).ownBlock≠some g):=fun g R T=>by
    have h1:=(eh z.o R).2;have O:=bU t g T;omega
   have y:=ar t;have e2:w.heap.size<w4.heap.size:=by have:=P.size;omega
   clear P hC hm t a3 z a9;clear x2;go_wp2;go_loopw[7,10] (fun v x wr=>∃(j:Nat) (Z:Option Addr) (N:Nat) (o:List (ByteArray×Pt)),j≤m∧x= .int .i64 (j:Int)∧v= .slice Z o.length N∧Hi (l++(jf (X.D i).nh (X.D i).hn (X.D i).H sz C j).map (fun q=>((X.D i).id,q))=o)∧Hi (wr.ownsRow (w.heap.size+1) 45 4 (.slice Z o.length N) o.length (eo (Cl sz) o))∧Hi (aF w wr L)∧Hi (wr.ownsRow w2.heap.size 45 4 (.slice oc m cc) m (eo (vk (X.D i).id sz) C))∧Hi (∀g,v.ownBlock=some g→(Value.slice oc m cc).ownBlock≠some g)∧w.heap.size<wr.heap.size) (fun _ x _=>m-(intOf x).toNat)
   case atStart=>exact⟨0,Z,N,l,by omega,rfl,rfl,List.append_nil _,c7,H4,y,p,e2⟩
   case round=>
    clear H4 c7 y p e2;obtain⟨w6,rfl⟩:=wE wr;obtain⟨j,Z,N,o,g3,rfl,rfl,U,c8,H6,y,p,f6⟩:=hrel;obtain⟨-,-,x2,-,-,-,-,-⟩:=aJ (aF.nth H6.o HL.o 0 rfl);by_cases hlj:j<m
    ·have e1:bs w6 (.slice oc m cc) m 4 (fun i'=>(vk (X.D i).id sz (C.getD i' (0,0))).toArray):=by
      have:=y.o;rw[←HM.o]at this;have O:=qY this;unfold lX at O;rw[HM.o]at O;exact O
     obtain⟨F,G,e8,Y,c⟩:=bs.at e1 (fun _=>rfl) hlj;cases e8;obtain⟨Q,hQ⟩:=oE (C.getD j (0,0));rw[←HM.o]at hlj;have e0:Q∈C:=by
      rw[←hQ,aO,aS hlj];exact List.getElem_mem hlj
     rw[HM.o]at hlj;have a4:Q∈dJ (X.D i) n K sz:=by rw[HC.o];exact e0
     have HQ:=ar hQ;obtain⟨q1,D⟩:=oE Q.1;obtain⟨q2,E⟩:=oE Q.2;obtain⟨B,hB⟩:=oE (nJ (X.D i).nh (X.D i).hn (X.D i).H sz Q);have HB:=ar hB;have HV:Hi (∀W,Below w.heap.size w W→Gv 21 #[.agg (aH (X.D i) (sp i)),.agg #[.string (X.D i).id,q1,q2,sz]] (.bool B) W):=fun W r=>by
      have:=e3.o W Q r a4;rw[hB,D,E]at this;exact this
     rw[←hQ]at D E;have c0:w6.cell? (F,G+j*4)=some (.string (X.D i).id):=c j hlj 0 _ rfl;have c1:w6.cell? (F,G+j*4+1)=some q1:=by rw[←D];exact c j hlj 1 _ rfl
     have c2:w6.cell? (F,G+j*4+2)=some q2:=by rw[←E];exact c j hlj 2 _ rfl
     have c3:w6.cell? (F,G+j*4+3)=some sz:=c j hlj 3 _ rfl;have j0:=dS j;have j1:(j:Int)<(m:Int):=by omega
     have b6:Hi (o.length≤31*40+31):=by
      have h1:=e6.o;have O:=pJ (X.D i).nh (X.D i).hn (X.D i).H sz C j;have h3:=congrArg List.length U.o;rw[aZ,List.length_map]at h3;show _≤_;omega
     have e7:Hi (Q=(q1,q2)):=by show _=_;rw[←D,←E,hQ]
     clear c D E hQ e0 a4 hB e1;go_wp2_with fail
     refine aD 11 ?_;simp only[ac,aj,aK,aC,aa,ae,af];iterate 4 refine bJ ?_
     apply bg (x:= .agg (aH (X.D i) (sp i)))
     ·intro u wx hz hc hf a5 hd;simp[aU,ai,aR,ay.is,ay.any]at hd;refine cI 62 bc (fc+i*18) 18 (aH (X.D i) (sp i)) _ bF bv (by first|exact hd|simpa [Act.eval]using hd) rfl (fun q u J=>b1.o wx (ag H6.o.1 a5.o) q u J) ⟨ah _ _,rfl⟩
     iterate 4 refine bJ ?_
     apply bg
     ·intro u wx hz hc hf a5 hd;simp[aU,ai,aR,ay.is,ay.any]at hd;go_simp
      first|rfl|(go_at_call 21;refine(HV.o _ (ag H6.o.1 a5.o)).mono ?_;rintro e w1 ⟨rfl,d5⟩;first|exact⟨rfl,d5⟩|exact⟨_,rfl,d5,rfl⟩)
     refine bJ ?_;intro u w7 r hE;simp only[cF,aR,ay.is,aE,aA,reduceIte]at hE;simp only[am,ax,ac,aj,aK,aC,aa,ae,af,hE];clear hE;obtain⟨g1,g0,d6,d7,a⟩:=pr r;clear r;have H7:=ar (aF.step H6.o a.o);have a6:=ar (bD c8.o a.o);have f:=ar (bD y.o a.o);have f7:w.heap.size<w7.heap.size:=by have:=a.o.size;omega
     have d0:w7.cell? (F,G+j*4)=some (.string (X.D i).id):=bI a.o Y c0;have d1:w7.cell? (F,G+j*4+1)=some q1:=bI a.o Y c1;have d2:w7.cell? (F,G+j*4+2)=some q2:=bI a.o Y c2;have d3:w7.cell? (F,G+j*4+3)=some sz:=bI a.o Y c3;clear c0 c1 c2 c3 d6 d7;clear x2;cases B with
     |true=>
      have HN:Hi (l++(jf (X.D i).nh (X.D i).hn (X.D i).H sz C (j+1)).map (fun q=>((X.D i).id,q))=o):=by
       show _=_;rw[jf,HQ.o,HB.o,if_pos rfl,List.append_nil];exact U.o
      go_wp2;go_roundw
      case rel=>exact⟨j+1,Z,N,o,by omega,by go_num,rfl,HN,a6,H7,f,p,f7⟩
      case measure=>simp[intOf];omega
     |false=>
      have HN:Hi (l++(jf (X.D i).nh (X.D i).hn (X.D i).H sz C (j+1)).map (fun q=>((X.D i).id,q))=o++ [((X.D i).id,(q1,q2))]):=by
       show _=_;rw[jf,HQ.o,HB.o,if_neg (by decide),List.map_append,←List.append_assoc,U.o,e7.o];rfl
      go_wp2_with (first|(at_builtin;refine wpList_append_own_at _ rfl _ _ 39 rfl ((w.heap.size+1)) 45 i0 (.agg #["",(),(),()]) 4 40 underlying39 I f3 f4 f5 rfl (by decide) _ _ _ rfl (a6.o.alloc _) ⟨w7.heap.size,0,none⟩ 1 1 [(.string (X.D i).id),(.int .i64 q1),(.int .i64 q2),(.int .i64 sz)] rfl rfl ?c1 ?c2 ?c3 ?c4 ?c5 ?_)|go_in)
      case c1=>
       intro j u s
       match j,s with
       |0,s=>
        simp at s;subst s;simp[Addr.add]
        first|done|rfl|(simp[go_sem];done)
       |1,s=>
        simp at s;subst s;simp[Addr.add]
        first|done|rfl|(simp[go_sem];done)
       |2,s=>
        simp at s;subst s;simp[Addr.add]
        first|done|rfl|(simp[go_sem];done)
       |3,s=>
        simp at s;subst s;simp[Addr.add]
        first|done|rfl|(simp[go_sem];done)
      case c2=>intro u hu;simp at hu;(first|(subst hu;rfl)|(rcases hu with rfl|rfl|rfl|rfl<;>rfl))
      case c3=>unfold maxLen;have:=b6.o;omega
      case c4=>have:=b6.o;omega
      case c5=>simp;omega
      intro v' w9 A d _ a0;have H9:Hi (aF w w9 L):=aF.rowx (aF.obj H7.o _) (fun x hx=> .inl (e5.o x hx)) (by omega) (a6.o.alloc _) d;have b9:Hi (w9.ownsRow (w.heap.size+1) 45 4 v' (o++ [((X.D i).id,(q1,q2))]).length (eo (Cl sz) (o++ [((X.D i).id,(q1,q2))]))):=by
       show w9.ownsRow _ _ _ _ _ _;rw[Ae,aZ];exact A
      have c6:Hi (w9.ownsRow w2.heap.size 45 4 (.slice (some ⟨F,G,none⟩) m cc) m (eo (vk (X.D i).id sz) C)):=cZ (f.o.alloc (.cells #[.string (X.D i).id,q1,q2,sz] 45)) fun g R=>d.block g (eh (f.o.alloc _) R).2 (fun e=>p.o g e.symm R);have b8:Hi (∀g,v'.ownBlock=some g→(Value.slice (some ⟨F,G,none⟩) m cc).ownBlock≠some g):=fun g R T=>by
       rcases a0 with e|e
       ·rw[e]at R;exact p.o g R T
       ·rw[e]at R;cases R;have:=(eh f.o T).2;(try simp at this);omega
      have f8:w.heap.size<w9.heap.size:=by have:=H9.o.len HL.o 0 rfl;omega
      have e4:=ar (cj b9.o);clear A d a0;obtain⟨o9,c9,rfl⟩:=e4.o;go_wp2;go_roundw
      case rel=>exact⟨j+1,o9,c9,_,by omega,by go_num,rfl,HN,b9,H9,c6,b8,f8⟩
      case measure=>simp[intOf];omega
    ·have a2:j=m:=by omega
     have b5:Hi (gI X n K sz (i+1)=o):=by
      show _=_;rw[gI,hl.o,←U.o,a2,←HM.o,ui];unfold gB;rw[HC.o];rfl
     clear a2;go_wp2;go_roundw
     case rel=>exact⟨i+1,o,by omega,by go_num,b5,c8,H6,f6⟩
     case measure=>simp[intOf];omega
  ·have d8:i=X.np:=by omega
   have HE:Hi (iq w2 (.slice Z l.length N) sz (gI X n K sz X.np)):=by
    show iq _ _ _ _;rw[←d8,hl.o];exact wW z.o
   clear d8;go_wp2;go_returns;exact⟨_,rfl,HE.o,HO.o.1⟩
theorem BN (D F:Value) (sz:Int) (l:List (ByteArray×Pt)) (w:World) (p:iq w D sz l) (q:iq w F sz l):
 Gv 7 #[D,F] (.bool true) w:=by
 obtain⟨n,hn⟩:=oE l.length;unfold iq at p q;rw[hn]at p q;obtain⟨X,G,rfl,T,U,k⟩:=bs.form p (fun _=>rfl);obtain⟨Y,H,rfl,-,-,m⟩:=bs.form q (fun _=>rfl);have t:=ar k;have v:=ar m;clear p q hn k m;go_enter func7,ntmps7;go_wp2;go_loopw[5] (fun i wr=>∃j:Nat,j≤n∧i= .int .i64 (j:Int)∧Hi (Below w.heap.size w wr)) (fun i _=>n-(intOf i).toNat)
 case atStart=>exact⟨0,by omega,rfl,ah _ _⟩
 case round=>
  obtain⟨g,rfl⟩:=wE wr;obtain⟨j,-,rfl,r⟩:=hrel;by_cases hlt:j<n
  ·obtain⟨o,k,rfl,e,c⟩:=t.o j hlt;obtain⟨b2,m,x,f,d⟩:=v.o j hlt;subst x;obtain⟨E,b⟩:=oE (l.getD j lr);have a:=r.o;have J:g.cell? (o,k+j*4)=some E.1:=by rw[←b];exact bI a e (c j hlt 0 _ rfl)
   have G:g.cell? (o,k+j*4+1)=some E.2.1:=by rw[←b];exact bI a e (c j hlt 1 _ rfl)
   have H:g.cell? (o,k+j*4+2)=some E.2.2:=by rw[←b];exact bI a e (c j hlt 2 _ rfl)
   have K:g.cell? (o,k+j*4+3)=some sz:=bI a e (c j hlt 3 _ rfl);have L:g.cell? (b2,m+j*4)=some E.1:=by rw[←b];exact bI a f (d j hlt 0 _ rfl)
   have N:g.cell? (b2,m+j*4+1)=some E.2.1:=by rw[←b];exact bI a f (d j hlt 1 _ rfl)
   have O:g.cell? (b2,m+j*4+2)=some E.2.2:=by rw[←b];exact bI a f (d j hlt 2 _ rfl)
   have P:g.cell? (b2,m+j*4+3)=some sz:=bI a f (d j hlt 3 _ rfl);have z1:o<g.heap.size:=aM e a.size;have z2:b2<g.heap.size:=aM f a.size;have Q:=dS j;have R:(j:Int)<(n:Int):=by omega
   have Z:=fun W=>wY E.1 sz E.2.1 E.2.2 W;clear c d a b;go_wp2_with fail
   refine aD 9 ?_;simp only[ac,aj,aK,aC,aa,ae,af];iterate 9 refine bJ ?_
   intro u I y b;simp only[cF,aR,ay.is,aE,aA,reduceIte]at b;simp only[am,ax,ac,aj,aK,aC,aa,ae,af,b];clear b;obtain⟨C,B,z,A,h⟩:=pr y;clear y;have s:Hi (Below w.heap.size w I):=ag r.o h.o;go_wp2;go_roundw
   case rel=>exact⟨j+1,by omega,by go_num,s⟩
   case measure=>simp[intOf];omega
  ·go_wp2;go_returns;exact⟨rfl,r.o⟩
theorem yN (a b:Int) (W:World):(binOp .neq 43 (.agg #[a,b]) (.agg #[a,b])).run prog W= .ok (.bool false) W:=by
 simp only[binOp];simp[go_sem,Op.equal,Op.maxDepth]
theorem Ef (a b c:Int) (W:World):(binOp .neq 58 (.agg #[a,b,c]) (.agg #[a,b,c])).run prog W= .ok (.bool false) W:=by
 simp only[binOp];simp[go_sem,Op.equal,Op.maxDepth]
theorem yO (a b c d:Int) (W:World):(binOp .neq 60 (.agg #[a,b,c,d]) (.agg #[a,b,c,d])).run prog W= .ok (.bool false) W:=by
 simp only[binOp];simp[go_sem,Op.equal,Op.maxDepth]
theorem BO (a:Int) (s t:ByteArray) (W:World):(binOp .eql 64 (.agg #[.string s,a,.string t]) (.agg #[.string s,a,.string t])).run prog W= .ok (.bool true) W:=by
 simp only[binOp];simp[go_sem,Op.equal,Op.maxDepth]
theorem BP (a b c:Int) (s t u:ByteArray) (W:World):(binOp .eql 66 (.agg #[.string s,.string t,.string u,a,b,c]) (.agg #[.string s,.string t,.string u,a,b,c])).run prog W= .ok (.bool true) W:=by
 simp only[binOp];simp[go_sem,Op.equal,Op.maxDepth]
theorem BR (a:Int) (s t:ByteArray) (W:World):(binOp .eql 71 (.agg #[a,.string s,.string t]) (.agg #[a,.string s,.string t])).run prog W= .ok (.bool true) W:=by
 simp only[binOp];simp[go_sem,Op.equal,Op.maxDepth]
theorem uk (v:Value) (n:Nat) (P:Nat→Pt) (w:World) (h:bO w v n P):
 Gv 313 #[v,v] (.bool true) w:=by
 obtain⟨oa,cap,rfl,hn,E,k⟩:=h.form;have o:=ar k;clear h k;go_enter func313,ntmps313;go_wp2;go_loopw[13] (fun i wr=>∃j:Nat,j≤n∧i= .int .i64 j∧Below w.heap.size w wr) (fun i _=>n-(intOf i).toNat)
 case atStart=>exact⟨0,by omega,rfl,by go_grown⟩
 case round=>
  obtain⟨r,rfl⟩:=wE wr;obtain⟨j,-,rfl,g⟩:=hrel;have e:=ar g;by_cases hlt:j<n
  ·obtain⟨p,x,rfl,l,c⟩:=o.o j hlt;have s:r.cell? (p,x+j*2)=some (.int .i64 (P j).1):=bI g l (c j hlt).1;have t:r.cell? (p,x+j*2+1)=some (.int .i64 (P j).2):=bI g l (c j hlt).2;obtain⟨a,y⟩:=oE ((P j).1);obtain⟨b,d⟩:=oE ((P j).2);rw[y]at s;rw[d]at t;have H:=fun W=>yN a b W;have D:p<r.heap.size:=by have:=g.size;omega
   have F:=dS j;have G:(j:Int)<(n:Int):=by omega
   clear c g y d;go_wp2_with fail
   refine aD 9 ?_;simp only[ac,aj,aK,aC,aa,ae,af];iterate 9 refine bJ ?_
   intro u I d q;simp only[cF,aR,ay.is,aE,aA,reduceIte]at q;simp only[am,ax,ac,aj,aK,aC,aa,ae,af,q];clear q;have f:=ar (ag (w:=w) e.o d);obtain⟨C,B,z,A,m⟩:=pr d;clear d;clear s t;go_wp2;go_roundw
   case rel=>exact⟨j+1,by omega,by go_num,f.o⟩
   case measure=>simp[intOf];omega
  ·go_wp2;go_returns;exact⟨rfl,e.o⟩
theorem xa (v:Value) (m:Nat) (o:Nat→Option Addr) (n hn:Nat→Nat) (H:Nat→Nat→Pt) (w:World) (h:en w v m o n hn H):
 Gv 314 #[v,v,.func (.func 313) #[] #[]] (.bool true) w:=by
 have g:=ar h.2;obtain⟨oa,cap,rfl,s,u,d⟩:=h.form;have f:=ar d;clear h d;go_enter func314,ntmps314;go_wp2;go_loopw[17] (fun i wr=>∃j:Nat,j≤m∧i= .int .i64 j∧Below w.heap.size w wr) (fun i _=>m-(intOf i).toNat)
 case atStart=>exact⟨0,by omega,rfl,by go_grown⟩
 case round=>
  obtain⟨t,rfl⟩:=wE wr;obtain⟨j,-,rfl,k⟩:=hrel;have b:=ar k;by_cases hlt:j<m
  ·obtain⟨p,r,rfl,l,a⟩:=f.o j hlt;have q:t.cell? (p,r+j)=some (.slice (o j) (hn j) (n j)):=bI k l (a j hlt);have x:=dS j;have y:(j:Int)<(m:Int):=by omega
   clear a k;go_wp2_with fail
   (go_at_call 313;refine mz (uk _ _ _ _ ((g.o j hlt).below b.o)) fun z c=> ?_);have e:=ar (ag b.o c);clear c q;go_wp2;go_roundw
   case rel=>exact⟨j+1,by omega,by go_num,e.o⟩
   case measure=>simp[intOf];omega
  ·go_wp2;go_returns;exact⟨rfl,b.o⟩
theorem sP (w:World):Gv 173 #[Nat,Nat] (.bool true) w:=by
 go_enter func173,ntmps173;go_wp2;go_loopw[13] (fun i wr=>i= .int .i64 0∧Below w.heap.size w wr) (fun i _=>0)
 case atStart=>exact⟨rfl,by go_grown⟩
 case round=>
  obtain⟨c,rfl⟩:=wE wr;obtain⟨rfl,b⟩:=hrel;have a:=ar b;go_wp2;go_returns;exact⟨rfl,a.o⟩
theorem BS (D:bX) (S:cN) (w:World) (h:dj w D S):
 Gv 172 #[.agg (aH D S),.agg (aH D S)] (.bool true) w:=by
 have g:=ar h.1;have f:=ar h.2;have j:=fun W=>Ef D.e1 D.e2 D.e3 W;have i:=fun W=>yO D.a1 D.a2 D.a3 D.t W;clear h;unfold aH;go_enter func172,ntmps172;go_wp2_with fail
 (go_at_call 313;refine mz (uk _ _ _ _ (g.o.below (by go_grown))) fun e b=> ?_);have a:=ar (aF.step (((aF.nil (ah w.heap.size w)).alloc (w.heap.size) rfl _ _).alloc (w.heap.size+1) (by simp) _ _) b);clear b;have l:e.cell? (w.heap.size,7)=some (.slice S.oq D.nh S.cq):=aX (a.o.get 1 rfl) rfl;have m:e.cell? (w.heap.size+1,7)=some (.slice S.oq D.nh S.cq):=aX (a.o.get 0 rfl) rfl;go_wp2_with fail
 (go_at_call 314;refine mz (xa _ _ _ _ _ _ _ (f.o.below a.o.1)) fun k c=> ?_);have d:=ar (ag a.o.1 c);clear c;go_wp2;go_returns;exact⟨rfl,d.o⟩
def Ik:List Value:= [.int .i64 5,.string ⟨#[]⟩,.string ⟨#[]⟩,.string ⟨#[]⟩,.int .i64 0,.string ⟨#[]⟩]
def Iy:List Value:= [.string ⟨#[]⟩,.string ⟨#[]⟩,.string ⟨#[]⟩,.int .i64 0,.int .i64 0,.int .i64 0,.string ⟨#[]⟩,.string ⟨#[]⟩,.slice none 0 0,.int .i64 0,.slice none 0 0,.int .i64 0,.string ⟨#[]⟩,.string ⟨#[]⟩]
def cX (D:bX) (S:cN):Array Value:=(Ik++((aH D S).toList++Iy)).toArray
theorem yP (D:bX) (S:cN) (q:Nat) (u:Value) (h:(aH D S)[q]?=some u):(cX D S)[6+q]?=some u:=by
 unfold cX;have a:q<18:=by
  have:=(av.1 h).1
  rwa [yd]at this
 rw[List.getElem?_toArray,cD (by show 6≤_;omega),cV (by rw[show(aH D S).toList.length=18 from rfl];show 6+q-6<18;omega)];rw[show 6+q-Ik.length=q by show 6+q-6=q;omega];rw[Array.getElem?_toList];exact h
theorem vl {w:World} {b:Nat} {D:bX} {S:cN} {t:TypeId} (h:w.heap[b]?=some (.cells (cX D S) t)):∀j v,(aH D S)[j]?=some v→w.cell? (b,6+j)=some v:=fun j v a=>aX h (yP D S j v a)
theorem fM:prog.underlying 73=some (.struct (prog.fieldsOf 73)):=by kernel_rfl
theorem fB:(prog.info? 73).map (fun i=>i.size)=some 38:=by kernel_rfl
theorem BT (D:bX) (S:cN) (w:World) (h:dj w D S):
 Gv 126 #[.agg (cX D S),.agg (cX D S)] (.bool true) w:=by
 have O:=ar h;have q1:=fun W=>BO 0 ⟨#[]⟩ ⟨#[]⟩ W;have q2:=fun W=>BP 0 0 0 ⟨#[]⟩ ⟨#[]⟩ ⟨#[]⟩ W;have q3:=fun W=>BR 0 ⟨#[]⟩ ⟨#[]⟩ W;clear h;have c:Hi (aF w ((w.alloc (.cells (cX D S) 73)).alloc (.cells (cX D S) 73)) [(w.heap.size+1,cX D S,73),(w.heap.size,cX D S,73)]):=((aF.nil (ah w.heap.size w)).alloc (w.heap.size) rfl _ _).alloc (w.heap.size+1) (by simp) _ _;have P:=aX (j:=0) (v:= .int .i64 5) (c.o.get 1 rfl) rfl;have Q:=aX (j:=1) (v:= .string ⟨#[]⟩) (c.o.get 1 rfl) rfl;have R:=aX (j:=2) (v:= .string ⟨#[]⟩) (c.o.get 1 rfl) rfl;have T:=aX (j:=3) (v:= .string ⟨#[]⟩) (c.o.get 1 rfl) rfl;have X:=aX (j:=4) (v:= .int .i64 0) (c.o.get 1 rfl) rfl;have Y:=aX (j:=5) (v:= .string ⟨#[]⟩) (c.o.get 1 rfl) rfl;have Z:=aX (j:=0) (v:= .int .i64 5) (c.o.get 0 rfl) rfl;have y1:=aX (j:=1) (v:= .string ⟨#[]⟩) (c.o.get 0 rfl) rfl;have y2:=aX (j:=2) (v:= .string ⟨#[]⟩) (c.o.get 0 rfl) rfl;have y3:=aX (j:=3) (v:= .string ⟨#[]⟩) (c.o.get 0 rfl) rfl;have y4:=aX (j:=4) (v:= .int .i64 0) (c.o.get 0 rfl) rfl;have y5:=aX (j:=5) (v:= .string ⟨#[]⟩) (c.o.get 0 rfl) rfl;have e:=ar (vl (c.o.get 0 rfl));have f:=ar (vl (c.o.get 1 rfl));go_enter func126,ntmps126;dsimp only[List.append];go_wp2_with (first|(with_reducible refine ef 62 w.heap.size 6 18 (aH D S) _ bF bv rfl rfl (f.o) (by first|rfl|(simp[au,yielded];done)) ?_)|(with_reducible refine ef 62 (w.heap.size+1) 6 18 (aH D S) _ bF bv rfl rfl (e.o) (by first|rfl|(simp[au,yielded];done)) ?_)|fail)
 (go_at_call 172;refine cy (BS D S _ (O.o.below c.o.1)) c fun b a=> ?_);clear P Q R T X Y Z y1 y2 y3 y4 y5;have g:b.cell? (w.heap.size,24)=some (.string ⟨#[]⟩):=aX (a.o.get 1 rfl) rfl;have i:b.cell? (w.heap.size,25)=some (.string ⟨#[]⟩):=aX (a.o.get 1 rfl) rfl;have k:b.cell? (w.heap.size,26)=some (.string ⟨#[]⟩):=aX (a.o.get 1 rfl) rfl;have l:b.cell? (w.heap.size,27)=some (.int .i64 0):=aX (a.o.get 1 rfl) rfl;have m:b.cell? (w.heap.size,28)=some (.int .i64 0):=aX (a.o.get 1 rfl) rfl;have n:b.cell? (w.heap.size,29)=some (.int .i64 0):=aX (a.o.get 1 rfl) rfl;have o:b.cell? (w.heap.size,30)=some (.string ⟨#[]⟩):=aX (a.o.get 1 rfl) rfl;have p:b.cell? (w.heap.size,31)=some (.string ⟨#[]⟩):=aX (a.o.get 1 rfl) rfl;have q:b.cell? (w.heap.size,32)=some (.slice none 0 0):=aX (a.o.get 1 rfl) rfl;have r:b.cell? (w.heap.size,33)=some (.int .i64 0):=aX (a.o.get 1 rfl) rfl;have s:b.cell? (w.heap.size,35)=some (.int .i64 0):=aX (a.o.get 1 rfl) rfl;have t:b.cell? (w.heap.size,36)=some (.string ⟨#[]⟩):=aX (a.o.get 1 rfl) rfl;have u:b.cell? (w.heap.size,37)=some (.string ⟨#[]⟩):=aX (a.o.get 1 rfl) rfl;have x:b.cell? ((w.heap.size+1),24)=some (.string ⟨#[]⟩):=aX (a.o.get 0 rfl) rfl;have y:b.cell? ((w.heap.size+1),25)=some (.string ⟨#[]⟩):=aX (a.o.get 0 rfl) rfl;have z:b.cell? ((w.heap.size+1),26)=some (.string ⟨#[]⟩):=aX (a.o.get 0 rfl) rfl;have A:b.cell? ((w.heap.size+1),27)=some (.int .i64 0):=aX (a.o.get 0 rfl) rfl;have B:b.cell? ((w.heap.size+1),28)=some (.int .i64 0):=aX (a.o.get 0 rfl) rfl;have C:b.cell? ((w.heap.size+1),29)=some (.int .i64 0):=aX (a.o.get 0 rfl) rfl;have E:b.cell? ((w.heap.size+1),30)=some (.string ⟨#[]⟩):=aX (a.o.get 0 rfl) rfl;have F:b.cell? ((w.heap.size+1),31)=some (.string ⟨#[]⟩):=aX (a.o.get 0 rfl) rfl;have G:b.cell? ((w.heap.size+1),32)=some (.slice none 0 0):=aX (a.o.get 0 rfl) rfl;have H:b.cell? ((w.heap.size+1),33)=some (.int .i64 0):=aX (a.o.get 0 rfl) rfl;have I:b.cell? ((w.heap.size+1),35)=some (.int .i64 0):=aX (a.o.get 0 rfl) rfl;have J:b.cell? ((w.heap.size+1),36)=some (.string ⟨#[]⟩):=aX (a.o.get 0 rfl) rfl;have K:b.cell? ((w.heap.size+1),37)=some (.string ⟨#[]⟩):=aX (a.o.get 0 rfl) rfl;go_wp2_with fail
 (go_at_call 173;refine cy (sP _) a fun L d=> ?_);clear g i k l m n o p q r s t u x y z A B C E F G H I J K;have U:L.cell? (w.heap.size,34)=some (.slice none 0 0):=aX (d.o.get 1 rfl) rfl;have a0:L.cell? ((w.heap.size+1),34)=some (.slice none 0 0):=aX (d.o.get 0 rfl) rfl;go_wp2_with fail
 (go_at_call 173;refine cy (sP _) d fun w3 N=> ?_);go_wp2;go_returns;exact⟨rfl,N.o.1⟩
def iX {α:Type} (f:Nat→α) (j:Nat) (x:α):Nat→α:=fun q=>if q=j then x else f q
theorem dr {α:Type} (f:Nat→α) (j:Nat) (x:α):iX f j x j=x:=if_pos rfl
theorem dy {α:Type} (f:Nat→α) {j q:Nat} (x:α) (h:q≠j):iX f j x q=f q:=if_neg h
def ay.owns (B:Nat) (t:TypeId) (k n:Nat) (xs:List Value):ay:=⟨fun v w=>w.ownsRow B t k v n xs,fun v w w' hb h=>bD h hb⟩
theorem cA {w:World} {B B':Nat} {t:TypeId} {k n:Nat} {v:Value} {c:List Value} (h:w.ownsRow B t k v n c) (i:B'≤B):w.ownsRow B' t k v n c:=by
 obtain⟨b,⟨d,f⟩|⟨g,cap,a,e,j,l⟩⟩:=h
 ·exact⟨b,.inl ⟨d,f⟩⟩
 ·exact⟨b,.inr ⟨g,cap,a,e,bW i j,l⟩⟩
theorem kF {w:World} {B:Nat} {t:TypeId} {k n:Nat} {v:Value} {f:Nat→Nat→Value} (h:w.ownsRow B t k v n (eG f k n)) (hn:0<n):∃g cap a,v= .slice (some ⟨g,0,none⟩) n cap∧B≤g∧w.heap[g]?=some (.cells a t)∧n≤cap∧cap≤9223372036854775807∧a.size=cap*k∧∀i j,i<n→j<k→a[i*k+j]?=some (f i j):=by
 obtain⟨-,⟨-,u⟩|⟨g,cap,a,e,o,m,d,l,r,s⟩⟩:=h
 ·omega
 ·refine⟨g,cap,a,e,o,m,d,by simpa [maxLen]using l,r,fun i j p q=> ?_⟩;have b:=sO f k n i j p q;rw[←s]at b;have c:i*k+j<n*k:=by
   have:=(List.getElem?_eq_some_iff.1 b).1;rw[List.length_take]at this;omega
  rw[List.getElem?_take_of_lt c]at b;simpa using b
theorem jH {w w':World} {B g:Nat} {t:TypeId} {k n cap:Nat} {f l:Nat→Nat→Value} {c:Array Value} (h:w.ownsRow B t k (.slice (some ⟨g,0,none⟩) n cap) n (eG f k n)) (x:w'.heap[g]?=some (.cells c t)) (s:c.size=cap*k) (z:∀i j,i<n→j<k→c[i*k+j]?=some (l i j)):
 w'.ownsRow B t k (.slice (some ⟨g,0,none⟩) n cap) n (eG l k n):=by
 obtain⟨-,⟨y,-⟩|⟨F,o,u,e,C,A,d,m,E,-⟩⟩:=h
 ·cases y
 ·cases e;refine⟨fC l k n,.inr ⟨g,cap,c,rfl,C,x,d,m,s,?_⟩⟩;have G:n*k≤c.toList.length:=by
   rw[Array.length_toList,s];exact Nat.mul_le_mul_right k d
  apply List.ext_getElem?;intro p;by_cases hp:p<n*k
  ·have D:0<k:=Nat.pos_of_ne_zero fun e=>by rw[e]at hp;omega
   have q:p/k<n:=Nat.div_lt_of_lt_mul (by rw[Nat.mul_comm];exact hp);have r:p % k<k:=Nat.mod_lt _ D;have v:p/k*k+p % k=p:=by rw[Nat.mul_comm];exact Nat.div_add_mod p k
   have a:=z (p/k) (p % k) q r;have b:=sO l k n (p/k) (p % k) q r;rw[v]at a b;rw[b,List.getElem?_take_of_lt hp];simpa using a
  ·rw[List.getElem?_eq_none (by rw[List.length_take];omega),List.getElem?_eq_none (by rw[fC];omega)]
theorem eT {w w':World} {B b:Nat} {t a:TypeId} {k n:Nat} {v:Value} {c:List Value} {C:Array Value} (h:w.ownsRow B t k v n c) (d:w.heap[b]?=some (.cells C a)) (j:t≠a) (i:∀g,g≠b→w'.heap[g]?=w.heap[g]?):w'.ownsRow B t k v n c:=
 cZ h fun g f=>i g fun e=>jj h d j (by rw[f,e])
theorem cw {w w':World} {B b:Nat} {t:TypeId} {k n:Nat} {v:Value} {a:List Value} (h:w.ownsRow B t k v n a) (f:b<B) (d:∀g,g≠b→w'.heap[g]?=w.heap[g]?):w'.ownsRow B t k v n a:=
 cZ h fun g c=>d g fun e=>by have:=bU h g c;omega
theorem cS {w:World} {b i:Nat} {cs:Array Value} {t:TypeId} {v:Value} (h:w.heap[b]?=some (.cells cs t)):bL w (w.setCell (b,i) v) b (cs.setIfInBounds i v) t:=
 ⟨rfl,rfl,rfl,by simp,fun k a=>da _ _ _ _ _ a,by rw[rm,h];rfl⟩
theorem aF.wrote {w W e:World} {L:List (Nat×Array Value×TypeId)} {b:Nat} {C d:Array Value} {t f:TypeId} (h:aF w W ((b,C,t)::L)) (c:bL W e b d f) (i:w.heap.size≤b) (g:∀x∈L,x.1≠b):aF w e ((b,d,f)::L):=
 ⟨bL.below h.1 c i,fun x a=>by
  rcases bj.1 a with rfl|a
  ·exact c.here
  ·exact(c.other x.1 (g x a)).trans (h.2 x (List.mem_cons_of_mem _ a))⟩
theorem aF.far {w W a:World} {L:List (Nat×Array Value×TypeId)} {b:Nat} {e:Array Value} {i:TypeId} (h:aF w W L) (c:bL W a b e i) (g:w.heap.size≤b) (f:∀x∈L,x.1≠b):aF w a L:=
 ⟨bL.below h.1 c g,fun x d=>(c.other x.1 (f x d)).trans (h.2 x d)⟩
structure dF (w:World) (B:Nat) (D:bX) (S:cN):Prop where
 o:w.ownsRow B 43 2 (.slice S.oo D.no S.co) D.no (eG (fun i j=>qb (D.P i) j) 2 D.no)
 q:w.ownsRow B 53 1 (.slice S.oq D.nh S.cq) D.nh (eG (fun i _=> .slice (S.oh i) (D.hn i) (S.ch i)) 1 D.nh)
 h:∀i,i<D.nh→w.ownsRow B 43 2 (.slice (S.oh i) (D.hn i) (S.ch i)) (D.hn i) (eG (fun a j=>qb (D.H i a) j) 2 (D.hn i))
theorem dF.part {w:World} {B:Nat} {D:bX} {S:cN} (h:dF w B D S):dj w D S:=⟨lZ h.o (by decide),lZ h.q (by decide),fun i a=>lZ (h.h i a) (by decide)⟩
theorem dF.keep {w w':World} {B:Nat} {D:bX} {S:cN} (h:dF w B D S) (a:Below w.heap.size w w'):dF w' B D S:=⟨bD h.o a,bD h.q a,fun i b=>bD (h.h i b) a⟩
theorem dF.weak {w:World} {B B':Nat} {D:bX} {S:cN} (h:dF w B D S) (a:B'≤B):dF w B' D S:=⟨cA h.o a,cA h.q a,fun i b=>cA (h.h i b) a⟩
theorem dF.away {w w':World} {B b:Nat} {D:bX} {S:cN} {t:TypeId} {C:Array Value} (h:dF w B D S) (a:w.heap[b]?=some (.cells C t)) (d:43≠t) (e:53≠t) (c:∀g,g≠b→w'.heap[g]?=w.heap[g]?):dF w' B D S:=⟨eT h.o a d c,eT h.q a e c,fun i f=>eT (h.h i f) a d c⟩
theorem dF.low {w w':World} {B b:Nat} {D:bX} {S:cN} (h:dF w B D S) (a:b<B) (c:∀g,g≠b→w'.heap[g]?=w.heap[g]?):dF w' B D S:=⟨cw h.o a c,cw h.q a c,fun i d=>cw (h.h i d) a c⟩
def gF (D:bX):Prop:=D.no≤1000000∧D.nh≤1000000∧∀i,i<D.nh→D.hn i≤1000000
def Gb:Value→Option Addr
 | .slice o _ _=>o
 |_=>none
def Gc:Value→Nat
 | .slice _ _ c=>c
 |_=>0
theorem Af {w:World} {B:Nat} {t:TypeId} {k n:Nat} {v:Value} {a:List Value} (h:w.ownsRow B t k v n a):v= .slice (Gb v) n (Gc v):=by
 obtain⟨o,c,rfl⟩:=cj h;rfl
theorem ra (F:Nat→Pt):∀i j,j<2→(qb (F i) j).oneCell'=true:=fun i j a=>by
 match j,a with
 |0,_=>rfl
 |1,_=>rfl
theorem na (D:bX) (S:cN) (w:World) (h:dj w D S) (a3:gF D):
 Calls prog 180 #[.agg (aH D S)] w (fun e w'=>∃S',e= .returned (.agg (aH D S'))∧dF w' w.heap.size D S'∧Below w.heap.size w w'):=by
 have HP:=ar h.1;have HH:=ar h.2.1;have HQ:=ar h.2.2;have E:=ar a3;clear h a3;have H0:Hi (aF w ((w.alloc (.cells (aH D S) 62)).alloc (.cells #["",(),(), "", "",(),Nat,Nat, "",(),(),(),(),(),(),(),(),()] 62)) [(w.heap.size+1,#["",(),(), "", "",(),Nat,Nat, "",(),(),(),(),(),(),(),(),()],62),(w.heap.size,aH D S,62)]):=((aF.nil (ah w.heap.size w)).alloc (w.heap.size) rfl _ _).alloc (w.heap.size+1) (by simp) _ _;have p6:((w.alloc (.cells (aH D S) 62)).alloc (.cells #["",(),(), "", "",(),Nat,Nat, "",(),(),(),(),(),(),(),(),()] 62)).cell? (w.heap.size,6)=some (.slice S.oo D.no S.co):=aX (H0.o.get 1 rfl) rfl;go_enter func180,ntmps180;go_wp2_with fail
 (go_at_call 96;refine(mb _ _ _ _ (cE.below HP.o H0.o.1) (fun i c _ n=>ra _ i c n) E.o.1).mono ?_;rintro e_ f ⟨v1,rfl,G,B⟩);obtain⟨s,r,rfl⟩:=cj G;have O:Hi (aF w f [(w.heap.size,aH D S,62),(w.heap.size+1,#["",(),(), "", "",(),Nat,Nat, "",(),(),(),(),(),(),(),(),()],62)]):=(aF.step H0.o B).sub (by intro x k;simp only[bj,List.not_mem_nil,or_false]at k⊢;rcases k with rfl|rfl<;>simp);have l:Hi (f.ownsRow (w.heap.size+1+1) 43 2 (.slice s D.no r) D.no (eG (fun i j=>qb (D.P i) j) 2 D.no)):=cA G (by simp);clear B G p6;obtain⟨-,-,-,-,-,-,p6,p7,-,-,-,-,-,-,-,-,-,-⟩:=tb (O.o.get 0 rfl);have pf:∀i,f.frozen? ⟨w.heap.size,i,none⟩=false:=(bT (O.o.get 0 rfl)).2.1;go_wp2_with fail
 have p:=ar (cS (i:=6) (v:= .slice s D.no r) (O.o.get 0 rfl));obtain⟨w2,I⟩:=oE (f.setCell (w.heap.size,6) (.slice s D.no r));rw[I];rw[I]at p;clear I p6 p7 pf;have H2:Hi (aF w w2 [(w.heap.size,aH D {S with oo:=s,co:=r},62),(w.heap.size+1,#["",(),(), "", "",(),Nat,Nat, "",(),(),(),(),(),(),(),(),()],62)]):=aF.wrote O.o p.o (aB _) (by intro x k;simp only[List.mem_singleton]at k;subst k;dsimp only;omega);have T:=ar (cw l.o (b:=w.heap.size) (by omega) p.o.other);clear p l O H0;(go_at_call 174;refine(wQ _ _ _ _ (cE.below HH.o H2.o.1) (fun i c _ n=>rfl) E.o.2.1).mono ?_;rintro e_ w3 ⟨v3,rfl,H,F⟩);obtain⟨C,A,rfl⟩:=cj H;have z2:w.heap.size+1<w2.heap.size:=H2.o.lt (x:=(w.heap.size+1,#["",(),(), "", "",(),Nat,Nat, "",(),(),(),(),(),(),(),(),()],62)) (List.mem_cons_of_mem _ (bw ..));have P:Hi (aF w w3 [(w.heap.size,aH D {S with oo:=s,co:=r},62),(w.heap.size+1,#["",(),(), "", "",(),Nat,Nat, "",(),(),(),(),(),(),(),(),()],62)]):=aF.step H2.o F;have W:=ar (bD T.o F);have Y:Hi (w3.ownsRow (w.heap.size+1+1) 53 1 (.slice C D.nh A) D.nh (eG (fun i _=> .slice (S.oh i) (D.hn i) (S.ch i)) 1 D.nh)):=cA H (by omega);clear F H H2 T z2 w2;have p7:w3.cell? (w.heap.size,7)=some (.slice S.oq D.nh S.cq):=aX (P.o.get 0 rfl) rfl;have pf:∀i,w3.frozen? ⟨w.heap.size,i,none⟩=false:=(bT (P.o.get 0 rfl)).2.1;have p:=ar (cS (i:=7) (v:= .slice C D.nh A) (P.o.get 0 rfl));go_wp2;obtain⟨w4,J⟩:=oE (w3.setCell (w.heap.size,7) (.slice C D.nh A));rw[J];rw[J]at p;clear J p7 pf;have H4:Hi (aF w w4 [(w.heap.size,aH D {S with oo:=s,co:=r,oq:=C,cq:=A},62),(w.heap.size+1,#["",(),(), "", "",(),Nat,Nat, "",(),(),(),(),(),(),(),(),()],62)]):=aF.wrote P.o p.o (aB _) (by intro x k;simp only[List.mem_singleton]at k;subst k;dsimp only;omega);have X:=ar (cw W.o (b:=w.heap.size) (by omega) p.o.other);have Z:=ar (cw Y.o (b:=w.heap.size) (by omega) p.o.other);clear p W Y P;obtain⟨L,hL,h4⟩:=aF.ex H4.o;have HL:=ar hL;have y:=ar h4;clear hL h4 H4;go_loopw[21] (fun i wr=>∃(j:Nat) (U:Nat→Value),j≤D.nh∧i= .int .i64 (j:Int)∧Hi (wr.ownsRow (w.heap.size+1+1) 53 1 (.slice C D.nh A) D.nh (eG (fun q _=>U q) 1 D.nh))∧Hi (∀q,j≤q→U q= .slice (S.oh q) (D.hn q) (S.ch q))∧Hi (∀q,q<j→wr.ownsRow (w.heap.size+1+1) 43 2 (U q) (D.hn q) (eG (fun a c=>qb (D.H q a) c) 2 (D.hn q)))∧Hi (wr.ownsRow (w.heap.size+1+1) 43 2 (.slice s D.no r) D.no (eG (fun i j=>qb (D.P i) j) 2 D.no))∧Hi (aF w wr L)) (fun i _=>D.nh-(intOf i).toNat)
 case atStart=>exact⟨0,_,by omega,rfl,Z,fun q _=>rfl,fun q hq=>absurd hq (by omega),X,y⟩
 case round=>
  clear X Z y;obtain⟨f,rfl⟩:=wE wr;obtain⟨j,U,hj,rfl,HR,HU,z,l,y⟩:=hrel;by_cases hlt:j<D.nh
  ·obtain⟨g,cap,a7,e,hg,n,b0,c2,a9,o⟩:=kF HR.o (by omega);cases e;have HC:=ar n;have R:=ar o;have a5:=ar (HQ.o j hlt);have a4:=ar (E.o.2.2 j hlt);have c0:f.cell? (g,j)=some (.slice (S.oh j) (D.hn j) (S.ch j)):=by
    have K:=o j 0 hlt (by decide);rw[HU.o j (aB _)]at K;exact aX n (by simpa using K)
   have p7:f.cell? (w.heap.size,7)=some (.slice (some ⟨g,0,none⟩) D.nh A):=aX (aF.nth y.o HL.o 0 rfl) rfl;have c4:∀i,f.frozen? ⟨g,i,none⟩=false:=(bT n).2.1;have zg:g<f.heap.size:=(av.1 n).1;have zx:w.heap.size<f.heap.size:=by omega
   have k0:=dS j;have k1:(j:Int)<(D.nh:Int):=by omega
   clear n o;go_wp2_with fail
   refine aD 6 ?_;simp only[ac,aj,aK,aC,aa,ae,af];iterate 5 refine bJ ?_
   refine bG (ay.owns f.heap.size 43 2 (D.hn j) (eG (fun a c=>qb (D.H j a) c) 2 (D.hn j))) ?_ ?_
   ·intro u wx hz n hf Q hd;simp[aU,ai,aR,ay.is,ay.any]at hd;refine⟨by simp[au],?_⟩;go_simp;(go_at_call 96;refine(mb _ _ _ wx (cE.below (a5.o) (ag y.o.1 Q.o)) (fun i c _ n=>ra _ i c n) a4.o).mono ?_;rintro e w9 ⟨v',rfl,ho,B⟩);exact⟨v',rfl,B,cA ho (by have:=Q.o.size;omega)⟩
   intro u w5 hb hE;obtain⟨v5,e5⟩:=oE (u 5);have a0:Hi (w5.ownsRow f.heap.size 43 2 v5 (D.hn j) (eG (fun a c=>qb (D.H j a) c) 2 (D.hn j))):=by
    have h5:=eS hE 5;rw[e5]at h5;exact h5
   simp only[cF,aR,ay.is,aE,aA,reduceIte]at hE;simp only[am,ax,ac,aj,aK,aC,aa,ae,af,e5,hE];clear e5 hE;obtain⟨b8,b6,b1,b5,d⟩:=pr hb;clear hb;obtain⟨o5,c5,rfl⟩:=cj a0.o;go_wp2;go_roundw
   case rel=>
    have t:w5.heap[g]?=some (.cells a7 53):=(d.o.block g zg).trans HC.o;have m:=cS (i:=j) (v:= .slice o5 (D.hn j) c5) t;refine⟨j+1,iX U j (.slice o5 (D.hn j) c5),by omega,by go_num,?_,fun q hq=>(dy U (.slice o5 (D.hn j) c5) (by omega)).trans (HU.o q (by omega)),fun q hq=> ?_,?_,?_⟩
    ·refine jH (bD HR.o d.o) m.here (by simpa using a9) (fun i c N b9=> ?_);obtain rfl:c=0:=by omega
     have K:=R.o i 0 N (by decide);rw[Nat.mul_one,Nat.add_zero]at K⊢
     rw[Array.getElem?_setIfInBounds];have a1:=(av.1 K).1;by_cases e:j=i
     ·subst e;rw[if_pos rfl,if_pos a1,dr]
     ·rw[if_neg e,K,dy U (.slice o5 (D.hn j) c5) (fun h=>e h.symm)]
    ·by_cases e:q=j
     ·subst e;rw[dr];exact eT (cA a0.o (by omega)) t (by decide) m.other
     ·rw[dy U (.slice o5 (D.hn j) c5) e];exact eT (bD (z.o q (by omega)) d.o) t (by decide) m.other
    ·exact eT (bD l.o d.o) t (by decide) m.other
    ·refine aF.far (aF.step y.o d.o) m (by omega) (fun x k=> ?_);rw[HL.o]at k;simp only[bj,List.not_mem_nil,or_false]at k;rcases k with rfl|rfl<;>dsimp only<;>omega
   case measure=>simp[intOf];omega
  ·have HF:Hi (f.heap[w.heap.size]?=some (.cells (aH D {S with oo:=s,co:=r,oq:=C,cq:=A}) 62)):=aF.nth y.o HL.o 0 rfl;have a6:Hi (f.heap[w.heap.size+1]?=some (.cells #["",(),(), "", "",(),Nat,Nat, "",(),(),(),(),(),(),(),(),()] 62)):=aF.nth y.o HL.o 1 rfl;go_wp2_with (first|(with_reducible refine bA 62 w.heap.size 18 (aH D {S with oo:=s,co:=r,oq:=C,cq:=A}) 62 _ bF bv rfl rfl HF.o ?_)|((with_reducible refine bB 62 (w.heap.size+1) 18 _ 62 bv rfl rfl rfl rfl (⟨_,a6.o,rfl⟩) ?_);intro w7 hs))
   have a8:=bL.below y.o.1 hs (by omega);refine bodyPost_ret (gE rfl rfl hs.here bF bv rfl) rfl ?_;obtain rfl:j=D.nh:=by omega
   have a2:=cw HR.o (b:=w.heap.size+1) (by omega) hs.other;rw[iK (g:=fun i _=> .slice (Gb (U i)) (D.hn i) (Gc (U i))) (fun i c N _=>Af (z.o i N))]at a2;refine⟨⟨s,r,C,A,fun q=>Gb (U q),fun q=>Gc (U q)⟩,rfl,⟨cA (cw l.o (b:=w.heap.size+1) (by omega) hs.other) (by omega),cA a2 (by omega),fun i N=> ?_⟩,a8⟩;show World.ownsRow _ _ _ _ (.slice (Gb (U i)) (D.hn i) (Gc (U i))) _ _;rw[←Af (z.o i N)];exact cA (cw (z.o i N) (b:=w.heap.size+1) (by omega) hs.other) (by omega)
def BU (F:Nat→ByteArray) (i c:Nat):Value:=(#[Value.string (F i)]:Array Value).getD c undef
theorem Ag (F:Nat→ByteArray):∀i j,j<1→((#[Value.string (F i)]:Array Value).getD j undef).oneCell'=true:=fun i j a=>by
 obtain rfl:j=0:=by omega
 rfl
structure eI (w:World) (B:Nat) (x:jS) (s:jD):Prop where
 p:w.ownsRow B 9 1 (.slice s.op x.m s.cp) x.m (eG (BU x.P) 1 x.m)
 a:w.ownsRow B 9 1 (.slice s.oa x.k s.ca) x.k (eG (BU x.A) 1 x.k)
theorem eI.keep {w w':World} {B:Nat} {x:jS} {s:jD} (h:eI w B x s) (a:Below w.heap.size w w'):eI w' B x s:=⟨bD h.p a,bD h.a a⟩
theorem eI.weak {w:World} {B B':Nat} {x:jS} {s:jD} (h:eI w B x s) (a:B'≤B):eI w B' x s:=⟨cA h.p a,cA h.a a⟩
theorem eI.away {w w':World} {B b:Nat} {x:jS} {s:jD} {t:TypeId} {C:Array Value} (h:eI w B x s) (c:w.heap[b]?=some (.cells C t)) (a:9≠t) (d:∀g,g≠b→w'.heap[g]?=w.heap[g]?):eI w' B x s:=⟨eT h.p c a d,eT h.a c a d⟩
theorem eI.low {w w':World} {B b:Nat} {x:jS} {s:jD} (h:eI w B x s) (a:b<B) (c:∀g,g≠b→w'.heap[g]?=w.heap[g]?):eI w' B x s:=⟨cw h.p a c,cw h.a a c⟩
theorem tx (x:jS) (s:jD) (w:World) (T:bs w (.slice s.op x.m s.cp) x.m 1 (fun j=>#[.string (x.P j)])) (O:bs w (.slice s.oa x.k s.ca) x.k 1 (fun j=>#[.string (x.A j)])) (hm:x.m≤1000000) (hk:x.k≤1000000):
 Calls prog 181 #[.agg (eO x s)] w (fun e w'=>∃X,e= .returned (.agg (eO x X))∧eI w' w.heap.size x X∧Below w.heap.size w w'):=by
 have HP:=ar T;have Z:=ar O;clear T O;have l:Hi (aF w ((w.alloc (.cells (eO x s) 69)).alloc (.cells #["", "",Nat,(),Nat] 69)) [(w.heap.size+1,#["", "",Nat,(),Nat],69),(w.heap.size,eO x s,69)]):=((aF.nil (ah w.heap.size w)).alloc (w.heap.size) rfl _ _).alloc (w.heap.size+1) (by simp) _ _;have p2:((w.alloc (.cells (eO x s) 69)).alloc (.cells #["", "",Nat,(),Nat] 69)).cell? (w.heap.size,2)=some (.slice s.op x.m s.cp):=aX (l.o.get 1 rfl) rfl;have p4:((w.alloc (.cells (eO x s) 69)).alloc (.cells #["", "",Nat,(),Nat] 69)).cell? (w.heap.size,4)=some (.slice s.oa x.k s.ca):=aX (l.o.get 1 rfl) rfl;have pf:∀i,((w.alloc (.cells (eO x s) 69)).alloc (.cells #["", "",Nat,(),Nat] 69)).frozen? ⟨w.heap.size,i,none⟩=false:=(bT (l.o.get 1 rfl)).2.1;go_enter func181,ntmps181;go_wp2_with fail
 refine aD 7 ?_;simp only[ac,aj,aK,aC,aa,ae,af];iterate 2 refine bJ ?_
 refine bG (ay.owns (w.heap.size+1+1) 9 1 x.m (eG (BU x.P) 1 x.m)) ?_ ?_
 ·intro u L hz A hf a H;simp[aU,ai,aR,ay.is,ay.any]at H;refine⟨by simp[au],?_⟩;go_simp;(go_at_call 315;refine(wR _ _ _ L (cE.below HP.o (ag l.o.1 a.o)) (fun i c _ A=>Ag _ i c A) hm).mono ?_;rintro e w9 ⟨K,rfl,I,k⟩);exact⟨K,rfl,k,cA I (by have:=a.o.size;(try simp only[aw]at this);omega)⟩
 iterate 2 refine bJ ?_
 refine bG (ay.owns (w.heap.size+1+1) 9 1 x.k (eG (BU x.A) 1 x.k)) ?_ ?_
 ·intro u L hz A hf a H;simp[aU,ai,aR,ay.is,ay.any]at H;refine⟨by simp[au],?_⟩;go_simp;(go_at_call 315;refine(wR _ _ _ L (cE.below Z.o (ag l.o.1 a.o)) (fun i c _ A=>Ag _ i c A) hk).mono ?_;rintro e w9 ⟨K,rfl,I,k⟩);exact⟨K,rfl,k,cA I (by have:=a.o.size;(try simp only[aw]at this);omega)⟩
 refine bJ ?_;intro u B P z;obtain⟨v2,E⟩:=oE (u 2);have r:Hi (B.ownsRow (w.heap.size+1+1) 9 1 v2 x.m (eG (BU x.P) 1 x.m)):=by
  have y:=eS z 2;rw[E]at y;exact y
 obtain⟨v5,F⟩:=oE (u 5);have t:Hi (B.ownsRow (w.heap.size+1+1) 9 1 v5 x.k (eG (BU x.A) 1 x.k)):=by
  have y:=eS z 5;rw[F]at y;exact y
 simp only[cF,aR,ay.is,aE,aA,reduceIte]at z;simp only[am,ax,ac,aj,aK,aC,aa,ae,af,E,F,z];clear E F z;obtain⟨W,U,Q,R,g⟩:=pr P;clear P;obtain⟨p,m,rfl⟩:=cj r.o;obtain⟨q,o,rfl⟩:=cj t.o;have C:=ar (aF.step l.o g.o);have d:=ar (cS (i:=2) (v:= .slice p x.m m) (C.o.get 1 rfl));have f:=ar (cS (i:=4) (v:= .slice q x.k o) d.o.here);have HF:Hi (((B.setCell (w.heap.size,2) (.slice p x.m m)).setCell (w.heap.size,4) (.slice q x.k o)).heap[w.heap.size]?=some (.cells (eO x ⟨p,m,q,o⟩) 69)):=f.o.here;have D:Hi (((B.setCell (w.heap.size,2) (.slice p x.m m)).setCell (w.heap.size,4) (.slice q x.k o)).heap[w.heap.size+1]?=some (.cells #["", "",Nat,(),Nat] 69)):=(f.o.other _ (by omega)).trans ((d.o.other _ (by omega)).trans (C.o.get 0 rfl));go_wp2_with (first|(with_reducible refine bA 69 w.heap.size 5 (eO x ⟨p,m,q,o⟩) 69 _ ic fA rfl rfl HF.o ?_)|((with_reducible refine bB 69 (w.heap.size+1) 5 _ 69 fA rfl rfl rfl rfl (⟨_,D.o,rfl⟩) ?_);intro w7 J))
 have G:=bL.below (bL.below (bL.below C.o.1 d.o (aB _)) f.o (aB _)) J (by omega);refine bodyPost_ret (gE rfl rfl J.here ic fA rfl) rfl ?_;have N:∀{v:Value} {n:Nat} {Y:List Value},B.ownsRow (w.heap.size+1+1) 9 1 v n Y→w7.ownsRow w.heap.size 9 1 v n Y:=fun h=>cA (cw (cw (cw h (b:=w.heap.size) (by omega) d.o.other) (b:=w.heap.size) (by omega) f.o.other) (b:=w.heap.size+1) (by omega) J.other) (by omega);exact⟨⟨p,m,q,o⟩,rfl,⟨N r.o,N t.o⟩,G⟩
theorem xb (X:bK) (S:dq) (s:ByteArray) (i:Nat) (w:World) (hr:Hi (bs w (.slice S.op X.np S.cp) X.np 18 (fun i=>aH (X.D i) (S.sp i)))) (hi:i<X.np) (hp:dj w (X.D i) (S.sp i)) (b5:gF (X.D i)) (hs:Hi (∀q,q<i→((X.pI q).toList==s.toList)=false)) (he:Hi (X.pI i=s)):
 Calls prog 127 #[.agg (bH X S),.string s] w (fun e w'=>∃S',e= .returned (.tuple #[.agg (aH (X.D i) S'),.bool true])∧Below w.heap.size w w'):=by
 have a8:=hr.o.lim;obtain⟨on,cn,op,cp,f,os,cs,ok,ck,sk,od,cd⟩:=S;dsimp only at hp hr a8⊢
 have HP:=ar hp.1;have HH:=ar hp.2.1;have HQ:=ar hp.2.2;have Q:=ar b5;have HR:=hr;clear hp b5 hr;unfold bH;dsimp only;have h0:aF w ((w.alloc (.cells #[.string X.hull,.slice on X.nn cn,.slice op X.np cp,.slice os X.ns cs,.slice ok X.nk ck,.slice od X.nd cd] 28)).alloc (.cells #["",(),(), "", "",(),Nat,Nat, "",(),(),(),(),(),(),(),(),()] 62)) [(w.heap.size+1,#["",(),(), "", "",(),Nat,Nat, "",(),(),(),(),(),(),(),(),()],62),(w.heap.size,#[.string X.hull,.slice on X.nn cn,.slice op X.np cp,.slice os X.ns cs,.slice ok X.nk ck,.slice od X.nd cd],28)]:=((aF.nil (ah w.heap.size w)).alloc (w.heap.size) rfl _ _).alloc (w.heap.size+1) (by simp) _ _;obtain⟨L,hL,h0⟩:=aF.ex h0;have HL:=ar hL;have H0:=ar h0;have a2:Hi (∀x∈L,x.1<w.heap.size+1+1):=fun x G=>by
  rw[HL.o]at G;simp only[bj,List.not_mem_nil,or_false]at G;rcases G with rfl|rfl<;>dsimp only<;>omega
 clear hL h0;go_enter func127,ntmps127;go_wp2;go_loopw[13] (fun x wr=>∃k:Nat,k≤i∧x= .int .i64 (k:Int)∧Hi (aF w wr L)) (fun x _=>i-(intOf x).toNat)
 case atStart=>exact⟨0,by omega,rfl,H0⟩
 case round=>
  clear H0;obtain⟨o,rfl⟩:=wE wr;obtain⟨k,hk,rfl,r⟩:=hrel;have a9:k<X.np:=by omega
  obtain⟨bc,fc,rfl,a7,N⟩:=bs.at HR.o (fun _=>rfl) a9;have O:Hi (∀q u,(aH (X.D k) (f k))[q]?=some u→o.cell? (bc,fc+k*18+q)=some u):=fun q u hq=>bI r.o.1 a7 (N k a9 q u hq);have z1:w.heap.size+1+1≤o.heap.size:=by have:=r.o.lt (x:=(w.heap.size+1,#["",(),(), "", "",(),Nat,Nat, "",(),(),(),(),(),(),(),(),()],62)) (by rw[HL.o];exact bw ..);dsimp only at this;omega
  clear N;by_cases hki:k<i
  ·have k1:((X.D k).id.toList==s.toList)=false:=hs.o k hki;go_wp2_with (first|(with_reducible refine cY 62 bc (fc+k*18) 18 (aH (X.D k) (f k)) _ bF bv rfl rfl O.o ?_)|((with_reducible refine bB 62 o.heap.size 18 (aH (X.D k) (f k)) 62 bv rfl rfl rfl rfl (⟨_,bf _ _ _ rfl,rfl⟩) ?_);intro l d;(have D:=ar (aF.put r.o d));(have p0:l.cell? o.heap.size=some (.string (X.D k).id):=aX d.here rfl);(have p6:l.cell? (o.heap.size,6)=some (.slice (f k).oo (X.D k).no (f k).co):=aX d.here rfl);(have p7:l.cell? (o.heap.size,7)=some (.slice (f k).oq (X.D k).nh (f k).cq):=aX d.here rfl);(have pf:∀q,l.frozen? ⟨o.heap.size,q,none⟩=false:=(bT d.here).2.1);(have zp:o.heap.size<l.heap.size:=D.o.lt (bw ..));clear d)|fail)
   go_roundw
   case rel=>exact⟨k+1,by omega,by go_num,ar D.o.tail⟩
   case measure=>simp[intOf];omega
  ·obtain rfl:k=i:=by omega
   have k1:((X.D k).id.toList==s.toList)=true:=by have:=he.o;simp only[bK.pI]at this;rw[this];simp
   clear hki hs;go_wp2_with (first|(with_reducible refine cY 62 bc (fc+k*18) 18 (aH (X.D k) (f k)) _ bF bv rfl rfl O.o ?_)|((with_reducible refine bB 62 o.heap.size 18 (aH (X.D k) (f k)) 62 bv rfl rfl rfl rfl (⟨_,bf _ _ _ rfl,rfl⟩) ?_);intro l d;(have D:=ar (aF.put r.o d));(have p0:l.cell? o.heap.size=some (.string (X.D k).id):=aX d.here rfl);(have p6:l.cell? (o.heap.size,6)=some (.slice (f k).oo (X.D k).no (f k).co):=aX d.here rfl);(have p7:l.cell? (o.heap.size,7)=some (.slice (f k).oq (X.D k).nh (f k).cq):=aX d.here rfl);(have pf:∀q,l.frozen? ⟨o.heap.size,q,none⟩=false:=(bT d.here).2.1);(have zp:o.heap.size<l.heap.size:=D.o.lt (bw ..));clear d)|fail)
   obtain⟨t,T⟩:=oE o.heap.size;rw[T]at D p6 p7 pf zp p0;rw[T];have e1:w.heap.size+1+1≤t:=by omega
   clear T O r z1 a7 p0 HR;go_wp2_with fail
   refine aD 10 ?_;simp only[ac,aj,aK,aC,aa,ae,af];iterate 3 refine bJ ?_
   refine bG (ay.owns (l.heap.size) 43 2 (X.D k).no (eG (fun a c=>qb ((X.D k).P a) c) 2 (X.D k).no)) ?_ ?_
   ·intro u wx hz p hf m hd;simp[aU,ai,aR,ay.is,ay.any]at hd;refine⟨by simp[au],?_⟩;go_simp;(go_at_call 96;refine(mb _ _ _ wx (cE.below HP.o (ag D.o.1 m.o)) (fun a c _ p=>ra _ a c p) Q.o.1).mono ?_;rintro e w9 ⟨v',rfl,ho,z⟩);exact⟨v',rfl,z,cA ho (by have:=m.o.size;(try simp only[aw]at this);omega)⟩
   iterate 3 refine bJ ?_
   refine bG (ay.owns (l.heap.size) 53 1 (X.D k).nh (eG (fun a _=> .slice ((f k).oh a) ((X.D k).hn a) ((f k).ch a)) 1 (X.D k).nh)) ?_ ?_
   ·intro u wx hz p hf m hd;simp[aU,ai,aR,ay.is,ay.any]at hd;refine⟨by simp[au],?_⟩;go_simp;(go_at_call 174;refine(wQ _ _ _ wx (cE.below HH.o (ag D.o.1 m.o)) (fun a c _ p=>rfl) Q.o.2.1).mono ?_;rintro e w9 ⟨v',rfl,ho,z⟩);exact⟨v',rfl,z,cA ho (by have:=m.o.size;(try simp only[aw]at this);omega)⟩
   iterate 2 refine bJ ?_
   intro u w5 hb C;obtain⟨v3,e3⟩:=oE (u 3);have a5:Hi (w5.ownsRow (l.heap.size) 43 2 v3 (X.D k).no (eG (fun a c=>qb ((X.D k).P a) c) 2 (X.D k).no)):=by
    have K:=eS C 3;rw[e3]at K;exact K
   obtain⟨v7,e7⟩:=oE (u 7);have R:Hi (w5.ownsRow (l.heap.size) 53 1 v7 (X.D k).nh (eG (fun a _=> .slice ((f k).oh a) ((X.D k).hn a) ((f k).ch a)) 1 (X.D k).nh)):=by
    have K:=eS C 7;rw[e7]at K;exact K
   simp only[cF,aR,ay.is,aE,aA,reduceIte]at C;simp only[am,ax,ac,aj,aK,aC,aa,ae,af,e3,e7,C];clear e3 e7 C;have a0:=ar hb;obtain⟨d5,d3,c9,d1,y⟩:=pr hb;clear hb;obtain⟨o3,Z,rfl⟩:=cj a5.o;obtain⟨Y,J,rfl⟩:=cj R.o;have H5:=ar (aF.step D.o y.o);have E:=ar (cS (i:=6) (v:= .slice o3 (X.D k).no Z) (H5.o.get 0 rfl));have F:=ar (cS (i:=7) (v:= .slice Y (X.D k).nh J) E.o.here);go_wp2;obtain⟨I,W⟩:=oE ((w5.setCell (t,6) (.slice o3 (X.D k).no Z)).setCell (t,7) (.slice Y (X.D k).nh J));rw[W];rw[W]at F;have B:∀x∈L,x.1≠t:=fun x G=>by have:=a2.o x G;omega
   have H6:Hi (aF w I ((t,aH (X.D k) {f k with oo:=o3,co:=Z,oq:=Y,cq:=J},62)::L)):=aF.wrote (aF.wrote H5.o E.o (by omega) B) F.o (by omega) B;have a3:=ar (cw (cw R.o (b:=t) zp E.o.other) (b:=t) zp F.o.other);clear W E F H5 D a5 R B p6 p7 pf HP a0 y;go_loopw[37] (fun x wr=>∃(j:Nat) (U:Nat→Value),j≤(X.D k).nh∧x= .int .i64 (j:Int)∧Hi (wr.ownsRow l.heap.size 53 1 (.slice Y (X.D k).nh J) (X.D k).nh (eG (fun q _=>U q) 1 (X.D k).nh))∧Hi (∀q,j≤q→U q= .slice ((f k).oh q) ((X.D k).hn q) ((f k).ch q))∧Hi (aF w wr ((t,aH (X.D k) {f k with oo:=o3,co:=Z,oq:=Y,cq:=J},62)::L))) (fun x _=>(X.D k).nh-(intOf x).toNat)
   case atStart=>exact⟨0,_,by omega,rfl,a3,fun q _=>rfl,H6⟩
   case round=>
    clear a3 H6;obtain⟨I,rfl⟩:=wE wr;obtain⟨j,U,-,rfl,HR,HU,r⟩:=hrel;by_cases hltj:j<(X.D k).nh
    ·obtain⟨g,cap,c4,e,hg,p,c8,d8,c6,A⟩:=kF HR.o (by omega);cases e;have HC:=ar p;have a1:=ar A;have b9:=ar (HQ.o j hltj);have b8:=ar (Q.o.2.2 j hltj);have c0:I.cell? (g,j)=some (.slice ((f k).oh j) ((X.D k).hn j) ((f k).ch j)):=by
      have h1:=A j 0 hltj (by decide);rw[HU.o j (aB _)]at h1;exact aX p (by simpa using h1)
     have p7:I.cell? (t,7)=some (.slice (some ⟨g,0,none⟩) (X.D k).nh J):=aX (r.o.get 0 rfl) rfl;have e0:∀i,I.frozen? ⟨g,i,none⟩=false:=(bT p).2.1;have zg:g<I.heap.size:=(av.1 p).1;have zx:t<I.heap.size:=by omega
     have k0:=dS j;have d9:(j:Int)<((X.D k).nh:Int):=by omega
     clear p A;go_wp2_with fail
     refine aD 6 ?_;simp only[ac,aj,aK,aC,aa,ae,af];iterate 5 refine bJ ?_
     refine bG (ay.owns l.heap.size 43 2 ((X.D k).hn j) (eG (fun a c=>qb ((X.D k).H j a) c) 2 ((X.D k).hn j))) ?_ ?_
     ·intro u wx hz p hf m hd;simp[aU,ai,aR,ay.is,ay.any]at hd;refine⟨by simp[au],?_⟩;go_simp;(go_at_call 96;refine(mb _ _ _ wx (cE.below (b9.o) (ag r.o.1 m.o)) (fun a c _ p=>ra _ a c p) b8.o).mono ?_;rintro e w9 ⟨v',rfl,ho,z⟩);exact⟨v',rfl,z,cA ho (by have:=m.o.size;omega)⟩
     intro u w8 hb C;obtain⟨v5,e5⟩:=oE (u 5);have c2:Hi (w8.ownsRow l.heap.size 43 2 v5 ((X.D k).hn j) (eG (fun a c=>qb ((X.D k).H j a) c) 2 ((X.D k).hn j))):=by
      have K:=eS C 5;rw[e5]at K;exact K
     simp only[cF,aR,ay.is,aE,aA,reduceIte]at C;simp only[am,ax,ac,aj,aK,aC,aa,ae,af,e5,C];clear e5 C;obtain⟨d6,d4,d0,d2,n⟩:=pr hb;clear hb;obtain⟨o5,c5,rfl⟩:=cj c2.o;go_wp2;go_roundw
     case rel=>
      have b6:w8.heap[g]?=some (.cells c4 53):=(n.o.block g zg).trans HC.o;have a4:=cS (i:=j) (v:= .slice o5 ((X.D k).hn j) c5) b6;refine⟨j+1,iX U j (.slice o5 ((X.D k).hn j) c5),by omega,by go_num,?_,fun q hq=>(dy U (.slice o5 ((X.D k).hn j) c5) (by omega)).trans (HU.o q (by omega)),?_⟩
      ·refine jH (bD HR.o n.o) a4.here (by simpa using c6) (fun i c hi d7=> ?_);obtain rfl:c=0:=by omega
       have h1:=a1.o i 0 hi (by decide);rw[Nat.mul_one,Nat.add_zero]at h1⊢
       rw[Array.getElem?_setIfInBounds];have b0:=(av.1 h1).1;by_cases e:j=i
       ·subst e;rw[if_pos rfl,if_pos b0,dr]
       ·rw[if_neg e,h1,dy U (.slice o5 ((X.D k).hn j) c5) (fun h=>e h.symm)]
      ·refine aF.far (aF.step r.o n.o) a4 (by omega) (fun x G=> ?_);rcases bj.1 G with rfl|G
       ·dsimp only;omega
       ·have:=a2.o x G;omega
     case measure=>simp[intOf];omega
    ·have HF:Hi (I.heap[t]?=some (.cells (aH (X.D k) {f k with oo:=o3,co:=Z,oq:=Y,cq:=J}) 62)):=r.o.get 0 rfl;have c1:Hi (I.heap[w.heap.size+1]?=some (.cells #["",(),(), "", "",(),Nat,Nat, "",(),(),(),(),(),(),(),(),()] 62)):=aF.nth r.o.tail HL.o 0 rfl;go_wp2_with (first|(with_reducible refine bA 62 t 18 (aH (X.D k) {f k with oo:=o3,co:=Z,oq:=Y,cq:=J}) 62 _ bF bv rfl rfl HF.o ?_)|((with_reducible refine bB 62 (w.heap.size+1) 18 _ 62 bv rfl rfl rfl rfl (⟨_,c1.o,rfl⟩) ?_);intro w7 b1))
     have a6:=bL.below r.o.1 b1 (by omega);refine bodyPost_ret (di rfl rfl b1.here bF bv rfl) rfl ?_
     first|exact⟨⟨_,rfl⟩,a6⟩|exact⟨_,rfl,a6⟩
def eN (C:Nat→Array Value) (i j:Nat):Value:=(C i).getD j undef
theorem jI {w:World} {B:Nat} {t:TypeId} {v:Value} {n k:Nat} {C:Nat→Array Value} (h:w.ownsRow B t k v n (eG (eN C) k n)) (a:0<k):bs w v n k C:=lZ h a
theorem vm {a cs:Array Value} {k cap n j:Nat} {C:Nat→Array Value} (q:a.size=cap*k) (hn:n≤cap) (r:j<n) (f:cs.size=k) (g:∀i c,i<n→c<k→a[i*k+c]?=some (eN C i c)):
 (a.toList.take (j*k)++(cs.toList++a.toList.drop (j*k+k))).toArray.size=cap*k∧
 ∀i c,i<n→c<k→(a.toList.take (j*k)++(cs.toList++a.toList.drop (j*k+k))).toArray[i*k+c]?=some (eN (iX C j cs) i c):=by
 have p:j*k+k≤cap*k:=by
  have:=Nat.mul_le_mul_right k (show j+1≤cap by omega);rw[Nat.add_mul,Nat.one_mul]at this;exact this
 have m:a.toList.length=cap*k:=by rw[Array.length_toList,q]
 have b:cs.toList.length=k:=by rw[Array.length_toList,f]
 have e:(a.toList.take (j*k)).length=j*k:=by rw[List.length_take,m];omega
 refine⟨by simp only[List.size_toArray,aZ,List.length_take,List.length_drop,m,b];omega,fun i c l d=> ?_⟩;rw[List.getElem?_toArray];rcases Nat.lt_trichotomy i j with h|h|h
 ·have o:i*k+k≤j*k:=by
   have:=Nat.mul_le_mul_right k (show i+1≤j from h);rw[Nat.add_mul,Nat.one_mul]at this;exact this
  rw[cV (by rw[e];omega),List.getElem?_take_of_lt (by omega),Array.getElem?_toList,g i c l d];unfold eN;rw[dy C cs (by omega)]
 ·subst h;rw[cD (by rw[e];omega),e,cV (by rw[b];omega),show i*k+c-i*k=c by omega,Array.getElem?_toList];unfold eN;rw[dr,Array.getD_eq_getD_getElem?,Array.getElem?_eq_getElem (by omega)];rfl
 ·have o:j*k+k≤i*k:=by
   have:=Nat.mul_le_mul_right k (show j+1≤i from h);rw[Nat.add_mul,Nat.one_mul]at this;exact this
  rw[cD (by rw[e];omega),e,cD (by rw[b];omega),b,List.getElem?_drop,show j*k+k+(i*k+c-j*k-k)=i*k+c by omega,Array.getElem?_toList,g i c l d];unfold eN;rw[dy C cs (by omega)]
structure gO (w:World) (B:Nat) (X:bK) (S:dq):Prop where
 n:w.ownsRow B 64 3 (.slice S.on X.nn S.cn) X.nn (eG (eN (fun i=>(X.N i).c)) 3 X.nn)
 s:w.ownsRow B 66 6 (.slice S.os X.ns S.cs) X.ns (eG (eN (fun i=>(X.Q i).c)) 6 X.ns)
 d:w.ownsRow B 71 3 (.slice S.od X.nd S.cd) X.nd (eG (eN (fun i=>(X.R i).c)) 3 X.nd)
theorem gO.keep {w w':World} {B:Nat} {X:bK} {S:dq} (h:gO w B X S) (a:Below w.heap.size w w'):gO w' B X S:=⟨bD h.n a,bD h.s a,bD h.d a⟩
theorem gO.weak {w:World} {B B':Nat} {X:bK} {S:dq} (h:gO w B X S) (a:B'≤B):gO w B' X S:=⟨cA h.n a,cA h.s a,cA h.d a⟩
theorem gO.away {w w':World} {B b:Nat} {X:bK} {S:dq} {t:TypeId} {C:Array Value} (h:gO w B X S) (a:w.heap[b]?=some (.cells C t)) (d:64≠t) (e:66≠t) (f:71≠t) (c:∀g,g≠b→w'.heap[g]?=w.heap[g]?):gO w' B X S:=⟨eT h.n a d c,eT h.s a e c,eT h.d a f c⟩
theorem gO.low {w w':World} {B b:Nat} {X:bK} {S:dq} (h:gO w B X S) (a:b<B) (c:∀g,g≠b→w'.heap[g]?=w.heap[g]?):gO w' B X S:=⟨cw h.n a c,cw h.s a c,cw h.d a c⟩
structure dg (w:World) (B:Nat) (X:bK) (S:dq):Prop where
 r:gO w B X S
 p:w.ownsRow B 62 18 (.slice S.op X.np S.cp) X.np (eG (eN (fun i=>aH (X.D i) (S.sp i))) 18 X.np)
 k:w.ownsRow B 69 5 (.slice S.ok X.nk S.ck) X.nk (eG (eN (fun i=>eO (X.K i) (S.sk i))) 5 X.nk)
 po:∀i,i<X.np→dF w B (X.D i) (S.sp i)
 ko:∀i,i<X.nk→eI w B (X.K i) (S.sk i)
theorem dg.row {w:World} {B:Nat} {X:bK} {S:dq} (h:dg w B X S):cJ w X S:=
 ⟨jI h.r.n (by decide),jI h.p (by decide),jI h.r.s (by decide),jI h.k (by decide),jI h.r.d (by decide),fun i b=>lZ (h.ko i b).p (by decide),fun i b=>lZ (h.ko i b).a (by decide)⟩
theorem dg.parts {w:World} {B:Nat} {X:bK} {S:dq} (h:dg w B X S):∀i,i<X.np→dj w (X.D i) (S.sp i):=fun i a=>(h.po i a).part
theorem dg.keep {w w':World} {B:Nat} {X:bK} {S:dq} (h:dg w B X S) (a:Below w.heap.size w w'):dg w' B X S:=⟨h.r.keep a,bD h.p a,bD h.k a,fun i b=>(h.po i b).keep a,fun i b=>(h.ko i b).keep a⟩
theorem dg.weak {w:World} {B B':Nat} {X:bK} {S:dq} (h:dg w B X S) (a:B'≤B):dg w B' X S:=⟨h.r.weak a,cA h.p a,cA h.k a,fun i b=>(h.po i b).weak a,fun i b=>(h.ko i b).weak a⟩
theorem dg.low {w w':World} {B b:Nat} {X:bK} {S:dq} (h:dg w B X S) (a:b<B) (c:∀g,g≠b→w'.heap[g]?=w.heap[g]?):dg w' B X S:=⟨h.r.low a c,cw h.p a c,cw h.k a c,fun i d=>(h.po i d).low a c,fun i d=>(h.ko i d).low a c⟩
structure oT (X:bK):Prop where
 c:X.nn≤1000000∧X.np≤1000000∧X.ns≤1000000∧X.nk≤1000000∧X.nd≤1000000
 p:∀i,i<X.np→gF (X.D i)
 k:∀i,i<X.nk→(X.K i).m≤1000000∧(X.K i).k≤1000000
theorem oU (C:Nat→Array Value) (k:Nat) (c:∀i,(C i).size=k) (h:∀i,(C i).toList.all (fun v=>v.oneCell')=true):∀i j,j<k→(eN C i j).oneCell'=true:=fun i j b=>by
 have a:j<(C i).size:=by rw[c];exact b
 unfold eN;rw[Array.getD_eq_getD_getElem?,Array.getElem?_eq_getElem a];have:=List.all_eq_true.1 (h i) _ (Array.getElem_mem_toList a);exact this
def ay.part (B:Nat) (D:bX):ay:=⟨fun v w=>∃S',v= .agg (aH D S')∧dF w B D S',fun v w w' hb h=>by obtain⟨S',h1,h2⟩:=h;exact⟨S',h1,h2.keep hb⟩⟩
def ay.pack (B:Nat) (x:jS):ay:=⟨fun v w=>∃s',v= .agg (eO x s')∧eI w B x s',fun v w w' hb h=>by obtain⟨s',h1,h2⟩:=h;exact⟨s',h1,h2.keep hb⟩⟩
theorem BV (X:bK) (S:dq) (w:World) (h:cJ w X S) (hp:∀i,i<X.np→dj w (X.D i) (S.sp i)) (d7:oT X):
 Calls prog 128 #[.agg (bH X S)] w (fun e w'=>∃r,e= .returned (.agg (bH X r))∧dg w' w.heap.size X r∧Below w.heap.size w w'):=by
 have HX:=ar h;have e0:=ar hp;have F:=ar d7;clear h hp d7;have H0:Hi (aF w ((w.alloc (.cells (bH X S) 28)).alloc (.cells #["",Nat,Nat,Nat,Nat,Nat] 28)) [(w.heap.size+1,#["",Nat,Nat,Nat,Nat,Nat],28),(w.heap.size,bH X S,28)]):=((aF.nil (ah w.heap.size w)).alloc (w.heap.size) rfl _ _).alloc (w.heap.size+1) (by simp) _ _;have p1:((w.alloc (.cells (bH X S) 28)).alloc (.cells #["",Nat,Nat,Nat,Nat,Nat] 28)).cell? (w.heap.size,1)=some (.slice S.on X.nn S.cn):=aX (H0.o.get 1 rfl) rfl;have p3:((w.alloc (.cells (bH X S) 28)).alloc (.cells #["",Nat,Nat,Nat,Nat,Nat] 28)).cell? (w.heap.size,3)=some (.slice S.os X.ns S.cs):=aX (H0.o.get 1 rfl) rfl;have p5:((w.alloc (.cells (bH X S) 28)).alloc (.cells #["",Nat,Nat,Nat,Nat,Nat] 28)).cell? (w.heap.size,5)=some (.slice S.od X.nd S.cd):=aX (H0.o.get 1 rfl) rfl;have pf:∀i,((w.alloc (.cells (bH X S) 28)).alloc (.cells #["",Nat,Nat,Nat,Nat,Nat] 28)).frozen? ⟨w.heap.size,i,none⟩=false:=(bT (H0.o.get 1 rfl)).2.1;go_enter func128,ntmps128;go_wp2_with fail
 refine aD 10 ?_;simp only[ac,aj,aK,aC,aa,ae,af];iterate 2 refine bJ ?_
 refine bG (ay.owns (w.heap.size+1+1) 64 3 X.nn (eG (eN (fun i=>(X.N i).c)) 3 X.nn)) ?_ ?_
 ·intro u O hz m hf d y;simp[aU,ai,aR,ay.is,ay.any]at y;refine⟨by simp[au],?_⟩;go_simp;(go_at_call 175;refine(DY _ _ _ O (cE.below HX.o.n (ag H0.o.1 d.o)) (fun i c _ m=>oU (fun i=>(X.N i).c) 3 (fun _=>rfl) (fun _=>rfl) i c m) F.o.c.1).mono ?_;rintro e w9 ⟨v',rfl,Y,l⟩);exact⟨v',rfl,l,cA Y (by have:=d.o.size;(try simp only[aw]at this);omega)⟩
 iterate 2 refine bJ ?_
 refine bG (ay.owns (w.heap.size+1+1) 66 6 X.ns (eG (eN (fun i=>(X.Q i).c)) 6 X.ns)) ?_ ?_
 ·intro u O hz m hf d y;simp[aU,ai,aR,ay.is,ay.any]at y;refine⟨by simp[au],?_⟩;go_simp;(go_at_call 176;refine(DZ _ _ _ O (cE.below HX.o.s (ag H0.o.1 d.o)) (fun i c _ m=>oU (fun i=>(X.Q i).c) 6 (fun _=>rfl) (fun _=>rfl) i c m) F.o.c.2.2.1).mono ?_;rintro e w9 ⟨v',rfl,Y,l⟩);exact⟨v',rfl,l,cA Y (by have:=d.o.size;(try simp only[aw]at this);omega)⟩
 iterate 2 refine bJ ?_
 refine bG (ay.owns (w.heap.size+1+1) 71 3 X.nd (eG (eN (fun i=>(X.R i).c)) 3 X.nd)) ?_ ?_
 ·intro u O hz m hf d y;simp[aU,ai,aR,ay.is,ay.any]at y;refine⟨by simp[au],?_⟩;go_simp;(go_at_call 177;refine(Ea _ _ _ O (cE.below HX.o.d (ag H0.o.1 d.o)) (fun i c _ m=>oU (fun i=>(X.R i).c) 3 (fun _=>rfl) (fun _=>rfl) i c m) F.o.c.2.2.2.2).mono ?_;rintro e w9 ⟨v',rfl,Y,l⟩);exact⟨v',rfl,l,cA Y (by have:=d.o.size;(try simp only[aw]at this);omega)⟩
 refine bJ ?_;intro u w5 A z;obtain⟨v2,e2⟩:=oE (u 2);have I:Hi (w5.ownsRow (w.heap.size+1+1) 64 3 v2 X.nn (eG (eN (fun i=>(X.N i).c)) 3 X.nn)):=by
  have Q:=eS z 2;rw[e2]at Q;exact Q
 obtain⟨v5,e5⟩:=oE (u 5);have J:Hi (w5.ownsRow (w.heap.size+1+1) 66 6 v5 X.ns (eG (eN (fun i=>(X.Q i).c)) 6 X.ns)):=by
  have Q:=eS z 5;rw[e5]at Q;exact Q
 obtain⟨v8,e8⟩:=oE (u 8);have b5:Hi (w5.ownsRow (w.heap.size+1+1) 71 3 v8 X.nd (eG (eN (fun i=>(X.R i).c)) 3 X.nd)):=by
  have Q:=eS z 8;rw[e8]at Q;exact Q
 simp only[cF,aR,ay.is,aE,aA,reduceIte]at z;simp only[am,ax,ac,aj,aK,aC,aa,ae,af,e2,e5,e8,z];clear e2 e5 e8 z;have c3:=ar (ag (w:=w) (by first|assumption|go_grown) A);have a0:=ar A;have d8:=dx A;have c0:w.heap.size<w5.heap.size:=by omega
 obtain⟨d2,d5⟩:=br A;clear A d8;obtain⟨o2,c2,rfl⟩:=cj I.o;obtain⟨o5,c5,rfl⟩:=cj J.o;obtain⟨o8,c8,rfl⟩:=cj b5.o;have H5:Hi (aF w w5 [(w.heap.size,bH X S,28),(w.heap.size+1,#["",Nat,Nat,Nat,Nat,Nat],28)]):=(aF.step H0.o a0.o).sub (by intro x p;simp only[bj,List.not_mem_nil,or_false]at p⊢;rcases p with rfl|rfl<;>simp);have B:=ar (cS (i:=1) (v:= .slice o2 X.nn c2) (H5.o.get 0 rfl));have C:=ar (cS (i:=3) (v:= .slice o5 X.ns c5) B.o.here);have a8:=ar (cS (i:=5) (v:= .slice o8 X.nd c8) C.o.here);go_wp2_with fail
 obtain⟨w6,b8⟩:=oE ((((w5.setCell (w.heap.size,1) (.slice o2 X.nn c2)).setCell (w.heap.size,3) (.slice o5 X.ns c5)).setCell (w.heap.size,5) (.slice o8 X.nd c8)));rw[b8];rw[b8]at a8;have H6:Hi (aF w w6 [(w.heap.size,bH X {S with on:=o2,cn:=c2,os:=o5,cs:=c5,od:=o8,cd:=c8},28),(w.heap.size+1,#["",Nat,Nat,Nat,Nat,Nat],28)]):=aF.wrote (aF.wrote (aF.wrote H5.o B.o (aB _) (by intro x p;simp only[List.mem_singleton]at p;subst p;dsimp only;omega)) C.o (aB _) (by intro x p;simp only[List.mem_singleton]at p;subst p;dsimp only;omega)) a8.o (aB _) (by intro x p;simp only[List.mem_singleton]at p;subst p;dsimp only;omega);have go:∀{t:TypeId} {k n:Nat} {v:Value} {xs:List Value},w5.ownsRow (w.heap.size+1+1) t k v n xs→w6.ownsRow (w.heap.size+1+1) t k v n xs:=fun h=>cw (cw (cw h (b:=w.heap.size) (by omega) B.o.other) (b:=w.heap.size) (by omega) C.o.other) (b:=w.heap.size) (by omega) a8.o.other;have a7:Hi (gO w6 (w.heap.size+1+1) X {S with on:=o2,cn:=c2,os:=o5,cs:=c5,od:=o8,cd:=c8}):=⟨go I.o,go J.o,go b5.o⟩;have z6:w.heap.size+1<w6.heap.size:=H6.o.lt (x:=(w.heap.size+1,#["",Nat,Nat,Nat,Nat,Nat],28)) (List.mem_cons_of_mem _ (bw ..));have e9:w.heap.size<w6.heap.size:=by omega
 clear go b8 B C a8 H5 H0 I J b5 p1 p3 p5 pf c3 a0 d2 d5 c0;have p2:w6.cell? (w.heap.size,2)=some (.slice S.op X.np S.cp):=aX (H6.o.get 0 rfl) rfl;have p4:w6.cell? (w.heap.size,4)=some (.slice S.ok X.nk S.ck):=aX (H6.o.get 0 rfl) rfl;have pf:∀i,w6.frozen? ⟨w.heap.size,i,none⟩=false:=(bT (H6.o.get 0 rfl)).2.1;refine aD 7 ?_;simp only[ac,aj,aK,aC,aa,ae,af];iterate 2 refine bJ ?_
 refine bG (ay.owns (w.heap.size+1+1) 62 18 X.np (eG (eN (fun i=>aH (X.D i) (S.sp i))) 18 X.np)) ?_ ?_
 ·intro u O hz m hf d y;simp[aU,ai,aR,ay.is,ay.any]at y;refine⟨by simp[au],?_⟩;go_simp;(go_at_call 178;refine(Eb _ _ _ O (cE.below HX.o.p (ag H6.o.1 d.o)) (fun i c _ m=>oU (fun i=>aH (X.D i) (S.sp i)) 18 (fun _=>rfl) (fun _=>rfl) i c m) F.o.c.2.1).mono ?_;rintro e w9 ⟨v',rfl,Y,l⟩);exact⟨v',rfl,l,cA Y (by have:=d.o.size;(try simp only[aw]at this);omega)⟩
 iterate 2 refine bJ ?_
 refine bG (ay.owns (w.heap.size+1+1) 69 5 X.nk (eG (eN (fun i=>eO (X.K i) (S.sk i))) 5 X.nk)) ?_ ?_
 ·intro u O hz m hf d y;simp[aU,ai,aR,ay.is,ay.any]at y;refine⟨by simp[au],?_⟩;go_simp;(go_at_call 179;refine(Ec _ _ _ O (cE.below HX.o.k (ag H6.o.1 d.o)) (fun i c _ m=>oU (fun i=>eO (X.K i) (S.sk i)) 5 (fun _=>rfl) (fun _=>rfl) i c m) F.o.c.2.2.2.1).mono ?_;rintro e w9 ⟨v',rfl,Y,l⟩);exact⟨v',rfl,l,cA Y (by have:=d.o.size;(try simp only[aw]at this);omega)⟩
 refine bJ ?_;intro u w7 A z;obtain⟨v2,e2⟩:=oE (u 2);have I:Hi (w7.ownsRow (w.heap.size+1+1) 62 18 v2 X.np (eG (eN (fun i=>aH (X.D i) (S.sp i))) 18 X.np)):=by
  have Q:=eS z 2;rw[e2]at Q;exact Q
 obtain⟨v5,e5⟩:=oE (u 5);have J:Hi (w7.ownsRow (w.heap.size+1+1) 69 5 v5 X.nk (eG (eN (fun i=>eO (X.K i) (S.sk i))) 5 X.nk)):=by
  have Q:=eS z 5;rw[e5]at Q;exact Q
 simp only[cF,aR,ay.is,aE,aA,reduceIte]at z;simp only[am,ax,ac,aj,aK,aC,aa,ae,af,e2,e5,z];clear e2 e5 z;have c4:=ar A;have s:=ar A;have d9:=dx A;have c1:w.heap.size<w7.heap.size:=by omega
 obtain⟨d3,d6⟩:=br A;clear A d9;obtain⟨Z,K,rfl⟩:=cj I.o;obtain⟨R,H,rfl⟩:=cj J.o;have H7:=ar (aF.step H6.o s.o);have B:=ar (cS (i:=2) (v:= .slice Z X.np K) (H7.o.get 0 rfl));have C:=ar (cS (i:=4) (v:= .slice R X.nk H) B.o.here);go_wp2;obtain⟨w8,b9⟩:=oE (((w7.setCell (w.heap.size,2) (.slice Z X.np K)).setCell (w.heap.size,4) (.slice R X.nk H)));rw[b9];rw[b9]at C;have H8:Hi (aF w w8 [(w.heap.size,bH X {S with on:=o2,cn:=c2,os:=o5,cs:=c5,od:=o8,cd:=c8,op:=Z,cp:=K,ok:=R,ck:=H},28),(w.heap.size+1,#["",Nat,Nat,Nat,Nat,Nat],28)]):=aF.wrote (aF.wrote H7.o B.o (aB _) (by intro x p;simp only[List.mem_singleton]at p;subst p;dsimp only;omega)) C.o (aB _) (by intro x p;simp only[List.mem_singleton]at p;subst p;dsimp only;omega);have go:∀{t:TypeId} {k n:Nat} {v:Value} {xs:List Value},w7.ownsRow (w.heap.size+1+1) t k v n xs→w8.ownsRow (w.heap.size+1+1) t k v n xs:=fun h=>cw (cw h (b:=w.heap.size) (by omega) B.o.other) (b:=w.heap.size) (by omega) C.o.other;have T:Hi (gO w8 (w.heap.size+1+1) X {S with on:=o2,cn:=c2,os:=o5,cs:=c5,od:=o8,cd:=c8,op:=Z,cp:=K,ok:=R,ck:=H}):=⟨go (bD a7.o.n s.o),go (bD a7.o.s s.o),go (bD a7.o.d s.o)⟩;have c9:Hi (w8.ownsRow (w.heap.size+1+1) 62 18 (.slice Z X.np K) X.np (eG (eN (fun i=>aH (X.D i) (S.sp i))) 18 X.np)):=go I.o;have c6:Hi (w8.ownsRow (w.heap.size+1+1) 69 5 (.slice R X.nk H) X.nk (eG (eN (fun i=>eO (X.K i) (S.sk i))) 5 X.nk)):=go J.o;obtain⟨L,hL,h8⟩:=aF.ex H8.o;have HL:=ar hL;have c7:=ar h8;clear go b9 B C H7 H6 H8 a7 I J p2 p4 pf c4 s d3 d6 c1 hL h8 z6 e9;go_loopw[28] (fun x wr=>∃(j:Nat) (U:Nat→cN),j≤X.np∧x= .int .i64 (j:Int)∧Hi (wr.ownsRow (w.heap.size+1+1) 62 18 (.slice Z X.np K) X.np (eG (eN (fun i=>aH (X.D i) (U i))) 18 X.np))∧Hi (∀q,j≤q→U q=S.sp q)∧Hi (∀q,q<j→dF wr (w.heap.size+1+1) (X.D q) (U q))∧Hi (gO wr (w.heap.size+1+1) X {S with on:=o2,cn:=c2,os:=o5,cs:=c5,od:=o8,cd:=c8,op:=Z,cp:=K,ok:=R,ck:=H})∧Hi (wr.ownsRow (w.heap.size+1+1) 69 5 (.slice R X.nk H) X.nk (eG (eN (fun i=>eO (X.K i) (S.sk i))) 5 X.nk))∧Hi (aF w wr L)) (fun x _=>X.np-(intOf x).toNat)
 case atStart=>exact⟨0,S.sp,by omega,rfl,c9,fun q _=>rfl,fun q D=>absurd D (by omega),T,c6,c7⟩
 case round=>
  clear c9 T c6 c7;obtain⟨w1,rfl⟩:=wE wr;obtain⟨j,U,hj,rfl,HR,HU,W,HN,HK,P⟩:=hrel;by_cases hlt:j<X.np
  ·obtain⟨g,cap,N,e,hg,m,a1,e4,a2,G⟩:=kF HR.o (by omega);cases e;have HC:=ar m;have E:=ar G;have b0:Hi (∀q u,(aH (X.D j) (S.sp j))[q]?=some u→w1.cell? (g,j*18+q)=some u):=fun q u D=>by
    have a4:q<18:=(av.1 D).1;have h1:=E.o j q hlt a4;refine aX HC.o (h1.trans ?_);unfold eN;dsimp only;rw[HU.o j (aB _),Array.getD_eq_getD_getElem?,D];rfl
   have p2:w1.cell? (w.heap.size,2)=some (.slice (some ⟨g,0,none⟩) X.np K):=aX (aF.nth P.o HL.o 0 rfl) rfl;have zg:g<w1.heap.size:=(av.1 m).1;have zx:w.heap.size<w1.heap.size:=by omega
   have k0:=dS j;have k1:(j:Int)<(X.np:Int):=by omega
   clear m G;go_wp2_with fail
   refine aD 9 ?_;simp only[ac,aj,aK,aC,aa,ae,af];iterate 7 refine bJ ?_
   apply bg (x:= .agg (aH (X.D j) (S.sp j)))
   ·intro u O hz m hf d y;simp[aU,ai,aR,ay.is,ay.any]at y;refine cI 62 g (j*18) 18 (aH (X.D j) (S.sp j)) _ bF bv (by first|exact y|simpa [Act.eval]using y) rfl (fun q u D=>bI d.o zg (b0.o q u D)) ⟨ah _ _,rfl⟩
   refine bG (ay.part (w.heap.size+1+1) (X.D j)) ?_ ?_
   ·intro u O hz m hf d y;simp[aU,ai,aR,ay.is,ay.any]at y;refine⟨by simp[au],?_⟩;go_simp;(go_at_call 180;refine(na (X.D j) (S.sp j) O ((e0.o j hlt).below (ag P.o.1 d.o)) (F.o.p j hlt)).mono ?_;rintro e w9 ⟨r,rfl,Y,l⟩);exact⟨_,rfl,l,r,rfl,Y.weak (by have:=d.o.size;omega)⟩
   intro u w4 A z;obtain⟨r,e8,a3⟩:∃r,u 8= .agg (aH (X.D j) r)∧dF w4 (w.heap.size+1+1) (X.D j) r:=eS z 8;have T:=ar a3;clear a3;simp only[cF,aR,ay.is,aE,aA,reduceIte]at z;simp only[am,ax,ac,aj,aK,aC,aa,ae,af,e8,z];clear e8 z;have f0:=ar A;have a:=ar A;have a9:=dx A;have e6:g<w4.heap.size:=by omega
   have e7:w.heap.size<w4.heap.size:=by omega
   obtain⟨d1,d4⟩:=br A;clear A a9;have o:Hi (w4.heap[g]?=some (.cells N 62)):=(a.o.block g zg).trans HC.o;have b1:Hi (j*18+18≤N.size):=by
    show _≤_;rw[a2];have:=Nat.mul_le_mul_right 18 (show j+1≤K by omega);omega
   go_wp2_with (first|((with_reducible refine iG 62 g (j*18) 18 N (aH (X.D j) r) 62 bv rfl rfl rfl rfl o.o b1.o ?_);intro w9 a6))
   have f:=ar a6;clear a6;go_roundw
   case rel=>
    have a5:=vm (cs:=aH (X.D j) r) a2 a1 hlt rfl E.o;refine⟨j+1,iX U j r,by omega,by go_num,?_,fun q D=>(dy U r (by omega)).trans (HU.o q (by omega)),fun q D=> ?_,?_,?_,?_⟩
    ·refine jH (bD HR.o a.o) f.o.here a5.1 (fun i c hi b6=> ?_);rw[a5.2 i c hi b6];unfold eN;by_cases e:i=j
     ·subst e;rw[dr];dsimp only;rw[dr]
     ·rw[dy _ _ e];dsimp only;rw[dy _ _ e]
    ·by_cases e:q=j
     ·subst e;rw[dr];exact T.o.away o.o (by decide) (by decide) f.o.other
     ·rw[dy U r e];exact((W.o q (by omega)).keep a.o).away o.o (by decide) (by decide) f.o.other
    ·exact(HN.o.keep a.o).away o.o (by decide) (by decide) (by decide) f.o.other
    ·exact eT (bD HK.o a.o) o.o (by decide) f.o.other
    ·refine aF.far (aF.step P.o a.o) f.o (by omega) (fun x p=> ?_);rw[HL.o]at p;simp only[bj,List.not_mem_nil,or_false]at p;rcases p with rfl|rfl<;>dsimp only<;>omega
   case measure=>simp[intOf];omega
  ·obtain rfl:j=X.np:=by omega
   have p4:w1.cell? (w.heap.size,4)=some (.slice R X.nk H):=aX (aF.nth P.o HL.o 0 rfl) rfl;go_wp2;clear p4;go_loopw[45] (fun x wr=>∃(j:Nat) (V:Nat→jD),j≤X.nk∧x= .int .i64 (j:Int)∧Hi (wr.ownsRow (w.heap.size+1+1) 69 5 (.slice R X.nk H) X.nk (eG (eN (fun i=>eO (X.K i) (V i))) 5 X.nk))∧Hi (∀q,j≤q→V q=S.sk q)∧Hi (∀q,q<j→eI wr (w.heap.size+1+1) (X.K q) (V q))∧Hi (gO wr (w.heap.size+1+1) X {S with on:=o2,cn:=c2,os:=o5,cs:=c5,od:=o8,cd:=c8,op:=Z,cp:=K,ok:=R,ck:=H})∧Hi (wr.ownsRow (w.heap.size+1+1) 62 18 (.slice Z X.np K) X.np (eG (eN (fun i=>aH (X.D i) (U i))) 18 X.np))∧Hi (∀q,q<X.np→dF wr (w.heap.size+1+1) (X.D q) (U q))∧Hi (aF w wr L)) (fun x _=>X.nk-(intOf x).toNat)
   case atStart=>exact⟨0,S.sk,by omega,rfl,HK,fun q _=>rfl,fun q D=>absurd D (by omega),HN,HR,W,P⟩
   case round=>
    clear HK HN HR W P;obtain⟨w1,rfl⟩:=wE wr;obtain⟨j,V,hj,rfl,HK,HV,d0,HN,HR,W,P⟩:=hrel;by_cases hlt:j<X.nk
    ·obtain⟨g,cap,N,e,hg,m,a1,e4,a2,G⟩:=kF HK.o (by omega);cases e;have HC:=ar m;have E:=ar G;have b0:Hi (∀q u,(eO (X.K j) (S.sk j))[q]?=some u→w1.cell? (g,j*5+q)=some u):=fun q u D=>by
      have a4:q<5:=(av.1 D).1;have h1:=E.o j q hlt a4;refine aX HC.o (h1.trans ?_);unfold eN;dsimp only;rw[HV.o j (aB _),Array.getD_eq_getD_getElem?,D];rfl
     have p4:w1.cell? (w.heap.size,4)=some (.slice (some ⟨g,0,none⟩) X.nk H):=aX (aF.nth P.o HL.o 0 rfl) rfl;have zg:g<w1.heap.size:=(av.1 m).1;have zx:w.heap.size<w1.heap.size:=by omega
     have k0:=dS j;have k1:(j:Int)<(X.nk:Int):=by omega
     clear m G;go_wp2_with fail
     refine aD 9 ?_;simp only[ac,aj,aK,aC,aa,ae,af];iterate 7 refine bJ ?_
     apply bg (x:= .agg (eO (X.K j) (S.sk j)))
     ·intro u O hz m hf d y;simp[aU,ai,aR,ay.is,ay.any]at y;refine cI 69 g (j*5) 5 (eO (X.K j) (S.sk j)) _ ic fA (by first|exact y|simpa [Act.eval]using y) rfl (fun q u D=>bI d.o zg (b0.o q u D)) ⟨ah _ _,rfl⟩
     refine bG (ay.pack (w.heap.size+1+1) (X.K j)) ?_ ?_
     ·intro u O hz m hf d y;simp[aU,ai,aR,ay.is,ay.any]at y;refine⟨by simp[au],?_⟩;go_simp;(go_at_call 181;refine(tx (X.K j) (S.sk j) O ((HX.o.kp j hlt).below (ag P.o.1 d.o)) ((HX.o.ka j hlt).below (ag P.o.1 d.o)) (F.o.k j hlt).1 (F.o.k j hlt).2).mono ?_;rintro e w9 ⟨r,rfl,Y,l⟩);exact⟨_,rfl,l,r,rfl,Y.weak (by have:=d.o.size;omega)⟩
     intro u w4 A z;obtain⟨r,e8,a3⟩:∃r,u 8= .agg (eO (X.K j) r)∧eI w4 (w.heap.size+1+1) (X.K j) r:=eS z 8;have T:=ar a3;clear a3;simp only[cF,aR,ay.is,aE,aA,reduceIte]at z;simp only[am,ax,ac,aj,aK,aC,aa,ae,af,e8,z];clear e8 z;obtain⟨a9,f1,d1,d4,a⟩:=pr A;clear A;have o:Hi (w4.heap[g]?=some (.cells N 69)):=(a.o.block g zg).trans HC.o;have b1:Hi (j*5+5≤N.size):=by
      show _≤_;rw[a2];have:=Nat.mul_le_mul_right 5 (show j+1≤H by omega);omega
     go_wp2_with (first|((with_reducible refine iG 69 g (j*5) 5 N (eO (X.K j) r) 69 fA rfl rfl rfl rfl o.o b1.o ?_);intro w9 a6))
     have f:=ar a6;clear a6;go_roundw
     case rel=>
      have a5:=vm (cs:=eO (X.K j) r) a2 a1 hlt rfl E.o;refine⟨j+1,iX V j r,by omega,by go_num,?_,fun q D=>(dy V r (by omega)).trans (HV.o q (by omega)),fun q D=> ?_,?_,?_,fun q D=> ?_,?_⟩
      ·refine jH (bD HK.o a.o) f.o.here a5.1 (fun i c hi b6=> ?_);rw[a5.2 i c hi b6];unfold eN;by_cases e:i=j
       ·subst e;rw[dr];dsimp only;rw[dr]
       ·rw[dy _ _ e];dsimp only;rw[dy _ _ e]
      ·by_cases e:q=j
       ·subst e;rw[dr];exact T.o.away o.o (by decide) f.o.other
       ·rw[dy V r e];exact((d0.o q (by omega)).keep a.o).away o.o (by decide) f.o.other
      ·exact(HN.o.keep a.o).away o.o (by decide) (by decide) (by decide) f.o.other
      ·exact eT (bD HR.o a.o) o.o (by decide) f.o.other
      ·exact((W.o q D).keep a.o).away o.o (by decide) (by decide) f.o.other
      ·refine aF.far (aF.step P.o a.o) f.o (by omega) (fun x p=> ?_);rw[HL.o]at p;simp only[bj,List.not_mem_nil,or_false]at p;rcases p with rfl|rfl<;>dsimp only<;>omega
     case measure=>simp[intOf];omega
    ·obtain rfl:j=X.nk:=by omega
     have HF:Hi (w1.heap[w.heap.size]?=some (.cells (bH X {S with on:=o2,cn:=c2,os:=o5,cs:=c5,od:=o8,cd:=c8,op:=Z,cp:=K,ok:=R,ck:=H}) 28)):=aF.nth P.o HL.o 0 rfl;have e1:Hi (w1.heap[w.heap.size+1]?=some (.cells #["",Nat,Nat,Nat,Nat,Nat] 28)):=aF.nth P.o HL.o 1 rfl;go_wp2_with (first|(with_reducible refine bA 28 w.heap.size 6 (bH X {S with on:=o2,cn:=c2,os:=o5,cs:=c5,od:=o8,cd:=c8,op:=Z,cp:=K,ok:=R,ck:=H}) 28 _ cH cz rfl rfl HF.o ?_)|((with_reducible refine bB 28 (w.heap.size+1) 6 _ 28 cz rfl rfl rfl rfl (⟨_,e1.o,rfl⟩) ?_);intro w7 hs))
     have e3:=bL.below P.o.1 hs (by omega);refine bodyPost_ret (gE rfl rfl hs.here cH cz rfl) rfl ?_;have y:dg w1 (w.heap.size+1+1) X ⟨o2,c2,Z,K,U,o5,c5,R,H,V,o8,c8⟩:=⟨⟨HN.o.n,HN.o.s,HN.o.d⟩,HR.o,HK.o,W.o,d0.o⟩;exact⟨⟨o2,c2,Z,K,U,o5,c5,R,H,V,o8,c8⟩,rfl,(y.low (b:=w.heap.size+1) (by omega) hs.other).weak (by omega),e3⟩
end
end Go.Proofs.YtencnijahlkbaaaGreatDoor
