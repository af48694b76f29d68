/-
  Lemmas of this claim, joined. Conditions: as stated. By an AI agent.
-/
import Derived.Test.YtencnijahlkbaaaGreatDoorJ1
import Derived.Test.YtencnijahlkbaaaGreatDoorJ2
import Derived.Test.YtencnijahlkbaaaGreatDoorJ3
open Go.Act renaming put → aC
open Array renaming getElem?_eq_some_iff → av
open Go.RowKit.Below renaming refl → ah
open Bool renaming false_and → aI, true_and → aN, and_false → aL, false_or → aP, true_or → aW, or_false → aQ, eq_false_iff → cG
open Classical renaming byContradiction → aG
open Int renaming mul_nonneg → bE
open List renaming take_succ_cons → ac, take_zero → aj, drop_succ_cons → am, drop_zero → ax, setIfInBounds_toArray → aa, set_cons_zero → ae, set_cons_succ → af, mem_cons_self → bw, getElem?_eq_getElem → aS, getD_eq_getElem?_getD → aO, getElem?_append_left → cV, getElem?_append_right → cD, length_append → aZ, mem_cons → bj
open Nat renaming le_refl → aB, lt_of_lt_of_le → aM, le_trans → bW, reduceAdd → aE, reduceEqDiff → aA
open Go.Region renaming binds → ai, wanted → au
open Go.World renaming size_setCell → aT, size_alloc → aw
namespace Go.Proofs.YtencnijahlkbaaaGreatDoor
set_option maxHeartbeats 8000000
set_option maxRecDepth 100000
set_option linter.unusedVariables false
set_option linter.unusedSimpArgs false
open Go.Proofs.Tryz
section
open Go Go.ChangeShapes Go.WideShapes Go.RowKit Go.ChangeAt
theorem pn (a b x y:Int) (W:World):(binOp .eql 43 (.agg #[a,b]) (.agg #[x,y])).run prog W= .ok (.bool (decide ((a,b)=(x,y)))) W:=by
 simp[go_sem];split
 ·split<;>simp[*]
 ·simp[*]
theorem zF {n j:Nat} (h:j<n) (a:3≤n):((j:Int)+2).tmod (n:Int)=(nx n (nx n j):Int):=by
 rw[Int.tmod_eq_emod_of_nonneg (by omega)];have e:nx n (nx n j)=(j+2) % n:=by
  unfold nx;rw[Nat.mod_add_mod]
 rw[e,Int.natCast_emod];rfl
theorem wq (v:Value) (n:Nat) (P:Nat→Pt) (w:World) (h:bO w v n P) (hp:Hi (lK 32768 n P)) (m7:n≤32):
 Gv 184 #[v] (.bool true) w:=by
 obtain⟨oa,cap,rfl,hn,hc,i4⟩:=h.form;have l6:=ar i4;clear h i4;go_enter func184,ntmps184;go_wp2;go_loopw[13] (fun i wr=>∃j:Nat,j≤n∧i= .int .i64 j∧Below w.heap.size w wr) (fun i _=>n-(intOf i).toNat)
 case atStart=>exact⟨0,by omega,rfl,ah _ _⟩
 case round=>
  obtain⟨w1,rfl⟩:=wE wr;obtain⟨j,-,rfl,a6⟩:=hrel;have d9:=ar a6;by_cases hlt:j<n
  ·obtain⟨c,J,rfl,b,a⟩:=l6.o j hlt;have n3:=hp.o.n3;obtain⟨J1,c5⟩:=oE ((j:Int)+1);obtain⟨q,hq⟩:=oE (nx n j);have qn:q<n:=by rw[←hq];exact dW (by omega)
   have i1:IntKind.i64.wrap ((j:Int)+1)=J1:=by rw[c5];exact iw
   have i2:J1.tmod (n:Int)=(q:Int):=by rw[←c5,←hq];exact gz hlt
   have i3:IntKind.i64.wrap (q:Int)=(q:Int):=iw;have i0:¬n=0:=by omega
   have i5:=dS q;have i6:(q:Int)<(n:Int):=by omega
   have c4:=ar c5;have Hq:=ar hq;have i8:=dS j;have i9:(j:Int)<(n:Int):=by omega
   clear c5 hq;obtain⟨J2,c6⟩:=oE ((j:Int)+2);obtain⟨r,hr⟩:=oE (nx n q);have rn:r<n:=by rw[←hr];exact dW (by omega)
   have y1:IntKind.i64.wrap ((j:Int)+2)=J2:=by rw[c6];exact iw
   have y2:J2.tmod (n:Int)=(r:Int):=by rw[←c6,←hr,←Hq.o];exact zF hlt n3
   have y3:IntKind.i64.wrap (r:Int)=(r:Int):=iw;have y5:=dS r;have y6:(r:Int)<(n:Int):=by omega
   have Hr:=ar hr;have h3:=ar c6;clear hr c6;have HN:=ar (dk (p:=P j) (cO.2 (by have:=hp.o.nr j hlt;omega)));have f4:=ar (dk (p:=P q) (cO.2 (by have:=hp.o.nr q qn;omega)));have l7:=ar (dk (p:=P r) (cO.2 (by have:=hp.o.nr r rn;omega)));have HS:=ar (hp.o.simple hlt);have k4:w1.cell? (c,J+j*2)=some (.int .i64 (P j).1):=bI a6 b (a j hlt).1;have k5:w1.cell? (c,J+j*2+1)=some (.int .i64 (P j).2):=bI a6 b (a j hlt).2;have k6:w1.cell? (c,J+q*2)=some (.int .i64 (P q).1):=bI a6 b (a q qn).1;have k7:w1.cell? (c,J+q*2+1)=some (.int .i64 (P q).2):=bI a6 b (a q qn).2;have n5:c<w1.heap.size:=by have:=a6.size;omega
   have a5:=ar a;clear a;have h4:Hi (¬((P j).1,(P j).2)=((P q).1,(P q).2)):=fun e=>HS.o.1 (by rw[Hq.o];exact e);have HF:Hi (bQ (P j) (P q) (P r)=0→((P j).1-(P q).1)*((P r).1-(P q).1)+((P j).2-(P q).2)*((P r).2-(P q).2)≤0):=fun h0=>by
    have h1:=HS.o.2.1;rw[Hq.o,Hr.o]at h1;exact Int.not_lt.1 fun h2=>h1 ⟨h0,h2⟩
   have HC:Hi (∀W,Gv 190 #[.agg #[(P j).1,(P j).2],.agg #[(P q).1,(P q).2],.agg #[(P r).1,(P r).2]] (.int .i64 (bQ (P j) (P q) (P r))) W):=fun W=>iR _ _ _ _ _ _ W HN.o f4.o l7.o;have BA:=ar (hp.o.nr j hlt);have BB:=ar (hp.o.nr q qn);have BC:=ar (hp.o.nr r rn);obtain⟨C,hC⟩:=oE (bQ (P j) (P q) (P r));rw[hC]at HC HF;clear hC;obtain⟨a1,a7⟩:=oE ((P j).1);obtain⟨a2,a8⟩:=oE ((P j).2);obtain⟨b1,z⟩:=oE ((P q).1);obtain⟨b2,a9⟩:=oE ((P q).2);obtain⟨c1,c7⟩:=oE ((P r).1);obtain⟨c2,c8⟩:=oE ((P r).2);rw[a7,a8,z,a9]at h4;rw[a7,a8,z,a9,c7,c8]at HC HF;rw[a7,a8]at BA;rw[z,a9]at BB;rw[c7,c8]at BC;rw[a7]at k4;rw[a8]at k5;rw[z]at k6;rw[a9]at k7;have K:=ar (And.intro a7 (And.intro a8 (And.intro z (And.intro a9 (And.intro c7 c8)))));clear a7 a8 z a9 c7 c8;have qe:decide ((a1,a2)=(b1,b2))=false:=decide_eq_false h4.o;have qp:=pn a1 a2 b1 b2;rw[qe]at qp;clear qe;go_wp2_with fail
   refine dd 15 [⟨11,13,#[(),()],43⟩,⟨12,14,#[(),()],43⟩] [] (by kernel_rfl) (by kernel_rfl) (by kernel_rfl) (by kernel_rfl) (by kernel_rfl) ?_ ?_ ?_
   ·intro r hr;cases hr
   ·intro r hr;cases hr
   simp only[ac,aj,aK,aC,aa,ae,af];iterate 11
    apply dE (by kernel_rfl)
    ·intro u wx f hd;replace f:=f.nil;have hz:=dx f;have j2:c<wx.heap.size:=by omega
     obtain⟨hc,hf⟩:=br f;clear f hz;simp[cL,ai,dK,bN,dm.is,dm.any]at hd;go_simp
     first|exact⟨ah _ _,rfl⟩|rfl
   refine dZ ⟨11,13,#[(),()],43⟩ (by simp) rfl ?_ ?_
   ·intro u wx f;refine⟨by simp[au],?_⟩;go_simp
    first|done|rfl|exact⟨rfl,rfl⟩
   refine dZ ⟨12,14,#[(),()],43⟩ (by simp) rfl ?_ ?_
   ·intro u wx f;refine⟨by simp[au],?_⟩;go_simp
    first|done|rfl|exact⟨rfl,rfl⟩
   apply cC ⟨11,13,#[(),()],43⟩ (by simp) rfl (by kernel_rfl) rfl (by kernel_rfl)
   ·intro u wx f hd;replace f:=f.nil;have hz:=dx f;have j2:c<wx.heap.size:=by omega
    obtain⟨hc,hf⟩:=br f;clear f hz;simp[cL,ai,dK,bN,dm.is,dm.any]at hd;refine⟨by simp[au],fun b' b8 l9 t=> ?_⟩;have j1:u 11= .pointer (some b'):=b8;have k:wx.heap[b']?=some (.cells #[(),()] 43):=t;have l8:=al k;have f3:=ar k;clear t k b8;go_simp;exact bL.c2 f3.o _ _
   apply cC ⟨12,14,#[(),()],43⟩ (by simp) rfl (by kernel_rfl) rfl (by kernel_rfl)
   ·intro u wx f hd;replace f:=f.nil;have hz:=dx f;have j2:c<wx.heap.size:=by omega
    obtain⟨hc,hf⟩:=br f;clear f hz;simp[cL,ai,dK,bN,dm.is,dm.any]at hd;refine⟨by simp[au],fun b' b8 l9 t=> ?_⟩;have j1:u 12= .pointer (some b'):=b8;have k:wx.heap[b']?=some (.cells #[(),()] 43):=t;have l8:=al k;have f3:=ar k;clear t k b8;go_simp;exact bL.c2 f3.o _ _
   intro u w5 f o hV hP;replace f:=f.nil;clear hP;have e0:u 0=_:=eE o 0;have e1:u 1=_:=eE o 1;have e2:u 2=_:=eE o 2;have e3:u 3=_:=eE o 3;have e4:u 4=_:=eE o 4;have e5:u 5=_:=eE o 5;have e6:u 6=_:=eE o 6;have e7:u 7=_:=eE o 7;have e8:u 8=_:=eE o 8;have e9:u 9=_:=eE o 9;have h7:u 10=_:=eE o 10;have f5:u 13=_:=eE o 13;have f6:u 14=_:=eE o 14;obtain⟨⟨R,d1,j3,b5⟩,⟨k3,-⟩,⟨⟨T,d2,j4,b6⟩,-,-⟩⟩:=hV;replace b5:w5.heap[R]?=some (.cells (u 13).cells 43):=b5;rw[f5]at b5;replace d1:u 11= .pointer (some R):=d1;obtain⟨j5,j6,-,j9⟩:=al b5;have h5:=ar b5;clear b5;replace b6:w5.heap[T]?=some (.cells (u 14).cells 43):=b6;rw[f6]at b6;replace d2:u 12= .pointer (some T):=d2;obtain⟨j7,j8,-,k0⟩:=al b6;have h6:=ar b6;clear b6;clear k3;(try simp only[aw,aT]at j3);(try have n1:w1.heap.size≤R:=by omega);clear j3;(try simp only[aw,aT]at j4);(try have n2:w1.heap.size≤T:=by omega);clear j4;simp only[am,ax,ac,aj,aK,aC,aa,ae,af,e0,e1,e2,e3,e4,e5,e6,e7,e8,e9,h7,f5,f6,d1,d2];clear e0 e1 e2 e3 e4 e5 e6 e7 e8 e9 h7 f5 f6 d1 d2 o;have f2:=ar f;have n4:=ag (w:=w1) (by first|assumption|go_grown) f;obtain⟨n0,m8,h9,i7,l4⟩:=pr f;clear f;have g8:=ar (ag d9.o f2.o);have h8:=g8.o;have e0:w5.cell? (c,J+r*2)=some c1:=by rw[←K.o.2.2.2.2.1];exact bI h8 b (a5.o r rn).1
   have e1:w5.cell? (c,J+r*2+1)=some c2:=by rw[←K.o.2.2.2.2.2];exact bI h8 b (a5.o r rn).2
   clear k4 k5 k6 k7;(try clear h9 i7);go_wp2_with fail
   (go_at_call 190;refine mz (HC.o _) fun w6 b0=> ?_);have g9:=ar (ag (w:=w) (by have hB:=g8.o;have hz:=hB.size;go_grown) b0);have KA:w6.heap[R]?=some (.cells #[a1,a2] 43):=(b0.block R (by simp;omega)).trans ((aV _ _ _ j9).trans h5.o);have KB:w6.heap[T]?=some (.cells #[b1,b2] 43):=(b0.block T (by simp;omega)).trans ((aV _ _ _ k0).trans h6.o);have KC:w6.heap[w5.heap.size]?=some (.cells #[c1,c2] 43):=(b0.block w5.heap.size (by simp)).trans (bf _ _ _ rfl);have m6:=b0.size;(try simp only[aw]at m6);clear j5 j6 j7 j8 b0 e0 e1;obtain⟨d3,d4,-,d5⟩:=al KA;obtain⟨d6,d7,-,d8⟩:=al KB;obtain⟨k8,k9,-,-⟩:=al KC;clear KA KB KC;by_cases hC0:C=0
   ·subst hC0;have f8:=HF.o rfl;have l0:=BA.o;have l1:=BB.o;have l2:=BC.o;obtain⟨x1,f9⟩:=oE (a1-b1);obtain⟨x2,g0⟩:=oE (c1-b1);obtain⟨x3,g3⟩:=oE (a2-b2);obtain⟨x4,g4⟩:=oE (c2-b2);have o1:IntKind.i64.wrap (a1-b1)=x1:=by rw[f9];exact iw
    have o2:IntKind.i64.wrap (c1-b1)=x2:=by rw[g0];exact iw
    have o3:IntKind.i64.wrap (a2-b2)=x3:=by rw[g3];exact iw
    have o4:IntKind.i64.wrap (c2-b2)=x4:=by rw[g4];exact iw
    rw[f9,g0,g3,g4]at f8;have g1:=eH (x:=x1) (y:=x2) (by omega) (by omega);have g2:=eH (x:=x3) (y:=x4) (by omega) (by omega);obtain⟨m1,c9⟩:=oE (x1*x2);obtain⟨m2,d0⟩:=oE (x3*x4);rw[c9]at g1;rw[d0]at g2;rw[c9,d0]at f8;obtain⟨m3,j0⟩:=oE (m1+m2);have o5:IntKind.i64.wrap (x1*x2)=m1:=by rw[c9];exact iw
    have o6:IntKind.i64.wrap (x3*x4)=m2:=by rw[d0];exact iw
    have o7:IntKind.i64.wrap (m1+m2)=m3:=by rw[j0];exact iw
    have o8:decide (0<m3)=false:=df;clear f9 g0 g3 g4 c9 d0 j0 f8 g1 g2 l0 l1 l2;go_wp2;go_loopw[8] (fun i wr=>∃l:Nat,j+2≤l∧i= .int .i64 l∧R<wr.heap.size∧T<wr.heap.size∧wr.cell? R=some a1∧wr.cell? (R,1)=some a2∧wr.cell? T=some b1∧wr.cell? (T,1)=some b2∧Below w.heap.size w wr) (fun i _=>n-(intOf i).toNat)
    case atStart=>exact⟨j+2,by omega,by rw[←h3.o];rfl,d5,d8,d3,d4,d6,d7,g9.o⟩
    case round=>
     clear d5 d8 d3 d4 d6 d7 k8 k9;obtain⟨I,rfl⟩:=wE wr;obtain⟨l,hl,rfl,zA,zB,m0,g5,g6,g7,m⟩:=hrel;have A:=ar m;by_cases hll:l<n
     ·have a:=a5.o;have M0:=ar m0;have M1:=ar g5;have M2:=ar g6;have M3:=ar g7;have m5:c<I.heap.size:=by have:=m.size;omega
      obtain⟨L1,Q⟩:=oE ((l:Int)+1);obtain⟨s,hs⟩:=oE (nx n l);have sn:s<n:=by rw[←hs];exact dW (by omega)
      have t1:IntKind.i64.wrap ((l:Int)+1)=L1:=by rw[Q];exact iw
      have t2:L1.tmod (n:Int)=(s:Int):=by rw[←Q,←hs];exact gz hll
      have t3:IntKind.i64.wrap (s:Int)=(s:Int):=iw;have t5:=dS s;have t6:(s:Int)<(n:Int):=by omega
      have t7:IntKind.i64.wrap (L1.tmod (n:Int))=(s:Int):=by rw[t2];exact t3
      have O:=ar Q;have Hs:=ar hs;have t8:=dS l;have t9:(l:Int)<(n:Int):=by omega
      clear Q hs;by_cases he:s=j
      ·have f7:=he.symm;subst f7;have X:I.cell? (c,J+l*2)=some (.int .i64 (P l).1):=bI m b (a l hll).1;have Y:I.cell? (c,J+l*2+1)=some (.int .i64 (P l).2):=bI m b (a l hll).2;have Z:I.cell? (c,J+j*2)=some (.int .i64 (P j).1):=bI m b (a j hlt).1;have a0:I.cell? (c,J+j*2+1)=some (.int .i64 (P j).2):=bI m b (a j hlt).2;clear a;obtain⟨g1,E⟩:=oE ((P l).1);rw[E]at X;clear E;obtain⟨g2,F⟩:=oE ((P l).2);rw[F]at Y;clear F;obtain⟨k1,G⟩:=oE ((P j).1);rw[G]at Z;clear G;obtain⟨k2,H⟩:=oE ((P j).2);rw[H]at a0;clear H;go_wp2_with fail
       refine aD 22 ?_;simp only[ac,aj,aK,aC,aa,ae,af];iterate 22 refine bJ ?_
       intro u N f o;simp only[cF,aR,ay.is,aE,aA,reduceIte]at o;simp only[am,ax,ac,aj,aK,aC,aa,ae,af,o];clear o;have g:=ar f;have d:=ag (w:=I) (by first|assumption|go_grown) f;have L:=dx f;have b9:c<N.heap.size:=by omega
       have c0:R<N.heap.size:=by omega
       have c3:T<N.heap.size:=by omega
       have f0:=ar f.block;obtain⟨B,D⟩:=br f;clear f L;have U:=ar (ag A.o g.o);have A0:=ar (bI d zA M0.o);have A1:=ar (bI d zA M1.o);have A2:=ar (bI d zB M2.o);have A3:=ar (bI d zB M3.o);have a3:R<N.heap.size:=by have:=d.size;omega
       have a4:T<N.heap.size:=by have:=d.size;omega
       clear B D g;go_wp2;go_roundw
       case rel=>exact⟨l+1,by omega,by rw[←O.o];rfl,a3,a4,A0.o,A1.o,A2.o,A3.o,U.o⟩
       case measure=>have:=O.o;simp[intOf];omega
      ·have m4:((s:Int) !=(j:Int))=true:=by simp;omega
       have X:I.cell? (c,J+l*2)=some (.int .i64 (P l).1):=bI m b (a l hll).1;have Y:I.cell? (c,J+l*2+1)=some (.int .i64 (P l).2):=bI m b (a l hll).2;have Z:I.cell? (c,J+s*2)=some (.int .i64 (P s).1):=bI m b (a s sn).1;have a0:I.cell? (c,J+s*2+1)=some (.int .i64 (P s).2):=bI m b (a s sn).2;have HM:Hi (∀W,Gv 317 #[.agg #[(P j).1,(P j).2],.agg #[(P q).1,(P q).2],.agg #[(P l).1,(P l).2],.agg #[(P s).1,(P s).2]] (.bool false) W):=fun W=>by
        have hd:decide (ct (P j) (P q) (P l) (P s))=false:=decide_eq_false (by
         have h:=HS.o.2.2 l hl hll (by rw[Hs.o];exact he);rw[Hq.o,Hs.o]at h;exact h)
        rw[←hd];exact tT _ _ _ _ _ _ _ _ W HN.o f4.o (dk (cO.2 (by have:=hp.o.nr l hll;omega))) (dk (cO.2 (by have:=hp.o.nr s sn;omega)))
       rw[K.o.1,K.o.2.1,K.o.2.2.1,K.o.2.2.2.1]at HM;clear a;obtain⟨g1,E⟩:=oE ((P l).1);rw[E]at X HM;clear E;obtain⟨g2,F⟩:=oE ((P l).2);rw[F]at Y HM;clear F;obtain⟨k1,G⟩:=oE ((P s).1);rw[G]at Z HM;clear G;obtain⟨k2,H⟩:=oE ((P s).2);rw[H]at a0 HM;clear H;go_wp2_with fail
       refine aD 22 ?_;simp only[ac,aj,aK,aC,aa,ae,af];iterate 20 refine bJ ?_
       apply bg
       ·intro u wx hz hc hf l3 hd;simp[aU,ai,aR,ay.is,ay.any]at hd;go_simp
        first|rfl|(go_at_call 317;refine(HM.o _).mono ?_;rintro e w1 ⟨rfl,z⟩;first|exact⟨rfl,z⟩|exact⟨_,rfl,z,rfl⟩)
       refine bJ ?_;intro u N f o;simp only[cF,aR,ay.is,aE,aA,reduceIte]at o;simp only[am,ax,ac,aj,aK,aC,aa,ae,af,o];clear o;have g:=ar f;have d:=ag (w:=I) (by first|assumption|go_grown) f;have L:=dx f;have b9:c<N.heap.size:=by omega
       have c0:R<N.heap.size:=by omega
       have c3:T<N.heap.size:=by omega
       have f0:=ar f.block;obtain⟨B,D⟩:=br f;clear f L;have U:=ar (ag A.o g.o);have A0:=ar (bI d zA M0.o);have A1:=ar (bI d zA M1.o);have A2:=ar (bI d zB M2.o);have A3:=ar (bI d zB M3.o);have a3:R<N.heap.size:=by have:=d.size;omega
       have a4:T<N.heap.size:=by have:=d.size;omega
       clear B D g;go_wp2;go_roundw
       case rel=>exact⟨l+1,by omega,by rw[←O.o];rfl,a3,a4,A0.o,A1.o,A2.o,A3.o,U.o⟩
       case measure=>have:=O.o;simp[intOf];omega
     ·go_wp2;go_roundw
      case rel=>exact⟨j+1,by omega,by rw[←c4.o];rfl,A.o⟩
      case measure=>have:=c4.o;simp[intOf];omega
   ·have o8:(C==0)=false:=by simp[hC0]
    go_wp2;go_loopw[8] (fun i wr=>∃l:Nat,j+2≤l∧i= .int .i64 l∧R<wr.heap.size∧T<wr.heap.size∧wr.cell? R=some a1∧wr.cell? (R,1)=some a2∧wr.cell? T=some b1∧wr.cell? (T,1)=some b2∧Below w.heap.size w wr) (fun i _=>n-(intOf i).toNat)
    case atStart=>exact⟨j+2,by omega,by rw[←h3.o];rfl,d5,d8,d3,d4,d6,d7,g9.o⟩
    case round=>
     clear d5 d8 d3 d4 d6 d7 k8 k9;obtain⟨I,rfl⟩:=wE wr;obtain⟨l,hl,rfl,zA,zB,m0,g5,g6,g7,m⟩:=hrel;have A:=ar m;by_cases hll:l<n
     ·have a:=a5.o;have M0:=ar m0;have M1:=ar g5;have M2:=ar g6;have M3:=ar g7;have m5:c<I.heap.size:=by have:=m.size;omega
      obtain⟨L1,Q⟩:=oE ((l:Int)+1);obtain⟨s,hs⟩:=oE (nx n l);have sn:s<n:=by rw[←hs];exact dW (by omega)
      have t1:IntKind.i64.wrap ((l:Int)+1)=L1:=by rw[Q];exact iw
      have t2:L1.tmod (n:Int)=(s:Int):=by rw[←Q,←hs];exact gz hll
      have t3:IntKind.i64.wrap (s:Int)=(s:Int):=iw;have t5:=dS s;have t6:(s:Int)<(n:Int):=by omega
      have t7:IntKind.i64.wrap (L1.tmod (n:Int))=(s:Int):=by rw[t2];exact t3
      have O:=ar Q;have Hs:=ar hs;have t8:=dS l;have t9:(l:Int)<(n:Int):=by omega
      clear Q hs;by_cases he:s=j
      ·have f7:=he.symm;subst f7;have X:I.cell? (c,J+l*2)=some (.int .i64 (P l).1):=bI m b (a l hll).1;have Y:I.cell? (c,J+l*2+1)=some (.int .i64 (P l).2):=bI m b (a l hll).2;have Z:I.cell? (c,J+j*2)=some (.int .i64 (P j).1):=bI m b (a j hlt).1;have a0:I.cell? (c,J+j*2+1)=some (.int .i64 (P j).2):=bI m b (a j hlt).2;clear a;obtain⟨g1,E⟩:=oE ((P l).1);rw[E]at X;clear E;obtain⟨g2,F⟩:=oE ((P l).2);rw[F]at Y;clear F;obtain⟨k1,G⟩:=oE ((P j).1);rw[G]at Z;clear G;obtain⟨k2,H⟩:=oE ((P j).2);rw[H]at a0;clear H;go_wp2_with fail
       refine aD 22 ?_;simp only[ac,aj,aK,aC,aa,ae,af];iterate 22 refine bJ ?_
       intro u N f o;simp only[cF,aR,ay.is,aE,aA,reduceIte]at o;simp only[am,ax,ac,aj,aK,aC,aa,ae,af,o];clear o;have g:=ar f;have d:=ag (w:=I) (by first|assumption|go_grown) f;have L:=dx f;have b9:c<N.heap.size:=by omega
       have c0:R<N.heap.size:=by omega
       have c3:T<N.heap.size:=by omega
       have f0:=ar f.block;obtain⟨B,D⟩:=br f;clear f L;have U:=ar (ag A.o g.o);have A0:=ar (bI d zA M0.o);have A1:=ar (bI d zA M1.o);have A2:=ar (bI d zB M2.o);have A3:=ar (bI d zB M3.o);have a3:R<N.heap.size:=by have:=d.size;omega
       have a4:T<N.heap.size:=by have:=d.size;omega
       clear B D g;go_wp2;go_roundw
       case rel=>exact⟨l+1,by omega,by rw[←O.o];rfl,a3,a4,A0.o,A1.o,A2.o,A3.o,U.o⟩
       case measure=>have:=O.o;simp[intOf];omega
      ·have m4:((s:Int) !=(j:Int))=true:=by simp;omega
       have X:I.cell? (c,J+l*2)=some (.int .i64 (P l).1):=bI m b (a l hll).1;have Y:I.cell? (c,J+l*2+1)=some (.int .i64 (P l).2):=bI m b (a l hll).2;have Z:I.cell? (c,J+s*2)=some (.int .i64 (P s).1):=bI m b (a s sn).1;have a0:I.cell? (c,J+s*2+1)=some (.int .i64 (P s).2):=bI m b (a s sn).2;have HM:Hi (∀W,Gv 317 #[.agg #[(P j).1,(P j).2],.agg #[(P q).1,(P q).2],.agg #[(P l).1,(P l).2],.agg #[(P s).1,(P s).2]] (.bool false) W):=fun W=>by
        have hd:decide (ct (P j) (P q) (P l) (P s))=false:=decide_eq_false (by
         have h:=HS.o.2.2 l hl hll (by rw[Hs.o];exact he);rw[Hq.o,Hs.o]at h;exact h)
        rw[←hd];exact tT _ _ _ _ _ _ _ _ W HN.o f4.o (dk (cO.2 (by have:=hp.o.nr l hll;omega))) (dk (cO.2 (by have:=hp.o.nr s sn;omega)))
       rw[K.o.1,K.o.2.1,K.o.2.2.1,K.o.2.2.2.1]at HM;clear a;obtain⟨g1,E⟩:=oE ((P l).1);rw[E]at X HM;clear E;obtain⟨g2,F⟩:=oE ((P l).2);rw[F]at Y HM;clear F;obtain⟨k1,G⟩:=oE ((P s).1);rw[G]at Z HM;clear G;obtain⟨k2,H⟩:=oE ((P s).2);rw[H]at a0 HM;clear H;go_wp2_with fail
       refine aD 22 ?_;simp only[ac,aj,aK,aC,aa,ae,af];iterate 20 refine bJ ?_
       apply bg
       ·intro u wx hz hc hf l3 hd;simp[aU,ai,aR,ay.is,ay.any]at hd;go_simp
        first|rfl|(go_at_call 317;refine(HM.o _).mono ?_;rintro e w1 ⟨rfl,z⟩;first|exact⟨rfl,z⟩|exact⟨_,rfl,z,rfl⟩)
       refine bJ ?_;intro u N f o;simp only[cF,aR,ay.is,aE,aA,reduceIte]at o;simp only[am,ax,ac,aj,aK,aC,aa,ae,af,o];clear o;have g:=ar f;have d:=ag (w:=I) (by first|assumption|go_grown) f;obtain⟨L,m9,B,D,l5⟩:=pr f;clear f;have U:=ar (ag A.o g.o);have A0:=ar (bI d zA M0.o);have A1:=ar (bI d zA M1.o);have A2:=ar (bI d zB M2.o);have A3:=ar (bI d zB M3.o);have a3:R<N.heap.size:=by have:=d.size;omega
       have a4:T<N.heap.size:=by have:=d.size;omega
       clear B D g;go_wp2;go_roundw
       case rel=>exact⟨l+1,by omega,by rw[←O.o];rfl,a3,a4,A0.o,A1.o,A2.o,A3.o,U.o⟩
       case measure=>have:=O.o;simp[intOf];omega
     ·go_wp2;go_roundw
      case rel=>exact⟨j+1,by omega,by rw[←c4.o];rfl,A.o⟩
      case measure=>have:=c4.o;simp[intOf];omega
  ·go_wp2;go_returns;exact⟨rfl,d9.o⟩
theorem kw (v:Value) (n:Nat) (P:Nat→Pt) (w:World) (h:bO w v n P) (l:Hi (lK 32768 n P)) (d:n≤32) (o:bP n P≠0):
 Gv 134 #[v] (.int .i64 0) w:=by
 have e:Hi (∀i,i<n→cR 32768 (P i)=true):=fun i t=>cO.2 (by have:=l.o.nr i t;omega);have a:(!gH (fun i=>cR 32768 (P i)) n)=false:=by rw[eQ.2 e.o];rfl
 have r:Hi (∀W f,bO W f n P→Gv 182 #[f,.func (.func 183) #[] #[]] (.bool false) W):=fun W f g=>by rw[←a];exact uH f n P W g
 obtain⟨oa,cap,rfl,-,u,-⟩:=h.form;have H:=ar h;have A:=l.o.n3;obtain⟨Z,j⟩:=oE (bP n P);have p:Hi (∀W,bO W (.slice oa n cap) n P→Gv 185 #[.slice oa n cap] (.int .i64 Z) W):=fun W g=>by rw[←j];exact tU _ n P W g (by omega) e
 rw[j]at o;clear h j a;have x:decide ((n:Int)<3)=false:=df;have y:decide ((32:Int)<(n:Int))=false:=df;have z:(Z==0)=false:=by simp[o]
 go_enter func134,ntmps134;go_wp2_with fail
 (go_at_call 182;refine mz (r.o _ _ H.o) fun B b=> ?_);have m:=ar (H.o.below b);go_wp2_with fail
 (go_at_call 184;refine mz (wq _ n P _ m.o l d) fun C c=> ?_);have s:=ar (m.o.below c);go_wp2_with fail
 (go_at_call 185;refine mz (p.o _ s.o) fun D k=> ?_);have q:=ar (ag (ag b c) k);go_wp2;go_returns;exact⟨rfl,q.o⟩
theorem pp (v:Value) (n:Nat) (P:Nat→Pt) (w:World) (h:bO w v n P) (f:Hi (lK 32768 n P)) (b:n≤32) (j:bP n P≠0):
 Gv 135 #[v] (.int .i64 (bP n P)) w:=by
 have e:Hi (∀i,i<n→cR 32768 (P i)=true):=fun i p=>cO.2 (by have:=f.o.nr i p;omega);obtain⟨oa,cap,rfl,-,q,-⟩:=h.form;have H:=ar h;have r:=f.o.n3;generalize g:bP n P=Z;have k:Hi (∀W,bO W (.slice oa n cap) n P→Gv 185 #[.slice oa n cap] (.int .i64 Z) W):=fun W c=>by rw[←g];exact tU _ n P W c (by omega) e
 have m:Hi (∀W,bO W (.slice oa n cap) n P→Gv 134 #[.slice oa n cap] (.int .i64 0) W):=fun W c=>kw _ n P W c f b j;clear h g j;go_enter func135,ntmps135;go_wp2_with fail
 (go_at_call 134;refine mz (m.o _ H.o) fun s a=> ?_);have o:=ar (H.o.below a);go_wp2_with fail
 (go_at_call 185;refine mz (k.o _ o.o) fun t d=> ?_);have l:=ar (ag a d);go_wp2;go_returns;exact⟨rfl,l.o⟩
theorem nH (v:Value) (n:Nat) (P:Nat→Pt) (m d:Int) (w:World) (h:bO w v n P) (hp:Hi (lK 32768 n P)) (c5:n≤32) (ha:bP n P≠0) (hq:cR 32768 (m,d)=true) (c7:Hi (uA n P (m,d))):
 Gv 138 #[v,.agg #[m,d]] (.int .i64 (if gh n P (m,d)=true then 1 else -1)) w:=by
 have c6:Hi (∀i,i<n→cR 32768 (P i)=true):=fun i hi=>cO.2 (by have:=hp.o.nr i hi;omega);have c8:Hi (Nr (m,d)):=dk hq;have HF:Hi (∀W,Gv 183 #[.agg #[m,d]] (.bool false) W):=fun W=>by have:=oG m d W;rw[hq]at this;exact this
 obtain⟨oa,cap,rfl,hn,hc,c4⟩:=h.form;have d0:=ar c4;have H:=ar h;have n3:=hp.o.n3;have HK:Hi (∀W,bO W (.slice oa n cap) n P→Gv 134 #[.slice oa n cap] (.int .i64 0) W):=fun W h'=>kw _ n P W h' hp c5 ha;generalize hR:gh n P (m,d)=R;have d1:=ar hR;generalize hZ:(if R=true then 1 else -1)=Z;have HZ:=ar hZ;clear h c4 ha hR hq hZ;go_enter func138,ntmps138;go_wp2_with fail
 (go_at_call 183;refine mz (HF.o _) fun w4 a7=> ?_);have c2:=ar (ag (w:=w) (by go_grown) a7);have d2:Hi (w4.heap[w.heap.size]?=some (.cells #[m,d] 43)):=(a7.block w.heap.size (by simp)).trans (bf _ _ _ rfl);have d8:=a7.size;(try simp only[aw]at d8);clear a7;go_wp2_with fail
 (go_at_call 134;refine mz (HK.o _ (H.o.below c2.o)) fun w5 a8=> ?_);have c9:=ar (ag c2.o a8);have d3:Hi (w5.heap[w.heap.size]?=some (.cells #[m,d] 43)):=(a8.block w.heap.size (by omega)).trans d2.o;have d9:w.heap.size<w5.heap.size:=by have:=a8.size;omega
 clear a8;go_wp2;go_loopw[5,19] (fun t i wr=>∃(j:Nat) (o:Bool),j≤n∧i= .int .i64 j∧t= .bool o∧Hi (o=cf (fun i=>dP (P i) (P (nx n i)) (m,d)) j)∧w.heap.size<wr.heap.size∧Hi (wr.heap[w.heap.size]?=some (.cells #[m,d] 43))∧Below w.heap.size w wr) (fun t i _=>n-(intOf i).toNat)
 case atStart=>exact⟨0,false,by omega,rfl,rfl,rfl,d9,d3,c9.o⟩
 case round=>
  obtain⟨c,rfl⟩:=wE wr;obtain⟨j,o,hj,rfl,rfl,hx,zw,hQ,D⟩:=hrel;have K:=ar D;clear D;by_cases hlt:j<n
  ·obtain⟨J1,a5⟩:=oE ((j:Int)+1);obtain⟨q,hq⟩:=oE (nx n j);have qn:q<n:=by rw[←hq];exact dW (by omega)
   have i1:IntKind.i64.wrap ((j:Int)+1)=J1:=by rw[a5];exact iw
   have i2:J1.tmod (n:Int)=(q:Int):=by rw[←a5,←hq];exact gz hlt
   have i3:IntKind.i64.wrap (q:Int)=(q:Int):=iw;have i0:¬n=0:=by omega
   have i5:=dS q;have i6:(q:Int)<(n:Int):=by omega
   have p:=ar a5;have Hq:=ar hq;have i8:=dS j;have i9:(j:Int)<(n:Int):=by omega
   clear a5 hq;obtain⟨a3,f1,rfl,a0,L⟩:=d0.o j hlt;have D:=K.o;have d4:c.cell? (a3,f1+j*2)=some (.int .i64 (P j).1):=bI D a0 (L j hlt).1;have d5:c.cell? (a3,f1+j*2+1)=some (.int .i64 (P j).2):=bI D a0 (L j hlt).2;have d6:c.cell? (a3,f1+q*2)=some (.int .i64 (P q).1):=bI D a0 (L q qn).1;have d7:c.cell? (a3,f1+q*2+1)=some (.int .i64 (P q).2):=bI D a0 (L q qn).2;have e0:a3<c.heap.size:=by have:=D.size;omega
   clear L D;have HN:=ar (dk (c6.o j hlt));have a9:=ar (dk (c6.o q qn));have c3:Hi (decide (dO (P j) (P q) (m,d))=false):=decide_eq_false (by have:=c7.o j hlt;rw[Hq.o]at this;exact this);have HO:Hi (∀W,Gv 189 #[.agg #[(P j).1,(P j).2],.agg #[(P q).1,(P q).2],.agg #[m,d]] (.bool false) W):=fun W=>by rw[←c3.o];exact mu _ _ _ _ _ _ W HN.o a9.o c8.o
   have HC:Hi (∀W,Gv 190 #[.agg #[(P j).1,(P j).2],.agg #[(P q).1,(P q).2],.agg #[m,d]] (.int .i64 (bQ ((P j).1,(P j).2) ((P q).1,(P q).2) (m,d))) W):=fun W=>iR _ _ _ _ _ _ W HN.o a9.o c8.o;obtain⟨RY,a6⟩:=oE (dP (P j) (P (nx n j)) (m,d));have HR:=ar a6;have O:Hi (dP ((P j).1,(P j).2) ((P q).1,(P q).2) (m,d)=RY):=by rw[Hq.o]at a6;exact a6
   clear a6 c3 HN a9;obtain⟨a1,b5⟩:=oE ((P j).1);obtain⟨J,b6⟩:=oE ((P j).2);obtain⟨b1,b8⟩:=oE ((P q).1);obtain⟨b2,a⟩:=oE ((P q).2);rw[b5,b6,b8,a]at HC HO O;rw[b5]at d4;rw[b6]at d5;rw[b8]at d6;rw[a]at d7;clear b5 b6 b8 a;obtain⟨C,hC⟩:=oE (bQ (a1,J) (b1,b2) (m,d));rw[hC]at HC;have a4:=ar hC;clear hC;obtain⟨uQ,vQ,-,yQ⟩:=al hQ.o;by_cases h1:d<J
   ·by_cases h2:d<b2
    ·have k1:decide (d<J)=true:=decide_eq_true h1;have k2:decide (d<b2)=true:=decide_eq_true h2;have y:RY=false:=by rw[←O.o];unfold dP;dsimp only;rw[k1,k2];rfl
     go_wp2_with fail
     (go_at_call 189;refine mz (HO.o _) fun A a=> ?_);have x:A.heap[w.heap.size]?=some (.cells #[m,d] 43):=(a.block (w.heap.size) (by first|omega|(simp;done)|(simp<;>omega))).trans ((aV _ _ _ (by simp<;>omega)).trans ((aV _ _ _ (by omega)).trans hQ.o));obtain⟨-,E,-,I⟩:=al x;have f:=ar x;clear x;have k:A.heap[c.heap.size]?=some (.cells #[a1,J] 43):=(a.block (c.heap.size) (by first|omega|(simp;done)|(simp<;>omega))).trans ((aV _ _ _ (by simp)).trans (bf _ _ _ rfl));obtain⟨-,F,-,-⟩:=al k;clear k;have l:A.heap[c.heap.size+1]?=some (.cells #[b1,b2] 43):=(a.block (c.heap.size+1) (by first|omega|(simp;done)|(simp<;>omega))).trans (bf _ _ _ (by simp));obtain⟨-,G,-,-⟩:=al l;clear l;have r:=ar (ag (w:=w) (by have hB:=K.o;have hz:=hB.size;go_grown) a);have B:=a.size;(try simp only[aw]at B);clear a;have z:Hi (o=cf (fun i=>dP (P i) (P (nx n i)) (m,d)) (j+1)):=by
      show _=_;unfold cf;rw[←hx.o,HR.o,y]
      (cases o<;>rfl)
     go_wp2;go_roundw
     case rel=>exact⟨j+1,o,by omega,by rw[←p.o];rfl,by cases o<;>rfl,z,by omega,f.o,r.o⟩
     case measure=>have:=p.o;simp[intOf];omega
    ·have k1:decide (d<J)=true:=decide_eq_true h1;have k2:decide (d<b2)=false:=decide_eq_false h2;have k3:decide (J<b2)=false:=df;by_cases h3:0<C
     ·have k4:decide (0<C)=true:=decide_eq_true h3;have y:RY=false:=by rw[←O.o];unfold dP;dsimp only;rw[k1,k2,k3,a4.o,k4];rfl
      go_wp2_with fail
      (go_at_call 189;refine mz (HO.o _) fun A a=> ?_);have x:A.heap[w.heap.size]?=some (.cells #[m,d] 43):=(a.block (w.heap.size) (by first|omega|(simp;done)|(simp<;>omega))).trans ((aV _ _ _ (by simp<;>omega)).trans ((aV _ _ _ (by omega)).trans hQ.o));obtain⟨Q,E,-,I⟩:=al x;have f:=ar x;clear x;have k:A.heap[c.heap.size]?=some (.cells #[a1,J] 43):=(a.block (c.heap.size) (by first|omega|(simp;done)|(simp<;>omega))).trans ((aV _ _ _ (by simp)).trans (bf _ _ _ rfl));obtain⟨T,F,-,X⟩:=al k;have s:=ar k;clear k;have l:A.heap[c.heap.size+1]?=some (.cells #[b1,b2] 43):=(a.block (c.heap.size+1) (by first|omega|(simp;done)|(simp<;>omega))).trans (bf _ _ _ (by simp));obtain⟨U,G,-,Y⟩:=al l;have u:=ar l;clear l;have r:=ar (ag (w:=w) (by have hB:=K.o;have hz:=hB.size;go_grown) a);have B:=a.size;(try simp only[aw]at B);clear a;go_wp2_with fail
      (go_at_call 190;refine mz (HC.o _) fun w3 b=> ?_);have g:=ar (kz b f);obtain⟨-,-,-,c1⟩:=al g.o;have k:w3.heap[c.heap.size]?=some (.cells #[a1,J] 43):=(b.block (c.heap.size) (by first|omega|(simp;done)|(simp<;>omega))).trans s.o;obtain⟨-,b9,-,-⟩:=al k;clear k;have l:w3.heap[c.heap.size+1]?=some (.cells #[b1,b2] 43):=(b.block (c.heap.size+1) (by first|omega|(simp;done)|(simp<;>omega))).trans u.o;obtain⟨-,c0,-,-⟩:=al l;clear l;have N:=ar (ag r.o b);clear b Q E I T F X U G Y;have z:Hi (o=cf (fun i=>dP (P i) (P (nx n i)) (m,d)) (j+1)):=by
       show _=_;unfold cf;rw[←hx.o,HR.o,y]
       (cases o<;>rfl)
      go_wp2;go_roundw
      case rel=>exact⟨j+1,o,by omega,by rw[←p.o];rfl,by cases o<;>rfl,z,by omega,g.o,N.o⟩
      case measure=>have:=p.o;simp[intOf];omega
     ·have k4:decide (0<C)=false:=decide_eq_false h3;have y:RY=true:=by rw[←O.o];unfold dP;dsimp only;rw[k1,k2,k3,a4.o,k4];rfl
      go_wp2_with fail
      (go_at_call 189;refine mz (HO.o _) fun A a=> ?_);have x:A.heap[w.heap.size]?=some (.cells #[m,d] 43):=(a.block (w.heap.size) (by first|omega|(simp;done)|(simp<;>omega))).trans ((aV _ _ _ (by simp<;>omega)).trans ((aV _ _ _ (by omega)).trans hQ.o));obtain⟨Q,E,-,I⟩:=al x;have f:=ar x;clear x;have k:A.heap[c.heap.size]?=some (.cells #[a1,J] 43):=(a.block (c.heap.size) (by first|omega|(simp;done)|(simp<;>omega))).trans ((aV _ _ _ (by simp)).trans (bf _ _ _ rfl));obtain⟨T,F,-,X⟩:=al k;have s:=ar k;clear k;have l:A.heap[c.heap.size+1]?=some (.cells #[b1,b2] 43):=(a.block (c.heap.size+1) (by first|omega|(simp;done)|(simp<;>omega))).trans (bf _ _ _ (by simp));obtain⟨U,G,-,Y⟩:=al l;have u:=ar l;clear l;have r:=ar (ag (w:=w) (by have hB:=K.o;have hz:=hB.size;go_grown) a);have B:=a.size;(try simp only[aw]at B);clear a;go_wp2_with fail
      (go_at_call 190;refine mz (HC.o _) fun w3 b=> ?_);have g:=ar (kz b f);obtain⟨-,-,-,c1⟩:=al g.o;have k:w3.heap[c.heap.size]?=some (.cells #[a1,J] 43):=(b.block (c.heap.size) (by first|omega|(simp;done)|(simp<;>omega))).trans s.o;obtain⟨-,b9,-,-⟩:=al k;clear k;have l:w3.heap[c.heap.size+1]?=some (.cells #[b1,b2] 43):=(b.block (c.heap.size+1) (by first|omega|(simp;done)|(simp<;>omega))).trans u.o;obtain⟨-,c0,-,-⟩:=al l;clear l;have N:=ar (ag r.o b);clear b Q E I T F X U G Y;have z:Hi ((!o)=cf (fun i=>dP (P i) (P (nx n i)) (m,d)) (j+1)):=by
       show _=_;unfold cf;rw[←hx.o,HR.o,y]
       (cases o<;>rfl)
      go_wp2;go_roundw
      case rel=>exact⟨j+1,(!o),by omega,by rw[←p.o];rfl,by cases o<;>rfl,z,by omega,g.o,N.o⟩
      case measure=>have:=p.o;simp[intOf];omega
   ·by_cases h2:d<b2
    ·have k1:decide (d<J)=false:=decide_eq_false h1;have k2:decide (d<b2)=true:=decide_eq_true h2;have k3:decide (J<b2)=true:=dt;by_cases h3:0<C
     ·have k4:decide (0<C)=true:=decide_eq_true h3;have y:RY=true:=by rw[←O.o];unfold dP;dsimp only;rw[k1,k2,k3,a4.o,k4];rfl
      go_wp2_with fail
      (go_at_call 189;refine mz (HO.o _) fun A a=> ?_);have x:A.heap[w.heap.size]?=some (.cells #[m,d] 43):=(a.block (w.heap.size) (by first|omega|(simp;done)|(simp<;>omega))).trans ((aV _ _ _ (by simp<;>omega)).trans ((aV _ _ _ (by omega)).trans hQ.o));obtain⟨Q,E,-,I⟩:=al x;have f:=ar x;clear x;have k:A.heap[c.heap.size]?=some (.cells #[a1,J] 43):=(a.block (c.heap.size) (by first|omega|(simp;done)|(simp<;>omega))).trans ((aV _ _ _ (by simp)).trans (bf _ _ _ rfl));obtain⟨T,F,-,X⟩:=al k;have s:=ar k;clear k;have l:A.heap[c.heap.size+1]?=some (.cells #[b1,b2] 43):=(a.block (c.heap.size+1) (by first|omega|(simp;done)|(simp<;>omega))).trans (bf _ _ _ (by simp));obtain⟨U,G,-,Y⟩:=al l;have u:=ar l;clear l;have r:=ar (ag (w:=w) (by have hB:=K.o;have hz:=hB.size;go_grown) a);have B:=a.size;(try simp only[aw]at B);clear a;go_wp2_with fail
      (go_at_call 190;refine mz (HC.o _) fun w3 b=> ?_);have g:=ar (kz b f);obtain⟨-,-,-,c1⟩:=al g.o;have k:w3.heap[c.heap.size]?=some (.cells #[a1,J] 43):=(b.block (c.heap.size) (by first|omega|(simp;done)|(simp<;>omega))).trans s.o;obtain⟨-,b9,-,-⟩:=al k;clear k;have l:w3.heap[c.heap.size+1]?=some (.cells #[b1,b2] 43):=(b.block (c.heap.size+1) (by first|omega|(simp;done)|(simp<;>omega))).trans u.o;obtain⟨-,c0,-,-⟩:=al l;clear l;have N:=ar (ag r.o b);clear b Q E I T F X U G Y;have z:Hi ((!o)=cf (fun i=>dP (P i) (P (nx n i)) (m,d)) (j+1)):=by
       show _=_;unfold cf;rw[←hx.o,HR.o,y]
       (cases o<;>rfl)
      go_wp2;go_roundw
      case rel=>exact⟨j+1,(!o),by omega,by rw[←p.o];rfl,by cases o<;>rfl,z,by omega,g.o,N.o⟩
      case measure=>have:=p.o;simp[intOf];omega
     ·have k4:decide (0<C)=false:=decide_eq_false h3;have y:RY=false:=by rw[←O.o];unfold dP;dsimp only;rw[k1,k2,k3,a4.o,k4];rfl
      go_wp2_with fail
      (go_at_call 189;refine mz (HO.o _) fun A a=> ?_);have x:A.heap[w.heap.size]?=some (.cells #[m,d] 43):=(a.block (w.heap.size) (by first|omega|(simp;done)|(simp<;>omega))).trans ((aV _ _ _ (by simp<;>omega)).trans ((aV _ _ _ (by omega)).trans hQ.o));obtain⟨Q,E,-,I⟩:=al x;have f:=ar x;clear x;have k:A.heap[c.heap.size]?=some (.cells #[a1,J] 43):=(a.block (c.heap.size) (by first|omega|(simp;done)|(simp<;>omega))).trans ((aV _ _ _ (by simp)).trans (bf _ _ _ rfl));obtain⟨T,F,-,X⟩:=al k;have s:=ar k;clear k;have l:A.heap[c.heap.size+1]?=some (.cells #[b1,b2] 43):=(a.block (c.heap.size+1) (by first|omega|(simp;done)|(simp<;>omega))).trans (bf _ _ _ (by simp));obtain⟨U,G,-,Y⟩:=al l;have u:=ar l;clear l;have r:=ar (ag (w:=w) (by have hB:=K.o;have hz:=hB.size;go_grown) a);have B:=a.size;(try simp only[aw]at B);clear a;go_wp2_with fail
      (go_at_call 190;refine mz (HC.o _) fun w3 b=> ?_);have g:=ar (kz b f);obtain⟨-,-,-,c1⟩:=al g.o;have k:w3.heap[c.heap.size]?=some (.cells #[a1,J] 43):=(b.block (c.heap.size) (by first|omega|(simp;done)|(simp<;>omega))).trans s.o;obtain⟨-,b9,-,-⟩:=al k;clear k;have l:w3.heap[c.heap.size+1]?=some (.cells #[b1,b2] 43):=(b.block (c.heap.size+1) (by first|omega|(simp;done)|(simp<;>omega))).trans u.o;obtain⟨-,c0,-,-⟩:=al l;clear l;have N:=ar (ag r.o b);clear b Q E I T F X U G Y;have z:Hi (o=cf (fun i=>dP (P i) (P (nx n i)) (m,d)) (j+1)):=by
       show _=_;unfold cf;rw[←hx.o,HR.o,y]
       (cases o<;>rfl)
      go_wp2;go_roundw
      case rel=>exact⟨j+1,o,by omega,by rw[←p.o];rfl,by cases o<;>rfl,z,by omega,g.o,N.o⟩
      case measure=>have:=p.o;simp[intOf];omega
    ·have k1:decide (d<J)=false:=decide_eq_false h1;have k2:decide (d<b2)=false:=decide_eq_false h2;have y:RY=false:=by rw[←O.o];unfold dP;dsimp only;rw[k1,k2];rfl
     go_wp2_with fail
     (go_at_call 189;refine mz (HO.o _) fun A a=> ?_);have x:A.heap[w.heap.size]?=some (.cells #[m,d] 43):=(a.block (w.heap.size) (by first|omega|(simp;done)|(simp<;>omega))).trans ((aV _ _ _ (by simp<;>omega)).trans ((aV _ _ _ (by omega)).trans hQ.o));obtain⟨-,E,-,I⟩:=al x;have f:=ar x;clear x;have k:A.heap[c.heap.size]?=some (.cells #[a1,J] 43):=(a.block (c.heap.size) (by first|omega|(simp;done)|(simp<;>omega))).trans ((aV _ _ _ (by simp)).trans (bf _ _ _ rfl));obtain⟨-,F,-,-⟩:=al k;clear k;have l:A.heap[c.heap.size+1]?=some (.cells #[b1,b2] 43):=(a.block (c.heap.size+1) (by first|omega|(simp;done)|(simp<;>omega))).trans (bf _ _ _ (by simp));obtain⟨-,G,-,-⟩:=al l;clear l;have r:=ar (ag (w:=w) (by have hB:=K.o;have hz:=hB.size;go_grown) a);have B:=a.size;(try simp only[aw]at B);clear a;have z:Hi (o=cf (fun i=>dP (P i) (P (nx n i)) (m,d)) (j+1)):=by
      show _=_;unfold cf;rw[←hx.o,HR.o,y]
      (cases o<;>rfl)
     go_wp2;go_roundw
     case rel=>exact⟨j+1,o,by omega,by rw[←p.o];rfl,by cases o<;>rfl,z,by omega,f.o,r.o⟩
     case measure=>have:=p.o;simp[intOf];omega
  ·have HE:Hi (R=o):=by
    show _=_;have e:j=n:=by omega
    rw[←d1.o,hx.o,e];rfl
   have hB:=K.o;cases o with
   |false=>
    have b0:Hi (Z= -1):=by show _=_;rw[←HZ.o,HE.o];rfl
    go_wp2;go_returns;rw[b0.o];exact⟨rfl,hB⟩
   |true=>
    have b0:Hi (Z=1):=by show _=_;rw[←HZ.o,HE.o];rfl
    go_wp2;go_returns;rw[b0.o];exact⟨rfl,hB⟩
theorem AV (v u:Value) (n m:Nat) (P Q:Nat→Pt) (w:World) (h:bO w v n P) (U:bO w u m Q) (Z:Hi (lK 32768 n P)) (y:Hi (lK 32768 m Q)) (J:n≤32) (I:m≤32) (ha:Hi (bP n P≠0)) (X:Hi (bP m Q≠0))
 (x:Hi (∀i k,i<n→k<m→¬ct (P i) (P (nx n i)) (Q k) (Q (nx m k)))) (o1:Hi (gh n P (Q 0)=false)) (o2:Hi (gh m Q (P 0)=false)):
 Gv 137 #[v,u] (.bool true) w:=by
 have K:Hi (∀i,i<n→cR 32768 (P i)=true):=fun i G=>cO.2 (by have:=Z.o.nr i G;omega);have s:Hi (∀i,i<m→cR 32768 (Q i)=true):=fun i G=>cO.2 (by have:=y.o.nr i G;omega);have n3:=Z.o.n3;have m3:=y.o.n3;have f1:Hi (uA m Q (P 0)):=kU x.o (show 0<n by omega);have f2:Hi (uA n P (Q 0)):=kU (fun i j G hj hc=>x.o j i hj G (fw.1 hc)) (show 0<m by omega);have E:iF n P m Q=false:=jq.2 x.o;obtain⟨oa,cap,rfl,-,hc,F⟩:=h.form;obtain⟨ob,f,rfl,-,-,r⟩:=U.form;obtain⟨c,z,rfl,l,p⟩:=F 0 (by omega);obtain⟨d,A,rfl,o,q⟩:=r 0 (by omega);have H:=ar h;have H':=ar U;have HE:Hi (∀W,bO W (.slice (some ⟨c,z,none⟩) n cap) n P→bO W (.slice (some ⟨d,A,none⟩) m f) m Q→Gv 186 #[.slice (some ⟨c,z,none⟩) n cap,.slice (some ⟨d,A,none⟩) m f,.func (.func 187) #[] #[]] (.bool false) W):=fun W a b=>by rw[←E];exact qd _ _ n m P Q W a b K s
 have R:Hi (∀W,bO W (.slice (some ⟨c,z,none⟩) n cap) n P→Gv 138 #[.slice (some ⟨c,z,none⟩) n cap,.agg #[(Q 0).1,(Q 0).2]] (.int .i64 (-1)) W):=fun W a=>by
  have t:=nH _ n P (Q 0).1 (Q 0).2 W a Z J ha.o (s.o 0 (by omega)) f2;have e:gh n P ((Q 0).1,(Q 0).2)=false:=o1.o;rw[e]at t;exact t
 have T:Hi (∀W,bO W (.slice (some ⟨d,A,none⟩) m f) m Q→Gv 138 #[.slice (some ⟨d,A,none⟩) m f,.agg #[(P 0).1,(P 0).2]] (.int .i64 (-1)) W):=fun W a=>by
  have t:=nH _ m Q (P 0).1 (P 0).2 W a y I X.o (K.o 0 (by omega)) f1;have e:gh m Q ((P 0).1,(P 0).2)=false:=o2.o;rw[e]at t;exact t
 have B:=ar (p 0 (by omega));have C:=ar (q 0 (by omega));have L:c<w.heap.size:=l;have N:d<w.heap.size:=o;clear h U F r p q l o E;go_enter func137,ntmps137;go_wp2_with fail
 (go_at_call 186;refine mz (HE.o _ H.o H'.o) fun w1 g=> ?_);have x0:w1.cell? (d,A)=some (.int .i64 (Q 0).1):=bI g N (by have:=C.o.1;rwa [Nat.zero_mul,Nat.add_zero]at this);have x1:w1.cell? (d,A+1)=some (.int .i64 (Q 0).2):=bI g N (by have:=C.o.2;rwa [Nat.zero_mul,Nat.add_zero]at this);have B1:=ar g;have y1:c<w1.heap.size:=by have:=g.size;omega
 clear g;go_wp2_with fail
 (go_at_call 138;refine mz (R.o _ (H.o.below B1.o)) fun w2 D=> ?_);have O:=ar (ag B1.o D);have x2:w2.cell? (c,z)=some (.int .i64 (P 0).1):=bI O.o L (by have:=B.o.1;rwa [Nat.zero_mul,Nat.add_zero]at this);have x3:w2.cell? (c,z+1)=some (.int .i64 (P 0).2):=bI O.o L (by have:=B.o.2;rwa [Nat.zero_mul,Nat.add_zero]at this);clear D x0 x1;go_wp2_with fail
 (go_at_call 138;refine mz (T.o _ (H'.o.below O.o)) fun w3 Y=> ?_);have B3:=ar (ag O.o Y);go_wp2;go_returns;exact⟨rfl,B3.o⟩
structure uI (n:Nat) (P:Nat→Pt):Prop where
 ds:∀i k,k<i→i<n→P i≠P k
 nf:∀i,i<n→¬dO (P (nx n i)) (P (nx n (nx n i))) (P i)∧¬dO (P i) (P (nx n i)) (P (nx n (nx n i)))
 nm:∀i k,i<n→i+2≤k→k<n→nx n k≠i→¬ct (P i) (P (nx n i)) (P k) (P (nx n k))
noncomputable def kY (n:Nat) (P:Nat→Pt):Bool:= @decide (uI n P) (Classical.propDecidable _)
theorem my {n:Nat} {P:Nat→Pt} (h:¬uI n P):kY n P=false:= @decide_eq_false _ (Classical.propDecidable _) h
theorem rQ {n:Nat} {P:Nat→Pt} (h:uI n P):kY n P=true:= @decide_eq_true _ (Classical.propDecidable _) h
theorem AW {n:Nat} {P:Nat→Pt} (h:kY n P=true):uI n P:= @of_decide_eq_true _ (Classical.propDecidable _) h
theorem uJ (v:Value) (n:Nat) (P:Nat→Pt) (w:World) (h:bO w v n P) (n3:3≤n) (q6:n≤32) (b9:Hi (∀i,i<n→cR 32768 (P i)=true)):
 Gv 109 #[v] (.bool (kY n P)) w:=by
 obtain⟨oa,cap,rfl,hn,hc,m4⟩:=h.form;have j8:=ar m4;generalize hR:kY n P=R;have HR:=ar hR;clear h m4 hR;go_enter func109,ntmps109;go_wp2;go_loopw[4] (fun i wr=>∃j:Nat,j≤n∧i= .int .i64 j∧Hi (∀a b,b<a→a<j→P a≠P b)∧Below w.heap.size w wr) (fun i _=>n-(intOf i).toNat)
 case atStart=>exact⟨0,by omega,rfl,fun a b J h2=>absurd h2 (by omega),ah _ _⟩
 case round=>
  obtain⟨w1,rfl⟩:=wE wr;obtain⟨j,hj,rfl,g7,y⟩:=hrel;have B:=ar y;by_cases hlt:j<n
  ·go_wp2;go_loopw[5] (fun i wr=>∃l:Nat,l≤j∧i= .int .i64 l∧Hi (∀b,b<l→P j≠P b)∧Below w.heap.size w wr) (fun i _=>n-(intOf i).toNat)
   case atStart=>exact⟨0,by omega,rfl,fun b m=>absurd m (by omega),B.o⟩
   case round=>
    obtain⟨w2,rfl⟩:=wE wr;obtain⟨l,hl,rfl,m8,U⟩:=hrel;have a4:=ar U;by_cases hll:l<j
    ·obtain⟨g,E,rfl,f,c⟩:=j8.o j hlt;have d4:w2.cell? (g,E+j*2)=some (.int .i64 (P j).1):=bI U f (c j hlt).1;have d5:w2.cell? (g,E+j*2+1)=some (.int .i64 (P j).2):=bI U f (c j hlt).2;have d6:w2.cell? (g,E+l*2)=some (.int .i64 (P l).1):=bI U f (c l (by omega:l<n)).1;have d7:w2.cell? (g,E+l*2+1)=some (.int .i64 (P l).2):=bI U f (c l (by omega:l<n)).2;have q3:g<w2.heap.size:=by have:=U.size;omega
     clear c;have k0:=dS j;have k1:(j:Int)<(n:Int):=by omega
     have k2:=dS l;have k3:(l:Int)<(n:Int):=by omega
     obtain⟨a1,F⟩:=oE ((P j).1);obtain⟨a2,G⟩:=oE ((P j).2);obtain⟨b1,z⟩:=oE ((P l).1);obtain⟨b2,H⟩:=oE ((P l).2);rw[F]at d4;rw[G]at d5;rw[z]at d6;rw[H]at d7;have qp:=fun W=>pn a1 a2 b1 b2 W;have C:Hi (P j=(a1,a2)∧P l=(b1,b2)):=⟨Prod.ext F G,Prod.ext z H⟩;clear F G z H;by_cases o:(a1,a2)=(b1,b2)
     ·have L:decide ((a1,a2)=(b1,b2))=true:=decide_eq_true o;have D:Hi (R=false):=by
       show _=_;rw[←HR.o];exact my fun hs=>hs.ds j l hll hlt (by rw[C.o.1,C.o.2];exact o)
      simp only[L]at qp;clear L o;go_wp2_with fail
      refine aD 9 ?_;simp only[ac,aj,aK,aC,aa,ae,af];iterate 9 refine bJ ?_
      intro u w3 m o;simp only[cF,aR,ay.is,aE,aA,reduceIte]at o;simp only[am,ax,ac,aj,aK,aC,aa,ae,af,o];clear o;have q4:=ar (ag (w:=w2) (by first|assumption|go_grown) m);have K:=ar m;have f3:=dx m;have p4:g<w3.heap.size:=by omega
      obtain⟨m2,m5⟩:=br m;clear m f3;go_wp2;go_returns;rw[D.o];exact⟨rfl,ag a4.o K.o⟩
     ·have L:decide ((a1,a2)=(b1,b2))=false:=decide_eq_false o;have p1:Hi (∀b,b<l+1→P j≠P b):=fun b m=>by
       by_cases e:b=l
       ·rw[e,C.o.1,C.o.2];exact o
       ·exact m8.o b (by omega)
      simp only[L]at qp;clear L o;go_wp2_with fail
      refine aD 9 ?_;simp only[ac,aj,aK,aC,aa,ae,af];iterate 9 refine bJ ?_
      intro u w3 m o;simp only[cF,aR,ay.is,aE,aA,reduceIte]at o;simp only[am,ax,ac,aj,aK,aC,aa,ae,af,o];clear o;obtain⟨f3,q7,m2,m5,K⟩:=pr m;clear m;have o4:=ar (ag a4.o K.o);go_wp2;go_roundw
      case rel=>exact⟨l+1,by omega,by go_num,p1,o4.o⟩
      case measure=>simp[intOf];omega
    ·have p2:Hi (∀a b,b<a→a<j+1→P a≠P b):=fun a b J h2=>by
      by_cases e:a=j
      ·rw[e];exact m8.o b (by omega)
      ·exact g7.o a b J (by omega)
     go_wp2;go_roundw
     case rel=>exact⟨j+1,by omega,by go_num,p2,a4.o⟩
     case measure=>simp[intOf];omega
  ·have o8:Hi (∀a b,b<a→a<n→P a≠P b):=fun a b J h2=>g7.o a b J (by omega);have j3:=B;clear B y g7;go_wp2;go_loopw[6] (fun i wr=>∃j:Nat,j≤n∧i= .int .i64 j∧Hi (∀i,i<j→(¬dO (P (nx n i)) (P (nx n (nx n i))) (P i)∧¬dO (P i) (P (nx n i)) (P (nx n (nx n i))))∧∀k,i+2≤k→k<n→nx n k≠i→¬ct (P i) (P (nx n i)) (P k) (P (nx n k)))∧Below w.heap.size w wr) (fun i _=>n-(intOf i).toNat)
   case atStart=>exact⟨0,by omega,rfl,fun i hi=>absurd hi (by omega),j3.o⟩
   case round=>
    obtain⟨w1,rfl⟩:=wE wr;obtain⟨j,hj,rfl,g8,y⟩:=hrel;have B:=ar y;by_cases hlt:j<n
    ·obtain⟨g,E,rfl,f,c⟩:=j8.o j hlt;obtain⟨J1,d0⟩:=oE ((j:Int)+1);obtain⟨q,hq⟩:=oE (nx n j);have qn:q<n:=by rw[←hq];exact dW (by omega)
     have i1:IntKind.i64.wrap ((j:Int)+1)=J1:=by rw[d0];exact iw
     have i2:J1.tmod (n:Int)=(q:Int):=by rw[←d0,←hq];exact gz hlt
     have i3:IntKind.i64.wrap (q:Int)=(q:Int):=iw;have i0:¬n=0:=by omega
     have i5:=dS q;have i6:(q:Int)<(n:Int):=by omega
     have j9:=ar d0;have Hq:=ar hq;have i8:=dS j;have i9:(j:Int)<(n:Int):=by omega
     clear d0 hq;obtain⟨J2,d1⟩:=oE ((j:Int)+2);obtain⟨r,hr⟩:=oE (nx n q);have rn:r<n:=by rw[←hr];exact dW (by omega)
     have y1:IntKind.i64.wrap ((j:Int)+2)=J2:=by rw[d1];exact iw
     have y2:J2.tmod (n:Int)=(r:Int):=by rw[←d1,←hr,←Hq.o];exact zF hlt n3
     have y3:IntKind.i64.wrap (r:Int)=(r:Int):=iw;have y5:=dS r;have y6:(r:Int)<(n:Int):=by omega
     have Hr:=ar hr;have o9:=ar d1;clear hr d1;have HN:=ar (dk (b9.o j hlt));have f6:=ar (dk (b9.o q qn));have k6:=ar (dk (b9.o r rn));have d4:w1.cell? (g,E+j*2)=some (.int .i64 (P j).1):=bI y f (c j hlt).1;have d5:w1.cell? (g,E+j*2+1)=some (.int .i64 (P j).2):=bI y f (c j hlt).2;have d6:w1.cell? (g,E+q*2)=some (.int .i64 (P q).1):=bI y f (c q qn).1;have d7:w1.cell? (g,E+q*2+1)=some (.int .i64 (P q).2):=bI y f (c q qn).2;have X:w1.cell? (g,E+r*2)=some (.int .i64 (P r).1):=bI y f (c r rn).1;have Y:w1.cell? (g,E+r*2+1)=some (.int .i64 (P r).2):=bI y f (c r rn).2;have q3:g<w1.heap.size:=by have:=y.size;omega
     have j7:=ar c;clear c;obtain⟨o1,g5⟩:=oE (decide (dO (P q) (P r) (P j)));obtain⟨o2,g6⟩:=oE (decide (dO (P j) (P q) (P r)));have k7:Hi (∀W,Gv 112 #[.agg #[(P j).1,(P j).2],.agg #[(P q).1,(P q).2],.agg #[(P r).1,(P r).2]] (.bool o1) W):=fun W=>by rw[←g5];exact iS _ _ _ _ _ _ W f6.o k6.o HN.o
     have k8:Hi (∀W,Gv 112 #[.agg #[(P r).1,(P r).2],.agg #[(P j).1,(P j).2],.agg #[(P q).1,(P q).2]] (.bool o2) W):=fun W=>by rw[←g6];exact iS _ _ _ _ _ _ W HN.o f6.o k6.o
     have c9:=ar (And.intro g5 g6);clear g5 g6;obtain⟨a1,F⟩:=oE ((P j).1);obtain⟨a2,G⟩:=oE ((P j).2);obtain⟨b1,z⟩:=oE ((P q).1);obtain⟨b2,H⟩:=oE ((P q).2);obtain⟨c1,g3⟩:=oE ((P r).1);obtain⟨c2,g4⟩:=oE ((P r).2);rw[F,G,z,H,g3,g4]at k7 k8;rw[F]at d4;rw[G]at d5;rw[z]at d6;rw[H]at d7;rw[g3]at X;rw[g4]at Y;have C:=ar (And.intro F (And.intro G (And.intro z H)));clear F G z H g3 g4;go_wp2_with fail
     refine dd 24 [⟨18,21,#[(),()],43⟩,⟨19,22,#[(),()],43⟩,⟨20,23,#[(),()],43⟩] [] (by kernel_rfl) (by kernel_rfl) (by kernel_rfl) (by kernel_rfl) (by kernel_rfl) ?_ ?_ ?_
     ·intro r hr;cases hr
     ·intro r hr;cases hr
     simp only[ac,aj,aK,aC,aa,ae,af];iterate 18
      apply dE (by kernel_rfl)
      ·intro u O m L;replace m:=m.nil;have hz:=dx m;have h4:g<O.heap.size:=by omega
       obtain⟨hc,hf⟩:=br m;clear m hz;simp[cL,ai,dK,bN,dm.is,dm.any]at L;go_simp
       first|exact⟨ah _ _,rfl⟩|rfl
     refine dZ ⟨18,21,#[(),()],43⟩ (by simp) rfl ?_ ?_
     ·intro u O m;refine⟨by simp[au],?_⟩;go_simp
      first|done|rfl|exact⟨rfl,rfl⟩
     refine dZ ⟨19,22,#[(),()],43⟩ (by simp) rfl ?_ ?_
     ·intro u O m;refine⟨by simp[au],?_⟩;go_simp
      first|done|rfl|exact⟨rfl,rfl⟩
     refine dZ ⟨20,23,#[(),()],43⟩ (by simp) rfl ?_ ?_
     ·intro u O m;refine⟨by simp[au],?_⟩;go_simp
      first|done|rfl|exact⟨rfl,rfl⟩
     apply cC ⟨18,21,#[(),()],43⟩ (by simp) rfl (by kernel_rfl) rfl (by kernel_rfl)
     ·intro u O m L;replace m:=m.nil;have hz:=dx m;have h4:g<O.heap.size:=by omega
      obtain⟨hc,hf⟩:=br m;clear m hz;simp[cL,ai,dK,bN,dm.is,dm.any]at L;refine⟨by simp[au],fun b' I m7 p=> ?_⟩;have f2:u 18= .pointer (some b'):=I;have d:O.heap[b']?=some (.cells #[(),()] 43):=p;have m1:=al d;have a6:=ar d;clear p d I;go_simp;exact bL.c2 a6.o _ _
     apply cC ⟨19,22,#[(),()],43⟩ (by simp) rfl (by kernel_rfl) rfl (by kernel_rfl)
     ·intro u O m L;replace m:=m.nil;have hz:=dx m;have h4:g<O.heap.size:=by omega
      obtain⟨hc,hf⟩:=br m;clear m hz;simp[cL,ai,dK,bN,dm.is,dm.any]at L;refine⟨by simp[au],fun b' I m7 p=> ?_⟩;have f2:u 19= .pointer (some b'):=I;have d:O.heap[b']?=some (.cells #[(),()] 43):=p;have m1:=al d;have a6:=ar d;clear p d I;go_simp;exact bL.c2 a6.o _ _
     apply cC ⟨20,23,#[(),()],43⟩ (by simp) rfl (by kernel_rfl) rfl (by kernel_rfl)
     ·intro u O m L;replace m:=m.nil;have hz:=dx m;have h4:g<O.heap.size:=by omega
      obtain⟨hc,hf⟩:=br m;clear m hz;simp[cL,ai,dK,bN,dm.is,dm.any]at L;refine⟨by simp[au],fun b' I m7 p=> ?_⟩;have f2:u 20= .pointer (some b'):=I;have d:O.heap[b']?=some (.cells #[(),()] 43):=p;have m1:=al d;have a6:=ar d;clear p d I;go_simp;exact bL.c2 a6.o _ _
     intro u w5 m o hV hP;replace m:=m.nil;clear hP;have e0:u 0=_:=eE o 0;have e1:u 1=_:=eE o 1;have e2:u 2=_:=eE o 2;have e3:u 3=_:=eE o 3;have e4:u 4=_:=eE o 4;have e5:u 5=_:=eE o 5;have e6:u 6=_:=eE o 6;have e7:u 7=_:=eE o 7;have e8:u 8=_:=eE o 8;have e9:u 9=_:=eE o 9;have l2:u 10=_:=eE o 10;have l3:u 11=_:=eE o 11;have l4:u 12=_:=eE o 12;have l5:u 13=_:=eE o 13;have l6:u 14=_:=eE o 14;have l7:u 15=_:=eE o 15;have l8:u 16=_:=eE o 16;have l9:u 17=_:=eE o 17;have f7:u 21=_:=eE o 21;have f8:u 22=_:=eE o 22;have f9:u 23=_:=eE o 23;obtain⟨⟨Q,d8,m9,Z⟩,⟨n9,o0,-⟩,⟨⟨T,d9,n0,a0⟩,⟨o3,-⟩,⟨⟨VC,f0,n1,a3⟩,-,-⟩⟩⟩:=hV;replace Z:w5.heap[Q]?=some (.cells (u 21).cells 43):=Z;rw[f7]at Z;replace d8:u 18= .pointer (some Q):=d8;obtain⟨n2,n4,-,r4⟩:=al Z;have k9:=ar Z;clear Z;replace a0:w5.heap[T]?=some (.cells (u 22).cells 43):=a0;rw[f8]at a0;replace d9:u 19= .pointer (some T):=d9;obtain⟨n5,n6,-,r5⟩:=al a0;have l0:=ar a0;clear a0;replace a3:w5.heap[VC]?=some (.cells (u 23).cells 43):=a3;rw[f9]at a3;replace f0:u 20= .pointer (some VC):=f0;obtain⟨n7,n8,-,r6⟩:=al a3;have l1:=ar a3;clear a3;clear n9;clear o0;clear o3;(try simp only[aw,aT]at m9);(try have r1:w1.heap.size≤Q:=by omega);clear m9;(try simp only[aw,aT]at n0);(try have r2:w1.heap.size≤T:=by omega);clear n0;(try simp only[aw,aT]at n1);(try have r3:w1.heap.size≤VC:=by omega);clear n1;simp only[am,ax,ac,aj,aK,aC,aa,ae,af,e0,e1,e2,e3,e4,e5,e6,e7,e8,e9,l2,l3,l4,l5,l6,l7,l8,l9,f7,f8,f9,d8,d9,f0];clear e0 e1 e2 e3 e4 e5 e6 e7 e8 e9 l2 l3 l4 l5 l6 l7 l8 l9 f7 f8 f9 d8 d9 f0 o;have f5:=ar m;have r9:=ag (w:=w1) (by first|assumption|go_grown) m;obtain⟨r0,q8,m3,m6,o6⟩:=pr m;clear m;have o5:=ar (ag B.o f5.o);clear d4 d5 d6 d7 X Y;(try clear m3 m6);go_wp2_with fail
     (go_at_call 112;refine mz (k7.o _) fun w6 a7=> ?_);have KA:w6.heap[Q]?=some (.cells #[a1,a2] 43):=(a7.block Q (by omega)).trans k9.o;have KB:w6.heap[T]?=some (.cells #[b1,b2] 43):=(a7.block T (by omega)).trans l0.o;have KC:w6.heap[VC]?=some (.cells #[c1,c2] 43):=(a7.block VC (by omega)).trans l1.o;obtain⟨h7,h8,-,q1⟩:=al KA;have k4:=ar KA;clear KA;obtain⟨h9,i4,-,q2⟩:=al KB;have k5:=ar KB;clear KB;obtain⟨i7,j0,-,-⟩:=al KC;clear KC;have j4:=ar (ag o5.o a7);clear a7 n2 n4 n5 n6 n7 n8;cases o1 with
     |true=>
      have D:Hi (R=false):=by
       show _=_;rw[←HR.o];exact my fun hs=>(hs.nf j hlt).1 (by rw[Hq.o,Hr.o];exact of_decide_eq_true c9.o.1)
      go_wp2;go_returns;rw[D.o];exact⟨rfl,j4.o⟩
     |false=>
      go_wp2_with fail
      (go_at_call 112;refine mz (k8.o _) fun w7 d3=> ?_);have KA:w7.heap[Q]?=some (.cells #[a1,a2] 43):=(d3.block Q (by omega)).trans k4.o;have KB:w7.heap[T]?=some (.cells #[b1,b2] 43):=(d3.block T (by omega)).trans k5.o;obtain⟨c0,c3,-,c4⟩:=al KA;clear k4;clear KA;obtain⟨c5,c6,-,c7⟩:=al KB;clear k5;clear KB;have j5:=ar (ag j4.o d3);clear d3 h7 h8 h9 i4 i7 j0;cases o2 with
      |true=>
       have D:Hi (R=false):=by
        show _=_;rw[←HR.o];exact my fun hs=>(hs.nf j hlt).2 (by rw[Hq.o,Hr.o];exact of_decide_eq_true c9.o.2)
       go_wp2;go_returns;rw[D.o];exact⟨rfl,j5.o⟩
      |false=>
       go_wp2;go_loopw[10] (fun i wr=>∃l:Nat,j+2≤l∧(l≤n∨l=j+2)∧i= .int .i64 l∧Hi (∀k,j+2≤k→k<l→nx n k≠j→¬ct (P j) (P (nx n j)) (P k) (P (nx n k)))∧Q<wr.heap.size∧T<wr.heap.size∧wr.cell? Q=some a1∧wr.cell? (Q,1)=some a2∧wr.cell? T=some b1∧wr.cell? (T,1)=some b2∧Below w.heap.size w wr) (fun i _=>n-(intOf i).toNat)
       case atStart=>exact⟨j+2,by omega,by omega,by rw[←o9.o];rfl,fun k J h2=>absurd J (by omega),c4,c7,c0,c3,c5,c6,j5.o⟩
       case round=>
        clear c4 c7 c0 c3 c5 c6;obtain⟨w8,rfl⟩:=wE wr;obtain⟨l,hl,r8,rfl,g9,zA,zB,m0,p8,p9,q0,A⟩:=hrel;have N:=ar A;by_cases hll:l<n
        ·have c:=j7.o;have M0:=ar m0;have M1:=ar p8;have M2:=ar p9;have M3:=ar q0;have s1:g<w8.heap.size:=by have:=A.size;omega
         obtain⟨L1,d2⟩:=oE ((l:Int)+1);obtain⟨s,hs⟩:=oE (nx n l);have sn:s<n:=by rw[←hs];exact dW (by omega)
         have t1:IntKind.i64.wrap ((l:Int)+1)=L1:=by rw[d2];exact iw
         have t2:L1.tmod (n:Int)=(s:Int):=by rw[←d2,←hs];exact gz hll
         have t3:IntKind.i64.wrap (s:Int)=(s:Int):=iw;have t5:=dS s;have t6:(s:Int)<(n:Int):=by omega
         have t7:IntKind.i64.wrap (L1.tmod (n:Int))=(s:Int):=by rw[t2];exact t3
         have c8:=ar d2;have Hs:=ar hs;have t8:=dS l;have t9:(l:Int)<(n:Int):=by omega
         clear d2 hs;by_cases he:s=j
         ·have p0:=he.symm;subst p0;have X:w8.cell? (g,E+l*2)=some (.int .i64 (P l).1):=bI A f (c l hll).1;have Y:w8.cell? (g,E+l*2+1)=some (.int .i64 (P l).2):=bI A f (c l hll).2;have h5:w8.cell? (g,E+j*2)=some (.int .i64 (P j).1):=bI A f (c j hlt).1;have h6:w8.cell? (g,E+j*2+1)=some (.int .i64 (P j).2):=bI A f (c j hlt).2;clear c;obtain⟨g1,b0⟩:=oE ((P l).1);rw[b0]at X;clear b0;obtain⟨g2,b5⟩:=oE ((P l).2);rw[b5]at Y;clear b5;obtain⟨k1,b6⟩:=oE ((P j).1);rw[b6]at h5;clear b6;obtain⟨k2,b8⟩:=oE ((P j).2);rw[b8]at h6;clear b8;go_wp2_with fail
          refine aD 22 ?_;simp only[ac,aj,aK,aC,aa,ae,af];iterate 22 refine bJ ?_
          intro u w9 m o;simp only[cF,aR,ay.is,aE,aA,reduceIte]at o;simp only[am,ax,ac,aj,aK,aC,aa,ae,af,o];clear o;have t:=ar m;have x:=ag (w:=w8) (by first|assumption|go_grown) m;have f4:=dx m;have p5:g<w9.heap.size:=by omega
          have p6:Q<w9.heap.size:=by omega
          have p7:T<w9.heap.size:=by omega
          have q5:=ar m.block;obtain⟨a8,a9⟩:=br m;clear m f4;have a5:=ar (ag N.o t.o);have A0:=ar (bI x zA M0.o);have A1:=ar (bI x zA M1.o);have A2:=ar (bI x zB M2.o);have A3:=ar (bI x zB M3.o);have j1:Q<w9.heap.size:=by have:=x.size;omega
          have j2:T<w9.heap.size:=by have:=x.size;omega
          clear a8 a9 t;have h0:Hi (∀k,j+2≤k→k<l+1→nx n k≠j→¬ct (P j) (P (nx n j)) (P k) (P (nx n k))):=fun k J h2 h3=>by
           by_cases e:k=l
           ·subst e;exact absurd Hs.o h3
           ·exact g9.o k J (by omega) h3
          go_wp2;go_roundw
          case rel=>exact⟨l+1,by omega,by omega,by rw[←c8.o];rfl,h0,j1,j2,A0.o,A1.o,A2.o,A3.o,a5.o⟩
          case measure=>have:=c8.o;simp[intOf];omega
         ·have s0:((s:Int) !=(j:Int))=true:=by simp;omega
          have X:w8.cell? (g,E+l*2)=some (.int .i64 (P l).1):=bI A f (c l hll).1;have Y:w8.cell? (g,E+l*2+1)=some (.int .i64 (P l).2):=bI A f (c l hll).2;have h5:w8.cell? (g,E+s*2)=some (.int .i64 (P s).1):=bI A f (c s sn).1;have h6:w8.cell? (g,E+s*2+1)=some (.int .i64 (P s).2):=bI A f (c s sn).2;obtain⟨bb,g0⟩:=oE (decide (ct (P j) (P q) (P l) (P s)));have HM:Hi (∀W,Gv 143 #[.agg #[(P j).1,(P j).2],.agg #[(P q).1,(P q).2],.agg #[(P l).1,(P l).2],.agg #[(P s).1,(P s).2]] (.bool bb) W):=fun W=>by
           rw[←g0];exact xT _ _ _ _ _ _ _ _ W HN.o f6.o (dk (b9.o l hll)) (dk (b9.o s sn))
          rw[C.o.1,C.o.2.1,C.o.2.2.1,C.o.2.2.2]at HM;have j6:=ar g0;clear c g0;obtain⟨g1,b0⟩:=oE ((P l).1);rw[b0]at X HM;clear b0;obtain⟨g2,b5⟩:=oE ((P l).2);rw[b5]at Y HM;clear b5;obtain⟨k1,b6⟩:=oE ((P s).1);rw[b6]at h5 HM;clear b6;obtain⟨k2,b8⟩:=oE ((P s).2);rw[b8]at h6 HM;clear b8;go_wp2_with fail
          refine aD 22 ?_;simp only[ac,aj,aK,aC,aa,ae,af];iterate 20 refine bJ ?_
          apply bg
          ·intro u O hz hc hf r7 L;simp[aU,ai,aR,ay.is,ay.any]at L;go_simp
           first|rfl|(go_at_call 143;refine(HM.o _).mono ?_;rintro e w1 ⟨rfl,z⟩;first|exact⟨rfl,z⟩|exact⟨_,rfl,z,rfl⟩)
          refine bJ ?_;intro u w9 m o;simp only[cF,aR,ay.is,aE,aA,reduceIte]at o;simp only[am,ax,ac,aj,aK,aC,aa,ae,af,o];clear o;have t:=ar m;have x:=ag (w:=w8) (by first|assumption|go_grown) m;obtain⟨f4,q9,a8,a9,o7⟩:=pr m;clear m;cases bb with
          |true=>
           have D:Hi (R=false):=by
            show _=_;rw[←HR.o];exact my fun hs=>hs.nm j l hlt hl hll (by rw[Hs.o];exact he) (by rw[Hq.o,Hs.o];exact of_decide_eq_true j6.o)
           have a5:=ar (ag N.o t.o);go_wp2;go_returns;rw[D.o];exact⟨rfl,a5.o⟩
          |false=>
           have a5:=ar (ag N.o t.o);have A0:=ar (bI x zA M0.o);have A1:=ar (bI x zA M1.o);have A2:=ar (bI x zB M2.o);have A3:=ar (bI x zB M3.o);have j1:Q<w9.heap.size:=by have:=x.size;omega
           have j2:T<w9.heap.size:=by have:=x.size;omega
           clear a8 a9 t;have h0:Hi (∀k,j+2≤k→k<l+1→nx n k≠j→¬ct (P j) (P (nx n j)) (P k) (P (nx n k))):=fun k J h2 h3=>by
            by_cases e:k=l
            ·subst e;rw[Hq.o,Hs.o];exact of_decide_eq_false j6.o
            ·exact g9.o k J (by omega) h3
           go_wp2;go_roundw
           case rel=>exact⟨l+1,by omega,by omega,by rw[←c8.o];rfl,h0,j1,j2,A0.o,A1.o,A2.o,A3.o,a5.o⟩
           case measure=>have:=c8.o;simp[intOf];omega
        ·have p3:Hi (∀i,i<j+1→(¬dO (P (nx n i)) (P (nx n (nx n i))) (P i)∧¬dO (P i) (P (nx n i)) (P (nx n (nx n i))))∧∀k,i+2≤k→k<n→nx n k≠i→¬ct (P i) (P (nx n i)) (P k) (P (nx n k))):=fun i hi=>by
          by_cases e:i=j
          ·subst e;refine⟨?_,fun k J h2 h3=>g9.o k J (by omega) h3⟩;rw[Hq.o,Hr.o];exact⟨of_decide_eq_false c9.o.1,of_decide_eq_false c9.o.2⟩
          ·exact g8.o i (by omega)
         go_wp2;go_roundw
         case rel=>exact⟨j+1,by omega,by rw[←j9.o];rfl,p3,N.o⟩
         case measure=>have:=j9.o;simp[intOf];omega
    ·have D:Hi (R=true):=by
      show _=_;have e:j=n:=by omega
      rw[←HR.o];refine rQ ⟨fun a b J h2=>o8.o a b J h2,fun i hi=>(g8.o i (by omega)).1,fun i k hi J h2 h3=>(g8.o i (by omega)).2 k J h2 h3⟩
     go_wp2;go_returns;rw[D.o];exact⟨rfl,B.o⟩
noncomputable def rR (n:Nat) (P:Nat→Pt):Int:=if n<3 then 3 else if 32<n then 4 else if gH (fun i=>cR 32768 (P i)) n=false then 9 else if kY n P=false then 17 else 0
theorem kx {n:Nat} {P:Nat→Pt}:rR n P=0↔dT n P:=by
 unfold rR;constructor
 ·intro h;by_cases c:n<3
  ·rw[if_pos c]at h;exact absurd h (by decide)
  rw[if_neg c]at h;by_cases d:32<n
  ·rw[if_pos d]at h;exact absurd h (by decide)
  rw[if_neg d]at h;by_cases a:gH (fun i=>cR 32768 (P i)) n=false
  ·rw[if_pos a]at h;exact absurd h (by decide)
  rw[if_neg a]at h;by_cases b:kY n P=false
  ·rw[if_pos b]at h;exact absurd h (by decide)
  have f:=AW (by simpa using b);have hn:=eQ.1 (by simpa using a);exact⟨by omega,by omega,fun i e=>by have:=cO.1 (hn i e);omega,f.ds,f.nf,f.nm⟩
 ·intro h;have c:=h.n3;have d:=h.n32;have a:gH (fun i=>cR 32768 (P i)) n=true:=eQ.2 fun i e=>cO.2 (by have:=h.nr i e;omega);have b:kY n P=true:=rQ ⟨h.ds,h.nf,h.nm⟩;rw[if_neg (by omega),if_neg (by omega),if_neg (by simp[a]),if_neg (by simp[b])]
theorem dT.near {n:Nat} {P:Nat→Pt} (h:dT n P):∀i,i<n→cR 32768 (P i)=true:=fun i a=>cO.2 (by have:=h.nr i a;omega)
theorem lM (v:Value) (n:Nat) (P:Nat→Pt) (w:World) (h:bO w v n P):Gv 63 #[v] (.int .i64 (rR n P)) w:=by
 obtain⟨oa,cap,rfl,-,u,-⟩:=h.form;have H:=ar h;generalize a:rR n P=R;have t:=ar a;clear h;unfold rR at a;by_cases h1:n<3
 ·rw[if_pos h1]at a;subst a;have q:decide ((n:Int)<3)=true:=dt;clear h1;go_enter func63,ntmps63;go_wp2;go_returns;exact⟨rfl,ah _ _⟩
 rw[if_neg h1]at a;have q:decide ((n:Int)<3)=false:=df;by_cases h2:32<n
 ·rw[if_pos h2]at a;subst a;have r:decide ((32:Int)<(n:Int))=true:=dt;clear h1 h2;go_enter func63,ntmps63;go_wp2;go_returns;exact⟨rfl,ah _ _⟩
 rw[if_neg h2]at a;have r:decide ((32:Int)<(n:Int))=false:=df;obtain⟨B,e⟩:=oE (gH (fun i=>cR 32768 (P i)) n);have j:Hi (∀W c,bO W c n P→Gv 108 #[c] (.bool B) W):=fun W c l=>by rw[←e];exact AU c n P W l
 rw[e]at a;cases B with
 |false=>
  rw[if_pos rfl]at a;subst a;clear e h1 h2;go_enter func63,ntmps63;go_wp2_with fail
  (go_at_call 108;refine mz (j.o _ _ H.o) fun p b=> ?_);go_wp2;go_returns;exact⟨rfl,b⟩
 |true=>
  rw[if_neg (by decide)]at a;have k:=ar (eQ.1 e);obtain⟨C,m⟩:=oE (kY n P);have o:Hi (∀W c,bO W c n P→Gv 109 #[c] (.bool C) W):=fun W c l=>by rw[←m];exact uJ c n P W l (by omega) (by omega) k
  rw[m]at a;clear m e h1 h2;cases C with
  |false=>
   rw[if_pos rfl]at a;subst a;go_enter func63,ntmps63;go_wp2_with fail
   (go_at_call 108;refine mz (j.o _ _ H.o) fun p b=> ?_);have f:=ar (H.o.below b);go_wp2_with fail
   (go_at_call 109;refine mz (o.o _ _ f.o) fun s d=> ?_);have g:=ar (ag b d);go_wp2;go_returns;exact⟨rfl,g.o⟩
  |true=>
   rw[if_neg (by decide)]at a;subst a;go_enter func63,ntmps63;go_wp2_with fail
   (go_at_call 108;refine mz (j.o _ _ H.o) fun p b=> ?_);have f:=ar (H.o.below b);go_wp2_with fail
   (go_at_call 109;refine mz (o.o _ _ f.o) fun s d=> ?_);have g:=ar (ag b d);go_wp2;go_returns;exact⟨rfl,g.o⟩
theorem jz (v:Value) (n:Nat) (P:Nat→Pt) (w:World) (h:bO w v n P) (b:Hi (dT n P)):Gv 63 #[v] (.int .i64 0) w:=by
 have a:=lM v n P w h;rw[kx.2 b.o]at a;exact a
theorem mA (v:Value) (n:Nat) (P:Nat→Pt) (w:World) (h:bO w v n P) (hp:Hi (dT n P)):
 Gv 64 #[v] (.int .i64 (bP n P)) w:=by
 have a8:=ar hp.o.near;obtain⟨oa,cap,rfl,-,hc,a6⟩:=h.form;have c7:=ar a6;have H:=ar h;have n3:=hp.o.n3;have d9:=hp.o.n32;clear h a6;generalize hR:bP n P=R;have HR:=ar hR;clear hR;go_enter func64,ntmps64;go_wp2_with fail
 (go_at_call 63;refine mz (jz _ n P _ H.o hp) fun w1 k=> ?_);have N:=ar k;clear k;go_wp2;go_loopw[3,4] (fun t i wr=>∃(j:Nat) (s:Int),j≤n∧i= .int .i64 j∧t= .int .i64 s∧Hi (s=cB (fun i=>(P i).1*(P (nx n i)).2-(P (nx n i)).1*(P i).2) j)∧Hi (-(34359738368*(j:Int))≤s∧s≤34359738368*(j:Int))∧Below w.heap.size w wr) (fun t i _=>n-(intOf i).toNat)
 case atStart=>exact⟨0,0,by omega,rfl,rfl,rfl,⟨by omega,by omega⟩,N.o⟩
 case round=>
  obtain⟨W,rfl⟩:=wE wr;obtain⟨j,s,hj,rfl,rfl,b0,d0,m⟩:=hrel;have L:=ar m;by_cases hlt:j<n
  ·obtain⟨d,f1,rfl,l,f⟩:=c7.o j hlt;have a9:=d0.o;obtain⟨J1,A⟩:=oE ((j:Int)+1);obtain⟨q,hq⟩:=oE (nx n j);have qn:q<n:=by rw[←hq];exact dW (by omega)
   have i1:IntKind.i64.wrap ((j:Int)+1)=J1:=by rw[A];exact iw
   have i2:J1.tmod (n:Int)=(q:Int):=by rw[←A,←hq];exact gz hlt
   have i3:IntKind.i64.wrap (q:Int)=(q:Int):=iw;have i0:¬n=0:=by omega
   have i5:=dS q;have i6:(q:Int)<(n:Int):=by omega
   have X:=ar A;have Hq:=ar hq;have i8:=dS j;have i9:(j:Int)<(n:Int):=by omega
   clear A hq;have c1:W.cell? (d,f1+j*2)=some (.int .i64 (P j).1):=bI m l (f j hlt).1;have c2:W.cell? (d,f1+j*2+1)=some (.int .i64 (P j).2):=bI m l (f j hlt).2;have c3:W.cell? (d,f1+q*2)=some (.int .i64 (P q).1):=bI m l (f q qn).1;have c4:W.cell? (d,f1+q*2+1)=some (.int .i64 (P q).2):=bI m l (f q qn).2;have f0:d<W.heap.size:=by have:=m.size;omega
   clear f;obtain⟨a1,B⟩:=oE ((P j).1);obtain⟨a2,C⟩:=oE ((P j).2);obtain⟨b1,k⟩:=oE ((P q).1);obtain⟨b2,E⟩:=oE ((P q).2);have n1:=cO.1 (a8.o j hlt);have n2:=cO.1 (a8.o q qn);rw[B,C]at n1;rw[k,E]at n2;have g1:=eH (x:=a1) (y:=b2) (by omega) (by omega);have g2:=eH (x:=a2) (y:=b1) (by omega) (by omega);obtain⟨m1,F⟩:=oE (a1*b2);obtain⟨m2,G⟩:=oE (a2*b1);rw[F]at g1;rw[G]at g2;obtain⟨D,hD⟩:=oE (s+m1);obtain⟨Y,a4⟩:=oE (D-m2);have v1:IntKind.i64.wrap (a1*b2)=m1:=by rw[F];exact iw
   have v2:IntKind.i64.wrap (a2*b1)=m2:=by rw[G];exact iw
   have v3:IntKind.i64.wrap (s+m1)=D:=by rw[hD];exact iw
   have v4:IntKind.i64.wrap (D-m2)=Y:=by rw[a4];exact iw
   have HS:Hi (Y=cB (fun i=>(P i).1*(P (nx n i)).2-(P (nx n i)).1*(P i).2) (j+1)):=by
    show _=_;unfold cB;rw[←b0.o,Hq.o,B,C,k,E,F,Int.mul_comm b1 a2,G];omega
   have N:Hi (-(34359738368*((j+1:Nat):Int))≤Y∧Y≤34359738368*((j+1:Nat):Int)):=by
    show _∧_;have e:((j+1:Nat):Int)=(j:Int)+1:=by omega
    rw[e,Int.mul_add];omega
   rw[B]at c1;rw[C]at c2;rw[k]at c3;rw[E]at c4;clear n1 n2 g1 g2 B C k E F G hD a4;clear a9;go_wp2_with fail
   refine dd 16 [⟨12,14,#[(),()],43⟩,⟨13,15,#[(),()],43⟩] [] (by kernel_rfl) (by kernel_rfl) (by kernel_rfl) (by kernel_rfl) (by kernel_rfl) ?_ ?_ ?_
   ·intro r hr;cases hr
   ·intro r hr;cases hr
   simp only[ac,aj,aK,aC,aa,ae,af];iterate 12
    apply dE (by kernel_rfl)
    ·intro u K c hd;replace c:=c.nil;have hz:=dx c;have b6:d<K.heap.size:=by omega
     obtain⟨hc,hf⟩:=br c;clear c hz;simp[cL,ai,dK,bN,dm.is,dm.any]at hd;go_simp
     first|exact⟨ah _ _,rfl⟩|rfl
   refine dZ ⟨12,14,#[(),()],43⟩ (by simp) rfl ?_ ?_
   ·intro u K c;refine⟨by simp[au],?_⟩;go_simp
    first|done|rfl|exact⟨rfl,rfl⟩
   refine dZ ⟨13,15,#[(),()],43⟩ (by simp) rfl ?_ ?_
   ·intro u K c;refine⟨by simp[au],?_⟩;go_simp
    first|done|rfl|exact⟨rfl,rfl⟩
   apply cC ⟨12,14,#[(),()],43⟩ (by simp) rfl (by kernel_rfl) rfl (by kernel_rfl)
   ·intro u K c hd;replace c:=c.nil;have hz:=dx c;have b6:d<K.heap.size:=by omega
    obtain⟨hc,hf⟩:=br c;clear c hz;simp[cL,ai,dK,bN,dm.is,dm.any]at hd;refine⟨by simp[au],fun Z o c9 b=> ?_⟩;have b5:u 12= .pointer (some Z):=o;have a:K.heap[Z]?=some (.cells #[(),()] 43):=b;have c8:=al a;have Q:=ar a;clear b a o;go_simp;exact bL.c2 Q.o _ _
   apply cC ⟨13,15,#[(),()],43⟩ (by simp) rfl (by kernel_rfl) rfl (by kernel_rfl)
   ·intro u K c hd;replace c:=c.nil;have hz:=dx c;have b6:d<K.heap.size:=by omega
    obtain⟨hc,hf⟩:=br c;clear c hz;simp[cL,ai,dK,bN,dm.is,dm.any]at hd;refine⟨by simp[au],fun Z o c9 b=> ?_⟩;have b5:u 13= .pointer (some Z):=o;have a:K.heap[Z]?=some (.cells #[(),()] 43):=b;have c8:=al a;have Q:=ar a;clear b a o;go_simp;exact bL.c2 Q.o _ _
   intro u w5 c g hV hP;replace c:=c.nil;clear hP;have e0:u 0=_:=eE g 0;have e1:u 1=_:=eE g 1;have e2:u 2=_:=eE g 2;have e3:u 3=_:=eE g 3;have e4:u 4=_:=eE g 4;have e5:u 5=_:=eE g 5;have e6:u 6=_:=eE g 6;have e7:u 7=_:=eE g 7;have e8:u 8=_:=eE g 8;have e9:u 9=_:=eE g 9;have a0:u 10=_:=eE g 10;have a3:u 11=_:=eE g 11;have T:u 14=_:=eE g 14;have U:u 15=_:=eE g 15;obtain⟨⟨VA,I,b8,p⟩,⟨c0,-⟩,⟨⟨VB,J,b9,z⟩,-,-⟩⟩:=hV;replace p:w5.heap[VA]?=some (.cells (u 14).cells 43):=p;rw[T]at p;replace I:u 12= .pointer (some VA):=I;obtain⟨d5,d6,-,-⟩:=al p;clear p;replace z:w5.heap[VB]?=some (.cells (u 15).cells 43):=z;rw[U]at z;replace J:u 13= .pointer (some VB):=J;obtain⟨d7,d8,-,-⟩:=al z;clear z;clear c0;(try simp only[aw,aT]at b8);(try have d3:W.heap.size≤VA:=by omega);clear b8;(try simp only[aw,aT]at b9);(try have d4:W.heap.size≤VB:=by omega);clear b9;simp only[am,ax,ac,aj,aK,aC,aa,ae,af,e0,e1,e2,e3,e4,e5,e6,e7,e8,e9,a0,a3,T,U,I,J];clear e0 e1 e2 e3 e4 e5 e6 e7 e8 e9 a0 a3 T U I J g;have O:=ar c;obtain⟨d2,d1,a5,a7,c6⟩:=pr c;clear c;have c5:=ar (ag L.o O.o);clear a5 a7 c1 c2 c3 c4;go_wp2;go_roundw
   case rel=>exact⟨j+1,Y,by omega,by rw[←X.o];rfl,rfl,HS,N.o,c5.o⟩
   case measure=>have:=X.o;simp[intOf];omega
  ·have HE:Hi (s=R):=by
    show _=_;have e:j=n:=by omega
    rw[←HR.o,b0.o,e];rfl
   go_wp2;go_returns;rw[HE.o];exact⟨rfl,L.o⟩
theorem lN (v:Value) (n:Nat) (P:Nat→Pt) (m b:Int) (w:World) (h:bO w v n P) (hp:Hi (dT n P)) (hq:cR 32768 (m,b)=true) (g2:Hi (uA n P (m,b))):
 Gv 66 #[v,.agg #[m,b]] (.int .i64 (if gh n P (m,b)=true then 1 else -1)) w:=by
 have g1:=ar hp.o.near;have g3:Hi (Nr (m,b)):=dk hq;have HF:Hi (∀W,Gv 111 #[.agg #[m,b]] (.bool true) W):=fun W=>by have:=kX m b W;rw[hq]at this;exact this
 obtain⟨oa,cap,rfl,-,hc,f9⟩:=h.form;have i4:=ar f9;have H:=ar h;have n3:=hp.o.n3;have l0:=hp.o.n32;generalize hR:gh n P (m,b)=R;have i7:=ar hR;generalize hZ:(if R=true then 1 else -1)=Z;have HZ:=ar hZ;clear h f9 hR hq hZ;go_enter func66,ntmps66;go_wp2_with fail
 (go_at_call 63;refine mz (jz _ n P _ (H.o.below (by go_grown)) hp) fun w3 c7=> ?_);have h7:=ar (ag (w:=w) (by go_grown) c7);have f7:Hi (w3.heap[w.heap.size]?=some (.cells #[m,b] 43)):=(c7.block w.heap.size (by simp)).trans (bf _ _ _ rfl);have j5:w.heap.size<w3.heap.size:=by have:=c7.size;simp only[aw]at this;omega
 clear c7;obtain⟨u3,v3,-,-⟩:=al f7.o;go_wp2_with fail
 (go_at_call 111;refine mz (HF.o _) fun w4 c8=> ?_);have h8:=ar (ag h7.o c8);have j0:Hi (w4.heap[w.heap.size]?=some (.cells #[m,b] 43)):=(c8.block w.heap.size j5).trans f7.o;have j6:w.heap.size<w4.heap.size:=by have:=c8.size;omega
 clear c8 u3 v3;go_wp2;go_loopw[5,6] (fun t i wr=>∃(j:Nat) (o:Bool),j≤n∧i= .int .i64 j∧t= .bool o∧Hi (o=cf (fun i=>dP (P i) (P (nx n i)) (m,b)) j)∧w.heap.size<wr.heap.size∧Hi (wr.heap[w.heap.size]?=some (.cells #[m,b] 43))∧Below w.heap.size w wr) (fun t i _=>n-(intOf i).toNat)
 case atStart=>exact⟨0,false,by omega,rfl,rfl,rfl,j6,j0,h8.o⟩
 case round=>
  obtain⟨w2,rfl⟩:=wE wr;obtain⟨j,o,hj,rfl,rfl,hx,zw,hQ,L⟩:=hrel;have c1:=ar L;clear L;by_cases hlt:j<n
  ·obtain⟨J1,c5⟩:=oE ((j:Int)+1);obtain⟨q,hq⟩:=oE (nx n j);have qn:q<n:=by rw[←hq];exact dW (by omega)
   have i1:IntKind.i64.wrap ((j:Int)+1)=J1:=by rw[c5];exact iw
   have i2:J1.tmod (n:Int)=(q:Int):=by rw[←c5,←hq];exact gz hlt
   have i3:IntKind.i64.wrap (q:Int)=(q:Int):=iw;have i0:¬n=0:=by omega
   have i5:=dS q;have i6:(q:Int)<(n:Int):=by omega
   have s:=ar c5;have Hq:=ar hq;have i8:=dS j;have i9:(j:Int)<(n:Int):=by omega
   clear c5 hq;obtain⟨U,f1,rfl,a9,X⟩:=i4.o j hlt;have L:=c1.o;have h0:w2.cell? (U,f1+j*2)=some (.int .i64 (P j).1):=bI L a9 (X j hlt).1;have h4:w2.cell? (U,f1+j*2+1)=some (.int .i64 (P j).2):=bI L a9 (X j hlt).2;have h5:w2.cell? (U,f1+q*2)=some (.int .i64 (P q).1):=bI L a9 (X q qn).1;have h6:w2.cell? (U,f1+q*2+1)=some (.int .i64 (P q).2):=bI L a9 (X q qn).2;have l1:U<w2.heap.size:=by have:=L.size;omega
   clear X L;have HN:=ar (dk (g1.o j hlt));have d3:=ar (dk (g1.o q qn));have d4:Hi (decide (dO (P j) (P q) (m,b))=false):=decide_eq_false (by have:=g2.o j hlt;rw[Hq.o]at this;exact this);have HO:Hi (∀W,Gv 112 #[.agg #[m,b],.agg #[(P j).1,(P j).2],.agg #[(P q).1,(P q).2]] (.bool false) W):=fun W=>by rw[←d4.o];exact iS _ _ _ _ _ _ W HN.o d3.o g3.o
   have HC:Hi (∀W,Gv 113 #[.agg #[(P j).1,(P j).2],.agg #[(P q).1,(P q).2],.agg #[m,b]] (.int .i64 (bQ ((P j).1,(P j).2) ((P q).1,(P q).2) (m,b))) W):=fun W=>iE _ _ _ _ _ _ W HN.o d3.o g3.o;obtain⟨RY,c6⟩:=oE (dP (P j) (P (nx n j)) (m,b));have HR:=ar c6;have a0:Hi (dP ((P j).1,(P j).2) ((P q).1,(P q).2) (m,b)=RY):=by rw[Hq.o]at c6;exact c6
   have d1:Hi (decide (dO ((P j).1,(P j).2) ((P q).1,(P q).2) (m,b))=false):=d4.o;clear c6 d4 HN d3;obtain⟨a1,d8⟩:=oE ((P j).1);obtain⟨F,d9⟩:=oE ((P j).2);obtain⟨b1,f0⟩:=oE ((P q).1);obtain⟨b2,f2⟩:=oE ((P q).2);rw[d8,d9,f0,f2]at HC HO a0 d1;rw[d8]at h0;rw[d9]at h4;rw[f0]at h5;rw[f2]at h6;clear d8 d9 f0 f2;obtain⟨C,hC⟩:=oE (bQ (a1,F) (b1,b2) (m,b));rw[hC]at HC;have c3:=ar hC;clear hC;go_wp2_with fail
   refine dd 16 [⟨12,14,#[(),()],43⟩,⟨13,15,#[(),()],43⟩] [] (by kernel_rfl) (by kernel_rfl) (by kernel_rfl) (by kernel_rfl) (by kernel_rfl) ?_ ?_ ?_
   ·intro r hr;cases hr
   ·intro r hr;cases hr
   simp only[ac,aj,aK,aC,aa,ae,af];iterate 12
    apply dE (by kernel_rfl)
    ·intro u wx x hd;replace x:=x.nil;have hz:=dx x;have g5:U<wx.heap.size:=by omega
     have g6:w.heap.size<wx.heap.size:=by omega
     obtain⟨hc,hf⟩:=br x;clear x hz;simp[cL,ai,dK,bN,dm.is,dm.any]at hd;go_simp
     first|exact⟨ah _ _,rfl⟩|rfl
   refine dZ ⟨12,14,#[(),()],43⟩ (by simp) rfl ?_ ?_
   ·intro u wx x;refine⟨by simp[au],?_⟩;go_simp
    first|done|rfl|exact⟨rfl,rfl⟩
   refine dZ ⟨13,15,#[(),()],43⟩ (by simp) rfl ?_ ?_
   ·intro u wx x;refine⟨by simp[au],?_⟩;go_simp
    first|done|rfl|exact⟨rfl,rfl⟩
   apply cC ⟨12,14,#[(),()],43⟩ (by simp) rfl (by kernel_rfl) rfl (by kernel_rfl)
   ·intro u wx x hd;replace x:=x.nil;have hz:=dx x;have g5:U<wx.heap.size:=by omega
    have g6:w.heap.size<wx.heap.size:=by omega
    obtain⟨hc,hf⟩:=br x;clear x hz;simp[cL,ai,dK,bN,dm.is,dm.any]at hd;refine⟨by simp[au],fun b' c4 j2 p=> ?_⟩;have g4:u 12= .pointer (some b'):=c4;have d:wx.heap[b']?=some (.cells #[(),()] 43):=p;have j1:=al d;have d2:=ar d;clear p d c4;go_simp;exact bL.c2 d2.o _ _
   apply cC ⟨13,15,#[(),()],43⟩ (by simp) rfl (by kernel_rfl) rfl (by kernel_rfl)
   ·intro u wx x hd;replace x:=x.nil;have hz:=dx x;have g5:U<wx.heap.size:=by omega
    have g6:w.heap.size<wx.heap.size:=by omega
    obtain⟨hc,hf⟩:=br x;clear x hz;simp[cL,ai,dK,bN,dm.is,dm.any]at hd;refine⟨by simp[au],fun b' c4 j2 p=> ?_⟩;have g4:u 13= .pointer (some b'):=c4;have d:wx.heap[b']?=some (.cells #[(),()] 43):=p;have j1:=al d;have d2:=ar d;clear p d c4;go_simp;exact bL.c2 d2.o _ _
   intro u w5 x hE hV hP;replace x:=x.nil;clear hP;have e0:u 0=_:=eE hE 0;have e1:u 1=_:=eE hE 1;have e2:u 2=_:=eE hE 2;have e3:u 3=_:=eE hE 3;have e4:u 4=_:=eE hE 4;have e5:u 5=_:=eE hE 5;have e6:u 6=_:=eE hE 6;have e7:u 7=_:=eE hE 7;have e8:u 8=_:=eE hE 8;have e9:u 9=_:=eE hE 9;have f5:u 10=_:=eE hE 10;have f6:u 11=_:=eE hE 11;have d6:u 14=_:=eE hE 14;have d7:u 15=_:=eE hE 15;obtain⟨⟨VA,c9,g7,b5⟩,⟨g9,-⟩,⟨⟨VB,d0,g8,b6⟩,-,-⟩⟩:=hV;replace b5:w5.heap[VA]?=some (.cells (u 14).cells 43):=b5;rw[d6]at b5;replace c9:u 12= .pointer (some VA):=c9;obtain⟨G,I,-,k8⟩:=al b5;have D:=ar b5;clear b5;replace b6:w5.heap[VB]?=some (.cells (u 15).cells 43):=b6;rw[d7]at b6;replace d0:u 13= .pointer (some VB):=d0;obtain⟨J,K,-,k9⟩:=al b6;have E:=ar b6;clear b6;clear g9;(try simp only[aw,aT]at g7);(try have j9:w2.heap.size≤VA:=by omega);clear g7;(try simp only[aw,aT]at g8);(try have k0:w2.heap.size≤VB:=by omega);clear g8;simp only[am,ax,ac,aj,aK,aC,aa,ae,af,e0,e1,e2,e3,e4,e5,e6,e7,e8,e9,f5,f6,d6,d7,c9,d0];clear e0 e1 e2 e3 e4 e5 e6 e7 e8 e9 f5 f6 d6 d7 c9 d0 hE;have c2:=ar x;obtain⟨j8,j7,f8,g0,h9⟩:=pr x;clear x;have b0:=ar (ag c1.o c2.o);have a3:Hi (w5.heap[w.heap.size]?=some (.cells #[m,b] 43)):=(c2.o.block _ zw).trans hQ.o;clear f8 g0 h0 h4 h5 h6;obtain⟨b8,b9,-,c0⟩:=al a3.o;by_cases h1:b<F
   ·by_cases h2:b<b2
    ·have k1:decide (b<F)=true:=decide_eq_true h1;have k2:decide (b<b2)=true:=decide_eq_true h2;have k5:decide (F≤b)=false:=df;have k6:decide (b2≤b)=false:=df;have A:RY=false:=by rw[←a0.o];unfold dP;dsimp only;rw[k1,k2];rfl
     clear h1 h2;go_wp2_with fail
     (go_at_call 112;refine mz (HO.o _) fun w6 a=> ?_);have z:w6.heap[w.heap.size]?=some (.cells #[m,b] 43):=(a.block (w.heap.size) (by first|omega|(simp;done)|(simp<;>omega))).trans a3.o;obtain⟨-,N,-,T⟩:=al z;have f:=ar z;clear z;have KX:w6.heap[VA]?=some (.cells #[a1,F] 43):=(a.block (VA) (by first|omega|(simp;done)|(simp<;>omega))).trans D.o;obtain⟨-,O,-,-⟩:=al KX;clear KX;have KY:w6.heap[VB]?=some (.cells #[b1,b2] 43):=(a.block (VB) (by first|omega|(simp;done)|(simp<;>omega))).trans E.o;obtain⟨-,Q,-,-⟩:=al KY;clear KY;have y:=ar (ag b0.o a);clear b8 b9 c0 a G I J K;have B:Hi (o=cf (fun i=>dP (P i) (P (nx n i)) (m,b)) (j+1)):=by
      show _=_;unfold cf;rw[←hx.o,HR.o,A]
      (cases o<;>rfl)
     go_wp2;go_roundw
     case rel=>exact⟨j+1,o,by omega,by rw[←s.o];rfl,by cases o<;>rfl,B,by omega,f.o,y.o⟩
     case measure=>have:=s.o;simp[intOf];omega
    ·have k1:decide (b<F)=true:=decide_eq_true h1;have k2:decide (b<b2)=false:=decide_eq_false h2;have k5:decide (F≤b)=false:=df;have k6:decide (b2≤b)=true:=dt;have k3:decide (F<b2)=false:=df;have f4:Hi (C≠0):=fun e=>of_decide_eq_false d1.o (ei (by show F≠b2;omega) (c3.o.trans e) (by show bt F b2 b;unfold bt;omega));by_cases h3:0<C
     ·have k4:decide (0<C)=true:=decide_eq_true h3;have A:RY=false:=by rw[←a0.o];unfold dP;dsimp only;rw[k1,k2,k3,c3.o,k4];rfl
      have k7:decide (C<0)=false:=decide_eq_false (by have:=f4.o;omega);clear h1 h2 h3;go_wp2_with fail
      (go_at_call 112;refine mz (HO.o _) fun w6 a=> ?_);have z:w6.heap[w.heap.size]?=some (.cells #[m,b] 43):=(a.block (w.heap.size) (by first|omega|(simp;done)|(simp<;>omega))).trans a3.o;obtain⟨a4,N,-,T⟩:=al z;have f:=ar z;clear z;have k:=ar (kz a D);obtain⟨a5,O,-,a7⟩:=al k.o;have l:=ar (kz a E);obtain⟨a6,Q,-,a8⟩:=al l.o;have y:=ar (ag b0.o a);clear b8 b9 c0 a G I J K;go_wp2_with fail
      (go_at_call 113;refine mz (HC.o _) fun w7 c=> ?_);have g:=ar (kz c f);obtain⟨-,-,-,f3⟩:=al g.o;have KX:w7.heap[VA]?=some (.cells #[a1,F] 43):=(c.block (VA) (by first|omega|(simp;done)|(simp<;>omega))).trans k.o;clear KX;have KY:w7.heap[VB]?=some (.cells #[b1,b2] 43):=(c.block (VB) (by first|omega|(simp;done)|(simp<;>omega))).trans l.o;clear KY;have Y:=ar (ag y.o c);clear c a4 N T a5 O a7 a6 Q a8;have B:Hi (o=cf (fun i=>dP (P i) (P (nx n i)) (m,b)) (j+1)):=by
       show _=_;unfold cf;rw[←hx.o,HR.o,A]
       (cases o<;>rfl)
      go_wp2;go_roundw
      case rel=>exact⟨j+1,o,by omega,by rw[←s.o];rfl,by cases o<;>rfl,B,by omega,g.o,Y.o⟩
      case measure=>have:=s.o;simp[intOf];omega
     ·have k4:decide (0<C)=false:=decide_eq_false h3;have A:RY=true:=by rw[←a0.o];unfold dP;dsimp only;rw[k1,k2,k3,c3.o,k4];rfl
      have k7:decide (C<0)=true:=decide_eq_true (by have:=f4.o;omega);clear h1 h2 h3;go_wp2_with fail
      (go_at_call 112;refine mz (HO.o _) fun w6 a=> ?_);have z:w6.heap[w.heap.size]?=some (.cells #[m,b] 43):=(a.block (w.heap.size) (by first|omega|(simp;done)|(simp<;>omega))).trans a3.o;obtain⟨a4,N,-,T⟩:=al z;have f:=ar z;clear z;have k:=ar (kz a D);obtain⟨a5,O,-,a7⟩:=al k.o;have l:=ar (kz a E);obtain⟨a6,Q,-,a8⟩:=al l.o;have y:=ar (ag b0.o a);clear b8 b9 c0 a G I J K;go_wp2_with fail
      (go_at_call 113;refine mz (HC.o _) fun w7 c=> ?_);have g:=ar (kz c f);obtain⟨-,-,-,f3⟩:=al g.o;have KX:w7.heap[VA]?=some (.cells #[a1,F] 43):=(c.block (VA) (by first|omega|(simp;done)|(simp<;>omega))).trans k.o;clear KX;have KY:w7.heap[VB]?=some (.cells #[b1,b2] 43):=(c.block (VB) (by first|omega|(simp;done)|(simp<;>omega))).trans l.o;clear KY;have Y:=ar (ag y.o c);clear c a4 N T a5 O a7 a6 Q a8;have B:Hi ((!o)=cf (fun i=>dP (P i) (P (nx n i)) (m,b)) (j+1)):=by
       show _=_;unfold cf;rw[←hx.o,HR.o,A]
       (cases o<;>rfl)
      go_wp2;go_roundw
      case rel=>exact⟨j+1,(!o),by omega,by rw[←s.o];rfl,by cases o<;>rfl,B,by omega,g.o,Y.o⟩
      case measure=>have:=s.o;simp[intOf];omega
   ·by_cases h2:b<b2
    ·have k1:decide (b<F)=false:=decide_eq_false h1;have k2:decide (b<b2)=true:=decide_eq_true h2;have k5:decide (F≤b)=true:=dt;have k6:decide (b2≤b)=false:=df;have k3:decide (F<b2)=true:=dt;by_cases h3:0<C
     ·have k4:decide (0<C)=true:=decide_eq_true h3;have A:RY=true:=by rw[←a0.o];unfold dP;dsimp only;rw[k1,k2,k3,c3.o,k4];rfl
      clear h1 h2 h3;go_wp2_with fail
      (go_at_call 112;refine mz (HO.o _) fun w6 a=> ?_);have z:w6.heap[w.heap.size]?=some (.cells #[m,b] 43):=(a.block (w.heap.size) (by first|omega|(simp;done)|(simp<;>omega))).trans a3.o;obtain⟨a4,N,-,T⟩:=al z;have f:=ar z;clear z;have k:=ar (kz a D);obtain⟨a5,O,-,a7⟩:=al k.o;have l:=ar (kz a E);obtain⟨a6,Q,-,a8⟩:=al l.o;have y:=ar (ag b0.o a);clear b8 b9 c0 a G I J K;go_wp2_with fail
      (go_at_call 113;refine mz (HC.o _) fun w7 c=> ?_);have g:=ar (kz c f);obtain⟨-,j3,-,f3⟩:=al g.o;have KX:w7.heap[VA]?=some (.cells #[a1,F] 43):=(c.block (VA) (by first|omega|(simp;done)|(simp<;>omega))).trans k.o;clear KX;have KY:w7.heap[VB]?=some (.cells #[b1,b2] 43):=(c.block (VB) (by first|omega|(simp;done)|(simp<;>omega))).trans l.o;obtain⟨-,j4,-,-⟩:=al KY;clear KY;have Y:=ar (ag y.o c);clear c a4 N T a5 O a7 a6 Q a8;have B:Hi ((!o)=cf (fun i=>dP (P i) (P (nx n i)) (m,b)) (j+1)):=by
       show _=_;unfold cf;rw[←hx.o,HR.o,A]
       (cases o<;>rfl)
      go_wp2;go_roundw
      case rel=>exact⟨j+1,(!o),by omega,by rw[←s.o];rfl,by cases o<;>rfl,B,by omega,g.o,Y.o⟩
      case measure=>have:=s.o;simp[intOf];omega
     ·have k4:decide (0<C)=false:=decide_eq_false h3;have A:RY=false:=by rw[←a0.o];unfold dP;dsimp only;rw[k1,k2,k3,c3.o,k4];rfl
      clear h1 h2 h3;go_wp2_with fail
      (go_at_call 112;refine mz (HO.o _) fun w6 a=> ?_);have z:w6.heap[w.heap.size]?=some (.cells #[m,b] 43):=(a.block (w.heap.size) (by first|omega|(simp;done)|(simp<;>omega))).trans a3.o;obtain⟨a4,N,-,T⟩:=al z;have f:=ar z;clear z;have k:=ar (kz a D);obtain⟨a5,O,-,a7⟩:=al k.o;have l:=ar (kz a E);obtain⟨a6,Q,-,a8⟩:=al l.o;have y:=ar (ag b0.o a);clear b8 b9 c0 a G I J K;go_wp2_with fail
      (go_at_call 113;refine mz (HC.o _) fun w7 c=> ?_);have g:=ar (kz c f);obtain⟨-,j3,-,f3⟩:=al g.o;have KX:w7.heap[VA]?=some (.cells #[a1,F] 43):=(c.block (VA) (by first|omega|(simp;done)|(simp<;>omega))).trans k.o;clear KX;have KY:w7.heap[VB]?=some (.cells #[b1,b2] 43):=(c.block (VB) (by first|omega|(simp;done)|(simp<;>omega))).trans l.o;obtain⟨-,j4,-,-⟩:=al KY;clear KY;have Y:=ar (ag y.o c);clear c a4 N T a5 O a7 a6 Q a8;have B:Hi (o=cf (fun i=>dP (P i) (P (nx n i)) (m,b)) (j+1)):=by
       show _=_;unfold cf;rw[←hx.o,HR.o,A]
       (cases o<;>rfl)
      go_wp2;go_roundw
      case rel=>exact⟨j+1,o,by omega,by rw[←s.o];rfl,by cases o<;>rfl,B,by omega,g.o,Y.o⟩
      case measure=>have:=s.o;simp[intOf];omega
    ·have k1:decide (b<F)=false:=decide_eq_false h1;have k2:decide (b<b2)=false:=decide_eq_false h2;have k5:decide (F≤b)=true:=dt;have k6:decide (b2≤b)=true:=dt;have A:RY=false:=by rw[←a0.o];unfold dP;dsimp only;rw[k1,k2];rfl
     clear h1 h2;go_wp2_with fail
     (go_at_call 112;refine mz (HO.o _) fun w6 a=> ?_);have z:w6.heap[w.heap.size]?=some (.cells #[m,b] 43):=(a.block (w.heap.size) (by first|omega|(simp;done)|(simp<;>omega))).trans a3.o;obtain⟨-,N,-,T⟩:=al z;have f:=ar z;clear z;have KX:w6.heap[VA]?=some (.cells #[a1,F] 43):=(a.block (VA) (by first|omega|(simp;done)|(simp<;>omega))).trans D.o;obtain⟨-,O,-,-⟩:=al KX;clear KX;have KY:w6.heap[VB]?=some (.cells #[b1,b2] 43):=(a.block (VB) (by first|omega|(simp;done)|(simp<;>omega))).trans E.o;obtain⟨-,Q,-,-⟩:=al KY;clear KY;have y:=ar (ag b0.o a);clear b8 b9 c0 a G I J K;have B:Hi (o=cf (fun i=>dP (P i) (P (nx n i)) (m,b)) (j+1)):=by
      show _=_;unfold cf;rw[←hx.o,HR.o,A]
      (cases o<;>rfl)
     go_wp2;go_roundw
     case rel=>exact⟨j+1,o,by omega,by rw[←s.o];rfl,by cases o<;>rfl,B,by omega,f.o,y.o⟩
     case measure=>have:=s.o;simp[intOf];omega
  ·have HE:Hi (R=o):=by
    show _=_;have e:j=n:=by omega
    rw[←i7.o,hx.o,e];rfl
   have hB:=c1.o;cases o with
   |false=>
    have d5:Hi (Z= -1):=by show _=_;rw[←HZ.o,HE.o];rfl
    go_wp2;go_returns;rw[d5.o];exact⟨rfl,hB⟩
   |true=>
    have d5:Hi (Z=1):=by show _=_;rw[←HZ.o,HE.o];rfl
    go_wp2;go_returns;rw[d5.o];exact⟨rfl,hB⟩
end
section
instance (n:Nat) (P:Nat→Pt) (q:Pt):Decidable (uA n P q):=by unfold uA;infer_instance
def db (n:Nat) (P:Nat→Pt) (q:Pt):Int:=if uA n P q then(if gh n P q=true then 1 else -1)else 0
def mV (a:Pt) (h:Int):Nat→Pt
 |0=>(a.1-h,a.2-h)
 |1=>(a.1-h,a.2+h)
 |2=>(a.1+h,a.2+h)
 |_=>(a.1+h,a.2-h)
theorem wt {h d:Int} (b:0<h):0<2*h*d↔0<d:=by
 constructor
 ·intro a;apply aG;intro hn;have:=bE (show 0≤2*h by omega) (show 0≤ -d by omega);rw[Int.mul_neg]at this;omega
 ·intro a;exact Int.mul_pos (by omega) a
theorem Dj (a:Pt) (h:Int):rv 4 (mV a h) 0=(a.1+h,a.2-h)∧rv 4 (mV a h) 1=(a.1+h,a.2+h)∧rv 4 (mV a h) 2=(a.1-h,a.2+h)∧rv 4 (mV a h) 3=(a.1-h,a.2-h):=⟨rfl,rfl,rfl,rfl⟩
theorem Dk {a q:Pt} {h:Int} (b:0<h) (m: -h<q.1-a.1∧q.1-a.1<h) (n: -h<q.2-a.2∧q.2-a.2<h):gh 4 (rv 4 (mV a h)) q=true:=by
 obtain⟨d,e,f,g⟩:=Dj a h;have i:dP (a.1+h,a.2-h) (a.1+h,a.2+h) q=true:=by
  unfold dP;have c:bQ (a.1+h,a.2-h) (a.1+h,a.2+h) q=2*h*(h-(q.1-a.1)):=by simp only[bQ];grind
  rw[c,decide_eq_true ((wt b).2 (by omega)),decide_eq_false (show ¬q.2<a.2-h by omega),decide_eq_true (show q.2<a.2+h by omega),decide_eq_true (show a.2-h<a.2+h by omega)];rfl
 have j:dP (a.1+h,a.2+h) (a.1-h,a.2+h) q=false:=by
  unfold dP;dsimp only;cases decide (q.2<a.2+h)<;>rfl
 have k:dP (a.1-h,a.2+h) (a.1-h,a.2-h) q=false:=by
  unfold dP;have c:bQ (a.1-h,a.2+h) (a.1-h,a.2-h) q=2*h*((q.1-a.1)+h):=by simp only[bQ];grind
  rw[c,decide_eq_true ((wt b).2 (by omega)),decide_eq_true (show q.2<a.2+h by omega),decide_eq_false (show ¬q.2<a.2-h by omega),decide_eq_false (show ¬a.2+h<a.2-h by omega)];rfl
 have l:dP (a.1-h,a.2-h) (a.1+h,a.2-h) q=false:=by
  unfold dP;dsimp only;cases decide (q.2<a.2-h)<;>rfl
 show((((false !=dP (rv 4 (mV a h) 0) (rv 4 (mV a h) 1) q) !=dP (rv 4 (mV a h) 1) (rv 4 (mV a h) 2) q) !=dP (rv 4 (mV a h) 2) (rv 4 (mV a h) 3) q) !=dP (rv 4 (mV a h) 3) (rv 4 (mV a h) 0) q)=true;rw[d,e,f,g,i,j,k,l];rfl
theorem AX {a q:Pt} {h:Int} (s:0<h) (p: -h≤q.1-a.1∧q.1-a.1≤h) (r: -h≤q.2-a.2∧q.2-a.2≤h) (b:uA 4 (rv 4 (mV a h)) q):(-h<q.1-a.1∧q.1-a.1<h)∧ -h<q.2-a.2∧q.2-a.2<h:=by
 have l:=b 0 (by decide);have m:=b 1 (by decide);have n:=b 2 (by decide);have o:=b 3 (by decide);have c:¬dO (a.1+h,a.2-h) (a.1+h,a.2+h) q:=l;have d:¬dO (a.1+h,a.2+h) (a.1-h,a.2+h) q:=m;have e:¬dO (a.1-h,a.2+h) (a.1-h,a.2-h) q:=n;have f:¬dO (a.1-h,a.2-h) (a.1+h,a.2-h) q:=o;unfold dO bt at c d e f;have g:bQ (a.1+h,a.2-h) (a.1+h,a.2+h) q=2*h*(h-(q.1-a.1)):=by simp only[bQ];grind
 have i:bQ (a.1+h,a.2+h) (a.1-h,a.2+h) q=2*h*(h-(q.2-a.2)):=by simp only[bQ];grind
 have j:bQ (a.1-h,a.2+h) (a.1-h,a.2-h) q=2*h*((q.1-a.1)+h):=by simp only[bQ];grind
 have k:bQ (a.1-h,a.2-h) (a.1+h,a.2-h) q=2*h*((q.2-a.2)+h):=by simp only[bQ];grind
 rw[g]at c;rw[i]at d;rw[j]at e;rw[k]at f;dsimp only at c d e f;refine⟨⟨?_,?_⟩,?_,?_⟩
 ·apply aG;intro hn;exact e ⟨by rw[show(q.1-a.1)+h=0 by omega,Int.mul_zero],by omega,by omega⟩
 ·apply aG;intro hn;exact c ⟨by rw[show h-(q.1-a.1)=0 by omega,Int.mul_zero],by omega,by omega⟩
 ·apply aG;intro hn;exact f ⟨by rw[show(q.2-a.2)+h=0 by omega,Int.mul_zero],by omega,by omega⟩
 ·apply aG;intro hn;exact d ⟨by rw[show h-(q.2-a.2)=0 by omega,Int.mul_zero],by omega,by omega⟩
theorem zG {a q:Pt} {h:Int} (b:0<h) (e: -h≤q.1-a.1∧q.1-a.1≤h) (f: -h≤q.2-a.2∧q.2-a.2≤h):0≤db 4 (rv 4 (mV a h)) q:=by
 unfold db;split
 ·rename_i ho;obtain⟨c,d⟩:=AX b e f ho;rw[Dk b c d]
  decide
 ·exact Int.le_refl _
theorem GZ {a:Pt} {h:Int} (c:0<h):db 4 (rv 4 (mV a h)) a=1:=by
 have d:uA 4 (rv 4 (mV a h)) a:=by
  intro i e b;rcases(by omega:i=0∨i=1∨i=2∨i=3)with rfl|rfl|rfl|rfl
  ·have b:dO (a.1+h,a.2-h) (a.1+h,a.2+h) a:=b;unfold dO bt at b;dsimp only at b;omega
  ·have b:dO (a.1+h,a.2+h) (a.1-h,a.2+h) a:=b;unfold dO bt at b;dsimp only at b;omega
  ·have b:dO (a.1-h,a.2+h) (a.1-h,a.2-h) a:=b;unfold dO bt at b;dsimp only at b;omega
  ·have b:dO (a.1-h,a.2-h) (a.1+h,a.2-h) a:=b;unfold dO bt at b;dsimp only at b;omega
 unfold db;rw[if_pos d,Dk c (by omega) (by omega)];rfl
def jA (a b lo hi:Pt):Bool:=
 !(decide (max a.1 b.1≤lo.1)||decide (hi.1≤min a.1 b.1)||decide (max a.2 b.2≤lo.2)||decide (hi.2≤min a.2 b.2))&&
 ((decide (0<bQ a b lo)||decide (0<bQ a b (hi.1,lo.2))||decide (0<bQ a b hi)||decide (0<bQ a b (lo.1,hi.2)))&&
  (decide (bQ a b lo<0)||decide (bQ a b (hi.1,lo.2)<0)||decide (bQ a b hi<0)||decide (bQ a b (lo.1,hi.2)<0)))
theorem Ha {a:Pt} {h g:Int} (b:g≤h):∀i,i<4→jA (mV a h i) (mV a h (nx 4 i)) (a.1-g,a.2-g) (a.1+g,a.2+g)=false:=by
 intro i c;rcases(by omega:i=0∨i=1∨i=2∨i=3)with rfl|rfl|rfl|rfl
 ·show jA (a.1-h,a.2-h) (a.1-h,a.2+h) _ _=_;unfold jA;dsimp only;rw[decide_eq_true (show max (a.1-h) (a.1-h)≤a.1-g by omega)];simp
 ·show jA (a.1-h,a.2+h) (a.1+h,a.2+h) _ _=_;unfold jA;dsimp only;rw[decide_eq_true (show a.2+g≤min (a.2+h) (a.2+h)by omega)];simp
 ·show jA (a.1+h,a.2+h) (a.1+h,a.2-h) _ _=_;unfold jA;dsimp only;rw[decide_eq_true (show a.1+g≤min (a.1+h) (a.1+h)by omega)];simp
 ·show jA (a.1+h,a.2-h) (a.1-h,a.2-h) _ _=_;unfold jA;dsimp only;rw[decide_eq_true (show max (a.2-h) (a.2-h)≤a.2-g by omega)];simp
def fz (n:Nat) (P:Nat→Pt) (lo hi mid:Pt):Bool:=
 decide (1≤db n (rv n P) mid)&&(decide (0≤db n (rv n P) lo)&&(decide (0≤db n (rv n P) (hi.1,lo.2))&&(decide (0≤db n (rv n P) hi)&&decide (0≤db n (rv n P) (lo.1,hi.2)))))&&
 decide (∀i,i<n→jA (P i) (P (nx n i)) lo hi=false)
theorem Dl {a:Pt} {h g:Int} (d:0<g) (c:g≤h):fz 4 (mV a h) (a.1-g,a.2-g) (a.1+g,a.2+g) a=true:=by
 unfold fz;have b:0<h:=by omega
 rw[GZ b,decide_eq_true (zG (a:=a) (q:=(a.1-g,a.2-g)) b (by dsimp only;omega) (by dsimp only;omega)),decide_eq_true (zG (a:=a) (q:=(a.1+g,a.2-g)) b (by dsimp only;omega) (by dsimp only;omega)),decide_eq_true (zG (a:=a) (q:=(a.1+g,a.2+g)) b (by dsimp only;omega) (by dsimp only;omega)),decide_eq_true (zG (a:=a) (q:=(a.1-g,a.2+g)) b (by dsimp only;omega) (by dsimp only;omega)),decide_eq_true (Ha c)];rfl
def jB (E:List (Nat×Nat)) (T:Nat→Bool) (v:Nat):Bool:= !T v&&E.all (fun x=>T x.1|| !(x.2==v))
def jd (n:Nat) (E:List (Nat×Nat)) (T:Nat→Bool):Nat:=bq (jB E T) n 0
def lO (T:Nat→Bool) (v:Nat):Nat→Bool:=fun u=>if u=v then true else T u
def fQ (n:Nat) (E:List (Nat×Nat)):Nat→Nat→Bool
 |0=>fun _=>false
 |k+1=>lO (fQ n E k) (jd n E (fQ n E k))
def pq (n:Nat) (E:List (Nat×Nat)):Prop:=∀k,k<n→jd n E (fQ n E k)<n
def fF (E:List (Nat×Nat)) (T:Nat→Bool) (v:Nat):Nat:=(E.filter (fun x=> !T x.1&&x.2==v)).length
theorem xV (E:List (Nat×Nat)) (T:Nat→Bool) (v:Nat):fF E T v=0↔E.all (fun x=>T x.1|| !(x.2==v))=true:=by
 unfold fF;rw[List.length_eq_zero_iff,List.filter_eq_nil_iff,List.all_eq_true];constructor
 ·intro h x a;have:=h x a;cases e:T x.1<;>simp_all
 ·intro h x a;have:=h x a;cases e:T x.1<;>simp_all
theorem Dm (E:List (Nat×Nat)) (T:Nat→Bool) (v:Nat):jB E T v=(!T v&&decide (fF E T v=0)):=by
 unfold jB;congr 1;have:=xV E T v;cases h:E.all (fun x=>T x.1|| !(x.2==v))with
 |true=>rw[decide_eq_true (this.2 h)]
 |false=>
  rw[decide_eq_false];intro e;rw[this.1 e]at h;cases h
def FF (E:List (Nat×Nat)) (u v:Nat):Nat:=(E.filter (fun x=>x.1==u&&x.2==v)).length
theorem xW (E:List (Nat×Nat)) (T:Nat→Bool) (u v:Nat) (e:T u=false):fF E T v=fF E (lO T u) v+FF E u v:=by
 unfold fF FF
 induction E with
 |nil=>rfl
 |cons x E ih=>
  simp only[List.filter_cons];by_cases e1:x.1=u
  ·have a:lO T u x.1=true:=by unfold lO;rw[if_pos e1]
   have b:T x.1=false:=by rw[e1];exact e
   by_cases e2:x.2=v
   ·simp[a,b,e1,e2]at ih⊢
    simp only[e1]at a b;simp[a,b,ih];omega
   ·simp[a,b,e1,e2]at ih⊢
    exact ih
  ·have a:lO T u x.1=T x.1:=by unfold lO;rw[if_neg e1]
   simp only[a];have d:(x.1==u)=false:=by simpa using e1
   simp only[d,aI,Bool.false_eq_true,if_false];cases c:(!T x.1&&x.2==v)with
   |true=>simp only[if_true,List.length_cons];omega
   |false=>simp only[Bool.false_eq_true,if_false];exact ih
def pu (W:Pt→Int) (x y z:Nat→Int) (l:List Pt) (i:Nat):List Pt:=
 if(x i=x (i+1)∧y i=y (i+1)∧min (z i) (z (i+1))≤0∧0≤max (z i) (z (i+1)))∧0≤W (x i,y i)∧(x i,y i)∉l then l++ [(x i,y i)]else l
def mB (W:Pt→Int) (x y z:Nat→Int):Nat→List Pt
 |0=> []
 |k+1=>pu W x y z (mB W x y z k) k
theorem rS {W:Pt→Int} {x y z:Nat→Int}:∀{k:Nat} {q:Pt},q∈mB W x y z k→0≤W q
 |0,q,h=>by cases h
 |k+1,q,h=>by
  unfold mB pu at h;split at h
  ·rename_i hc;rcases List.mem_append.1 h with h|h
   ·exact rS h
   ·rw[List.mem_singleton]at h;rw[h];exact hc.2.1
  ·exact rS h
theorem mC {W:Pt→Int} {x y z:Nat→Int}:∀k,(mB W x y z k).length≤k
 |0=>aB _
 |k+1=>by
  have a:=mC (W:=W) (x:=x) (y:=y) (z:=z) k;unfold mB pu;split
  ·rw[aZ];simp;omega
  ·omega
def IG (sz:Int) (q:Pt):Pt:=(q.1-(sz+1)/2,q.2-(sz+1)/2)
def IH (sz:Int) (q:Pt):Pt:=(q.1+(sz+1)/2,q.2+(sz+1)/2)
def nJ (nh:Nat) (hn:Nat→Nat) (H:Nat→Nat→Pt) (sz:Int) (q:Pt):Bool:=decide (∃k,k<nh∧fz (hn k) (H k) (IG sz q) (IH sz q) q=true)
def jC (nh:Nat) (hn:Nat→Nat) (H:Nat→Nat→Pt) (sz:Int) (l:List Pt):List Pt:=l.filter (fun q=> !nJ nh hn H sz q)
def eX (nh:Nat) (hn:Nat→Nat):Nat→Nat:=fun k=>if k<nh then hn k else 4
def iu (nh:Nat) (H:Nat→Nat→Pt) (sz:Int) (l:List Pt):Nat→Nat→Pt:=fun k=>if k<nh then H k else mV (l.getD (k-nh) (0,0)) (sz/2+1)
theorem uK {nh:Nat} {hn:Nat→Nat} {H:Nat→Nat→Pt} {sz:Int} {l:List Pt} (g:1≤sz):
 jC (nh+(jC nh hn H sz l).length) (eX nh hn) (iu nh H sz (jC nh hn H sz l)) sz l= []:=by
 unfold jC;rw[List.filter_eq_nil_iff];intro q e;have b:nJ (nh+(jC nh hn H sz l).length) (eX nh hn) (iu nh H sz (jC nh hn H sz l)) sz q=true:=by
  by_cases hc:nJ nh hn H sz q=true
  ·obtain⟨k,a,f⟩:=of_decide_eq_true hc;refine decide_eq_true ⟨k,by omega,?_⟩;unfold eX iu;rw[if_pos a,if_pos a];exact f
  ·have d:q∈jC nh hn H sz l:=List.mem_filter.2 ⟨e,by simp[hc]⟩;obtain⟨k,a,c⟩:=List.mem_iff_getElem.1 d;refine decide_eq_true ⟨nh+k,by omega,?_⟩;unfold eX iu;rw[if_neg (by omega),if_neg (by omega),show nh+k-nh=k by omega,aO,aS a];show fz 4 (mV (jC nh hn H sz l)[k] (sz/2+1)) _ _ q=true;rw[c];exact Dl (by omega) (by omega)
 show ¬(!nJ (nh+(jC nh hn H sz l).length) (eX nh hn) (iu nh H sz (jC nh hn H sz l)) sz q)=true;rw[b]
 decide
end
section
open Go Go.ChangeShapes Go.WideShapes Go.RowKit Go.ChangeAt
def en (w:World) (v:Value) (m:Nat) (oh:Nat→Option Addr) (ch:Nat→Nat) (hn:Nat→Nat) (H:Nat→Nat→Pt):Prop:=
 cE w v m 1 (fun i _=> .slice (oh i) (hn i) (ch i))∧∀i,i<m→bO w (.slice (oh i) (hn i) (ch i)) (hn i) (H i)
theorem en.below {w w':World} {v:Value} {m:Nat} {c:Nat→Option Addr} {a hn:Nat→Nat} {H:Nat→Nat→Pt} (h:en w v m c a hn H) (b:Below w.heap.size w w'):en w' v m c a hn H:=⟨cE.below h.1 b,fun i d=>(h.2 i d).below b⟩
theorem en.form {w:World} {v:Value} {m:Nat} {f:Nat→Option Addr} {d hn:Nat→Nat} {H:Nat→Nat→Pt} (h:en w v m f d hn H):∃(oa:Option Addr) (cap:Nat),v= .slice oa m cap∧m≤cap∧cap≤9223372036854775807∧
 ∀i,i<m→∃b a,oa=some ⟨b,a,none⟩∧b<w.heap.size∧∀k,k<m→w.cell? ⟨b,a+k,none⟩=some (.slice (f k) (hn k) (d k)):=by
 obtain⟨⟨oa,cap,g,j,l,n⟩,-⟩:=h;refine⟨oa,cap,g,j,l,fun i q=> ?_⟩;obtain⟨b,a,e,c,o⟩:=n (by omega);exact⟨b,a,e,c,fun k p=>by have:=o k 0 p (by decide);simpa using this⟩
theorem bO.at0 {w:World} {o:Option Addr} {n c:Nat} {P:Nat→Pt} (h:bO w (.slice o n c) n P) (g:0<n):∃b f,o=some ⟨b,f,none⟩∧b<w.heap.size∧w.cell? ⟨b,f,none⟩=some (.int .i64 (P 0).1)∧w.cell? ⟨b,f+1,none⟩=some (.int .i64 (P 0).2):=by
 obtain⟨oa,cap,e,-,-,a⟩:=h.form;obtain⟨b,f,k,d,l⟩:=a 0 g;obtain⟨i,j⟩:=l 0 g;rw[Nat.zero_mul,Nat.add_zero]at i j;simp only[Value.slice.injEq]at e;exact⟨b,f,by rw[e.1,k],d,i,j⟩
theorem bO.lim {w:World} {o:Option Addr} {n c:Nat} {P:Nat→Pt} (h:bO w (.slice o n c) n P):n≤9223372036854775807:=by
 obtain⟨oa,cap,-,a,b,-⟩:=h.form;omega
def zH (no:Nat) (P:Nat→Pt) (hn:Nat→Nat) (H:Nat→Nat→Pt) (i:Nat):Prop:=dT (hn i) (H i)∧bP (hn i) (H i)<0∧(∀a b,b<no→a<hn i→¬ct (P b) (P (nx no b)) (H i a) (H i (nx (hn i) a)))∧gh no P (H i 0)=true
def wu (hn:Nat→Nat) (H:Nat→Nat→Pt) (i j:Nat):Prop:=(∀a b,a<hn i→b<hn j→¬ct (H i a) (H i (nx (hn i) a)) (H j b) (H j (nx (hn j) b)))∧gh (hn i) (H i) (H j 0)=false∧gh (hn j) (H j) (H i 0)=false
theorem AY {f m:Nat} {P:Nat→Pt} {hn:Nat→Nat} {H:Nat→Nat→Pt} (l:m≤8) (o:dT f P) (h:0<bP f P) (e:∀i,i<m→zH f P hn H i) (g:∀i,i<m→∀k,k<i→wu hn H i k):fP f P m hn H:=
 ⟨l,o,h,fun i c=>(e i c).1,fun i c=>(e i c).2.1,fun i c a b n h=>(e i c).2.2.1 a b n h,fun i c=>(e i c).2.2.2,fun i j c d=>(g i c j d).1,fun i j c d=>(g i c j d).2.1,fun i j c d=>(g i c j d).2.2⟩
theorem lP (v u:Value) (r m:Nat) (P:Nat→Pt) (oh:Nat→Option Addr) (ch hn:Nat→Nat) (H:Nat→Nat→Pt) (w:World) (h:bO w v r P) (hh:en w u m oh ch hn H):
 Calls prog 23 #[.agg #[v,u]] w fun e w'=>∃c:Int,e= .returned (.int .i64 c)∧Hi ((c=0→fP r P m hn H)∧(fP r P m hn H→c=0))∧Below w.heap.size w w':=by
 obtain⟨B,A,rfl,-,-,-⟩:=h.form;obtain⟨oq,cq,rfl,-,-,h3⟩:=hh.form;have j5:=ar h3;have H0:=ar h;have g4:=ar hh.2;clear h h3 hh;by_cases h8:8<m
 ·have k8:decide ((8:Int)<(m:Int))=true:=dt;go_enter func23,ntmps23;go_wp2_with fail
  generalize a2:(w.alloc (.cells #[.slice B r A,.slice oq m cq] 56))=w0;have g6:Hi (w0.heap[w.heap.size]?=some (.cells #[.slice B r A,.slice oq m cq] 56)):=by
   show _=_;rw[←a2];exact bf _ _ _ rfl
  have d7:Hi (Below w.heap.size w w0):=by
   show Below _ _ _;rw[←a2];exact(ah w.heap.size w).alloc (aB _) _
  clear a2;go_wp2;go_returns;exact⟨12,rfl,⟨fun h=>absurd h (by decide),fun hr=>absurd hr.m8 (by omega)⟩,d7.o⟩
 have k8:decide ((8:Int)<(m:Int))=false:=df;obtain⟨E,x⟩:=oE (rR r P);have HE:Hi (∀W,bO W (.slice B r A) r P→Gv 63 #[.slice B r A] (.int .i64 E) W):=fun W a=>by rw[←x];exact lM _ _ _ W a
 go_enter func23,ntmps23;go_wp2_with fail
 generalize a2:(w.alloc (.cells #[.slice B r A,.slice oq m cq] 56))=w0;have g6:Hi (w0.heap[w.heap.size]?=some (.cells #[.slice B r A,.slice oq m cq] 56)):=by
  show _=_;rw[←a2];exact bf _ _ _ rfl
 have d7:Hi (Below w.heap.size w w0):=by
  show Below _ _ _;rw[←a2];exact(ah w.heap.size w).alloc (aB _) _
 have k5:w.heap.size<w0.heap.size:=by rw[←a2];simp
 clear a2;(go_at_call 63;refine mz (HE.o _ (H0.o.below d7.o)) fun w3 Z=> ?_);have p:=ar (ag d7.o Z);have a0:Hi (w3.heap[w.heap.size]?=some (.cells #[.slice B r A,.slice oq m cq] 56)):=(Z.block w.heap.size k5).trans g6.o;have b9:w.heap.size<w3.heap.size:=by have:=Z.size;omega
 clear Z;obtain⟨X,-,-,-⟩:=al a0.o;by_cases hE0:E=0;rotate_left
 ·have k4:(E !=0)=true:=by simpa using hE0
  have c1:=ar hE0;have f1:=ar x;go_wp2;go_returns;exact⟨E,rfl,⟨fun h=>absurd h c1.o,fun hr=>absurd (f1.o.symm.trans (kx.2 hr.po)) c1.o⟩,p.o⟩
 subst hE0;have e0:=ar (kx.1 x);clear x;obtain⟨AO,f7⟩:=oE (bP r P);have j0:Hi (∀W,bO W (.slice B r A) r P→Gv 64 #[.slice B r A] (.int .i64 AO) W):=fun W a=>by rw[←f7];exact mA _ _ _ W a e0
 have g2:=ar f7;clear f7;go_wp2_with fail
 (go_at_call 64;refine mz (j0.o _ (H0.o.below p.o)) fun w4 e5=> ?_);have g3:=ar (ag p.o e5);have j7:Hi (w4.heap[w.heap.size]?=some (.cells #[.slice B r A,.slice oq m cq] 56)):=(e5.block w.heap.size b9).trans a0.o;have k7:w.heap.size<w4.heap.size:=by have:=e5.size;omega
 clear e5 X;by_cases hA:AO≤0
 ·go_wp2;go_returns;exact⟨17,rfl,⟨fun h=>absurd h (by decide),fun hr=>absurd hr.pos (by rw[g2.o];omega)⟩,g3.o⟩
 have kA:decide (AO≤0)=false:=decide_eq_false hA;have j2:Hi (0<bP r P):=by show _<_;rw[g2.o];omega
 clear hA;go_wp2;go_loopw[4] (fun i wr=>∃j:Nat,j≤m∧i= .int .i64 j∧Hi (∀i,i<j→zH r P hn H i)∧Hi (∀i,i<j→∀k,k<i→wu hn H i k)∧w.heap.size<wr.heap.size∧Hi (wr.heap[w.heap.size]?=some (.cells #[.slice B r A,.slice oq m cq] 56))∧Below w.heap.size w wr) (fun i _=>m-(intOf i).toNat)
 case atStart=>exact⟨0,by omega,rfl,fun k hk=>absurd hk (by omega),fun k hk=>absurd hk (by omega),k7,j7,g3.o⟩
 case round=>
  obtain⟨w1,rfl⟩:=wE wr;obtain⟨j,hj,rfl,f9,h5,k6,g7,h0⟩:=hrel;have d8:=ar h0;clear h0;obtain⟨-,i7,-,-⟩:=al g7.o;by_cases hlt:j<m
  ·obtain⟨z,fo,rfl,h2,f8⟩:=j5.o j hlt;obtain⟨o1,h6⟩:=oE (oh j);have s:=ar (g4.o j hlt);have y0:w1.cell? (z,fo+j)=some (.slice (oh j) (hn j) (ch j)):=bI d8.o h2 (f8 j hlt);rw[h6]at s y0;have j3:=ar f8;clear h6 f8;have l5:=s.o.lim;have k0:=dS j;have k1:(j:Int)<(m:Int):=by omega
   obtain⟨E1,e4⟩:=oE (rR (hn j) (H j));have j4:Hi (∀W,bO W (.slice o1 (hn j) (ch j)) (hn j) (H j)→Gv 63 #[.slice o1 (hn j) (ch j)] (.int .i64 E1) W):=fun W a=>by rw[←e4];exact lM _ _ _ W a
   go_wp2_with fail
   (go_at_call 63;refine mz (j4.o _ (s.o.below d8.o)) fun w3 Z=> ?_);have p:=ar (ag d8.o Z);have a0:Hi (w3.heap[w.heap.size]?=some (.cells #[.slice B r A,.slice (some ⟨z,fo,none⟩) m cq] 56)):=(Z.block w.heap.size k6).trans g7.o;have b9:w.heap.size<w3.heap.size:=by have:=Z.size;omega
   clear Z i7;obtain⟨X,-,-,-⟩:=al a0.o;clear y0;by_cases hE0:E1=0
   ·subst hE0;have Y:=ar (kx.1 e4);clear e4;have l7:=Y.o.n3;have l4:=Y.o.n32;obtain⟨T,fh,rfl,b5,f4,f5⟩:=s.o.at0 (by omega);have g0:w3.cell? (T,fh)=some (.int .i64 (H j 0).1):=bI p.o b5 f4;have g1:w3.cell? (T,fh+1)=some (.int .i64 (H j 0).2):=bI p.o b5 f5;have G0:=ar f4;have G1:=ar f5;clear f4 f5;have z2:T<w3.heap.size:=by have:=p.o.size;omega
    have i0:(0:Int)<(hn j:Int):=by omega
    have k3:0<hn j:=by omega
    obtain⟨A1,f6⟩:=oE (bP (hn j) (H j));have d6:Hi (∀W,bO W (.slice (some ⟨T,fh,none⟩) (hn j) (ch j)) (hn j) (H j)→Gv 64 #[.slice (some ⟨T,fh,none⟩) (hn j) (ch j)] (.int .i64 A1) W):=fun W a=>by rw[←f6];exact mA _ _ _ W a Y
    have e6:=ar f6;clear f6;by_cases hA:0≤A1
    ·have kA:decide (0≤A1)=true:=decide_eq_true hA;have j1:=ar hA;clear hA;go_wp2_with fail
     refine aD 18 ?_;simp only[ac,aj,aK,aC,aa,ae,af];refine bJ ?_;apply bg
     ·intro u wx hz R hf f y;simp[aU,ai,aR,ay.is,ay.any]at y;go_simp
      first|rfl|(go_at_call 64;refine(d6.o _ (s.o.below (ag p.o f.o))).mono ?_;rintro e w1 ⟨rfl,d⟩;first|exact⟨rfl,d⟩|exact⟨_,rfl,d,rfl⟩)
     iterate 16 refine bJ ?_
     intro u w5 g x;simp only[cF,aR,ay.is,aE,aA,reduceIte]at x;simp only[am,ax,ac,aj,aK,aC,aa,ae,af,x];clear x;have e7:=ar (ag (w:=w3) (by first|assumption|go_grown) g);have q:=ar g;have U:=dx g;have a8:w.heap.size<w5.heap.size:=by omega
     have d1:T<w5.heap.size:=by omega
     obtain⟨I,K⟩:=br g;clear g U;have a3:=ar (ag p.o q.o);have e2:Hi (w5.heap[w.heap.size]?=some (.cells #[.slice B r A,.slice (some ⟨z,fo,none⟩) m cq] 56)):=(q.o.block w.heap.size b9).trans a0.o;clear X g0 g1;(try clear I K);go_wp2;go_returns;exact⟨17,rfl,⟨fun h=>absurd h (by decide),fun hr=>absurd (hr.neg j hlt) (by have h8:=e6.o;have h9:=j1.o;omega)⟩,a3.o⟩
    ·have kA:decide (0≤A1)=false:=decide_eq_false hA;have i9:Hi (bP (hn j) (H j)<0):=by show _<_;rw[e6.o];omega
     clear hA;obtain⟨CB,C⟩:=oE (iF r P (hn j) (H j));have f0:Hi (∀W,bO W (.slice B r A) r P→bO W (.slice (some ⟨T,fh,none⟩) (hn j) (ch j)) (hn j) (H j)→Gv 65 #[.slice B r A,.slice (some ⟨T,fh,none⟩) (hn j) (ch j)] (.bool CB) W):=fun W a b=>by rw[←C];exact qc _ _ _ _ _ _ W a b e0.o.near Y.o.near
     cases CB with
     |true=>
      have e9:=ar C;clear C;go_wp2_with fail
      refine aD 18 ?_;simp only[ac,aj,aK,aC,aa,ae,af];refine bJ ?_;apply bg
      ·intro u wx hz R hf f y;simp[aU,ai,aR,ay.is,ay.any]at y;go_simp
       first|rfl|(go_at_call 64;refine(d6.o _ (s.o.below (ag p.o f.o))).mono ?_;rintro e w1 ⟨rfl,d⟩;first|exact⟨rfl,d⟩|exact⟨_,rfl,d,rfl⟩)
      iterate 5 refine bJ ?_
      apply bg
      ·intro u wx hz R hf f y;simp[aU,ai,aR,ay.is,ay.any]at y;go_simp
       first|rfl|(go_at_call 65;refine(f0.o _ (H0.o.below (ag p.o f.o)) (s.o.below (ag p.o f.o))).mono ?_;rintro e w1 ⟨rfl,d⟩;first|exact⟨rfl,d⟩|exact⟨_,rfl,d,rfl⟩)
      iterate 10 refine bJ ?_
      intro u w5 g x;simp only[cF,aR,ay.is,aE,aA,reduceIte]at x;simp only[am,ax,ac,aj,aK,aC,aa,ae,af,x];clear x;have e7:=ar (ag (w:=w3) (by first|assumption|go_grown) g);have q:=ar g;have U:=dx g;have a8:w.heap.size<w5.heap.size:=by omega
      have d1:T<w5.heap.size:=by omega
      obtain⟨I,K⟩:=br g;clear g U;have a3:=ar (ag p.o q.o);have e2:Hi (w5.heap[w.heap.size]?=some (.cells #[.slice B r A,.slice (some ⟨z,fo,none⟩) m cq] 56)):=(q.o.block w.heap.size b9).trans a0.o;clear X g0 g1;(try clear I K);go_wp2;go_returns;exact⟨17,rfl,⟨fun h=>absurd h (by decide),fun hr=>absurd e9.o (by rw[jq.2 (fun a b ha g=>hr.nmo j hlt b a ha g)];decide)⟩,a3.o⟩
     |false=>
      have g5:=ar (jq.1 C);clear C;obtain⟨c7,a7⟩:=oE (gh (r) (P) (H j 0));obtain⟨d0,G⟩:=oE ((if c7=true then 1 else -1):Int);have g9:Hi (∀W,bO W ((.slice B r A)) (r) (P)→Gv 66 #[(.slice B r A),.agg #[(H j 0).1,(H j 0).2]] (.int .i64 d0) W):=fun W a=>by
       have t:=lN _ _ _ (H j 0).1 (H j 0).2 W a e0 (Y.o.near 0 (by omega)) (kU (fun a b ha g R=>g5.o b a g ha (fw.1 R)) (by omega));rw[show gh (r) (P) ((H j 0).1,(H j 0).2)=c7 from a7,G]at t;exact t
      have c4:=ar a7;clear a7;cases c7 with
      |true=>
       have b1:d0=1:=by rw[←G];rfl
       subst b1;clear G;go_wp2_with fail
       refine aD 18 ?_;simp only[ac,aj,aK,aC,aa,ae,af];refine bJ ?_;apply bg
       ·intro u wx hz R hf f y;simp[aU,ai,aR,ay.is,ay.any]at y;go_simp
        first|rfl|(go_at_call 64;refine(d6.o _ (s.o.below (ag p.o f.o))).mono ?_;rintro e w1 ⟨rfl,d⟩;first|exact⟨rfl,d⟩|exact⟨_,rfl,d,rfl⟩)
       iterate 5 refine bJ ?_
       apply bg
       ·intro u wx hz R hf f y;simp[aU,ai,aR,ay.is,ay.any]at y;go_simp
        first|rfl|(go_at_call 65;refine(f0.o _ (H0.o.below (ag p.o f.o)) (s.o.below (ag p.o f.o))).mono ?_;rintro e w1 ⟨rfl,d⟩;first|exact⟨rfl,d⟩|exact⟨_,rfl,d,rfl⟩)
       iterate 7 refine bJ ?_
       apply bg
       ·intro u wx hz R hf f y;simp[aU,ai,aR,ay.is,ay.any]at y;go_simp
        first|rfl|(go_at_call 66;refine(g9.o _ (H0.o.below (ag p.o f.o))).mono ?_;rintro e w1 ⟨rfl,d⟩;first|exact⟨rfl,d⟩|exact⟨_,rfl,d,rfl⟩)
       iterate 2 refine bJ ?_
       intro u w5 g x;simp only[cF,aR,ay.is,aE,aA,reduceIte]at x;simp only[am,ax,ac,aj,aK,aC,aa,ae,af,x];clear x;have e7:=ar (ag (w:=w3) (by first|assumption|go_grown) g);have q:=ar g;have U:=dx g;have a8:w.heap.size<w5.heap.size:=by omega
       have d1:T<w5.heap.size:=by omega
       obtain⟨I,K⟩:=br g;clear g U;have a3:=ar (ag p.o q.o);have e2:Hi (w5.heap[w.heap.size]?=some (.cells #[.slice B r A,.slice (some ⟨z,fo,none⟩) m cq] 56)):=(q.o.block w.heap.size b9).trans a0.o;have k9:w.heap.size<w5.heap.size:=a8;clear X g0 g1;(try clear I K);have j6:=ar (show zH r P hn H j from⟨Y.o,i9.o,fun a b g ha=>g5.o b a g ha,c4.o⟩);go_wp2;go_loopw[7] (fun i wr=>∃l:Nat,l≤j∧i= .int .i64 l∧Hi (∀k,k<l→wu hn H j k)∧w.heap.size<wr.heap.size∧Hi (wr.heap[w.heap.size]?=some (.cells #[.slice B r A,.slice (some ⟨z,fo,none⟩) m cq] 56))∧Below w.heap.size w wr) (fun i _=>j-(intOf i).toNat)
       case atStart=>exact⟨0,by omega,rfl,fun k hk=>absurd hk (by omega),k9,e2,a3.o⟩
       case round=>
        obtain⟨w6,rfl⟩:=wE wr;obtain⟨l,hl,rfl,i4,d5,b8,h1⟩:=hrel;have n:=ar h1;clear h1;obtain⟨-,b6,-,-⟩:=al b8.o;by_cases hll:l<j
        ·obtain⟨o2,h7⟩:=oE (oh l);have a1:=ar (g4.o l (by omega));have y6:w6.cell? (z,fo+l)=some (.slice (oh l) (hn l) (ch l)):=bI n.o h2 (j3.o l (by omega));rw[h7]at a1 y6;clear h7;have e1:=ar (f9.o l (by omega)).1;have l8:=e1.o.n3;obtain⟨bl,fl,rfl,e8,i5,i6⟩:=a1.o.at0 (by omega);have l0:w6.cell? (bl,fl)=some (.int .i64 (H l 0).1):=bI n.o e8 i5;have l1:w6.cell? (bl,fl+1)=some (.int .i64 (H l 0).2):=bI n.o e8 i6;have g0:w6.cell? (T,fh)=some (.int .i64 (H j 0).1):=bI n.o b5 G0.o;have g1:w6.cell? (T,fh+1)=some (.int .i64 (H j 0).2):=bI n.o b5 G1.o;clear i5 i6;have z1:bl<w6.heap.size:=by have:=n.o.size;omega
         have z2:T<w6.heap.size:=by have:=n.o.size;omega
         have z3:z<w6.heap.size:=by have:=n.o.size;omega
         have i1:=dS l;have i2:(l:Int)<(m:Int):=by omega
         have i3:(0:Int)<(hn l:Int):=by omega
         have l6:0<hn l:=by omega
         have k3:0<hn j:=by omega
         obtain⟨CB,C⟩:=oE (iF (hn j) (H j) (hn l) (H l));have d9:Hi (∀W,bO W (.slice (some ⟨T,fh,none⟩) (hn j) (ch j)) (hn j) (H j)→bO W (.slice (some ⟨bl,fl,none⟩) (hn l) (ch l)) (hn l) (H l)→Gv 65 #[.slice (some ⟨T,fh,none⟩) (hn j) (ch j),.slice (some ⟨bl,fl,none⟩) (hn l) (ch l)] (.bool CB) W):=fun W a b=>by rw[←C];exact qc _ _ _ _ _ _ W a b Y.o.near e1.o.near
         cases CB with
         |true=>
          have e9:=ar C;clear C;go_wp2_with fail
          refine aD 31 ?_;simp only[ac,aj,aK,aC,aa,ae,af];iterate 6 refine bJ ?_
          apply bg
          ·intro u wx hz R hf f y;simp[aU,ai,aR,ay.is,ay.any]at y;go_simp
           first|rfl|(go_at_call 65;refine(d9.o _ (s.o.below (ag n.o f.o)) (a1.o.below (ag n.o f.o))).mono ?_;rintro e w1 ⟨rfl,d⟩;first|exact⟨rfl,d⟩|exact⟨_,rfl,d,rfl⟩)
          iterate 24 refine bJ ?_
          intro u Q g x;simp only[cF,aR,ay.is,aE,aA,reduceIte]at x;simp only[am,ax,ac,aj,aK,aC,aa,ae,af,x];clear x;have c0:=ar (ag (w:=w6) (by first|assumption|go_grown) g);have o:=ar g;have N:=dx g;have O:w.heap.size<Q.heap.size:=by omega
          have d2:T<Q.heap.size:=by omega
          have d3:z<Q.heap.size:=by omega
          have d4:bl<Q.heap.size:=by omega
          obtain⟨J,L⟩:=br g;clear g N;have a4:=ar (ag n.o o.o);have e3:Hi (Q.heap[w.heap.size]?=some (.cells #[.slice B r A,.slice (some ⟨z,fo,none⟩) m cq] 56)):=(o.o.block w.heap.size d5).trans b8.o;have i8:w.heap.size<Q.heap.size:=O;clear b6 g0 g1 l0 l1 y6;(try clear J L);go_wp2;go_returns;exact⟨17,rfl,⟨fun h=>absurd h (by decide),fun hr=>absurd e9.o (by rw[jq.2 (fun a b ha g=>hr.nmh j l hlt hll a b ha g)];decide)⟩,a4.o⟩
         |false=>
          have f2:=ar (jq.1 C);clear C;obtain⟨c5,a5⟩:=oE (gh (hn j) (H j) (H l 0));obtain⟨c8,D⟩:=oE ((if c5=true then 1 else -1):Int);have f3:Hi (∀W,bO W ((.slice (some ⟨T,fh,none⟩) (hn j) (ch j))) (hn j) (H j)→Gv 66 #[(.slice (some ⟨T,fh,none⟩) (hn j) (ch j)),.agg #[(H l 0).1,(H l 0).2]] (.int .i64 c8) W):=fun W a=>by
           have t:=lN _ _ _ (H l 0).1 (H l 0).2 W a Y (e1.o.near 0 (by omega)) (kU (fun a b ha g R=>f2.o b a g ha (fw.1 R)) (by omega));rw[show gh (hn j) (H j) ((H l 0).1,(H l 0).2)=c5 from a5,D]at t;exact t
          have c2:=ar a5;clear a5;cases c5 with
          |true=>
           have a9:c8=1:=by rw[←D];rfl
           subst a9;clear D;go_wp2_with fail
           refine aD 31 ?_;simp only[ac,aj,aK,aC,aa,ae,af];iterate 6 refine bJ ?_
           apply bg
           ·intro u wx hz R hf f y;simp[aU,ai,aR,ay.is,ay.any]at y;go_simp
            first|rfl|(go_at_call 65;refine(d9.o _ (s.o.below (ag n.o f.o)) (a1.o.below (ag n.o f.o))).mono ?_;rintro e w1 ⟨rfl,d⟩;first|exact⟨rfl,d⟩|exact⟨_,rfl,d,rfl⟩)
           iterate 9 refine bJ ?_
           apply bg
           ·intro u wx hz R hf f y;simp[aU,ai,aR,ay.is,ay.any]at y;go_simp
            first|rfl|(go_at_call 66;refine(f3.o _ (s.o.below (ag n.o f.o))).mono ?_;rintro e w1 ⟨rfl,d⟩;first|exact⟨rfl,d⟩|exact⟨_,rfl,d,rfl⟩)
           iterate 14 refine bJ ?_
           intro u Q g x;simp only[cF,aR,ay.is,aE,aA,reduceIte]at x;simp only[am,ax,ac,aj,aK,aC,aa,ae,af,x];clear x;have c0:=ar (ag (w:=w6) (by first|assumption|go_grown) g);have o:=ar g;have N:=dx g;have O:w.heap.size<Q.heap.size:=by omega
           have d2:T<Q.heap.size:=by omega
           have d3:z<Q.heap.size:=by omega
           have d4:bl<Q.heap.size:=by omega
           obtain⟨J,L⟩:=br g;clear g N;have a4:=ar (ag n.o o.o);have e3:Hi (Q.heap[w.heap.size]?=some (.cells #[.slice B r A,.slice (some ⟨z,fo,none⟩) m cq] 56)):=(o.o.block w.heap.size d5).trans b8.o;clear b6 g0 g1 l0 l1 y6;(try clear J L);go_wp2;go_returns;exact⟨17,rfl,⟨fun h=>absurd h (by decide),fun hr=>absurd (c2.o.symm.trans (hr.o1 j l hlt hll)) (by decide)⟩,a4.o⟩
          |false=>
           have a9:c8=(-1):=by rw[←D];rfl
           subst a9;clear D;obtain⟨c6,a6⟩:=oE (gh (hn l) (H l) (H j 0));obtain⟨c9,F⟩:=oE ((if c6=true then 1 else -1):Int);have g8:Hi (∀W,bO W ((.slice (some ⟨bl,fl,none⟩) (hn l) (ch l))) (hn l) (H l)→Gv 66 #[(.slice (some ⟨bl,fl,none⟩) (hn l) (ch l)),.agg #[(H j 0).1,(H j 0).2]] (.int .i64 c9) W):=fun W a=>by
            have t:=lN _ _ _ (H j 0).1 (H j 0).2 W a e1 (Y.o.near 0 (by omega)) (kU f2.o (by omega));rw[show gh (hn l) (H l) ((H j 0).1,(H j 0).2)=c6 from a6,F]at t;exact t
           have c3:=ar a6;clear a6;cases c6 with
           |true=>
            have b0:c9=1:=by rw[←F];rfl
            subst b0;clear F;go_wp2_with fail
            refine aD 31 ?_;simp only[ac,aj,aK,aC,aa,ae,af];iterate 6 refine bJ ?_
            apply bg
            ·intro u wx hz R hf f y;simp[aU,ai,aR,ay.is,ay.any]at y;go_simp
             first|rfl|(go_at_call 65;refine(d9.o _ (s.o.below (ag n.o f.o)) (a1.o.below (ag n.o f.o))).mono ?_;rintro e w1 ⟨rfl,d⟩;first|exact⟨rfl,d⟩|exact⟨_,rfl,d,rfl⟩)
            iterate 9 refine bJ ?_
            apply bg
            ·intro u wx hz R hf f y;simp[aU,ai,aR,ay.is,ay.any]at y;go_simp
             first|rfl|(go_at_call 66;refine(f3.o _ (s.o.below (ag n.o f.o))).mono ?_;rintro e w1 ⟨rfl,d⟩;first|exact⟨rfl,d⟩|exact⟨_,rfl,d,rfl⟩)
            iterate 11 refine bJ ?_
            apply bg
            ·intro u wx hz R hf f y;simp[aU,ai,aR,ay.is,ay.any]at y;go_simp
             first|rfl|(go_at_call 66;refine(g8.o _ (a1.o.below (ag n.o f.o))).mono ?_;rintro e w1 ⟨rfl,d⟩;first|exact⟨rfl,d⟩|exact⟨_,rfl,d,rfl⟩)
            iterate 2 refine bJ ?_
            intro u Q g x;simp only[cF,aR,ay.is,aE,aA,reduceIte]at x;simp only[am,ax,ac,aj,aK,aC,aa,ae,af,x];clear x;have c0:=ar (ag (w:=w6) (by first|assumption|go_grown) g);have o:=ar g;have N:=dx g;have O:w.heap.size<Q.heap.size:=by omega
            have d2:T<Q.heap.size:=by omega
            have d3:z<Q.heap.size:=by omega
            have d4:bl<Q.heap.size:=by omega
            obtain⟨J,L⟩:=br g;clear g N;have a4:=ar (ag n.o o.o);have e3:Hi (Q.heap[w.heap.size]?=some (.cells #[.slice B r A,.slice (some ⟨z,fo,none⟩) m cq] 56)):=(o.o.block w.heap.size d5).trans b8.o;clear b6 g0 g1 l0 l1 y6;(try clear J L);go_wp2;go_returns;exact⟨17,rfl,⟨fun h=>absurd h (by decide),fun hr=>absurd (c3.o.symm.trans (hr.o2 j l hlt hll)) (by decide)⟩,a4.o⟩
           |false=>
            have b0:c9=(-1):=by rw[←F];rfl
            subst b0;clear F;go_wp2_with fail
            refine aD 31 ?_;simp only[ac,aj,aK,aC,aa,ae,af];iterate 6 refine bJ ?_
            apply bg
            ·intro u wx hz R hf f y;simp[aU,ai,aR,ay.is,ay.any]at y;go_simp
             first|rfl|(go_at_call 65;refine(d9.o _ (s.o.below (ag n.o f.o)) (a1.o.below (ag n.o f.o))).mono ?_;rintro e w1 ⟨rfl,d⟩;first|exact⟨rfl,d⟩|exact⟨_,rfl,d,rfl⟩)
            iterate 9 refine bJ ?_
            apply bg
            ·intro u wx hz R hf f y;simp[aU,ai,aR,ay.is,ay.any]at y;go_simp
             first|rfl|(go_at_call 66;refine(f3.o _ (s.o.below (ag n.o f.o))).mono ?_;rintro e w1 ⟨rfl,d⟩;first|exact⟨rfl,d⟩|exact⟨_,rfl,d,rfl⟩)
            iterate 11 refine bJ ?_
            apply bg
            ·intro u wx hz R hf f y;simp[aU,ai,aR,ay.is,ay.any]at y;go_simp
             first|rfl|(go_at_call 66;refine(g8.o _ (a1.o.below (ag n.o f.o))).mono ?_;rintro e w1 ⟨rfl,d⟩;first|exact⟨rfl,d⟩|exact⟨_,rfl,d,rfl⟩)
            iterate 2 refine bJ ?_
            intro u Q g x;simp only[cF,aR,ay.is,aE,aA,reduceIte]at x;simp only[am,ax,ac,aj,aK,aC,aa,ae,af,x];clear x;have c0:=ar (ag (w:=w6) (by first|assumption|go_grown) g);have o:=ar g;have N:=dx g;have O:w.heap.size<Q.heap.size:=by omega
            obtain⟨N,l3,J,L,o⟩:=pr g;clear g;have a4:=ar (ag n.o o.o);have e3:Hi (Q.heap[w.heap.size]?=some (.cells #[.slice B r A,.slice (some ⟨z,fo,none⟩) m cq] 56)):=(o.o.block w.heap.size d5).trans b8.o;have i8:w.heap.size<Q.heap.size:=O;clear b6 g0 g1 l0 l1 y6;(try clear J L);have j8:Hi (∀k,k<l+1→wu hn H j k):=fun k hk=>by
             by_cases e:k=l
             ·subst e;exact⟨fun a b ha g=>f2.o a b ha g,c2.o,c3.o⟩
             ·exact i4.o k (by omega)
            go_wp2;go_roundw
            case rel=>exact⟨l+1,by omega,by go_num,j8,i8,e3,a4.o⟩
            case measure=>simp[intOf];omega
        ·have j9:Hi (∀i,i<j+1→zH r P hn H i):=fun i hi=>by
          by_cases e:i=j
          ·rw[e];exact j6.o
          ·exact f9.o i (by omega)
         have k2:Hi (∀i,i<j+1→∀k,k<i→wu hn H i k):=fun i hi k hk=>by
          by_cases e:i=j
          ·subst e;exact i4.o k (by omega)
          ·exact h5.o i (by omega) k hk
         go_wp2;go_roundw
         case rel=>exact⟨j+1,by omega,by go_num,j9,k2,d5,b8,n.o⟩
         case measure=>simp[intOf];omega
      |false=>
       have b1:d0=(-1):=by rw[←G];rfl
       subst b1;clear G;go_wp2_with fail
       refine aD 18 ?_;simp only[ac,aj,aK,aC,aa,ae,af];refine bJ ?_;apply bg
       ·intro u wx hz R hf f y;simp[aU,ai,aR,ay.is,ay.any]at y;go_simp
        first|rfl|(go_at_call 64;refine(d6.o _ (s.o.below (ag p.o f.o))).mono ?_;rintro e w1 ⟨rfl,d⟩;first|exact⟨rfl,d⟩|exact⟨_,rfl,d,rfl⟩)
       iterate 5 refine bJ ?_
       apply bg
       ·intro u wx hz R hf f y;simp[aU,ai,aR,ay.is,ay.any]at y;go_simp
        first|rfl|(go_at_call 65;refine(f0.o _ (H0.o.below (ag p.o f.o)) (s.o.below (ag p.o f.o))).mono ?_;rintro e w1 ⟨rfl,d⟩;first|exact⟨rfl,d⟩|exact⟨_,rfl,d,rfl⟩)
       iterate 7 refine bJ ?_
       apply bg
       ·intro u wx hz R hf f y;simp[aU,ai,aR,ay.is,ay.any]at y;go_simp
        first|rfl|(go_at_call 66;refine(g9.o _ (H0.o.below (ag p.o f.o))).mono ?_;rintro e w1 ⟨rfl,d⟩;first|exact⟨rfl,d⟩|exact⟨_,rfl,d,rfl⟩)
       iterate 2 refine bJ ?_
       intro u w5 g x;simp only[cF,aR,ay.is,aE,aA,reduceIte]at x;simp only[am,ax,ac,aj,aK,aC,aa,ae,af,x];clear x;obtain⟨U,l2,I,K,q⟩:=pr g;clear g;have a3:=ar (ag p.o q.o);have e2:Hi (w5.heap[w.heap.size]?=some (.cells #[.slice B r A,.slice (some ⟨z,fo,none⟩) m cq] 56)):=(q.o.block w.heap.size b9).trans a0.o;clear X g0 g1;(try clear I K);go_wp2;go_returns;exact⟨17,rfl,⟨fun h=>absurd h (by decide),fun hr=>absurd (c4.o.symm.trans (hr.ino j hlt)) (by decide)⟩,a3.o⟩
   ·have k4:(E1 !=0)=true:=by simpa using hE0
    have c1:=ar hE0;have f1:=ar e4;go_wp2;go_returns;exact⟨E1,rfl,⟨fun h=>absurd h c1.o,fun hr=>absurd (f1.o.symm.trans (kx.2 (hr.hp j hlt))) c1.o⟩,p.o⟩
  ·have h4:Hi (fP r P m hn H):=AY (by omega) e0.o j2.o (fun i hi=>f9.o i (by omega)) (fun i hi=>h5.o i (by omega));go_wp2;go_returns;exact⟨0,rfl,⟨fun _=>h4.o,fun _=>rfl⟩,d8.o⟩
theorem xX (a c:Int) (b n cap:Nat) (oa:Option Addr) (P:Nat→Pt) (w:World) (p:b<w.heap.size) (q:w.cell? b=some (.slice oa n cap)) (h:bO w (.slice oa n cap) n P) (m:Hi (lK 32768 n P)) (e:n≤32) (l:Hi (bP n P≠0)) (o:cR 32768 (a,c)=true) (f:Hi (uA n P (a,c))) (g:gh n P (a,c)=true):
 Gv 188 #[.agg #[a,c],.pointer (some b)] (.bool false) w:=by
 have j:Hi (∀W,bO W (.slice oa n cap) n P→Gv 138 #[.slice oa n cap,.agg #[a,c]] (.int .i64 1) W):=fun W k=>by
  have t:=nH _ n P a c W k m e l.o o f;rw[g]at t;exact t
 have H:=ar h;clear h;go_enter func188,ntmps188;go_wp2_with fail
 (go_at_call 138;refine mz (j.o _ (H.o.below (by go_grown))) fun r d=> ?_);have i:=ar (ag (w:=w) (by go_grown) d);clear d;go_wp2;go_returns;exact⟨rfl,i.o⟩
theorem uL (v:Value) (m:Nat) (Q:Nat→Pt) (b n cap:Nat) (oa:Option Addr) (P:Nat→Pt) (w:World) (A:bO w v m Q) (D:b<w.heap.size) (z:w.cell? b=some (.slice oa n cap)) (h:bO w (.slice oa n cap) n P) (F:Hi (lK 32768 n P)) (k:n≤32) (C:Hi (bP n P≠0)) (G:Hi (∀i,i<m→cR 32768 (Q i)=true)) (l:Hi (∀i,i<m→uA n P (Q i))) (o:Hi (∀i,i<m→gh n P (Q i)=true)):
 Gv 316 #[v,(.func (.func 188) #[] #[.pointer (some b)])] (.int .i64 (-1)) w:=by
 have K:∀c w,(callFunc 188 c).run prog w= .ok (.enter 188 c) w:=enters_of func188 (by kernel_rfl) rfl;obtain⟨O,J,rfl,hn,E,g⟩:=A.form;have t:=ar g;have B:=ar h;have r:=ar z;clear A g h z;go_enter func316,ntmps316;go_wp2;go_loopw[8] (fun i wr=>∃j:Nat,j≤m∧i= .int .i64 j∧Below w.heap.size w wr) (fun i _=>m-(intOf i).toNat)
 case atStart=>exact⟨0,by omega,rfl,ah _ _⟩
 case round=>
  obtain⟨j,-,rfl,p⟩:=hrel;have e:=ar p;by_cases hlt:j<m
  ·obtain⟨x,y,rfl,d,a⟩:=t.o j hlt;have H:wr.cell? (x,y+j*2)=some (.int .i64 (Q j).1):=bI p d (a j hlt).1;have I:wr.cell? (x,y+j*2+1)=some (.int .i64 (Q j).2):=bI p d (a j hlt).2;have L:=dS j;have N:(j:Int)<(m:Int):=by omega
   have s:Hi (∀W,Below w.heap.size w W→Gv 188 #[.agg #[(Q j).1,(Q j).2],.pointer (some b)] (.bool false) W):=fun W u=>
    xX (Q j).1 (Q j).2 b n cap oa P W (by have:=u.size;omega) (bI u D r.o) (B.o.below u) F k C (G.o j hlt) (l.o j hlt) (o.o j hlt)
   clear a p;go_wp2_with fail
   (go_at_fn 188;refine mz (s.o _ e.o) fun R f=> ?_);have q:=ar (ag e.o f);clear f;go_wp2;go_roundw
   case rel=>exact⟨j+1,by omega,by go_num,q.o⟩
   case measure=>simp[intOf];omega
  ·go_wp2;go_returns;exact⟨rfl,e.o⟩
theorem qG (v:Value) (m:Nat) (Q:Nat→Pt) (b n cap:Nat) (oa:Option Addr) (P:Nat→Pt) (w:World) (g:bO w v m Q) (p:b<w.heap.size) (j:w.cell? b=some (.slice oa n cap)) (h:bO w (.slice oa n cap) n P) (q:Hi (lK 32768 n P)) (a:n≤32) (o:Hi (bP n P≠0)) (r:Hi (∀i,i<m→cR 32768 (Q i)=true)) (c:Hi (∀i,i<m→uA n P (Q i))) (d:Hi (∀i,i<m→gh n P (Q i)=true)):
 Gv 182 #[v,(.func (.func 188) #[] #[.pointer (some b)])] (.bool false) w:=by
 obtain⟨s,l,rfl,-,-,-⟩:=g.form;have k:Hi (∀W,Below w.heap.size w W→Gv 316 #[.slice s m l,(.func (.func 188) #[] #[.pointer (some b)])] (.int .i64 (-1)) W):=fun W e=>
  uL _ m Q b n cap oa P W (g.below e) (by have:=e.size;omega) (bI e p j) (h.below e) q a o r c d
 clear g h j;go_enter func182,ntmps182;go_wp2_with fail
 (go_at_call 316;refine mz (k.o _ (ah _ _)) fun t f=> ?_);go_wp2;go_returns;exact⟨rfl,f⟩
theorem wv (v u:Value) (m n:Nat) (Q P:Nat→Pt) (w:World) (s:bO w v m Q) (h:bO w u n P) (t:Hi (lK 32768 m Q)) (B:Hi (lK 32768 n P)) (j:n≤32) (G:Hi (bP n P≠0))
 (l:Hi (∀i k,i<m→k<n→¬ct (Q i) (Q (nx m i)) (P k) (P (nx n k)))) (p:Hi (∀i,i<m→gh n P (Q i)=true)):
 Gv 136 #[v,u] (.bool true) w:=by
 have C:Hi (∀i,i<m→cR 32768 (Q i)=true):=fun i g=>cO.2 (by have:=t.o.nr i g;omega);have x:Hi (∀i,i<n→cR 32768 (P i)=true):=fun i g=>cO.2 (by have:=B.o.nr i g;omega);have o:Hi (∀i,i<m→uA n P (Q i)):=fun i g=>kU l.o g;have f:iF m Q n P=false:=jq.2 l.o;obtain⟨D,A,rfl,-,-,-⟩:=s.form;obtain⟨oa,cap,rfl,-,-,-⟩:=h.form;have F:Hi (∀W,bO W (.slice D m A) m Q→bO W (.slice oa n cap) n P→Gv 186 #[.slice D m A,.slice oa n cap,.func (.func 187) #[] #[]] (.bool false) W):=fun W a b=>by rw[←f];exact qd _ _ m n Q P W a b C x
 have H:=ar h;have z:=ar s;clear h s f;go_enter func136,ntmps136;go_wp2_with fail
 (go_at_call 186;refine mz (F.o _ (z.o.below (by go_grown)) (H.o.below (by go_grown))) fun E c=> ?_);have d:=ar (ag (w:=w) (by go_grown) c);have r:Hi (E.cell? w.heap.size=some (.slice oa n cap)):=bI c (by simp) (by simp[go_sem]);have y:w.heap.size<E.heap.size:=by have:=c.size;simp only[aw]at this;omega
 clear c;go_wp2_with fail
 (go_at_call 182;refine mz (qG _ m Q w.heap.size n cap oa P _ (z.o.below d.o) y r.o (H.o.below d.o) B j G C o p) fun I e=> ?_);have q:=ar (ag d.o e);clear e;go_wp2;go_returns;exact⟨rfl,q.o⟩
theorem ky (v u:Value) (f m:Nat) (P:Nat→Pt) (oh:Nat→Option Addr) (X hn:Nat→Nat) (H:Nat→Nat→Pt) (w:World) (h:bO w v f P) (hh:en w u m oh X hn H) (b:Hi (GH f P m hn H)):
 Gv 87 #[.agg #[v,u]] (.int .i64 0) w:=by
 obtain⟨p,o,rfl,-,-,-⟩:=h.form;obtain⟨oq,x,rfl,hm,-,a1⟩:=hh.form;have b6:=ar a1;have H0:=ar h;have n:=ar hh.2;clear h a1 hh;have c6:=b.o.m8;have k8:decide ((8:Int)<(m:Int))=false:=df;have D:Hi (bP f P≠0):=by have:=b.o.pos;exact show _≠_ by omega
 have Q:Hi (∀i,i<m→Hi (bP (hn i) (H i)≠0)):=fun i J=>by
  show _≠_;have:=b.o.neg i J;omega
 obtain⟨AO,G⟩:=oE (bP f P);have a9:Hi (∀W,bO W (.slice p f o) f P→Gv 135 #[.slice p f o] (.int .i64 AO) W):=fun W a=>by rw[←G];exact pp _ _ _ W a b.o.po b.o.no32 D.o
 have kA:decide (AO≤0)=false:=decide_eq_false (by rw[←G];have:=b.o.pos;omega);clear G;go_enter func87,ntmps87;go_wp2_with fail
 generalize C:(w.alloc (.cells #[.slice p f o,.slice oq m x] 56))=w0;have b8:Hi (w0.heap[w.heap.size]?=some (.cells #[.slice p f o,.slice oq m x] 56)):=by
  show _=_;rw[←C];exact bf _ _ _ rfl
 have O:Hi (Below w.heap.size w w0):=by
  show Below _ _ _;rw[←C];exact(ah w.heap.size w).alloc (aB _) _
 have c0:w.heap.size<w0.heap.size:=by rw[←C];simp
 clear C;(go_at_call 134;refine mz (kw _ _ _ _ (H0.o.below O.o) b.o.po b.o.no32 D.o) fun w3 c=> ?_);have q:=ar (ag O.o c);have z:Hi (w3.heap[w.heap.size]?=some (.cells #[.slice p f o,.slice oq m x] 56)):=(c.block w.heap.size c0).trans b8.o;have L:w.heap.size<w3.heap.size:=by have:=c.size;omega
 clear c;obtain⟨a3,-,-,-⟩:=al z.o;go_wp2_with fail
 (go_at_call 135;refine mz (a9.o _ (H0.o.below q.o)) fun w4 d=> ?_);have r:=ar (ag q.o d);have t:Hi (w4.heap[w.heap.size]?=some (.cells #[.slice p f o,.slice oq m x] 56)):=(d.block w.heap.size L).trans z.o;have N:w.heap.size<w4.heap.size:=by have:=d.size;omega
 clear d a3;obtain⟨-,a5,-,-⟩:=al t.o;go_wp2;go_loopw[26] (fun i wr=>∃j:Nat,j≤m∧i= .int .i64 j∧w.heap.size<wr.heap.size∧Hi (wr.heap[w.heap.size]?=some (.cells #[.slice p f o,.slice oq m x] 56))∧Below w.heap.size w wr) (fun i _=>m-(intOf i).toNat)
 case atStart=>exact⟨0,by omega,rfl,N,t,r.o⟩
 case round=>
  clear a5;obtain⟨w1,rfl⟩:=wE wr;obtain⟨j,-,rfl,c1,R,Y⟩:=hrel;have y:=ar Y;clear Y;obtain⟨-,a4,-,-⟩:=al R.o;by_cases hlt:j<m
  ·obtain⟨g,E,rfl,a0,I⟩:=b6.o j hlt;have b5:=ar I;have y0:w1.cell? (g,E+j)=some (.slice (oh j) (hn j) (X j)):=bI y.o a0 (I j hlt);clear I;have c5:=(n.o j hlt).lim;have k0:=dS j;have k1:(j:Int)<(m:Int):=by omega
   obtain⟨A1,F⟩:=oE (bP (hn j) (H j));have a2:=b.o.neg j hlt;have a8:Hi (∀W,bO W (.slice (oh j) (hn j) (X j)) (hn j) (H j)→Gv 135 #[.slice (oh j) (hn j) (X j)] (.int .i64 A1) W):=fun W a=>by rw[←F];exact pp _ _ _ W a (b.o.hp j hlt) (b.o.h32 j hlt) (by omega)
   have kA:decide (0≤A1)=false:=decide_eq_false (by rw[←F];omega);clear F a2;go_wp2_with fail
   (go_at_call 134;refine mz (kw _ _ _ _ ((n.o j hlt).below y.o) (b.o.hp j hlt) (b.o.h32 j hlt) (by have:=b.o.neg j hlt;omega)) fun w3 c=> ?_);have q:=ar (ag y.o c);have z:Hi (w3.heap[w.heap.size]?=some (.cells #[.slice p f o,.slice (some ⟨g,E,none⟩) m x] 56)):=(c.block w.heap.size c1).trans R.o;have L:w.heap.size<w3.heap.size:=by have:=c.size;omega
   clear c a4;clear y0;go_wp2_with fail
   (go_at_call 135;refine mz (a8.o _ ((n.o j hlt).below q.o)) fun w4 d=> ?_);have r:=ar (ag q.o d);have t:Hi (w4.heap[w.heap.size]?=some (.cells #[.slice p f o,.slice (some ⟨g,E,none⟩) m x] 56)):=(d.block w.heap.size L).trans z.o;have N:w.heap.size<w4.heap.size:=by have:=d.size;omega
   clear d;obtain⟨c4,-,-,-⟩:=al t.o;go_wp2_with fail
   (go_at_call 136;refine mz (wv _ _ _ _ _ _ _ ((n.o j hlt).below r.o) (H0.o.below r.o) (b.o.hp j hlt) b.o.po b.o.no32 D (fun i k J hk=>b.o.nmo j hlt i k J hk) (fun i J=>b.o.ino j hlt i J)) fun w5 A=> ?_);have b0:=ar (ag r.o A);have T:Hi (w5.heap[w.heap.size]?=some (.cells #[.slice p f o,.slice (some ⟨g,E,none⟩) m x] 56)):=(A.block w.heap.size N).trans t.o;have c2:w.heap.size<w5.heap.size:=by have:=A.size;omega
   clear A;obtain⟨-,a6,-,-⟩:=al T.o;go_wp2;go_loopw[51] (fun i wr=>∃l:Nat,l≤j∧i= .int .i64 l∧w.heap.size<wr.heap.size∧Hi (wr.heap[w.heap.size]?=some (.cells #[.slice p f o,.slice (some ⟨g,E,none⟩) m x] 56))∧Below w.heap.size w wr) (fun i _=>j-(intOf i).toNat)
   case atStart=>exact⟨0,by omega,rfl,c2,T,b0.o⟩
   case round=>
    clear a6;obtain⟨w6,rfl⟩:=wE wr;obtain⟨l,hl,rfl,a7,U,Z⟩:=hrel;have s:=ar Z;clear Z;by_cases hll:l<j
    ·have y6:w6.cell? (g,E+l)=some (.slice (oh l) (hn l) (X l)):=bI s.o a0 (b5.o l (by omega));have i1:=dS l;have i2:(l:Int)<(j:Int):=by omega
     have K:j≠l:=by omega
     have e:l<m:=by omega
     go_wp2_with fail
     (go_at_call 137;refine mz (AV _ _ _ _ _ _ _ ((n.o j hlt).below s.o) ((n.o l e).below s.o) (b.o.hp j hlt) (b.o.hp l e) (b.o.h32 j hlt) (b.o.h32 l e) (Q.o j hlt) (Q.o l e) (fun i k J hk=>b.o.nmh j l hlt e K i k J hk) (b.o.o l j e hlt (Ne.symm K) 0 (by have:=(b.o.hp l e).n3;omega)) (b.o.o j l hlt e K 0 (by have:=(b.o.hp j hlt).n3;omega))) fun w7 B=> ?_);have b1:=ar (ag s.o B);have b9:Hi (w7.heap[w.heap.size]?=some (.cells #[.slice p f o,.slice (some ⟨g,E,none⟩) m x] 56)):=(B.block w.heap.size a7).trans U.o;have c3:w.heap.size<w7.heap.size:=by have:=B.size;omega
     clear B;clear y6;go_wp2;go_roundw
     case rel=>exact⟨l+1,by omega,by go_num,c3,b9,b1.o⟩
     case measure=>simp[intOf];omega
    ·go_wp2;go_roundw
     case rel=>exact⟨j+1,by omega,by go_num,a7,U,s.o⟩
     case measure=>simp[intOf];omega
  ·go_wp2;go_returns;exact⟨rfl,y.o⟩
def cM {α:Type} (a:α) (f:Nat→α):Nat→α
 |0=>a
 |i+1=>f i
theorem qf {i?:Option TypeInfo} {z:Value} {s b:Nat} (h:i?.map (fun i=>(i.zero,i.size,i.bytes))=some (some z,s,b)):∃i,i?=some i∧i.zero=some z∧i.size=s∧i.bytes=b:=by
 cases i? with
 |none=>cases h
 |some i=>simp only[Option.map_some,Option.some.injEq,Prod.mk.injEq]at h;exact⟨i,rfl,h.1,h.2.1,h.2.2⟩
theorem ww:(prog.info? 53).map (fun i=>(i.zero,i.size,i.bytes))=some (some (.slice none 0 0),1,24):=by kernel_rfl
theorem oH {f:Nat→Int} {K:Int}:∀{n:Nat},(∀i,i<n→ -K≤f i∧f i≤K)→ -(K*(n:Int))≤cB f n∧cB f n≤K*(n:Int)
 |0,_=>by simp[cB]
 |n+1,h=>by
  have c:=oH (n:=n) (fun i b=>h i (by omega));have a:=h n (by omega);have e:((n+1:Nat):Int)=(n:Int)+1:=by omega
  rw[cB,e,Int.mul_add];omega
theorem uM {n:Nat} {P:Nat→Pt} (h:∀i,i<n→cR 32768 (P i)=true): -(34359738368*(n:Int))≤bP n P∧bP n P≤34359738368*(n:Int):=
 oH fun i a=>by
  have d:=cO.1 (h i a);have e:=cO.1 (h (nx n i) (dW (by omega)));have b:=eH (x:=(P i).1) (y:=(P (nx n i)).2) (by omega) (by omega);have c:=eH (x:=(P (nx n i)).1) (y:=(P i).2) (by omega) (by omega);omega
theorem lK.near {n:Nat} {P:Nat→Pt} (h:lK 32768 n P):∀i,i<n→cR 32768 (P i)=true:=fun i a=>cO.2 (by have:=h.nr i a;omega)
theorem tV (a m:Nat) (P:Nat→Pt) (hn:Nat→Nat) (H:Nat→Nat→Pt):cB (fun i=>bP (cM a hn i) (cM P H i)) (m+1)=fx a P m hn H:=by
 have h:=kV (fun i=>bP (cM a hn i) (cM P H i)) m;unfold fx;have b:cB (fun i=>bP (cM a hn (i+1)) (cM P H (i+1))) m=cB (fun i=>bP (hn i) (H i)) m:=rfl;have c:bP (cM a hn 0) (cM P H 0)=bP a P:=rfl;rw[b]at h;(try dsimp only at h);rw[c]at h;omega
theorem rT {w:World} {B:Nat} {v:Value} {m:Nat} {b:Nat→Option Addr} {a hn:Nat→Nat} {H:Nat→Nat→Pt} {c:List Value} (h:w.ownsRow B 53 1 v m c) (f:∀i,i<m→c[i]?=some (.slice (b i) (hn i) (a i))) (e:∀i,i<m→bO w (.slice (b i) (hn i) (a i)) (hn i) (H i)):en w v m b a hn H:=
 ⟨fv h _ (by decide) (fun i j d g=>by
  obtain rfl:j=0:=by omega
  rw[show i*1+0=i by omega];exact f i d),e⟩
theorem zI (b a j:Nat):(⟨b,a,none⟩:Addr).add j=⟨b,a+j,none⟩:=by unfold Addr.add;split<;>simp_all
theorem uN (v u:Value) (d m:Nat) (P:Nat→Pt) (y:Nat→Option Addr) (q hn:Nat→Nat) (H:Nat→Nat→Pt) (w:World) (h:bO w v d P) (E:en w u m y q hn H) (a0:m≤8):
 Calls prog 332 #[.agg #[v,u]] w fun e w'=>∃(o:Option Addr) (c:Nat) (O:Nat→Option Addr) (B:Nat→Nat),e= .returned (.slice o (m+1) c)∧en w' (.slice o (m+1) c) (m+1) O B (cM d hn) (cM P H)∧Below w.heap.size w w':=by
 have z:prog.underlying 54=some (.slice 53):=underlying54;obtain⟨i0,F,J,K,L⟩:=qf ww;obtain⟨l,g,rfl,-,-,-⟩:=h.form;obtain⟨Q,C,rfl,-,-,s⟩:=E.form;have p:=ar s;have W:=ar h;have A:=ar E.2;clear h s E;go_enter func332,ntmps332;go_wp2_with (at_builtin;refine iB rfl _ _ 54 rfl w.heap.size 53 i0 _ 1 24 z F J K L rfl (by decide) (.slice (some ⟨w.heap.size+1,0,none⟩) 1 1) 1 [.slice l d g] rfl ?c0 Q m C (ge (fun i=> .slice (y i) (hn i) (q i)) m) rfl ?c1 ?c2 ?c3 ?c4 ?c5 ?c6 ?c7 ?_)
 case c0=>
  have t:=World.ownsRow_lit (base:=w.heap.size) (e:=53) (size:=1) (w.alloc (.cells #[.slice l d g,.slice Q m C] 56)) #[.slice l d g] 1 (by simp) (by unfold maxLen;omega) rfl;rw[aw]at t;exact t
 case c1=>rw[gu];omega
 case c2=>
  intro e;rcases Nat.eq_zero_or_pos m with h0|h0
  ·exact h0
  ·obtain⟨b,N,r,-⟩:=p.o 0 h0;rw[e]at r;cases r
 case c3=>
  intro ad D j u G;have x:j<m:=by rw[←gu (fun i=>Value.slice (y i) (hn i) (q i)) m];exact(List.getElem?_eq_some_iff.1 G).1
  obtain⟨b,N,r,I,Z⟩:=p.o 0 (by omega);rw[D]at r;cases r;rw[iz _ _ _ x]at G;cases G;rw[zI];have n:Below w.heap.size w ((w.alloc (.cells #[.slice l d g,.slice Q m C] 56)).alloc (.cells #[.slice l d g] 53)):=by go_grown
  exact bI n I (Z j x)
 case c4=>
  intro u z;unfold ge at z;obtain⟨i,-,rfl⟩:=List.mem_map.1 z;rfl
 case c5=>unfold maxLen;omega
 case c6=>omega
 case c7=>simp<;>omega
 intro U R f a;have n:Below w.heap.size w R:=by
  refine Below.grown (by go_grown) a (by simp<;>omega) (fun k hk=> ?_);simp[Value.ownBlock]at hk;omega
 have X:=ar n;have T:Hi (en R U (m+1) (cM l y) (cM g q) (cM d hn) (cM P H)):=by
  have Y:R.ownsRow w.heap.size 53 1 U (m+1) ([.slice l d g]++ge (fun i=> .slice (y i) (hn i) (q i)) m):=by rw[Nat.add_comm m 1];exact f
  refine rT Y (fun i F=> ?_) (fun i F=> ?_)
  ·cases i with
   |zero=>rfl
   |succ k=>
    show(ge _ m)[k]?=_;exact iz _ _ _ (by omega)
  ·cases i with
   |zero=>exact W.o.below n
   |succ k=>exact(A.o k (by omega)).below n
 obtain⟨o',c',rfl,-,-,-⟩:=T.o.form;clear f a n;go_wp2;go_returns;exact⟨_,_,_,_,rfl,T.o,X.o⟩
theorem AZ (v u:Value) (b m:Nat) (P:Nat→Pt) (oh:Nat→Option Addr) (ch hn:Nat→Nat) (H:Nat→Nat→Pt) (w:World) (h:bO w v b P) (hh:en w u m oh ch hn H) (g:Hi (GH b P m hn H)):
 Gv 205 #[.agg #[v,u]] (.int .i64 (fx b P m hn H)) w:=by
 have a9:=g.o.m8;have c:Hi (∀i,i<m+1→Hi (lK 32768 (cM b hn i) (cM P H i))∧cM b hn i≤32∧bP (cM b hn i) (cM P H i)≠0):=fun i hi=>by
  cases i with
  |zero=>exact⟨g.o.po,g.o.no32,by have:=g.o.pos;exact show bP b P≠0 by omega⟩
  |succ k=>exact⟨g.o.hp k (by omega),g.o.h32 k (by omega),by have:=g.o.neg k (by omega);exact show bP (hn k) (H k)≠0 by omega⟩
 have D:Hi (∀i,i<m+1→ -(32*34359738368)≤bP (cM b hn i) (cM P H i)∧bP (cM b hn i) (cM P H i)≤32*34359738368):=fun i hi=>by
  obtain⟨h1,h2,-⟩:=c.o i hi;have:=uM h1.o.near;omega
 generalize hR:fx b P m hn H=R;have a0:=ar hR;clear hR;have HH:=ar hh;obtain⟨oo,co,rfl,-,-,-⟩:=h.form;obtain⟨oq,cq,rfl,-,-,-⟩:=hh.form;have H0:=ar h;clear h hh;go_enter func205,ntmps205;go_wp2_with fail
 generalize l:(w.alloc (.cells #[.slice oo b co,.slice oq m cq] 56))=w0;have a2:Hi (w0.heap[w.heap.size]?=some (.cells #[.slice oo b co,.slice oq m cq] 56)):=by
  show _=_;rw[←l];exact bf _ _ _ rfl
 have p:Hi (Below w.heap.size w w0):=by
  show Below _ _ _;rw[←l];exact(ah w.heap.size w).alloc (aB _) _
 have a6:w.heap.size<w0.heap.size:=by rw[←l];simp
 clear l;(go_at_call 87;refine mz (ky _ _ b m P oh ch hn H _ (H0.o.below p.o) (HH.o.below p.o) g) fun w3 B=> ?_);have r:=ar (ag p.o B);have a3:Hi (w3.heap[w.heap.size]?=some (.cells #[.slice oo b co,.slice oq m cq] 56)):=(B.block w.heap.size a6).trans a2.o;clear B;obtain⟨J,L,-,-⟩:=al a3.o;go_wp2_with fail
 (go_at_call 332;refine(uN _ _ b m P oh ch hn H _ (H0.o.below r.o) (HH.o.below r.o) g.o.m8).mono ?_;rintro e_ w4 ⟨o4,c4,C,x,rfl,hO,E⟩);have Q:=ar (ag r.o E);obtain⟨b0,a7,e4,-,a8,o⟩:=hO.form;simp only[Value.slice.injEq,true_and]at e4;obtain⟨rfl,rfl⟩:=e4;have Y:=ar o;have Z:=ar hO.2;clear E hO o J L;go_wp2;go_loopw[3,12] (fun t i wr=>∃(j:Nat) (s:Int),j≤m+1∧i= .int .i64 j∧t= .int .i64 s∧Hi (s=cB (fun i=>bP (cM b hn i) (cM P H i)) j)∧Below w4.heap.size w4 wr) (fun t i _=>m+1-(intOf i).toNat)
 case atStart=>exact⟨0,0,by omega,rfl,rfl,rfl,ah _ _⟩
 case round=>
  obtain⟨w1,rfl⟩:=wE wr;obtain⟨j,s,hj,rfl,rfl,hs,y⟩:=hrel;have q:=ar y;have U:=ar (oH (f:=fun i=>bP (cM b hn i) (cM P H i)) (K:=32*34359738368) (n:=j) (fun i hi=>D.o i (by omega)));by_cases hlt:j<m+1
  ·obtain⟨a4,fo,rfl,a5,I⟩:=Y.o j hlt;have y0:w1.cell? (a4,fo+j)=some (.slice (C j) (cM b hn j) (x j)):=bI y a5 (I j hlt);have k0:=dS j;have k1:(j:Int)<(m:Int)+1:=by omega
   obtain⟨N,d⟩:=oE (bP (cM b hn j) (cM P H j));have O:Hi (∀W,bO W (.slice (C j) (cM b hn j) (x j)) (cM b hn j) (cM P H j)→Gv 135 #[.slice (C j) (cM b hn j) (x j)] (.int .i64 N) W):=fun W a=>by rw[←d];exact pp _ _ _ W a (c.o j hlt).1 (c.o j hlt).2.1 (c.o j hlt).2.2
   have G:=U.o;rw[←hs.o]at G;have A:=D.o j hlt;(try dsimp only at A);rw[d]at A;obtain⟨S',z⟩:=oE (s+N);have v1:IntKind.i64.wrap (s+N)=S':=by rw[z];exact iw
   have a1:Hi (S'=cB (fun i=>bP (cM b hn i) (cM P H i)) (j+1)):=by
    show _=_;rw[cB,←hs.o,d,z]
   clear d G A z I y;go_wp2_with fail
   (go_at_call 135;refine mz (O.o _ ((Z.o j hlt).below q.o)) fun w5 F=> ?_);have T:=ar (ag q.o F);clear F;go_wp2;go_roundw
   case rel=>exact⟨j+1,S',by omega,by go_num,rfl,a1,T.o⟩
   case measure=>simp[intOf];omega
  ·have HE:Hi (s=R):=by
    show _=_;have e:j=m+1:=by omega
    rw[hs.o,e,tV];exact a0.o
   have X:=ar (ag Q.o q.o);have k2:¬(j:Int)<(m:Int)+1:=by omega
   go_wp2;go_returns;rw[HE.o];exact⟨rfl,X.o⟩
end
end Go.Proofs.YtencnijahlkbaaaGreatDoor
