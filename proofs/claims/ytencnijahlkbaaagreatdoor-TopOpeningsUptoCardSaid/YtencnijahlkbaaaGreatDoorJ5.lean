/-
  Lemmas of this claim, joined. Conditions: as stated. By an AI agent.
-/
import Derived.Test.YtencnijahlkbaaaGreatDoorJ1
import Derived.Test.YtencnijahlkbaaaGreatDoorJ2
import Derived.Test.YtencnijahlkbaaaGreatDoorJ3
import Derived.Test.YtencnijahlkbaaaGreatDoorJ4
open Go.Act renaming put → aC
open Array renaming getElem?_eq_some_iff → av
open Go.RowKit.Below renaming refl → ah
open Bool renaming false_and → aI, true_and → aN, and_false → aL, false_or → aP, true_or → aW, or_false → aQ, eq_false_iff → cG
open Classical renaming byContradiction → aG
open Int renaming mul_nonneg → bE
open List renaming take_succ_cons → ac, take_zero → aj, drop_succ_cons → am, drop_zero → ax, setIfInBounds_toArray → aa, set_cons_zero → ae, set_cons_succ → af, mem_cons_self → bw, getElem?_eq_getElem → aS, getD_eq_getElem?_getD → aO, getElem?_append_left → cV, getElem?_append_right → cD, length_append → aZ, mem_cons → bj
open Nat renaming le_refl → aB, lt_of_lt_of_le → aM, le_trans → bW, reduceAdd → aE, reduceEqDiff → aA
open Go.Region renaming binds → ai, wanted → au
open Go.World renaming size_setCell → aT, size_alloc → aw
namespace Go.Proofs.YtencnijahlkbaaaGreatDoor
set_option maxHeartbeats 8000000
set_option maxRecDepth 100000
set_option linter.unusedVariables false
set_option linter.unusedSimpArgs false
open Go.Proofs.Tryz
section
open Go Go.ChangeShapes Go.WideShapes Go.RowKit Go.ChangeAt
def qH (F:Nat→Pt):Nat→List Value
 |0=> []
 |n+1=>qH F n++ [.int .i64 (F n).1,.int .i64 (F n).2]
theorem kZ (F:Nat→Pt):∀n,(qH F n).length=n*2
 |0=>rfl
 |n+1=>by rw[qH,aZ,kZ F n];simp;omega
theorem lQ (F:Nat→Pt):∀(n i j:Nat),i<n→j<2→(qH F n)[i*2+j]?=some (qb (F i) j)
 |0,i,j,hi,_=>by omega
 |n+1,i,j,hi,hj=>by
  rw[qH];by_cases h:i<n
  ·rw[cV (by rw[kZ];omega)];exact lQ F n i j h hj
  ·obtain rfl:i=n:=by omega
   rw[cD (by rw[kZ];omega),kZ,show i*2+j-i*2=j by omega]
   match j,hj with
   |0,_=>rfl
   |1,_=>rfl
theorem mD {F G:Nat→Pt}:∀{n:Nat},(∀i,i<n→F i=G i)→qH F n=qH G n
 |0,_=>rfl
 |n+1,h=>by rw[qH,qH,mD (fun i a=>h i (by omega)),h n (by omega)]
theorem Dn {w:World} {B:Nat} {t:TypeId} {v:Value} {n:Nat} {F:Nat→Pt} (h:w.ownsRow B t 2 v n (qH F n)):bO w v n F:=fv h _ (by decide) (fun i j a b=>lQ F n i j a b)
def zJ (F:Nat→Pt) (i j:Nat):Nat→Pt:=fun k=>if k=i then F j else if k=j then F i else F k
theorem Do (F:Nat→Pt) (n i j:Nat) (h:i<n) (k:j<n) (g:i≠j):((((qH F n).set (i*2) (.int .i64 (F j).1)).set (i*2+1) (.int .i64 (F j).2)).set (j*2) (.int .i64 (F i).1)).set (j*2+1) (.int .i64 (F i).2)=qH (zJ F i j) n:=by
 apply List.ext_getElem?;intro p;by_cases hp:p<n*2
 ·obtain⟨a,c,rfl,f,d⟩:∃a c,p=a*2+c∧a<n∧c<2:=⟨p/2,p % 2,by omega,by omega,by omega⟩;rw[lQ _ n a c f d];simp only[List.getElem?_set,List.length_set,kZ];have b:=lQ F n a c f d;unfold zJ
  match c,d with
  |0,_=>
   simp only[Nat.add_zero]at b hp⊢
   by_cases e1:a=i
   ·subst e1;rw[if_neg (by omega),if_neg (by omega),if_neg (by omega),if_pos rfl,if_pos hp,if_pos rfl];rfl
   ·by_cases e2:a=j
    ·subst e2;rw[if_neg (by omega),if_pos rfl,if_pos hp,if_neg e1,if_pos rfl];rfl
    ·rw[if_neg (by omega),if_neg (by omega),if_neg (by omega),if_neg (by omega),if_neg e1,if_neg e2];exact b
  |1,_=>
   by_cases e1:a=i
   ·subst e1;rw[if_neg (by omega),if_neg (by omega),if_pos rfl,if_pos hp,if_pos rfl];rfl
   ·by_cases e2:a=j
    ·subst e2;rw[if_pos rfl,if_pos hp,if_neg e1,if_pos rfl];rfl
    ·rw[if_neg (by omega),if_neg (by omega),if_neg (by omega),if_neg (by omega),if_neg e1,if_neg e2];exact b
 ·have e:∀l:List Value,l.length=n*2→l[p]?=none:=fun l m=>List.getElem?_eq_none (by omega);rw[e _ (kZ _ _),e _ (by simp[kZ])]
def lR (n q:Nat) (F:Nat→Pt):Nat→Pt:=fun k=>if k<q∨n≤k+q then F (n-1-k)else F k
theorem Ba (n:Nat) (F:Nat→Pt):∀k,k<n→lR n 0 F k=F k:=fun k a=>by unfold lR;rw[if_neg (by omega)]
theorem Dp {n q:Nat} (F:Nat→Pt) (a:2*q≤n) (b:n≤2*q+1):∀k,k<n→lR n q F k=rv n F k:=fun k c=>by
 unfold lR rv;by_cases h:k<q∨n≤k+q
 ·rw[if_pos h]
 ·rw[if_neg h];congr 1;omega
theorem Bb {n q p:Nat} (F:Nat→Pt) (c:p+q=n-1) (a:q<p):∀k,k<n→zJ (lR n q F) q p k=lR n (q+1) F k:=fun k b=>by
 unfold zJ lR;by_cases e1:k=q
 ·subst e1;rw[if_pos rfl,if_neg (by omega),if_pos (by omega)];congr 1;omega
 ·rw[if_neg e1];by_cases e2:k=p
  ·subst e2;rw[if_pos rfl,if_neg (by omega),if_pos (by omega)];congr 1;omega
  ·rw[if_neg e2];by_cases h:k<q∨n≤k+q
   ·rw[if_pos h,if_pos (by omega)]
   ·rw[if_neg h,if_neg (by omega)]
theorem mE {w w':World} {g:Nat} (h:w.grownBy w' (some g)) (j:Nat) (u:Value):w.grownBy (w'.setCell (g,j) u) (some g):=
 ⟨h.os,h.tape,h.output,by simpa using h.size,fun k b a=>(heap_setCell_other w' ⟨g,j,none⟩ k u (fun e=>a (by simp[e]))).trans (h.block k b a)⟩
theorem xY {w w':World} {a:Option Nat} (h:w.grownBy w' a):w.grownBy w'.drew a:=⟨h.os,h.tape,h.output,h.size,h.block⟩
theorem Bc {w:World} {B:Nat} {t:TypeId} {k n:Nat} {v:Value} {a:List Value} (h:w.ownsRow B t k v n a):w.drew.ownsRow B t k v n a:=h
theorem wy (g n cap B:Nat) (F:Nat→Pt) (w:World) (h:w.ownsRow B 43 2 (.slice (some ⟨g,0,none⟩) n cap) n (qH F n)) (n0:0<n):
 Calls prog 97 #[(.slice (some ⟨g,0,none⟩) n cap)] w fun e w'=>e= .returned (.tuple #[])∧w'.ownsRow B 43 2 (.slice (some ⟨g,0,none⟩) n cap) n (qH (rv n F) n)∧w.grownBy w' (some g):=by
 have H:=ar h;have J:n≤9223372036854775807:=by
  obtain⟨-,⟨e,-⟩|⟨L,s,G,e,-,-,I,N,-⟩⟩:=h
  ·cases e
  ·simp only[maxLen]at N;omega
 have O:g<w.heap.size:=by
  obtain⟨-,⟨e,-⟩|⟨L,s,G,e,-,I,-⟩⟩:=h
  ·cases e
  ·simp only[Value.slice.injEq,Option.some.injEq,Addr.mk.injEq,and_true,true_and]at e;obtain⟨rfl,-⟩:=e;exact(av.1 I).1
 clear h;obtain⟨x,u⟩:∃p:Nat,p+0=n-1:=⟨n-1,by omega⟩;have P:IntKind.i64.wrap ((n:Int)-1)=(x:Int):=by rw[show(n:Int)-1=(x:Int)by omega];exact iw
 have Q:(n:Int)-1=(x:Int):=by omega
 go_enter func97,ntmps97;go_wp2;go_loopw[2,3] (fun i j wr=>∃q p:Nat,i= .int .i64 q∧j= .int .i64 p∧Hi (p+q=n-1∧2*q≤n)∧Hi (wr.ownsRow B 43 2 (.slice (some ⟨g,0,none⟩) n cap) n (qH (lR n q F) n))∧Hi (w.grownBy wr (some g))) (fun i _ _=>n-(intOf i).toNat)
 case atStart=>
  refine⟨0,x,rfl,rfl,⟨u,by omega⟩,?_,⟨rfl,rfl,rfl,aB _,fun _ _ _=>rfl⟩⟩;show World.ownsRow _ _ _ _ _ _ _;rw[mD (Ba n F)];exact H.o
 case round=>
  clear P Q u;obtain⟨o,rfl⟩:=wE wr;obtain⟨q,p,rfl,rfl,a,d,y⟩:=hrel;have b:=a.o;by_cases hlt:q<p
  ·have Y:=dS q;have Z:(q:Int)<(n:Int):=by omega
   have i2:=dS p;have i3:(p:Int)<(n:Int):=by omega
   have X:g<o.heap.size:=by have:=y.o.size;omega
   have D:o.cell? (g,q*2)=some (.int .i64 (lR n q F q).1):=(d.o.cellAt (q*2) (by omega)).trans (lQ _ n q 0 (by omega) (by decide));have E:o.cell? (g,q*2+1)=some (.int .i64 (lR n q F q).2):=(d.o.cellAt (q*2+1) (by omega)).trans (lQ _ n q 1 (by omega) (by decide));have A:o.cell? (g,p*2)=some (.int .i64 (lR n q F p).1):=(d.o.cellAt (p*2) (by omega)).trans (lQ _ n p 0 (by omega) (by decide));have C:o.cell? (g,p*2+1)=some (.int .i64 (lR n q F p).2):=(d.o.cellAt (p*2+1) (by omega)).trans (lQ _ n p 1 (by omega) (by decide));have W:∀j,o.frozen? ⟨g,j,none⟩=false:=fun j=>d.o.frozenAt j;have r:=ar ((Do (lR n q F) n q p (by omega) (by omega) (by omega)).trans (mD (Bb F b.1 hlt)));obtain⟨R,f⟩:=oE ((lR n q F q).1);obtain⟨T,k⟩:=oE ((lR n q F q).2);obtain⟨U,l⟩:=oE ((lR n q F p).1);obtain⟨b2,m⟩:=oE ((lR n q F p).2);rw[f,k,l,m]at r;rw[f]at D;rw[k]at E;rw[l]at A;rw[m]at C;clear f k l m;obtain⟨v,t⟩:∃v,p=v+1:=⟨p-1,by omega⟩;have j2:(p:Int)-1=(v:Int):=by omega
   have z:=ar t;clear t b;go_wp2_with fail
   go_region
   go_wp2;go_roundw
   case rel=>
    refine⟨q+1,v,by go_num,rfl,⟨by have:=a.o;have:=z.o;omega,by have:=a.o;omega⟩,?_,xY (mE (mE (mE (mE y.o _ _) _ _) _ _) _ _)⟩;show World.ownsRow _ _ _ _ _ _ _;rw[←r.o];exact Bc ((((d.o.stored _ _).1.stored _ _).1.stored _ _).1.stored _ _).1
   case measure=>simp[intOf];have:=a.o;omega
  ·have c:=a.o;have K:Hi (o.ownsRow B 43 2 (.slice (some ⟨g,0,none⟩) n cap) n (qH (rv n F) n)):=by
    show World.ownsRow _ _ _ _ _ _ _;rw[←mD (Dp F c.2 (by omega))];exact d.o
   clear c;go_wp2;go_returns;exact⟨rfl,K.o,y.o⟩
theorem wz (v:Value) (n:Nat) (P:Nat→Pt) (f b:Int) (w:World) (h:bO w v n P) (hp:Hi (lK 32768 n P)) (c9:n≤32) (ha:bP n P≠0) (hq:cR 32768 (f,b)=true):
 Gv 138 #[v,.agg #[f,b]] (.int .i64 (db n P (f,b))) w:=by
 have d0:Hi (∀i,i<n→cR 32768 (P i)=true):=fun i hi=>cO.2 (by have:=hp.o.nr i hi;omega);have d2:Hi (Nr (f,b)):=dk hq;have HF:Hi (∀W,Gv 183 #[.agg #[f,b]] (.bool false) W):=fun W=>by have:=oG f b W;rw[hq]at this;exact this
 obtain⟨oa,cap,rfl,hn,hc,c8⟩:=h.form;have d4:=ar c8;have H:=ar h;have n3:=hp.o.n3;have HK:Hi (∀W,bO W (.slice oa n cap) n P→Gv 134 #[.slice oa n cap] (.int .i64 0) W):=fun W h'=>kw _ n P W h' hp c9 ha;obtain⟨R,hR⟩:=oE (gh n P (f,b));have b9:=ar hR;generalize hZ:db n P (f,b)=Z;have HZ:=ar hZ;clear h c8 ha hR hq hZ;go_enter func138,ntmps138;go_wp2_with fail
 (go_at_call 183;refine mz (HF.o _) fun w4 Q=> ?_);have c6:=ar (ag (w:=w) (by go_grown) Q);have d5:Hi (w4.heap[w.heap.size]?=some (.cells #[f,b] 43)):=(Q.block w.heap.size (by simp)).trans (bf _ _ _ rfl);have e2:=Q.size;(try simp only[aw]at e2);clear Q;go_wp2_with fail
 (go_at_call 134;refine mz (HK.o _ (H.o.below c6.o)) fun w5 T=> ?_);have d3:=ar (ag c6.o T);have d6:Hi (w5.heap[w.heap.size]?=some (.cells #[f,b] 43)):=(T.block w.heap.size (by omega)).trans d5.o;have e3:w.heap.size<w5.heap.size:=by have:=T.size;omega
 clear T;go_wp2;go_loopw[5,19] (fun t i wr=>∃(j:Nat) (d:Bool),j≤n∧i= .int .i64 j∧t= .bool d∧Hi (d=cf (fun i=>dP (P i) (P (nx n i)) (f,b)) j)∧Hi (∀i,i<j→¬dO (P i) (P (nx n i)) (f,b))∧w.heap.size<wr.heap.size∧Hi (wr.heap[w.heap.size]?=some (.cells #[f,b] 43))∧Below w.heap.size w wr) (fun t i _=>n-(intOf i).toNat)
 case atStart=>exact⟨0,false,by omega,rfl,rfl,rfl,(fun i hi=>absurd hi (by omega)),e3,d6,d3.o⟩
 case round=>
  obtain⟨k,rfl⟩:=wE wr;obtain⟨j,d,hj,rfl,rfl,hx,d1,zw,hQ,s⟩:=hrel;have b5:=ar s;clear s;by_cases hlt:j<n
  ·obtain⟨J1,N⟩:=oE ((j:Int)+1);obtain⟨q,hq⟩:=oE (nx n j);have qn:q<n:=by rw[←hq];exact dW (by omega)
   have i1:IntKind.i64.wrap ((j:Int)+1)=J1:=by rw[N];exact iw
   have i2:J1.tmod (n:Int)=(q:Int):=by rw[←N,←hq];exact gz hlt
   have i3:IntKind.i64.wrap (q:Int)=(q:Int):=iw;have i0:¬n=0:=by omega
   have i5:=dS q;have i6:(q:Int)<(n:Int):=by omega
   have g:=ar N;have Hq:=ar hq;have i8:=dS j;have i9:(j:Int)<(n:Int):=by omega
   clear N hq;obtain⟨J,f1,rfl,F,u⟩:=d4.o j hlt;have s:=b5.o;have d7:k.cell? (J,f1+j*2)=some (.int .i64 (P j).1):=bI s F (u j hlt).1;have d8:k.cell? (J,f1+j*2+1)=some (.int .i64 (P j).2):=bI s F (u j hlt).2;have d9:k.cell? (J,f1+q*2)=some (.int .i64 (P q).1):=bI s F (u q qn).1;have e0:k.cell? (J,f1+q*2+1)=some (.int .i64 (P q).2):=bI s F (u q qn).2;have e4:J<k.heap.size:=by have:=s.size;omega
   clear u s;have HN:=ar (dk (d0.o j hlt));have b6:=ar (dk (d0.o q qn));obtain⟨OB,c7⟩:=oE (decide (dO (P j) (P q) (f,b)));have b8:=ar c7;have HO:Hi (∀W,Gv 189 #[.agg #[(P j).1,(P j).2],.agg #[(P q).1,(P q).2],.agg #[f,b]] (.bool OB) W):=fun W=>by rw[←b8.o];exact mu _ _ _ _ _ _ W HN.o b6.o d2.o
   have HC:Hi (∀W,Gv 190 #[.agg #[(P j).1,(P j).2],.agg #[(P q).1,(P q).2],.agg #[f,b]] (.int .i64 (bQ ((P j).1,(P j).2) ((P q).1,(P q).2) (f,b))) W):=fun W=>iR _ _ _ _ _ _ W HN.o b6.o d2.o;obtain⟨RY,O⟩:=oE (dP (P j) (P (nx n j)) (f,b));have HR:=ar O;have z:Hi (dP ((P j).1,(P j).2) ((P q).1,(P q).2) (f,b)=RY):=by rw[Hq.o]at O;exact O
   clear O c7 HN b6;obtain⟨a1,c0⟩:=oE ((P j).1);obtain⟨G,c1⟩:=oE ((P j).2);obtain⟨b1,c2⟩:=oE ((P q).1);obtain⟨b2,o⟩:=oE ((P q).2);rw[c0,c1,c2,o]at HC HO z;rw[c0]at d7;rw[c1]at d8;rw[c2]at d9;rw[o]at e0;clear c0 c1 c2 o;obtain⟨C,hC⟩:=oE (bQ (a1,G) (b1,b2) (f,b));rw[hC]at HC;have L:=ar hC;clear hC;obtain⟨uQ,vQ,-,yQ⟩:=al hQ.o;go_wp2_with fail
   (go_at_call 189;refine mz (HO.o _) fun w2 o=> ?_);have KQ:w2.heap[w.heap.size]?=some (.cells #[f,b] 43):=(o.block (w.heap.size) (by first|omega|(simp;done)|(simp<;>omega))).trans ((aV _ _ _ (by simp<;>omega)).trans ((aV _ _ _ (by omega)).trans hQ.o));obtain⟨Y,a4,-,a7⟩:=al KQ;have p:=ar KQ;clear KQ;have A:w2.heap[k.heap.size]?=some (.cells #[a1,G] 43):=(o.block (k.heap.size) (by first|omega|(simp;done)|(simp<;>omega))).trans ((aV _ _ _ (by simp)).trans (bf _ _ _ rfl));obtain⟨a0,a5,-,a8⟩:=al A;have D:=ar A;clear A;have B:w2.heap[k.heap.size+1]?=some (.cells #[b1,b2] 43):=(o.block (k.heap.size+1) (by first|omega|(simp;done)|(simp<;>omega))).trans (bf _ _ _ (by simp));obtain⟨a3,a6,-,a9⟩:=al B;have E:=ar B;clear B;have x:=ar (ag (w:=w) (by have hB:=b5.o;have hz:=hB.size;go_grown) o);have e1:=o.size;(try simp only[aw]at e1);clear o;cases OB with
   |true=>
    have I:Hi (Z=0):=by
     show _=_;rw[←HZ.o];unfold db;rw[if_neg (fun ho=>ho j hlt (by rw[Hq.o];exact of_decide_eq_true b8.o))]
    go_wp2;go_returns;rw[I.o];exact⟨rfl,x.o⟩
   |false=>
    have r:Hi (∀i,i<j+1→¬dO (P i) (P (nx n i)) (f,b)):=fun i hi=>by
     by_cases e:i=j
     ·rw[e,Hq.o];exact of_decide_eq_false b8.o
     ·exact d1.o i (by omega)
    by_cases h1:b<G
    ·by_cases h2:b<b2
     ·have U:decide (b<G)=true:=decide_eq_true h1;have X:decide (b<b2)=true:=decide_eq_true h2;have l:RY=false:=by rw[←z.o];unfold dP;dsimp only;rw[U,X];rfl
      have m:Hi (d=cf (fun i=>dP (P i) (P (nx n i)) (f,b)) (j+1)):=by
       show _=_;unfold cf;rw[←hx.o,HR.o,l]
       (cases d<;>rfl)
      go_wp2;go_roundw
      case rel=>exact⟨j+1,d,by omega,by rw[←g.o];rfl,by cases d<;>rfl,m,r,by omega,p.o,x.o⟩
      case measure=>have:=g.o;simp[intOf];omega
     ·have U:decide (b<G)=true:=decide_eq_true h1;have X:decide (b<b2)=false:=decide_eq_false h2;have k3:decide (G<b2)=false:=df;by_cases h3:0<C
      ·have k4:decide (0<C)=true:=decide_eq_true h3;have l:RY=false:=by rw[←z.o];unfold dP;dsimp only;rw[U,X,k3,L.o,k4];rfl
       go_wp2_with fail
       (go_at_call 190;refine mz (HC.o _) fun K a=> ?_);have c:=ar (kz a p);obtain⟨-,-,-,c5⟩:=al c.o;have A:K.heap[k.heap.size]?=some (.cells #[a1,G] 43):=(a.block (k.heap.size) (by first|omega|(simp;done)|(simp<;>omega))).trans D.o;obtain⟨-,c3,-,-⟩:=al A;clear A;have B:K.heap[k.heap.size+1]?=some (.cells #[b1,b2] 43):=(a.block (k.heap.size+1) (by first|omega|(simp;done)|(simp<;>omega))).trans E.o;obtain⟨-,c4,-,-⟩:=al B;clear B;have y:=ar (ag x.o a);clear a Y a4 a7 a0 a5 a8 a3 a6 a9;have m:Hi (d=cf (fun i=>dP (P i) (P (nx n i)) (f,b)) (j+1)):=by
        show _=_;unfold cf;rw[←hx.o,HR.o,l]
        (cases d<;>rfl)
       go_wp2;go_roundw
       case rel=>exact⟨j+1,d,by omega,by rw[←g.o];rfl,by cases d<;>rfl,m,r,by omega,c.o,y.o⟩
       case measure=>have:=g.o;simp[intOf];omega
      ·have k4:decide (0<C)=false:=decide_eq_false h3;have l:RY=true:=by rw[←z.o];unfold dP;dsimp only;rw[U,X,k3,L.o,k4];rfl
       go_wp2_with fail
       (go_at_call 190;refine mz (HC.o _) fun K a=> ?_);have c:=ar (kz a p);obtain⟨-,-,-,c5⟩:=al c.o;have A:K.heap[k.heap.size]?=some (.cells #[a1,G] 43):=(a.block (k.heap.size) (by first|omega|(simp;done)|(simp<;>omega))).trans D.o;obtain⟨-,c3,-,-⟩:=al A;clear A;have B:K.heap[k.heap.size+1]?=some (.cells #[b1,b2] 43):=(a.block (k.heap.size+1) (by first|omega|(simp;done)|(simp<;>omega))).trans E.o;obtain⟨-,c4,-,-⟩:=al B;clear B;have y:=ar (ag x.o a);clear a Y a4 a7 a0 a5 a8 a3 a6 a9;have m:Hi ((!d)=cf (fun i=>dP (P i) (P (nx n i)) (f,b)) (j+1)):=by
        show _=_;unfold cf;rw[←hx.o,HR.o,l]
        (cases d<;>rfl)
       go_wp2;go_roundw
       case rel=>exact⟨j+1,(!d),by omega,by rw[←g.o];rfl,by cases d<;>rfl,m,r,by omega,c.o,y.o⟩
       case measure=>have:=g.o;simp[intOf];omega
    ·by_cases h2:b<b2
     ·have U:decide (b<G)=false:=decide_eq_false h1;have X:decide (b<b2)=true:=decide_eq_true h2;have k3:decide (G<b2)=true:=dt;by_cases h3:0<C
      ·have k4:decide (0<C)=true:=decide_eq_true h3;have l:RY=true:=by rw[←z.o];unfold dP;dsimp only;rw[U,X,k3,L.o,k4];rfl
       go_wp2_with fail
       (go_at_call 190;refine mz (HC.o _) fun K a=> ?_);have c:=ar (kz a p);obtain⟨-,-,-,c5⟩:=al c.o;have A:K.heap[k.heap.size]?=some (.cells #[a1,G] 43):=(a.block (k.heap.size) (by first|omega|(simp;done)|(simp<;>omega))).trans D.o;obtain⟨-,c3,-,-⟩:=al A;clear A;have B:K.heap[k.heap.size+1]?=some (.cells #[b1,b2] 43):=(a.block (k.heap.size+1) (by first|omega|(simp;done)|(simp<;>omega))).trans E.o;obtain⟨-,c4,-,-⟩:=al B;clear B;have y:=ar (ag x.o a);clear a Y a4 a7 a0 a5 a8 a3 a6 a9;have m:Hi ((!d)=cf (fun i=>dP (P i) (P (nx n i)) (f,b)) (j+1)):=by
        show _=_;unfold cf;rw[←hx.o,HR.o,l]
        (cases d<;>rfl)
       go_wp2;go_roundw
       case rel=>exact⟨j+1,(!d),by omega,by rw[←g.o];rfl,by cases d<;>rfl,m,r,by omega,c.o,y.o⟩
       case measure=>have:=g.o;simp[intOf];omega
      ·have k4:decide (0<C)=false:=decide_eq_false h3;have l:RY=false:=by rw[←z.o];unfold dP;dsimp only;rw[U,X,k3,L.o,k4];rfl
       go_wp2_with fail
       (go_at_call 190;refine mz (HC.o _) fun K a=> ?_);have c:=ar (kz a p);obtain⟨-,-,-,c5⟩:=al c.o;have A:K.heap[k.heap.size]?=some (.cells #[a1,G] 43):=(a.block (k.heap.size) (by first|omega|(simp;done)|(simp<;>omega))).trans D.o;obtain⟨-,c3,-,-⟩:=al A;clear A;have B:K.heap[k.heap.size+1]?=some (.cells #[b1,b2] 43):=(a.block (k.heap.size+1) (by first|omega|(simp;done)|(simp<;>omega))).trans E.o;obtain⟨-,c4,-,-⟩:=al B;clear B;have y:=ar (ag x.o a);clear a Y a4 a7 a0 a5 a8 a3 a6 a9;have m:Hi (d=cf (fun i=>dP (P i) (P (nx n i)) (f,b)) (j+1)):=by
        show _=_;unfold cf;rw[←hx.o,HR.o,l]
        (cases d<;>rfl)
       go_wp2;go_roundw
       case rel=>exact⟨j+1,d,by omega,by rw[←g.o];rfl,by cases d<;>rfl,m,r,by omega,c.o,y.o⟩
       case measure=>have:=g.o;simp[intOf];omega
     ·have U:decide (b<G)=false:=decide_eq_false h1;have X:decide (b<b2)=false:=decide_eq_false h2;have l:RY=false:=by rw[←z.o];unfold dP;dsimp only;rw[U,X];rfl
      have m:Hi (d=cf (fun i=>dP (P i) (P (nx n i)) (f,b)) (j+1)):=by
       show _=_;unfold cf;rw[←hx.o,HR.o,l]
       (cases d<;>rfl)
      go_wp2;go_roundw
      case rel=>exact⟨j+1,d,by omega,by rw[←g.o];rfl,by cases d<;>rfl,m,r,by omega,p.o,x.o⟩
      case measure=>have:=g.o;simp[intOf];omega
  ·have b0:Hi (uA n P (f,b)):=fun i hi=>d1.o i (by omega);have HE:Hi (R=d):=by
    show _=_;have e:j=n:=by omega
    rw[←b9.o,hx.o,e];rfl
   have hB:=b5.o;cases d with
   |false=>
    have I:Hi (Z= -1):=by show _=_;rw[←HZ.o];unfold db;rw[if_pos b0.o,b9.o,HE.o];rfl
    go_wp2;go_returns;rw[I.o];exact⟨rfl,hB⟩
   |true=>
    have I:Hi (Z=1):=by show _=_;rw[←HZ.o];unfold db;rw[if_pos b0.o,b9.o,HE.o];rfl
    go_wp2;go_returns;rw[I.o];exact⟨rfl,hB⟩
theorem uO (v:Value) (n:Nat) (P:Nat→Pt) (f a:Int) (w:World) (h:bO w v n P) (hp:Hi (dT n P)) (hq:cR 32768 (f,a)=true):
 Gv 66 #[v,.agg #[f,a]] (.int .i64 (db n P (f,a))) w:=by
 have f9:=ar hp.o.near;have g1:Hi (Nr (f,a)):=dk hq;have HF:Hi (∀W,Gv 111 #[.agg #[f,a]] (.bool true) W):=fun W=>by have:=kX f a W;rw[hq]at this;exact this
 obtain⟨oa,cap,rfl,-,hc,f7⟩:=h.form;have j1:=ar f7;have H:=ar h;have n3:=hp.o.n3;have l5:=hp.o.n32;obtain⟨R,hR⟩:=oE (gh n P (f,a));have c9:=ar hR;generalize hZ:db n P (f,a)=Z;have HZ:=ar hZ;clear h f7 hR hq hZ;go_enter func66,ntmps66;go_wp2_with fail
 (go_at_call 63;refine mz (jz _ n P _ (H.o.below (by go_grown)) hp) fun w3 a7=> ?_);have h9:=ar (ag (w:=w) (by go_grown) a7);have f4:Hi (w3.heap[w.heap.size]?=some (.cells #[f,a] 43)):=(a7.block w.heap.size (by simp)).trans (bf _ _ _ rfl);have k0:w.heap.size<w3.heap.size:=by have:=a7.size;simp only[aw]at this;omega
 clear a7;obtain⟨u3,v3,-,-⟩:=al f4.o;go_wp2_with fail
 (go_at_call 111;refine mz (HF.o _) fun w4 a8=> ?_);have i4:=ar (ag h9.o a8);have j2:Hi (w4.heap[w.heap.size]?=some (.cells #[f,a] 43)):=(a8.block w.heap.size k0).trans f4.o;have k8:w.heap.size<w4.heap.size:=by have:=a8.size;omega
 clear a8 u3 v3;go_wp2;go_loopw[5,6] (fun t i wr=>∃(j:Nat) (g:Bool),j≤n∧i= .int .i64 j∧t= .bool g∧Hi (g=cf (fun i=>dP (P i) (P (nx n i)) (f,a)) j)∧Hi (∀i,i<j→¬dO (P i) (P (nx n i)) (f,a))∧w.heap.size<wr.heap.size∧Hi (wr.heap[w.heap.size]?=some (.cells #[f,a] 43))∧Below w.heap.size w wr) (fun t i _=>n-(intOf i).toNat)
 case atStart=>exact⟨0,false,by omega,rfl,rfl,rfl,(fun i hi=>absurd hi (by omega)),k8,j2,i4.o⟩
 case round=>
  obtain⟨w2,rfl⟩:=wE wr;obtain⟨j,g,hj,rfl,rfl,hx,g0,zw,hQ,y⟩:=hrel;have Q:=ar y;clear y;by_cases hlt:j<n
  ·obtain⟨J1,a5⟩:=oE ((j:Int)+1);obtain⟨q,hq⟩:=oE (nx n j);have qn:q<n:=by rw[←hq];exact dW (by omega)
   have i1:IntKind.i64.wrap ((j:Int)+1)=J1:=by rw[a5];exact iw
   have i2:J1.tmod (n:Int)=(q:Int):=by rw[←a5,←hq];exact gz hlt
   have i3:IntKind.i64.wrap (q:Int)=(q:Int):=iw;have i0:¬n=0:=by omega
   have i5:=dS q;have i6:(q:Int)<(n:Int):=by omega
   have l:=ar a5;have Hq:=ar hq;have i8:=dS j;have i9:(j:Int)<(n:Int):=by omega
   clear a5 hq;obtain⟨D,f1,rfl,K,E⟩:=j1.o j hlt;have y:=Q.o;have h5:w2.cell? (D,f1+j*2)=some (.int .i64 (P j).1):=bI y K (E j hlt).1;have h6:w2.cell? (D,f1+j*2+1)=some (.int .i64 (P j).2):=bI y K (E j hlt).2;have h7:w2.cell? (D,f1+q*2)=some (.int .i64 (P q).1):=bI y K (E q qn).1;have h8:w2.cell? (D,f1+q*2+1)=some (.int .i64 (P q).2):=bI y K (E q qn).2;have l6:D<w2.heap.size:=by have:=y.size;omega
   clear E y;have HN:=ar (dk (f9.o j hlt));have c8:=ar (dk (f9.o q qn));obtain⟨OB,f3⟩:=oE (decide (dO (P j) (P q) (f,a)));have a4:=ar f3;have HO:Hi (∀W,Gv 112 #[.agg #[f,a],.agg #[(P j).1,(P j).2],.agg #[(P q).1,(P q).2]] (.bool OB) W):=fun W=>by rw[←a4.o];exact iS _ _ _ _ _ _ W HN.o c8.o g1.o
   have HC:Hi (∀W,Gv 113 #[.agg #[(P j).1,(P j).2],.agg #[(P q).1,(P q).2],.agg #[f,a]] (.int .i64 (bQ ((P j).1,(P j).2) ((P q).1,(P q).2) (f,a))) W):=fun W=>iE _ _ _ _ _ _ W HN.o c8.o g1.o;obtain⟨RY,a6⟩:=oE (dP (P j) (P (nx n j)) (f,a));have HR:=ar a6;have I:Hi (dP ((P j).1,(P j).2) ((P q).1,(P q).2) (f,a)=RY):=by rw[Hq.o]at a6;exact a6
   have c6:Hi (decide (dO ((P j).1,(P j).2) ((P q).1,(P q).2) (f,a))=OB):=a4.o;clear a6 f3 HN c8;obtain⟨a1,d2⟩:=oE ((P j).1);obtain⟨z,d3⟩:=oE ((P j).2);obtain⟨b1,d4⟩:=oE ((P q).1);obtain⟨b2,d5⟩:=oE ((P q).2);rw[d2,d3,d4,d5]at HC HO I c6;rw[d2]at h5;rw[d3]at h6;rw[d4]at h7;rw[d5]at h8;clear d2 d3 d4 d5;obtain⟨C,hC⟩:=oE (bQ (a1,z) (b1,b2) (f,a));rw[hC]at HC;have U:=ar hC;clear hC;go_wp2_with fail
   refine dd 16 [⟨12,14,#[(),()],43⟩,⟨13,15,#[(),()],43⟩] [] (by kernel_rfl) (by kernel_rfl) (by kernel_rfl) (by kernel_rfl) (by kernel_rfl) ?_ ?_ ?_
   ·intro r hr;cases hr
   ·intro r hr;cases hr
   simp only[ac,aj,aK,aC,aa,ae,af];iterate 12
    apply dE (by kernel_rfl)
    ·intro u O m hd;replace m:=m.nil;have hz:=dx m;have g3:D<O.heap.size:=by omega
     have g4:w.heap.size<O.heap.size:=by omega
     obtain⟨hc,hf⟩:=br m;clear m hz;simp[cL,ai,dK,bN,dm.is,dm.any]at hd;go_simp
     first|exact⟨ah _ _,rfl⟩|rfl
   refine dZ ⟨12,14,#[(),()],43⟩ (by simp) rfl ?_ ?_
   ·intro u O m;refine⟨by simp[au],?_⟩;go_simp
    first|done|rfl|exact⟨rfl,rfl⟩
   refine dZ ⟨13,15,#[(),()],43⟩ (by simp) rfl ?_ ?_
   ·intro u O m;refine⟨by simp[au],?_⟩;go_simp
    first|done|rfl|exact⟨rfl,rfl⟩
   apply cC ⟨12,14,#[(),()],43⟩ (by simp) rfl (by kernel_rfl) rfl (by kernel_rfl)
   ·intro u O m hd;replace m:=m.nil;have hz:=dx m;have g3:D<O.heap.size:=by omega
    have g4:w.heap.size<O.heap.size:=by omega
    obtain⟨hc,hf⟩:=br m;clear m hz;simp[cL,ai,dK,bN,dm.is,dm.any]at hd;refine⟨by simp[au],fun b' a3 j4 k=> ?_⟩;have g2:u 12= .pointer (some b'):=a3;have c:O.heap[b']?=some (.cells #[(),()] 43):=k;have j3:=al c;have c7:=ar c;clear k c a3;go_simp;exact bL.c2 c7.o _ _
   apply cC ⟨13,15,#[(),()],43⟩ (by simp) rfl (by kernel_rfl) rfl (by kernel_rfl)
   ·intro u O m hd;replace m:=m.nil;have hz:=dx m;have g3:D<O.heap.size:=by omega
    have g4:w.heap.size<O.heap.size:=by omega
    obtain⟨hc,hf⟩:=br m;clear m hz;simp[cL,ai,dK,bN,dm.is,dm.any]at hd;refine⟨by simp[au],fun b' a3 j4 k=> ?_⟩;have g2:u 13= .pointer (some b'):=a3;have c:O.heap[b']?=some (.cells #[(),()] 43):=k;have j3:=al c;have c7:=ar c;clear k c a3;go_simp;exact bL.c2 c7.o _ _
   intro u w5 m J hV hP;replace m:=m.nil;clear hP;have e0:u 0=_:=eE J 0;have e1:u 1=_:=eE J 1;have e2:u 2=_:=eE J 2;have e3:u 3=_:=eE J 3;have e4:u 4=_:=eE J 4;have e5:u 5=_:=eE J 5;have e6:u 6=_:=eE J 6;have e7:u 7=_:=eE J 7;have e8:u 8=_:=eE J 8;have e9:u 9=_:=eE J 9;have f0:u 10=_:=eE J 10;have f2:u 11=_:=eE J 11;have d0:u 14=_:=eE J 14;have d1:u 15=_:=eE J 15;obtain⟨⟨Y,a9,g5,L⟩,⟨h4,-⟩,⟨⟨VB,b0,g6,N⟩,-,-⟩⟩:=hV;replace L:w5.heap[Y]?=some (.cells (u 14).cells 43):=L;rw[d0]at L;replace a9:u 12= .pointer (some Y):=a9;obtain⟨g7,g8,-,l3⟩:=al L;have d8:=ar L;clear L;replace N:w5.heap[VB]?=some (.cells (u 15).cells 43):=N;rw[d1]at N;replace b0:u 13= .pointer (some VB):=b0;obtain⟨g9,h0,-,l4⟩:=al N;have d9:=ar N;clear N;clear h4;(try simp only[aw,aT]at g5);(try have l1:w2.heap.size≤Y:=by omega);clear g5;(try simp only[aw,aT]at g6);(try have l2:w2.heap.size≤VB:=by omega);clear g6;simp only[am,ax,ac,aj,aK,aC,aa,ae,af,e0,e1,e2,e3,e4,e5,e6,e7,e8,e9,f0,f2,d0,d1,a9,b0];clear e0 e1 e2 e3 e4 e5 e6 e7 e8 e9 f0 f2 d0 d1 a9 b0 J;have T:=ar m;obtain⟨l0,k9,f6,f8,j0⟩:=pr m;clear m;have i7:=ar (ag Q.o T.o);have f5:Hi (w5.heap[w.heap.size]?=some (.cells #[f,a] 43)):=(T.o.block _ zw).trans hQ.o;clear f6 f8 h5 h6 h7 h8;obtain⟨j5,j6,-,j9⟩:=al f5.o;go_wp2_with fail
   (go_at_call 112;refine mz (HO.o _) fun w6 a0=> ?_);have KQ:w6.heap[w.heap.size]?=some (.cells #[f,a] 43):=(a0.block (w.heap.size) (by first|omega|(simp;done)|(simp<;>omega))).trans f5.o;obtain⟨b5,b9,-,c2⟩:=al KQ;have s:=ar KQ;clear KQ;have A:=ar (kz a0 d8);obtain⟨b6,c0,-,c3⟩:=al A.o;have B:=ar (kz a0 d9);obtain⟨b8,c1,-,c4⟩:=al B.o;have F:=ar (ag i7.o a0);clear j5 j6 j9 a0 g7 g8 g9 h0;cases OB with
   |true=>
    have X:Hi (Z=0):=by
     show _=_;rw[←HZ.o];unfold db;rw[if_neg (fun ho=>ho j hlt (by rw[Hq.o];exact of_decide_eq_true a4.o))]
    go_wp2;go_returns;rw[X.o];exact⟨rfl,F.o⟩
   |false=>
    have x:Hi (∀i,i<j+1→¬dO (P i) (P (nx n i)) (f,a)):=fun i hi=>by
     by_cases e:i=j
     ·rw[e,Hq.o];exact of_decide_eq_false a4.o
     ·exact g0.o i (by omega)
    by_cases h1:a<z
    ·by_cases h2:a<b2
     ·have k1:decide (a<z)=true:=decide_eq_true h1;have k2:decide (a<b2)=true:=decide_eq_true h2;have k5:decide (z≤a)=false:=df;have k6:decide (b2≤a)=false:=df;have o:RY=false:=by rw[←I.o];unfold dP;dsimp only;rw[k1,k2];rfl
      clear h1 h2;have p:Hi (g=cf (fun i=>dP (P i) (P (nx n i)) (f,a)) (j+1)):=by
       show _=_;unfold cf;rw[←hx.o,HR.o,o]
       (cases g<;>rfl)
      go_wp2;go_roundw
      case rel=>exact⟨j+1,g,by omega,by rw[←l.o];rfl,by cases g<;>rfl,p,x,by omega,s.o,F.o⟩
      case measure=>have:=l.o;simp[intOf];omega
     ·have k1:decide (a<z)=true:=decide_eq_true h1;have k2:decide (a<b2)=false:=decide_eq_false h2;have k5:decide (z≤a)=false:=df;have k6:decide (b2≤a)=true:=dt;have k3:decide (z<b2)=false:=df;have d7:Hi (C≠0):=fun e=>of_decide_eq_false c6.o (ei (by show z≠b2;omega) (U.o.trans e) (by show bt z b2 a;unfold bt;omega));by_cases h3:0<C
      ·have k4:decide (0<C)=true:=decide_eq_true h3;have o:RY=false:=by rw[←I.o];unfold dP;dsimp only;rw[k1,k2,k3,U.o,k4];rfl
       have k7:decide (C<0)=false:=decide_eq_false (by have:=d7.o;omega);clear h1 h2 h3;go_wp2_with fail
       (go_at_call 113;refine mz (HC.o _) fun w7 b=> ?_);have d:=ar (kz b s);obtain⟨-,-,-,d6⟩:=al d.o;have KX:w7.heap[Y]?=some (.cells #[a1,z] 43):=(b.block (Y) (by first|omega|(simp;done)|(simp<;>omega))).trans A.o;clear KX;have KY:w7.heap[VB]?=some (.cells #[b1,b2] 43):=(b.block (VB) (by first|omega|(simp;done)|(simp<;>omega))).trans B.o;clear KY;have G:=ar (ag F.o b);clear b b5 b9 c2 b6 c0 c3 b8 c1 c4;have p:Hi (g=cf (fun i=>dP (P i) (P (nx n i)) (f,a)) (j+1)):=by
        show _=_;unfold cf;rw[←hx.o,HR.o,o]
        (cases g<;>rfl)
       go_wp2;go_roundw
       case rel=>exact⟨j+1,g,by omega,by rw[←l.o];rfl,by cases g<;>rfl,p,x,by omega,d.o,G.o⟩
       case measure=>have:=l.o;simp[intOf];omega
      ·have k4:decide (0<C)=false:=decide_eq_false h3;have o:RY=true:=by rw[←I.o];unfold dP;dsimp only;rw[k1,k2,k3,U.o,k4];rfl
       have k7:decide (C<0)=true:=decide_eq_true (by have:=d7.o;omega);clear h1 h2 h3;go_wp2_with fail
       (go_at_call 113;refine mz (HC.o _) fun w7 b=> ?_);have d:=ar (kz b s);obtain⟨-,-,-,d6⟩:=al d.o;have KX:w7.heap[Y]?=some (.cells #[a1,z] 43):=(b.block (Y) (by first|omega|(simp;done)|(simp<;>omega))).trans A.o;clear KX;have KY:w7.heap[VB]?=some (.cells #[b1,b2] 43):=(b.block (VB) (by first|omega|(simp;done)|(simp<;>omega))).trans B.o;clear KY;have G:=ar (ag F.o b);clear b b5 b9 c2 b6 c0 c3 b8 c1 c4;have p:Hi ((!g)=cf (fun i=>dP (P i) (P (nx n i)) (f,a)) (j+1)):=by
        show _=_;unfold cf;rw[←hx.o,HR.o,o]
        (cases g<;>rfl)
       go_wp2;go_roundw
       case rel=>exact⟨j+1,(!g),by omega,by rw[←l.o];rfl,by cases g<;>rfl,p,x,by omega,d.o,G.o⟩
       case measure=>have:=l.o;simp[intOf];omega
    ·by_cases h2:a<b2
     ·have k1:decide (a<z)=false:=decide_eq_false h1;have k2:decide (a<b2)=true:=decide_eq_true h2;have k5:decide (z≤a)=true:=dt;have k6:decide (b2≤a)=false:=df;have k3:decide (z<b2)=true:=dt;by_cases h3:0<C
      ·have k4:decide (0<C)=true:=decide_eq_true h3;have o:RY=true:=by rw[←I.o];unfold dP;dsimp only;rw[k1,k2,k3,U.o,k4];rfl
       clear h1 h2 h3;go_wp2_with fail
       (go_at_call 113;refine mz (HC.o _) fun w7 b=> ?_);have d:=ar (kz b s);obtain⟨-,j7,-,d6⟩:=al d.o;have KX:w7.heap[Y]?=some (.cells #[a1,z] 43):=(b.block (Y) (by first|omega|(simp;done)|(simp<;>omega))).trans A.o;clear KX;have KY:w7.heap[VB]?=some (.cells #[b1,b2] 43):=(b.block (VB) (by first|omega|(simp;done)|(simp<;>omega))).trans B.o;obtain⟨-,j8,-,-⟩:=al KY;clear KY;have G:=ar (ag F.o b);clear b b5 b9 c2 b6 c0 c3 b8 c1 c4;have p:Hi ((!g)=cf (fun i=>dP (P i) (P (nx n i)) (f,a)) (j+1)):=by
        show _=_;unfold cf;rw[←hx.o,HR.o,o]
        (cases g<;>rfl)
       go_wp2;go_roundw
       case rel=>exact⟨j+1,(!g),by omega,by rw[←l.o];rfl,by cases g<;>rfl,p,x,by omega,d.o,G.o⟩
       case measure=>have:=l.o;simp[intOf];omega
      ·have k4:decide (0<C)=false:=decide_eq_false h3;have o:RY=false:=by rw[←I.o];unfold dP;dsimp only;rw[k1,k2,k3,U.o,k4];rfl
       clear h1 h2 h3;go_wp2_with fail
       (go_at_call 113;refine mz (HC.o _) fun w7 b=> ?_);have d:=ar (kz b s);obtain⟨-,j7,-,d6⟩:=al d.o;have KX:w7.heap[Y]?=some (.cells #[a1,z] 43):=(b.block (Y) (by first|omega|(simp;done)|(simp<;>omega))).trans A.o;clear KX;have KY:w7.heap[VB]?=some (.cells #[b1,b2] 43):=(b.block (VB) (by first|omega|(simp;done)|(simp<;>omega))).trans B.o;obtain⟨-,j8,-,-⟩:=al KY;clear KY;have G:=ar (ag F.o b);clear b b5 b9 c2 b6 c0 c3 b8 c1 c4;have p:Hi (g=cf (fun i=>dP (P i) (P (nx n i)) (f,a)) (j+1)):=by
        show _=_;unfold cf;rw[←hx.o,HR.o,o]
        (cases g<;>rfl)
       go_wp2;go_roundw
       case rel=>exact⟨j+1,g,by omega,by rw[←l.o];rfl,by cases g<;>rfl,p,x,by omega,d.o,G.o⟩
       case measure=>have:=l.o;simp[intOf];omega
     ·have k1:decide (a<z)=false:=decide_eq_false h1;have k2:decide (a<b2)=false:=decide_eq_false h2;have k5:decide (z≤a)=true:=dt;have k6:decide (b2≤a)=true:=dt;have o:RY=false:=by rw[←I.o];unfold dP;dsimp only;rw[k1,k2];rfl
      clear h1 h2;have p:Hi (g=cf (fun i=>dP (P i) (P (nx n i)) (f,a)) (j+1)):=by
       show _=_;unfold cf;rw[←hx.o,HR.o,o]
       (cases g<;>rfl)
      go_wp2;go_roundw
      case rel=>exact⟨j+1,g,by omega,by rw[←l.o];rfl,by cases g<;>rfl,p,x,by omega,s.o,F.o⟩
      case measure=>have:=l.o;simp[intOf];omega
  ·have c5:Hi (uA n P (f,a)):=fun i hi=>g0.o i (by omega);have HE:Hi (R=g):=by
    show _=_;have e:j=n:=by omega
    rw[←c9.o,hx.o,e];rfl
   have hB:=Q.o;cases g with
   |false=>
    have X:Hi (Z= -1):=by show _=_;rw[←HZ.o];unfold db;rw[if_pos c5.o,c9.o,HE.o];rfl
    go_wp2;go_returns;rw[X.o];exact⟨rfl,hB⟩
   |true=>
    have X:Hi (Z=1):=by show _=_;rw[←HZ.o];unfold db;rw[if_pos c5.o,c9.o,HE.o];rfl
    go_wp2;go_returns;rw[X.o];exact⟨rfl,hB⟩
def fd (n:Nat) (P:Nat→Pt) (q:Pt):Int:=if cR 32768 q=true then db n P q else -1
theorem Bd (n:Nat) (P:Nat→Pt) (q:Pt):db n P q=1∨db n P q=0∨db n P q= -1:=by
 unfold db;split
 ·split
  ·exact .inl rfl
  ·exact .inr (.inr rfl)
 ·exact .inr (.inl rfl)
theorem pw (n:Nat) (P:Nat→Pt) (q:Pt):fd n P q=1∨fd n P q=0∨fd n P q= -1:=by
 unfold fd;split
 ·exact Bd n P q
 ·exact .inr (.inr rfl)
theorem nK (w:World) (b:Nat→Option Addr) (a hn:Nat→Nat) (H:Nat→Nat→Pt):en w (.slice none 0 0) 0 b a hn H:=⟨⟨none,0,rfl,by omega,by omega,fun h=>by omega⟩,fun i c=>by omega⟩
theorem rU {n:Nat} {P:Nat→Pt} (d:lK 32768 n P) (b:n≤32) (c:0<bP n P) (hn:Nat→Nat) (H:Nat→Nat→Pt):GH n P 0 hn H:=
 ⟨by omega,d,b,c,fun i a=>by omega,fun i a=>by omega,fun i a=>by omega,fun i a=>by omega,fun i a=>by omega,fun i j a=>by omega,fun i j a=>by omega⟩
theorem xZ (v:Value) (n:Nat) (P:Nat→Pt) (a b:Int) (w:World) (h:bO w v n P) (j:Hi (lK 32768 n P)) (d:n≤32) (i:bP n P≠0):
 Gv 138 #[v,.agg #[a,b]] (.int .i64 (fd n P (a,b))) w:=by
 by_cases hq:cR 32768 (a,b)=true
 ·have t:=wz v n P a b w h j d i hq;unfold fd;rw[if_pos hq];exact t
 ·have e:cR 32768 (a,b)=false:=by simpa using hq
  have g:Hi (∀W,Gv 183 #[.agg #[a,b]] (.bool true) W):=fun W=>by have:=oG a b W;rw[e]at this;exact this
  obtain⟨l,k,rfl,-,-,-⟩:=h.form;unfold fd;rw[if_neg hq];clear h hq e;go_enter func138,ntmps138;go_wp2_with fail
  (go_at_call 183;refine mz (g.o _) fun m c=> ?_);have f:=ar (ag (w:=w) (by go_grown) c);clear c;go_wp2;go_returns;exact⟨rfl,f.o⟩
theorem wA (v:Value) (n:Nat) (P:Nat→Pt) (a b:Int) (w:World) (h:bO w v n P) (j:Hi (dT n P)):
 Gv 66 #[v,.agg #[a,b]] (.int .i64 (fd n P (a,b))) w:=by
 by_cases hq:cR 32768 (a,b)=true
 ·have t:=uO v n P a b w h j hq;unfold fd;rw[if_pos hq];exact t
 ·have e:cR 32768 (a,b)=false:=by simpa using hq
  have k:Hi (∀W,Gv 111 #[.agg #[a,b]] (.bool false) W):=fun W=>by have:=kX a b W;rw[e]at this;exact this
  obtain⟨o,m,rfl,-,-,-⟩:=h.form;have H:=ar h;unfold fd;rw[if_neg hq];clear h hq e;go_enter func66,ntmps66;go_wp2_with fail
  (go_at_call 63;refine mz (jz _ n P _ (H.o.below (by go_grown)) j) fun l c=> ?_);have f:=ar (ag (w:=w) (by go_grown) c);have i:Hi (l.heap[w.heap.size]?=some (.cells #[a,b] 43)):=(c.block w.heap.size (by simp)).trans (bf _ _ _ rfl);clear c;obtain⟨p,q,-,-⟩:=al i.o;go_wp2_with fail
  (go_at_call 111;refine mz (k.o _) fun r d=> ?_);have g:=ar (ag f.o d);clear d;go_wp2;go_returns;exact⟨rfl,g.o⟩
theorem ld (v:Value) (n:Nat) (P:Nat→Pt) (w:World) (h:bO w v n P) (x:Hi (dT n P)) (A:0<bP n P):
 Gv 23 #[.agg #[v,Nat]] (.int .i64 0) w:=by
 obtain⟨u,d⟩:=oE (bP n P);have j:Hi (∀W r,bO W r n P→Gv 64 #[r] (.int .i64 u) W):=fun W r a=>by rw[←d];exact mA _ _ _ W a x
 have C:decide (u≤0)=false:=decide_eq_false (by rw[←d];omega);obtain⟨q,p,rfl,-,-,-⟩:=h.form;have H:=ar h;clear h d A;go_enter func23,ntmps23;go_wp2_with fail
 (go_at_call 63;refine mz (jz _ n P _ (H.o.below (by go_grown)) x) fun y b=> ?_);have e:=ar (ag (w:=w) (by go_grown) b);have f:Hi (y.heap[w.heap.size]?=some (.cells #[.slice q n p,Nat] 56)):=(b.block w.heap.size (by simp)).trans (bf _ _ _ rfl);have s:w.heap.size<y.heap.size:=by have:=b.size;simp only[aw]at this;omega
 clear b;obtain⟨B,-,-,-⟩:=al f.o;go_wp2_with fail
 (go_at_call 64;refine mz (j.o _ _ (H.o.below e.o)) fun z c=> ?_);have k:=ar (ag e.o c);have m:Hi (z.heap[w.heap.size]?=some (.cells #[.slice q n p,Nat] 56)):=(c.block w.heap.size s).trans f.o;have t:w.heap.size<z.heap.size:=by have:=c.size;omega
 clear c B;go_wp2;go_loopw[4] (fun i wr=>i= .int .i64 0∧w.heap.size<wr.heap.size∧Hi (wr.heap[w.heap.size]?=some (.cells #[.slice q n p,Nat] 56))∧Below w.heap.size w wr) (fun i _=>0)
 case atStart=>exact⟨rfl,t,m,k.o⟩
 case round=>
  obtain⟨E,rfl⟩:=wE wr;obtain⟨rfl,-,o,g⟩:=hrel;have l:=ar g;clear g;obtain⟨-,D,-,-⟩:=al o.o;go_wp2;go_returns;exact⟨rfl,l.o⟩
end
section
open Go Go.RowKit
section
variable {P:Program}
theorem ja {w:World} {t:TypeId} {b a k:Nat} {cs:Array Value} {fs:Array Field} (m:P.underlying t=some (.struct fs)) (e:(P.info? t).map (fun i=>i.size)=some k) (l:cs.size=k)
 (h:∀j v,cs[j]?=some v→w.cell? (b,a+j)=some v):(loadVar t ⟨b,a,none⟩).run P w= .ok (.agg cs) w:=by
 obtain⟨i,d,f⟩:∃i,P.info? t=some i∧i.size=k:=by
  cases d:P.info? t with
  |none=>rw[d]at e;cases e
  |some i=>rw[d]at e;exact⟨i,rfl,by simpa using e⟩
 have g:=run_loadCells_list (P:=P) w ⟨b,a,none⟩ cs.toList (fun j v n=>by
  have c:(⟨b,a,none⟩:Addr).add j=⟨b,a+j,none⟩:=by unfold Addr.add;split<;>simp_all
  rw[c];exact h j v (by simpa using n))
 rw[show cs.toList.length=k by simpa using l]at g;simp[loadVar,isAgg,run_underlying m,sizeOf,typeInfo,d,f,g]
theorem cY {ops:Array Oper} {c:List Oper} {a:Act} {w:World} {Q:Exit→Act→World→Prop} {p d:Tmp} {T:TypeId} {g:String} {e:Array Edge} (t:TypeId) (b f k:Nat) (cs:Array Value) (fs:Array Field)
 (s:P.underlying t=some (.struct fs)) (n:(P.info? t).map (fun i=>i.size)=some k) (q:a.eval (.tmp p)= .pointer (some (b,f))) (r:cs.size=k)
 (m:∀j v,cs[j]?=some v→w.cell? (b,f+j)=some v) (h:wpList P ops Q c (a.put (some d) (.agg cs)) w):
 wpList P ops Q (⟨some d,.load t (.tmp p),T,g,e,none⟩::c) a w:=by
 refine wpList_plain rfl fun K l=> ?_;have o:=ja (P:=P) s n r m;unfold Oper.wp execOp;simp only[q];simp[Instr.loadAt,Instr.sureAddr,o,Oper.upon];exact l _ _ h
theorem ef {ops:Array Oper} {e:List Oper} {a:Act} {w:World} {Q:Exit→Act→World→Prop} {p d:Tmp} {T:TypeId} {l:String} {c:Array Edge} {g:Nat×Bool} (t:TypeId) (b f k:Nat) (cs:Array Value) (fs:Array Field)
 (u:P.underlying t=some (.struct fs)) (o:(P.info? t).map (fun i=>i.size)=some k) (r:a.eval (.tmp p)= .pointer (some (b,f))) (s:cs.size=k)
 (n:∀j v,cs[j]?=some v→w.cell? (b,f+j)=some v) (x:au ⟨some d,.load t (.tmp p),T,l,c,some g⟩ (yielded ops a.tmps)=true) (h:wpList P ops Q e (a.put (some d) (.agg cs)) w):
 wpList P ops Q (⟨some d,.load t (.tmp p),T,l,c,some g⟩::e) a w:=by
 refine wpList_step fun K m=> ?_;simp only[x,if_true];have q:=ja (P:=P) u o s n;unfold Oper.wp execOp;simp only[r];simp[Instr.loadAt,Instr.sureAddr,q,Oper.upon];exact m _ _ h
theorem eA {w:World} {b:Nat} {cs:Array Value} {t:TypeId} (h:w.heap[b]?=some (.cells cs t)):∀j v,cs[j]?=some v→w.cell? (b,0+j)=some v:=fun j v a=>by
 rw[Nat.zero_add,cell_of_row w b j cs t (0,0) h];exact a
theorem cI {a:Act} {w:World} {R:Value→World→Prop} {p d:Tmp} {T:TypeId} {f:String} {c:Array Edge} {g:Option (Nat×Bool)} (t:TypeId) (b e k:Nat) (cs:Array Value) (fs:Array Field)
 (r:P.underlying t=some (.struct fs)) (m:(P.info? t).map (fun i=>i.size)=some k) (o:a.eval (.tmp p)= .pointer (some (b,e))) (q:cs.size=k)
 (l:∀j v,cs[j]?=some v→w.cell? (b,e+j)=some v) (h:R (.agg cs) w):dh P ⟨some d,.load t (.tmp p),T,f,c,g⟩ a w R:=by
 have n:=ja (P:=P) r m q l;unfold dh execOp;simp only[o];simp[Instr.loadAt,Instr.sureAddr,n,qJ];exact h
theorem qI {w:World} {t:TypeId} {b c k:Nat} {a cs:Array Value} {m:TypeId} (g:(P.info? t).map (fun i=>i.size)=some k) (l:cs.size=k) (p:c+k≤a.size) (n:cs.toList.all (fun v=>v.oneCell')=true)
 (h:w.heap[b]?=some (.cells a m)):(Instr.storeAt t (.pointer (some (b,c))) (.agg cs)).run P w= .ok () (w.setRow b (a.toList.take c++(cs.toList++a.toList.drop (c+k))).toArray):=by
 obtain⟨i,f,j⟩:∃i,P.info? t=some i∧i.size=k:=by
  cases f:P.info? t with
  |none=>rw[f]at g;cases g
  |some i=>rw[f]at g;exact⟨i,rfl,by simpa using g⟩
 have d:=run_storeCells_at (P:=P) b c m cs.toList 0 a w h (by simp;omega) (fun v o=>by have:=List.all_eq_true.1 n v o;simpa using this);have e:(a.toList.take (c+0)++cs.toList++a.toList.drop (c+0+cs.toList.length)).toArray=(a.toList.take c++(cs.toList++a.toList.drop (c+k))).toArray:=by simp[l]
 rw[e]at d;simp[Instr.storeAt,Instr.sureAddr,storeVar,sizeOf,typeInfo,f,j,Value.cells,l,d]
theorem iG {ops:Array Oper} {e:List Oper} {a:Act} {w:World} {Q:Exit→Act→World→Prop} {p x:Tmp} {T:TypeId} {g:String} {f:Array Edge} (t:TypeId) (b d k:Nat) (c cs:Array Value) (l:TypeId)
 (q:(P.info? t).map (fun i=>i.size)=some k) (r:a.eval (.tmp p)= .pointer (some (b,d))) (y:a.eval (.tmp x)= .agg cs) (u:cs.size=k) (n:cs.toList.all (fun v=>v.oneCell')=true)
 (j:w.heap[b]?=some (.cells c l)) (m:d+k≤c.size) (h:∀w',bL w w' b (c.toList.take d++(cs.toList++c.toList.drop (d+k))).toArray l→wpList P ops Q e a w'):
 wpList P ops Q (⟨none,.store t (.tmp p) (.tmp x),T,g,f,none⟩::e) a w:=by
 refine wpList_plain rfl fun K o=> ?_;have s:=qI (P:=P) q u m n j;unfold Oper.wp execOp;simp only[r,y];simp[s,Oper.upon];exact o _ _ (h _ (fY j))
end
end
section
structure bX where
 id:ByteArray
 rv:Int
 kd:Int
 nd:ByteArray
 g:ByteArray
 th:Int
 no:Nat
 P:Nat→Pt
 nh:Nat
 hn:Nat→Nat
 H:Nat→Nat→Pt
 s:ByteArray
 ln:Int
 ma:Int
 e1:Int
 e2:Int
 e3:Int
 a1:Int
 a2:Int
 a3:Int
 t:Int
structure mW where
 id:ByteArray
 kd:Int
 up:ByteArray
structure tW where
 id:ByteArray
 a:ByteArray
 b:ByteArray
 kd:Int
 ln:Int
 cl:Int
structure jS where
 id:ByteArray
 bl:ByteArray
 m:Nat
 P:Nat→ByteArray
 hr:Int
 k:Nat
 A:Nat→ByteArray
structure qg where
 kd:Int
 bl:ByteArray
 on:ByteArray
structure bK where
 hull:ByteArray
 nn:Nat
 N:Nat→mW
 np:Nat
 D:Nat→bX
 ns:Nat
 Q:Nat→tW
 nk:Nat
 K:Nat→jS
 nd:Nat
 R:Nat→qg
def bK.nI (X:bK) (i:Nat):ByteArray:=(X.N i).id
def bK.pI (X:bK) (i:Nat):ByteArray:=(X.D i).id
def bK.sI (X:bK) (i:Nat):ByteArray:=(X.Q i).id
def bK.kI (X:bK) (i:Nat):ByteArray:=(X.K i).id
def el (f:Nat→ByteArray) (n:Nat) (s:ByteArray):Nat:=bq (fun i=>(f i).toList==s.toList) n 0
def bZ (f:Nat→ByteArray) (n:Nat) (s:ByteArray):Bool:=decide (el f n s<n)
theorem le {f:Nat→ByteArray} {n:Nat} {s:ByteArray} (h:el f n s<n):f (el f n s)=s:=by
 have a:=(dH (fun i=>(f i).toList==s.toList) n 0).2.2.1 (by unfold el at h;omega);exact ee (by unfold el;simpa using a)
theorem jh {f:Nat→ByteArray} {n:Nat} {s:ByteArray}:bZ f n s=true↔∃i,i<n∧f i=s:=by
 constructor
 ·intro h;exact⟨_,of_decide_eq_true h,le (of_decide_eq_true h)⟩
 ·rintro ⟨i,c,b⟩;refine decide_eq_true ?_;have a:=(dH (fun i=>(f i).toList==s.toList) n 0).2.2.2;rcases Nat.lt_or_ge (el f n s) n with h|h
  ·exact h
  ·have:=a i (by omega) (by unfold el at h;omega);rw[b]at this;simp at this
theorem ke {f:Nat→ByteArray} {n:Nat} {s:ByteArray} {j:Nat} (c:j<n) (a:∀i,i<j→((f i).toList==s.toList)=false) (b:((f j).toList==s.toList)=true):el f n s=j∧bZ f n s=true:=by
 have e:el f n s=j:=kP (by omega) a (fun _=>b);exact⟨e,dt⟩
theorem uP {f:Nat→ByteArray} {n:Nat} {s:ByteArray} (a:∀i,i<n→((f i).toList==s.toList)=false):el f n s=n∧bZ f n s=false:=by
 have e:el f n s=n:=kP (aB _) a (fun h=>absurd h (by omega));exact⟨e,df⟩
theorem kB {p:Nat→Bool} {j:Nat} (a:∀i,i<j→p i=false) (b:p j=false):∀i,i<j+1→p i=false:=fun i c=>by
 by_cases e:i=j
 ·rw[e];exact b
 ·exact a i (by omega)
def eM (X:bK) (s:ByteArray):mW:=if bZ X.nI X.nn s=true then X.N (el X.nI X.nn s)else⟨⟨#[]⟩,0,⟨#[]⟩⟩
def fG (f:Nat→ByteArray) (n:Nat):Prop:=∀i,0<i→i<n→tj (f (i-1)) (f i)=true
theorem mF {f:Nat→ByteArray} {n:Nat} (h:fG f n) {i j:Nat} (l:i<n) (b:j<n) (e:f i=f j):i=j:=by
 have a:∀d i,i+(d+1)<n→tj (f i) (f (i+(d+1)))=true:=fun d i k=>zr (f:=fun i=>(f i).toList) (n:=n) (fun j g b=>h j g b) d i k;rcases Nat.lt_trichotomy i j with c|c|c
 ·have:=a (j-i-1) i (by omega);rw[show i+(j-i-1+1)=j by omega,e,rE]at this;cases this
 ·exact c
 ·have:=a (i-j-1) j (by omega);rw[show j+(i-j-1+1)=i by omega,e,rE]at this;cases this
theorem FG {f:Nat→ByteArray} {n:Nat} (h:fG f n) {i:Nat} (b:i<n):el f n (f i)=i:=by
 have a:bZ f n (f i)=true:=jh.2 ⟨i,b,rfl⟩;exact mF h (of_decide_eq_true a) b (le (of_decide_eq_true a))
def gU (X:bK):Nat→ByteArray→Option (List ByteArray)
 |0,_=>none
 |k+1,s=>if bZ X.nI X.nn s=true then(if(X.N (el X.nI X.nn s)).kd=1 then some [s]else(gU X k (X.N (el X.nI X.nn s)).up).map (fun l=>s::l))else none
def jr (X:bK) (s:ByteArray):Option (List ByteArray):=gU X 65 s
theorem mG {X:bK}:∀{k:Nat} {s:ByteArray} {l:List ByteArray},gU X k s=some l→1≤l.length∧l.length≤k
 |0,s,l,h=>by cases h
 |k+1,s,l,h=>by
  unfold gU at h;split at h
  ·split at h
   ·cases h;exact⟨aB _,by simp⟩
   ·cases e:gU X k (X.N (el X.nI X.nn s)).up with
    |none=>rw[e]at h;cases h
    |some l'=>
     rw[e]at h;cases h;have:=mG e;simp only[List.length_cons];omega
  ·cases h
def gV (X:bK) (k:Nat) (s:ByteArray) (acc:List ByteArray):Option (List ByteArray):=(gU X k s).map (fun l=>acc++l)
theorem qh {X:bK} {k:Nat} {s:ByteArray} {a:List ByteArray} (h:bZ X.nI X.nn s=false):gV X (k+1) s a=none:=by
 unfold gV gU;rw[if_neg (by rw[h];decide)];rfl
theorem rV {X:bK} {k:Nat} {s:ByteArray} {a:List ByteArray} (h:bZ X.nI X.nn s=true) (b:(X.N (el X.nI X.nn s)).kd=1):gV X (k+1) s a=some (a++ [s]):=by
 unfold gV gU;rw[if_pos h,if_pos b];rfl
theorem qi {X:bK} {k:Nat} {s:ByteArray} {a:List ByteArray} (h:bZ X.nI X.nn s=true) (b:(X.N (el X.nI X.nn s)).kd≠1):gV X (k+1) s a=gV X k (X.N (el X.nI X.nn s)).up (a++ [s]):=by
 unfold gV;rw[gU,if_pos h,if_neg b];cases gU X k (X.N (el X.nI X.nn s)).up<;>simp
def dU (X:bK) (s:ByteArray):Bool:=bZ X.nI X.nn s&&decide ((X.N (el X.nI X.nn s)).kd=1)
def lq (a b:qg):Bool:=if a.kd=b.kd then(if a.bl=b.bl then tj a.on b.on else tj a.bl b.bl)else decide (a.kd<b.kd)
structure kC (m:fZ):Prop where
 ng:m.ng≤16
 ns:m.ns≤32
 g:∀i,i<m.ng→dM (m.nm i)=true∧(1000≤m.de i∧m.de i≤20000)∧(100≤m.yi i∧m.yi i≤1500)∧0<m.gn i∧m.gn i≤16
 gr:∀i,i<m.ng→∀j,j<m.gn i→(1≤m.gf i j∧m.gf i j≤120)∧(0<j→m.gf i (j-1)<m.gf i j)
 ga:fG m.nm m.ng
 s:∀i,i<m.ns→dM (m.sn i)=true∧(1≤m.sa i∧m.sa i≤1000000)∧(1≤m.sh i∧m.sh i≤2000)∧(100≤m.ss i∧m.ss i≤32768)
 sa:fG m.sn m.ns
structure em (m:fZ) (D:bX):Prop where
 ok1:jZ D.id=true
 ok2:jZ D.nd=true
 rev:1≤D.rv∧D.rv≤1000
 kd:1≤D.kd∧D.kd≤4
 gr:D.kd≠4→m.hasG D.g=true∧1000≤m.de (m.gi D.g)∧m.de (m.gi D.g)≤20000
 no1:D.kd≠1→D.th=0∧D.no=0∧D.nh=0
 no4:D.kd≠4→D.ma=0∧D.e1=0∧D.e2=0∧D.e3=0
 noB:D.kd=1∨D.kd=4→D.s=⟨#[]⟩∧D.ln=0
 p1:D.kd=1→1≤D.th∧D.th≤120∧m.rolled D.g D.th=true
 sh:D.kd=1→fP D.no D.P D.nh D.hn D.H
 p2:D.kd=2∨D.kd=3→m.hasS D.s=true∧(1≤m.sa (m.si D.s)∧m.sa (m.si D.s)≤1000000)∧(1≤m.sh (m.si D.s)∧m.sh (m.si D.s)≤2000)∧1≤D.ln∧D.ln≤32768
 p4:D.kd=4→D.g=⟨#[]⟩∧1≤D.ma∧D.ma≤1099511627776∧dR 524288 (D.e1,D.e2,D.e3)
 va:eL (D.a1,D.a2,D.a3) D.t=true
def eD (m:fZ) (D:bX):Int:=if D.kd=1 then fx D.no D.P D.nh D.hn D.H*D.th*m.de (m.gi D.g)/2000000 else if D.kd=4 then D.ma else m.sa (m.si D.s)*D.ln*m.de (m.gi D.g)/1000000
def fH (X:bK) (i:Nat):Nat→List (Nat×Nat)
 |0=> []
 |k+1=>fH X i k++ [(el X.kI X.nk ((X.K i).A k),i)]
def cW (X:bK):Nat→List (Nat×Nat)
 |0=> []
 |i+1=>cW X i++fH X i (X.K i).k
structure io (m:fZ) (X:bK):Prop where
 mat:kC m
 hull:dM X.hull=true
 ln:X.nn≤64∧X.np≤256∧X.ns≤256∧X.nk≤64∧X.nd≤256
 an:fG X.nI X.nn
 ap:fG X.pI X.np
 aq:fG X.sI X.ns
 ak:fG X.kI X.nk
 ad:∀i,0<i→i<X.nd→lq (X.R (i-1)) (X.R i)=true
 d01:∀i j,i<X.np→j<X.nn→X.pI i≠X.nI j
 d02:∀i j,i<X.ns→j<X.nn→X.sI i≠X.nI j
 d12:∀i j,i<X.ns→j<X.np→X.sI i≠X.pI j
 d03:∀i j,i<X.nk→j<X.nn→X.kI i≠X.nI j
 d13:∀i j,i<X.nk→j<X.np→X.kI i≠X.pI j
 d23:∀i j,i<X.nk→j<X.ns→X.kI i≠X.sI j
 nd:∀i,i<X.nn→jZ (X.nI i)=true∧((X.N i).kd=1∧(X.N i).up=⟨#[]⟩∨(X.N i).kd=2∧bZ X.nI X.nn (X.N i).up=true)
 nu:∀i,i<X.nn→∃l,jr X (X.nI i)=some l∧l.length≤8
 pt:∀i,i<X.np→em m (X.D i)∧bZ X.nI X.nn (X.D i).nd=true
 ms:cB (fun i=>eD m (X.D i)) X.np≤1099511627776
 sm:∀i,i<X.ns→(jZ (X.Q i).id=true∧jZ (X.Q i).a=true∧jZ (X.Q i).b=true)∧(X.Q i).a≠(X.Q i).b∧((X.Q i).kd=1∨(X.Q i).kd=2)∧(1≤(X.Q i).ln∧(X.Q i).ln≤32768∧1≤(X.Q i).cl∧(X.Q i).cl≤3)∧bZ X.pI X.np (X.Q i).a=true∧bZ X.pI X.np (X.Q i).b=true
 pk:∀i,i<X.nk→jZ (X.K i).id=true∧dU X (X.K i).bl=true∧(1≤(X.K i).hr∧(X.K i).hr≤10000)∧fG (X.K i).P (X.K i).m∧fG (X.K i).A (X.K i).k
 pc:∀i,i<X.nk→∀j,j<(X.K i).m→bZ X.pI X.np ((X.K i).P j)=true∧((X.D (el X.pI X.np ((X.K i).P j))).kd=4∨(X.D (el X.pI X.np ((X.K i).P j))).kd=3)∧
  (∃l,jr X (X.D (el X.pI X.np ((X.K i).P j))).nd=some l∧l.getLast?=some (X.K i).bl)∧∀i',i'<i→∀j',j'<(X.K i').m→(X.K i').P j'≠(X.K i).P j
 pa:∀i,i<X.nk→∀j,j<(X.K i).k→(X.K i).A j≠(X.K i).id∧bZ X.kI X.nk ((X.K i).A j)=true
 od:pq X.nk (cW X X.nk)
 ne:∀i,i<X.nd→(1≤(X.R i).kd∧(X.R i).kd≤3)∧(X.R i).on≠(X.R i).bl∧dU X (X.R i).bl=true∧((X.R i).kd=1∧((X.R i).on=⟨#[]⟩∨dU X (X.R i).on=true)∨(X.R i).kd=2∧dU X (X.R i).on=true∨(X.R i).kd=3∧bZ X.kI X.nk (X.R i).on=true)
def bK.setD (X:bK) (i:Nat) (D':bX):bK:={X with D:=fun j=>if j=i then D' else X.D j}
theorem qj {X Y:bK} (b:X.nn=Y.nn) (a:X.N=Y.N):∀k s,gU X k s=gU Y k s
 |0,s=>rfl
 |k+1,s=>by
  have c:X.nI=Y.nI:=by unfold bK.nI;rw[a]
  unfold gU;rw[b,a,c,qj b a k]
theorem qk {X Y:bK} (b:X.nk=Y.nk) (a:X.K=Y.K) (i:Nat):∀k,fH X i k=fH Y i k
 |0=>rfl
 |k+1=>by
  have c:X.kI=Y.kI:=by unfold bK.kI;rw[a]
  unfold fH;rw[b,a,c,qk b a i k]
theorem ql {X Y:bK} (b:X.nk=Y.nk) (a:X.K=Y.K):∀k,cW X k=cW Y k
 |0=>rfl
 |k+1=>by
  unfold cW;rw[ql b a k,qk b a,a]
theorem yc {X Y:bK} (b:X.nn=Y.nn) (a:X.N=Y.N) (s:ByteArray):dU X s=dU Y s:=by
 have c:X.nI=Y.nI:=by unfold bK.nI;rw[a]
 unfold dU;rw[b,a,c]
theorem uR {f g:Nat→Int}:∀{n:Nat},(∀i,i<n→f i≤g i)→cB f n≤cB g n
 |0,_=>Int.le_refl _
 |n+1,h=>by
  have a:=uR (n:=n) (f:=f) (g:=g) fun i c=>h i (by omega);have b:=h n (by omega);unfold cB;omega
theorem io.revise {m:fZ} {X:bK} (h:io m X) {i:Nat} {a:bX} (x:i<X.np) (k:a.id=(X.D i).id) (o:a.nd=(X.D i).nd) (l:a.kd=(X.D i).kd) (p:em m a) (n:eD m a≤eD m (X.D i)):io m (X.setD i a):=by
 have u:∀j,((X.setD i a).D j).id=(X.D j).id:=fun j=>by
  show(if j=i then a else X.D j).id=_;split
  ·rename_i e;rw[e,k]
  ·rfl
 have r:∀j,((X.setD i a).D j).nd=(X.D j).nd:=fun j=>by
  show(if j=i then a else X.D j).nd=_;split
  ·rename_i e;rw[e,o]
  ·rfl
 have v:∀j,((X.setD i a).D j).kd=(X.D j).kd:=fun j=>by
  show(if j=i then a else X.D j).kd=_;split
  ·rename_i e;rw[e,l]
  ·rfl
 have c:(X.setD i a).pI=X.pI:=funext u;have t:∀s,jr (X.setD i a) s=jr X s:=fun s=>qj (X:=X.setD i a) (Y:=X) rfl rfl 65 s;have d:∀s,dU (X.setD i a) s=dU X s:=fun s=>yc (X:=X.setD i a) (Y:=X) rfl rfl s;exact{
  mat:=h.mat
  hull:=h.hull
  ln:=h.ln
  an:=h.an
  ap:=by rw[c];exact h.ap
  aq:=h.aq
  ak:=h.ak
  ad:=h.ad
  d01:=by rw[c];exact h.d01
  d02:=h.d02
  d12:=by rw[c];exact h.d12
  d03:=h.d03
  d13:=by rw[c];exact h.d13
  d23:=h.d23
  nd:=h.nd
  nu:=fun j b=>by rw[t];exact h.nu j b
  pt:=fun j b=>by
   rw[r j];refine⟨?_,(h.pt j b).2⟩;show em m (if j=i then a else X.D j);split
   ·exact p
   ·exact(h.pt j b).1
  ms:=by
   refine Int.le_trans (uR (g:=fun j=>eD m (X.D j)) fun j b=> ?_) h.ms;show eD m (if j=i then a else X.D j)≤_;split
   ·rename_i e;rw[e];exact n
   ·exact Int.le_refl _
  sm:=by rw[c];exact h.sm
  pk:=fun j b=>by rw[d];exact h.pk j b
  pc:=fun j b q w=>by
   have f:=h.pc j b q w;rw[c,v,r,t];exact f
  pa:=h.pa
  od:=by rw[ql (X:=X.setD i a) (Y:=X) rfl rfl];exact h.od
  ne:=fun j b=>by
   have f:=h.ne j b;rw[d,d];exact f}
theorem wB {c m k:Nat} {P:Nat→Pt} {hn a:Nat→Nat} {H b:Nat→Nat→Pt} (g:fP c P (m+k) a b) (e:∀i,i<m→a i=hn i∧b i=H i):fx c P (m+k) a b≤fx c P m hn H:=by
 have f:∀q,q≤k→cB (fun i=>bP (a i) (b i)) (m+q)≤cB (fun i=>bP (hn i) (H i)) m:=by
  intro q
  induction q with
  |zero=>
   intro _;rw[Nat.add_zero];refine uR fun i d=> ?_;rw[(e i d).1,(e i d).2];exact Int.le_refl _
  |succ q ih=>
   intro l;have h:=ih (by omega);have j:=g.neg (m+q) (by omega);rw[show m+(q+1)=(m+q)+1 by omega,cB];omega
 have:=f k (aB _);unfold fx;omega
def ia (X:bK) (M:Nat→List Pt) (sz:Int) (i:Nat):bX:=
 {X.D i with rv:=(X.D i).rv+1,nh:=(X.D i).nh+(M i).length,hn:=eX (X.D i).nh (X.D i).hn,H:=iu (X.D i).nh (X.D i).H sz (M i)}
def ek (X:bK) (M:Nat→List Pt) (sz:Int) (k:Nat):bK:={X with D:=fun i=>if i<k∧M i≠ []then ia X M sz i else X.D i}
theorem rW (X:bK) (M:Nat→List Pt) (sz:Int):ek X M sz 0=X:=by
 unfold ek;have:(fun i=>if i<0∧M i≠ []then ia X M sz i else X.D i)=X.D:=by
  funext i;rw[if_neg (by omega)]
 rw[this]
theorem lf {X:bK} {M:Nat→List Pt} {sz:Int} {k l:Nat} (a:k≤l) (h:∀i,k≤i→i<l→M i= []):ek X M sz l=ek X M sz k:=by
 unfold ek;have:(fun i=>if i<l∧M i≠ []then ia X M sz i else X.D i)=(fun i=>if i<k∧M i≠ []then ia X M sz i else X.D i):=by
  funext i;by_cases h1:i<k
  ·by_cases h2:M i= []
   ·rw[if_neg (fun c=>c.2 h2),if_neg (fun c=>c.2 h2)]
   ·rw[if_pos ⟨by omega,h2⟩,if_pos ⟨h1,h2⟩]
  ·rw[if_neg (c:=i<k∧M i≠ []) (fun c=>h1 c.1)];by_cases h3:i<l
   ·rw[if_neg (fun c=>c.2 (h i (by omega) h3))]
   ·rw[if_neg (fun c=>h3 c.1)]
 rw[this]
theorem rX {X:bK} {M:Nat→List Pt} {sz:Int} {k:Nat} (h:M k≠ []):ek X M sz (k+1)=(ek X M sz k).setD k (ia X M sz k):=by
 unfold bK.setD ek;congr 1;funext i;show(if i<k+1∧M i≠ []then ia X M sz i else X.D i)=(if i=k then ia X M sz k else(if i<k∧M i≠ []then ia X M sz i else X.D i));by_cases e:i=k
 ·subst e;rw[if_pos ⟨by omega,h⟩,if_pos rfl]
 ·rw[if_neg e];by_cases h1:i<k
  ·by_cases h2:M i= []
   ·rw[if_neg (fun c=>c.2 h2),if_neg (fun c=>c.2 h2)]
   ·rw[if_pos ⟨by omega,h2⟩,if_pos ⟨h1,h2⟩]
  ·rw[if_neg (fun c=>by omega),if_neg (fun c=>h1 c.1)]
theorem wC {X:bK} {M:Nat→List Pt} {sz:Int} {k i:Nat} (h:k≤i):(ek X M sz k).D i=X.D i:=by
 show(if i<k∧M i≠ []then ia X M sz i else X.D i)=_;rw[if_neg (fun c=>by omega)]
def rY (X:bK) (M:Nat→List Pt) (sz:Int):Prop:=
 ∀i,i<X.np→M i≠ []→(X.D i).kd=1∧(X.D i).rv<1000∧fP (X.D i).no (X.D i).P ((X.D i).nh+(M i).length) (eX (X.D i).nh (X.D i).hn) (iu (X.D i).nh (X.D i).H sz (M i))
theorem Be {m:fZ} {X:bK} {M:Nat→List Pt} {sz:Int} {i:Nat} (b:em m (X.D i)) (a:(X.D i).kd=1) (h:fP (X.D i).no (X.D i).P ((X.D i).nh+(M i).length) (eX (X.D i).nh (X.D i).hn) (iu (X.D i).nh (X.D i).H sz (M i))):
 eD m (ia X M sz i)≤eD m (X.D i):=by
 have f:=wB (hn:=(X.D i).hn) (H:=(X.D i).H) h (fun q c=>by unfold eX iu;rw[if_pos c,if_pos c];exact⟨rfl,rfl⟩);have k:=(b.p1 a).1;have j:=(b.gr (by omega)).2.1;have d:eD m (ia X M sz i)=fx (X.D i).no (X.D i).P ((X.D i).nh+(M i).length) (eX (X.D i).nh (X.D i).hn) (iu (X.D i).nh (X.D i).H sz (M i))*(X.D i).th*m.de (m.gi (X.D i).g)/2000000:=by
  unfold eD;rw[if_pos (show(ia X M sz i).kd=1 from a)];rfl
 have e:eD m (X.D i)=fx (X.D i).no (X.D i).P (X.D i).nh (X.D i).hn (X.D i).H*(X.D i).th*m.de (m.gi (X.D i).g)/2000000:=by
  unfold eD;rw[if_pos a]
 rw[d,e];exact Int.ediv_le_ediv (by decide) (Int.mul_le_mul_of_nonneg_right (Int.mul_le_mul_of_nonneg_right f (by omega)) (by omega))
theorem Bf {m:fZ} {X:bK} {M:Nat→List Pt} {sz:Int} {i:Nat} (a:em m (X.D i)) (b:(X.D i).kd=1) (d:(X.D i).rv<1000) (c:fP (X.D i).no (X.D i).P ((X.D i).nh+(M i).length) (eX (X.D i).nh (X.D i).hn) (iu (X.D i).nh (X.D i).H sz (M i))):
 em m (ia X M sz i)where
 ok1:=a.ok1
 ok2:=a.ok2
 rev:=by have:=a.rev;show 1≤(X.D i).rv+1∧(X.D i).rv+1≤1000;omega
 kd:=a.kd
 gr:=a.gr
 no1:=fun h=>absurd b h
 no4:=a.no4
 noB:=a.noB
 p1:=a.p1
 sh:=fun _=>c
 p2:=a.p2
 p4:=a.p4
 va:=a.va
theorem lg {m:fZ} {X:bK} {M:Nat→List Pt} {sz:Int} (h:io m X) (f:rY X M sz):∀k,k≤X.np→io m (ek X M sz k)
 |0,_=>by rw[rW];exact h
 |k+1,hk=>by
  have g:=lg h f k (by omega);by_cases e:M k= []
  ·rw[lf (k:=k) (by omega) (fun i b c=>by rw[show i=k by omega];exact e)];exact g
  ·rw[rX e];obtain⟨b,c,d⟩:=f k (by omega) e;have a:(ek X M sz k).D k=X.D k:=wC (aB _);refine g.revise (by exact hk) (by rw[a];rfl) (by rw[a];rfl) (by rw[a];rfl) (Bf (h.pt k (by omega)).1 b c d) ?_;rw[a];exact Be (h.pt k (by omega)).1 b d
end
section
open Go Go.ChangeShapes Go.WideShapes Go.RowKit Go.ChangeAt
def bs (w:World) (v:Value) (n k:Nat) (C:Nat→Array Value):Prop:=cE w v n k (fun i j=>(C i).getD j undef)
theorem bs.below {w w':World} {v:Value} {n k:Nat} {C:Nat→Array Value} (h:bs w v n k C) (a:Below w.heap.size w w'):bs w' v n k C:=cE.below h a
theorem bs.form {w:World} {v:Value} {n k:Nat} {C:Nat→Array Value} (h:bs w v n k C) (s:∀i,(C i).size=k):∃(oa:Option Addr) (cap:Nat),v= .slice oa n cap∧n≤cap∧cap≤9223372036854775807∧
 ∀i,i<n→∃b a,oa=some ⟨b,a,none⟩∧b<w.heap.size∧∀q,q<n→∀j u,(C q)[j]?=some u→w.cell? ⟨b,a+q*k+j,none⟩=some u:=by
 obtain⟨oa,cap,l,m,o,p⟩:=h;refine⟨oa,cap,l,m,o,fun i x=> ?_⟩;obtain⟨b,a,e,f,r⟩:=p (by omega);refine⟨b,a,e,f,fun q t j u g=> ?_⟩;have d:j<k:=by have:=(av.1 g).1;rwa [s]at this
 have c:=r q j t d;dsimp only at c;rw[show(C q).getD j undef=u by rw[Array.getD_eq_getD_getElem?,g];rfl]at c;rw[show a+q*k+j=a+(q*k+j)by omega];exact c
theorem bs.at {w:World} {oa:Option Addr} {n cap k:Nat} {C:Nat→Array Value} (h:bs w (.slice oa n cap) n k C) (g:∀i,(C i).size=k) {i:Nat} (f:i<n):
 ∃b a,oa=some ⟨b,a,none⟩∧b<w.heap.size∧∀q,q<n→∀j u,(C q)[j]?=some u→w.cell? ⟨b,a+q*k+j,none⟩=some u:=by
 obtain⟨l,c,d,-,-,e⟩:=h.form g;cases d;exact e i f
theorem bs.lim {w:World} {oa:Option Addr} {n cap k:Nat} {C:Nat→Array Value} (h:bs w (.slice oa n cap) n k C):n≤cap∧cap≤9223372036854775807:=by
 obtain⟨e,a,b,c,d,-⟩:=h;cases b;exact⟨c,d⟩
theorem aX {w:World} {b j:Nat} {C:Array Value} {t:TypeId} {v:Value} (h:w.heap[b]?=some (.cells C t)) (a:C[j]?=some v):w.cell? (b,j)=some v:=by
 rw[cell_of_row w b j C t (0,0) h];exact a
def aF (w W:World) (L:List (Nat×Array Value×TypeId)):Prop:=Below w.heap.size w W∧∀x∈L,W.heap[x.1]?=some (.cells x.2.1 x.2.2)
theorem aF.nil {w W:World} (h:Below w.heap.size w W):aF w W []:=⟨h,fun x a=>by cases a⟩
theorem aF.lt {w W:World} {L:List (Nat×Array Value×TypeId)} (h:aF w W L) {x:Nat×Array Value×TypeId} (a:x∈L):x.1<W.heap.size:=(av.1 (h.2 x a)).1
theorem aF.step {w W a:World} {L:List (Nat×Array Value×TypeId)} (h:aF w W L) (b:Below W.heap.size W a):aF w a L:=
 ⟨ag h.1 b,fun x c=>(b.block x.1 (h.lt c)).trans (h.2 x c)⟩
theorem aF.alloc {w W:World} {L:List (Nat×Array Value×TypeId)} (h:aF w W L) (b:Nat) (c:W.heap.size=b) (C:Array Value) (t:TypeId):aF w (W.alloc (.cells C t)) ((b,C,t)::L):=
 ⟨h.1.alloc h.1.size _,fun x a=>by
  rcases bj.1 a with rfl|a
  ·exact bf _ _ _ c.symm
  ·exact(aV _ _ _ (h.lt a)).trans (h.2 x a)⟩
theorem aF.get {w W:World} {L:List (Nat×Array Value×TypeId)} (h:aF w W L) (i:Nat) {b:Nat} {C:Array Value} {t:TypeId} (a:L[i]?=some (b,C,t)):W.heap[b]?=some (.cells C t):=h.2 (b,C,t) (List.mem_of_getElem? a)
theorem aF.sub {w W:World} {L a:List (Nat×Array Value×TypeId)} (h:aF w W L) (b:∀x∈a,x∈L):aF w W a:=⟨h.1,fun x c=>h.2 x (b x c)⟩
theorem aF.ex {w W:World} {L:List (Nat×Array Value×TypeId)} (h:aF w W L):∃a,a=L∧aF w W a:=⟨L,rfl,h⟩
theorem aF.nth {w W:World} {L a:List (Nat×Array Value×TypeId)} (h:aF w W L) (e:L=a) (i:Nat) {b:Nat} {C:Array Value} {t:TypeId} (c:a[i]?=some (b,C,t)):W.heap[b]?=some (.cells C t):=by subst e;exact h.get i c
theorem aF.len {w W:World} {L a:List (Nat×Array Value×TypeId)} (h:aF w W L) (e:L=a) (i:Nat) {b:Nat} {C:Array Value} {t:TypeId} (c:a[i]?=some (b,C,t)):b<W.heap.size:=(av.1 (h.nth e i c)).1
theorem aF.grown {w W c:World} {L:List (Nat×Array Value×TypeId)} {a:Option Nat} (h:aF w W L) (d:W.grownBy c a) (f:∀q,a=some q→w.heap.size≤q∧∀x∈L,x.1≠q):aF w c L:=
 ⟨Below.grown h.1 d h.1.size (fun q e=>(f q e).1),fun x b=>(d.block x.1 (h.lt b) (fun e=>(f x.1 e.symm).2 x b rfl)).trans (h.2 x b)⟩
theorem aF.row {w W a c:World} {L:List (Nat×Array Value×TypeId)} {B n k:Nat} {t:TypeId} {v:Value} {j:List Value} (h:aF w W L) (f:∀x∈L,x.1<B) (d:w.heap.size≤B) (b:c.ownsRow B t k v n j) (g:W.grownBy a v.ownBlock):aF w a L:=
 h.grown g fun q e=>⟨bW d (bU b q e),fun x i l=>by have:=f x i;have:=bU b q e;omega⟩
def Dq (w:World) (v:Value) (l:List ByteArray):Prop:=bs w v l.length 1 (fun i=>#[.string (l.getD i ⟨#[]⟩)])
theorem oI (w:World):Dq w (.slice none 0 0) []:=⟨none,0,rfl,by simp,by omega,fun h=>absurd h (by simp)⟩
theorem rZ {w:World} {B:Nat} {t:TypeId} {v:Value} {l:List ByteArray} (h:w.ownsRow B t 1 v l.length (l.map Value.string)):Dq w v l:=
 fv h _ (by decide) fun i j a b=>by
  have:j=0:=by omega
  subst this;simp[a]
theorem eh {w:World} {B:Nat} {t:TypeId} {k n:Nat} {v:Value} {c:List Value} (h:w.ownsRow B t k v n c) {b:Nat} (a:v.ownBlock=some b):B≤b∧b<w.heap.size:=h.lt b a
theorem bD {w w':World} {B:Nat} {t:TypeId} {k n:Nat} {v:Value} {d:List Value} (h:w.ownsRow B t k v n d) (j:Below w.heap.size w w'):w'.ownsRow B t k v n d:=by
 obtain⟨b,⟨f,i⟩|⟨g,cap,a,e,l,c,m⟩⟩:=h
 ·exact⟨b,.inl ⟨f,i⟩⟩
 ·exact⟨b,.inr ⟨g,cap,a,e,l,(j.block g (av.1 c).1).trans c,m⟩⟩
theorem aF.tail {w W:World} {x:Nat×Array Value×TypeId} {L:List (Nat×Array Value×TypeId)} (h:aF w W (x::L)):aF w W L:=h.sub fun y a=>List.mem_cons_of_mem _ a
theorem aF.setO {w W:World} {L:List (Nat×Array Value×TypeId)} {b i:Nat} {v:Value} (h:aF w W L) (d:w.heap.size≤b) (c:∀x∈L,x.1≠b):aF w (W.setCell (b,i) v) L:=
 ⟨h.1.setCell d _,fun x a=>(da _ _ _ _ _ (c x a)).trans (h.2 x a)⟩
theorem cZ {w w':World} {B:Nat} {t:TypeId} {k n:Nat} {v:Value} {c:List Value} (h:w.ownsRow B t k v n c) (l:∀g,v.ownBlock=some g→w'.heap[g]?=w.heap[g]?):w'.ownsRow B t k v n c:=by
 obtain⟨b,⟨d,f⟩|⟨g,cap,a,e,j,i,m⟩⟩:=h
 ·exact⟨b,.inl ⟨d,f⟩⟩
 ·exact⟨b,.inr ⟨g,cap,a,e,j,(l g (by rw[e];rfl)).trans i,m⟩⟩
def ay.val (P:Value→Prop):ay:=⟨fun v _=>P v,fun _ _ _ _ h=>h⟩
def mW.c (x:mW):Array Value:=#[.string x.id,x.kd,.string x.up]
def tW.c (x:tW):Array Value:=#[.string x.id,.string x.a,.string x.b,x.kd,x.ln,x.cl]
def qg.c (x:qg):Array Value:=#[x.kd,.string x.bl,.string x.on]
structure jD where
 op:Option Addr
 cp:Nat
 oa:Option Addr
 ca:Nat
def eO (x:jS) (s:jD):Array Value:=#[.string x.id,.string x.bl,.slice s.op x.m s.cp,x.hr,.slice s.oa x.k s.ca]
structure cN where
 oo:Option Addr
 co:Nat
 oq:Option Addr
 cq:Nat
 oh:Nat→Option Addr
 ch:Nat→Nat
def aH (D:bX) (S:cN):Array Value:=#[.string D.id,D.rv,D.kd,.string D.nd,.string D.g,D.th,.slice S.oo D.no S.co,.slice S.oq D.nh S.cq,.string D.s,D.ln,D.ma,D.e1,D.e2,D.e3,D.a1,D.a2,D.a3,D.t]
theorem yd (D:bX) (S:cN):(aH D S).size=18:=rfl
def jE:bX:=⟨⟨#[]⟩,0,0,⟨#[]⟩,⟨#[]⟩,0,0,fun _=>(0,0),0,fun _=>0,fun _ _=>(0,0),⟨#[]⟩,0,0,0,0,0,0,0,0,0⟩
def je:cN:=⟨none,0,none,0,fun _=>none,fun _=>0⟩
def Dr:jS:=⟨⟨#[]⟩,⟨#[]⟩,0,fun _=>⟨#[]⟩,0,0,fun _=>⟨#[]⟩⟩
def Ds:jD:=⟨none,0,none,0⟩
structure dq where
 on:Option Addr
 cn:Nat
 op:Option Addr
 cp:Nat
 sp:Nat→cN
 os:Option Addr
 cs:Nat
 ok:Option Addr
 ck:Nat
 sk:Nat→jD
 od:Option Addr
 cd:Nat
def bH (X:bK) (S:dq):Array Value:=#[.string X.hull,.slice S.on X.nn S.cn,.slice S.op X.np S.cp,.slice S.os X.ns S.cs,.slice S.ok X.nk S.ck,.slice S.od X.nd S.cd]
def gK (X:bK) (s:ByteArray):bX:=if bZ X.pI X.np s=true then X.D (el X.pI X.np s)else jE
def jT (X:bK) (S:dq) (s:ByteArray):cN:=if bZ X.pI X.np s=true then S.sp (el X.pI X.np s)else je
def nN (X:bK) (s:ByteArray):jS:=if bZ X.kI X.nk s=true then X.K (el X.kI X.nk s)else Dr
def mH (X:bK) (S:dq) (s:ByteArray):jD:=if bZ X.kI X.nk s=true then S.sk (el X.kI X.nk s)else Ds
structure cJ (w:World) (X:bK) (S:dq):Prop where
 n:bs w (.slice S.on X.nn S.cn) X.nn 3 (fun i=>(X.N i).c)
 p:bs w (.slice S.op X.np S.cp) X.np 18 (fun i=>aH (X.D i) (S.sp i))
 s:bs w (.slice S.os X.ns S.cs) X.ns 6 (fun i=>(X.Q i).c)
 k:bs w (.slice S.ok X.nk S.ck) X.nk 5 (fun i=>eO (X.K i) (S.sk i))
 d:bs w (.slice S.od X.nd S.cd) X.nd 3 (fun i=>(X.R i).c)
 kp:∀i,i<X.nk→bs w (.slice (S.sk i).op (X.K i).m (S.sk i).cp) (X.K i).m 1 (fun j=>#[.string ((X.K i).P j)])
 ka:∀i,i<X.nk→bs w (.slice (S.sk i).oa (X.K i).k (S.sk i).ca) (X.K i).k 1 (fun j=>#[.string ((X.K i).A j)])
theorem cJ.below {w w':World} {X:bK} {S:dq} (h:cJ w X S) (a:Below w.heap.size w w'):cJ w' X S:=
 ⟨h.n.below a,h.p.below a,h.s.below a,h.k.below a,h.d.below a,fun i b=>(h.kp i b).below a,fun i b=>(h.ka i b).below a⟩
structure eY (X:bK):Prop where
 h:X.hull.size≤1048576
 n:∀i,i<X.nn→(X.N i).id.size≤1048576∧(X.N i).up.size≤1048576
 p:∀i,i<X.np→(X.D i).id.size≤1048576∧(X.D i).nd.size≤1048576
 s:∀i,i<X.ns→(X.Q i).id.size≤1048576∧(X.Q i).a.size≤1048576∧(X.Q i).b.size≤1048576
 k:∀i,i<X.nk→(X.K i).id.size≤1048576∧(X.K i).bl.size≤1048576∧(∀j,j<(X.K i).m→((X.K i).P j).size≤1048576)∧(∀j,j<(X.K i).k→((X.K i).A j).size≤1048576)
 d:∀i,i<X.nd→(X.R i).bl.size≤1048576∧(X.R i).on.size≤1048576
 few:X.nn≤40∧X.np≤40∧X.ns≤40∧X.nk≤40∧X.nd≤40∧∀i,i<X.nk→(X.K i).m≤40∧(X.K i).k≤40
def dL (P:Prop) (w:World) (e:Ending) (w':World):Prop:=∃c:Int,e= .returned (.int .i64 c)∧(c=0→P)∧Below w.heap.size w w'
theorem bS {P:Prop} {w w':World} {c:Int} (b:c≠0) (a:Below w.heap.size w w'):dL P w (.returned (.int .i64 c)) w':=⟨c,rfl,fun h=>absurd h b,a⟩
theorem mX {P:Prop} {w w':World} {c:Int} (b:P) (a:Below w.heap.size w w'):dL P w (.returned (.int .i64 c)) w':=⟨c,rfl,fun _=>b,a⟩
section
variable {P:Program}
theorem gQ {a:Act} {w:World} {R:Value→World→Prop} {p x:Tmp} {T:TypeId} {e:String} {c:Array Edge} (t:TypeId) (b k:Nat) (d cs:Array Value) (r:TypeId)
 (l:(P.info? t).map (fun i=>i.size)=some k) (m:a.eval (.tmp p)= .pointer (some b)) (q:a.eval (.tmp x)= .agg cs) (o:cs.size=k) (f:d.size=k) (g:cs.toList.all (fun v=>v.oneCell')=true)
 (j:w.heap[b]?=some (.cells d r)) (h:∀v,R v (w.setRow b cs)):dh P ⟨none,.store t (.tmp p) (.tmp x),T,e,c,none⟩ a w R:=by
 have n:=lm (P:=P) l o f g j;unfold dh execOp;simp only[m,q];simp[n,qJ];exact h _
end
theorem tb {w:World} {b:Nat} {D:bX} {S:cN} {t:TypeId} (h:w.heap[b]?=some (.cells (aH D S) t)):w.cell? b=some D.id∧w.cell? (b,1)=some D.rv∧w.cell? (b,2)=some D.kd∧w.cell? (b,3)=some D.nd∧w.cell? (b,4)=some D.g∧w.cell? (b,5)=some D.th∧w.cell? (b,6)=some (.slice S.oo D.no S.co)∧w.cell? (b,7)=some (.slice S.oq D.nh S.cq)∧w.cell? (b,8)=some D.s∧w.cell? (b,9)=some D.ln∧w.cell? (b,10)=some D.ma∧w.cell? (b,11)=some D.e1∧w.cell? (b,12)=some D.e2∧w.cell? (b,13)=some D.e3∧w.cell? (b,14)=some D.a1∧w.cell? (b,15)=some D.a2∧w.cell? (b,16)=some D.a3∧w.cell? (b,17)=some D.t:=⟨aX h rfl,aX h rfl,aX h rfl,aX h rfl,aX h rfl,aX h rfl,aX h rfl,aX h rfl,aX h rfl,aX h rfl,aX h rfl,aX h rfl,aX h rfl,aX h rfl,aX h rfl,aX h rfl,aX h rfl,aX h rfl⟩
theorem cy {f:FuncId} {a:Array Value} {v:Value} {w W:World} {L:List (Nat×Array Value×TypeId)} {Q:Ending→World→Prop} (h:Gv f a v W) (H:Hi (aF w W L)) (k:∀b,Hi (aF w b L)→Q (.returned v) b):Calls prog f a W Q:=h.mono (by rintro e b ⟨rfl,c⟩;exact k b (H.o.step c))
noncomputable def sb (f:Nat→ByteArray) (n:Nat):Bool:= @decide (fG f n) (Classical.propDecidable _)
theorem wD {f:Nat→ByteArray} {n:Nat} (h:fG f n):sb f n=true:=by unfold sb;exact @decide_eq_true _ (Classical.propDecidable _) h
theorem FH {f:Nat→ByteArray} {n:Nat} (h:¬fG f n):sb f n=false:=by unfold sb;exact @decide_eq_false _ (Classical.propDecidable _) h
theorem sd {f:Nat→ByteArray} {n:Nat}:sb f n=true↔fG f n:=⟨fun h=>by unfold sb at h;exact @of_decide_eq_true _ (Classical.propDecidable _) h,wD⟩
theorem uS (v:Value) (n:Nat) (f:Nat→ByteArray) (s:ByteArray) (w:World) (h:bs w v n 1 (fun j=>#[.string (f j)])):
 Gv 31 #[v,.string s] (.bool (bZ f n s)) w:=by
 obtain⟨oa,cap,rfl,hn,y,-⟩:=h.form (fun _=>rfl);have p:=ar h;generalize m:bZ f n s=R;have k:=ar m;clear m h;go_enter func31,ntmps31;go_wp2;go_loopw[5] (fun i wr=>∃j:Nat,j≤n∧i= .int .i64 j∧Hi (∀i,i<j→((f i).toList==s.toList)=false)∧Below w.heap.size w wr) (fun i _=>n-(intOf i).toNat)
 case atStart=>exact⟨0,by omega,rfl,fun i o=>absurd o (by omega),ah _ _⟩
 case round=>
  obtain⟨x,rfl⟩:=wE wr;obtain⟨j,z,rfl,e,l⟩:=hrel;have b:=ar l;clear l;by_cases hlt:j<n
  ·obtain⟨q,t,rfl,u,a⟩:=bs.at p.o (fun _=>rfl) hlt;have r:x.cell? (q,t+j*1+0)=some (f j):=bI b.o u (a j hlt 0 _ rfl);rw[Nat.mul_one,Nat.add_zero]at r;clear a;by_cases c:((f j).toList==s.toList)=true
   ·have d:Hi (R=true):=k.o.symm.trans (ke hlt e.o c).2;go_wp2;go_returns;rw[d.o];exact⟨rfl,b.o⟩
   ·have c:((f j).toList==s.toList)=false:=by simpa using c
    have g:Hi (∀i,i<j+1→((f i).toList==s.toList)=false):=kB e.o c;go_wp2;go_roundw
    case rel=>exact⟨j+1,by omega,by go_num,g,b.o⟩
    case measure=>simp[intOf];omega
  ·have d:Hi (R=false):=k.o.symm.trans (uP fun i o=>e.o i (by omega)).2;go_wp2;go_returns;rw[d.o];exact⟨rfl,b.o⟩
theorem se (v:Value) (n:Nat) (f:Nat→ByteArray) (w:World) (h:bs w v n 1 (fun j=>#[.string (f j)])):
 Gv 29 #[v] (.bool (sb f n)) w:=by
 obtain⟨oa,cap,rfl,hn,U,-⟩:=h.form (fun _=>rfl);have N:=ar h;generalize G:sb f n=R;have E:=ar G;clear G h;go_enter func29,ntmps29;go_wp2;go_loopw[3] (fun i wr=>∃j p:Nat,Hi (j=p+1)∧i= .int .i64 j∧Hi (∀i,0<i→i<j→tj (f (i-1)) (f i)=true)∧Below w.heap.size w wr) (fun i _=>n-(intOf i).toNat)
 case atStart=>exact⟨1,0,rfl,rfl,fun i g x=>absurd x (by omega),ah _ _⟩
 case round=>
  obtain⟨D,rfl⟩:=wE wr;obtain⟨j,p,d,rfl,J,l⟩:=hrel;by_cases hlt:j<n
  ·have A:p<j:=by have:=d.o;omega
   have C:p<n:=by omega
   obtain⟨q,F,rfl,y,b⟩:=bs.at N.o (fun _=>rfl) hlt;have Q:D.cell? (q,F+j)=some (f j):=bI l y (by have:=b j hlt 0 _ rfl;rwa [Nat.mul_one,Nat.add_zero]at this);have T:D.cell? (q,F+p)=some (f p):=bI l y (by have:=b p C 0 _ rfl;rwa [Nat.mul_one,Nat.add_zero]at this);have P:q<D.heap.size:=aM y l.size;have W:IntKind.i64.wrap ((j:Int)-1)=(p:Int):=by rw[iw];have:=d.o;omega
   have X:=dS p;have Y:(p:Int)<(n:Int):=by omega
   clear b A;obtain⟨B,r⟩:=oE (Op.bytesLess (f p).toList (f j).toList);have c:=ar r;go_wp2_with fail
   refine aD 10 ?_;simp only[ac,aj,aK,aC,aa,ae,af];iterate 10 refine bJ ?_
   intro u Z t s;simp only[cF,aR,ay.is,aE,aA,reduceIte]at s;simp only[am,ax,ac,aj,aK,aC,aa,ae,af,s];clear s;have a:=ar (ag (w:=w) (by first|assumption|go_grown) t);obtain⟨L,K,H,I,m⟩:=pr t;clear t;cases B with
   |false=>
    have o:Hi (R=false):=E.o.symm.trans (FH fun h=>by
     have k:=h j (by have:=d.o;omega) hlt;have O:=c.o;rw[show j-1=p by have:=d.o;omega]at k;unfold tj at k;rw[O]at k;cases k)
    go_wp2;go_returns;rw[o.o];exact⟨rfl,a.o⟩
   |true=>
    have z:Hi (∀i,0<i→i<j+1→tj (f (i-1)) (f i)=true):=fun i g x=>by
     by_cases e:i=j
     ·rw[e,show j-1=p by have:=d.o;omega];exact c.o
     ·exact J.o i g (by omega)
    go_wp2;go_roundw
    case rel=>exact⟨j+1,j,rfl,by go_num,z,a.o⟩
    case measure=>simp[intOf];omega
  ·have o:Hi (R=true):=E.o.symm.trans (wD fun i g x=>J.o i g (by omega));go_wp2;go_returns;rw[o.o];exact⟨rfl,l⟩
theorem js (X:bK) (S:dq) (s:ByteArray) (w:World) (h:Hi (cJ w X S)):
 Gv 32 #[.agg (bH X S),.string s] (.tuple #[.agg (eM X s).c,.bool (bZ X.nI X.nn s)]) w:=by
 obtain⟨T,cn,U,N,sp,W,cs,Q,K,sk,P,J⟩:=S;have hn:=(h.o.n).lim;obtain⟨V,r⟩:=oE (eM X s);obtain⟨R,q⟩:=oE (bZ X.nI X.nn s);have z:=ar r;have y:=ar q;rw[r,q];clear r q;unfold bH mW.c;dsimp only at hn⊢
 go_enter func32,ntmps32;go_wp2;obtain⟨L,B,A⟩:=aF.ex (((aF.nil (ah w.heap.size w)).alloc (w.heap.size) rfl _ _).alloc (w.heap.size+1) (by simp) _ _);have x:=ar B;have E:=ar A;clear B A;go_loopw[6] (fun i wr=>∃j:Nat,j≤X.nn∧i= .int .i64 j∧Hi (∀i,i<j→((X.nI i).toList==s.toList)=false)∧aF w wr L) (fun i _=>X.nn-(intOf i).toNat)
 case atStart=>exact⟨0,by omega,rfl,fun i D=>absurd D (by omega),E.o⟩
 case round=>
  obtain⟨u,rfl⟩:=wE wr;obtain⟨j,O,rfl,k,C⟩:=hrel;have d:=ar C;clear C;obtain⟨Y,Z,r2,rf,-⟩:=bV (aF.nth d.o x.o 0 rfl);obtain⟨-,x1,-,-,-,-,-,-⟩:=aJ (aF.nth d.o x.o 1 rfl);by_cases hlt:j<X.nn
  ·obtain⟨o,p,rfl,e,a⟩:=bs.at (h.o.n) (fun _=>rfl) hlt;have G:u.cell? (o,p+j*3)=some (.string (X.N j).id):=bI d.o.1 e (a j hlt 0 _ rfl);have H:u.cell? (o,p+j*3+1)=some (.int .i64 (X.N j).kd):=bI d.o.1 e (a j hlt 1 _ rfl);have I:u.cell? (o,p+j*3+2)=some (.string (X.N j).up):=bI d.o.1 e (a j hlt 2 _ rfl);clear a;by_cases b:((X.nI j).toList==s.toList)=true
   ·have l:Hi (R=true):=y.o.symm.trans (ke hlt k.o b).2;have m:Hi (V=X.N j):=by
     show _=_;rw[←z.o];unfold eM;rw[if_pos (ke hlt k.o b).2,(ke hlt k.o b).1]
    have F:((X.N j).id.toList==s.toList)=true:=b;clear b;go_wp2
    all_goals (refine bodyPost_ret (v:= .tuple #[.agg (X.N j).c,.bool true]) (by simp[results,results32,go_sem,mW.c, *]) rfl ?_)
    rw[l.o,m.o];exact⟨rfl,by have:=d.o.1;go_grown⟩
   ·have b:((X.nI j).toList==s.toList)=false:=by simpa using b
    have t:Hi (∀i,i<j+1→((X.nI i).toList==s.toList)=false):=kB k.o b;have F:((X.N j).id.toList==s.toList)=false:=b;clear b;go_wp2;go_roundw
    case rel=>exact⟨j+1,by omega,by go_num,t,d.o⟩
    case measure=>simp[intOf];omega
  ·have g:=uP (f:=X.nI) (n:=X.nn) (s:=s) fun i D=>k.o i (by omega);have l:Hi (R=false):=y.o.symm.trans g.2;have m:Hi (V=⟨⟨#[]⟩,0,⟨#[]⟩⟩):=by
    show _=_;rw[←z.o];unfold eM;rw[if_neg (by rw[g.2];decide)]
   clear g;go_wp2
   all_goals (refine bodyPost_ret (v:= .tuple #[.agg #["",(), ""],.bool false]) (by simp[results,results32,go_sem, *]) rfl ?_)
   rw[l.o,m.o];exact⟨rfl,by have:=d.o.1;go_grown⟩
def gj (X:bK) (s:ByteArray) (w:World) (e:Ending) (w':World):Prop:=∃v,e= .returned (.tuple #[v,.bool (jr X s).isSome])∧Dq w' v ((jr X s).getD [])∧Below w.heap.size w w'
theorem uT (X:bK) (S:dq) (s:ByteArray) (w:World) (h:Hi (cJ w X S)):
 Calls prog 34 #[.agg (bH X S),.string s] w (gj X s w):=by
 obtain⟨i0,hi,Q,R,T⟩:=info_parts iQ;have r:cJ w X S:=h.o;have F:Hi (∀W q,Below w.heap.size w W→Gv 32 #[.agg (bH X S),.string q] (.tuple #[.agg (eM X q).c,.bool (bZ X.nI X.nn q)]) W):=fun W q K=>js X S q W (r.below K);clear h r;obtain⟨on,cn,op,cp,sp,os,cs,ok,ck,sk,od,cd⟩:=S;unfold bH;dsimp only;unfold bH at F;dsimp only at F;go_enter func34,ntmps34;go_wp2;obtain⟨L,hL,r⟩:=aF.ex ((aF.nil (ah w.heap.size w)).alloc (w.heap.size) rfl _ _);have Z:=ar hL;have H0:=ar r;clear hL r;have D:Hi (∀x∈L,x.1<w.heap.size+1):=fun x P=>by
  rw[Z.o]at P;simp only[bj,List.not_mem_nil,or_false]at P;rcases P with rfl<;>(dsimp only;omega)
 go_loopw[1,6,7] (fun b v i wr=>∃(k:Nat) (q:ByteArray) (l:List ByteArray),k≤65∧b= .string q∧i= .int .i64 k∧Hi (l.length=k)∧Hi (gV X (65-k) q l=jr X s)∧Hi (wr.ownsRow (w.heap.size+1) 9 1 v l.length (l.map Value.string))∧aF w wr L) (fun _ _ i _=>65-(intOf i).toNat)
 case atStart=>exact⟨0,s,[],by omega,rfl,rfl,rfl,by show gV X 65 s []=jr X s;unfold gV jr;cases gU X 65 s<;>simp,World.ownsRow_nil _ _ _ _,H0.o⟩
 case round=>
  obtain⟨w2,rfl⟩:=wE wr;obtain⟨k,b,l,n,rfl,rfl,o,B,hR,hO⟩:=hrel;have z:=ar hO;clear hO;by_cases hlt:k≤64
  ·have N:(k:Int)≤64:=by omega
   obtain⟨V,I⟩:=oE (eM X b);obtain⟨E,H⟩:=oE (bZ X.nI X.nn b);have HV:=ar I;have y:=ar H;have HC:Hi (∀W,Below w.heap.size w W→Gv 32 #[.agg #[.string X.hull,.slice on X.nn cn,.slice op X.np cp,.slice os X.ns cs,.slice ok X.nk ck,.slice od X.nd cd],.string b] (.tuple #[.agg #[.string V.id,V.kd,.string V.up],.bool E]) W):=fun W K=>by
    have:=F.o W b K;rw[I,H]at this;exact this
   clear I H;obtain⟨x0,x1,x2,x3,x4,x5,-,-⟩:=aJ (aF.nth z.o Z.o 0 rfl);go_wp2_with fail
   (go_at_call 32;refine mz (HC.o _ z.o.1) fun U m=> ?_);have t:=ar (aF.step z.o m);have f:=ar (bD hR.o m);have z3:=t.o.1.size;clear m;clear x0 x1 x2 x3 x4 x5;cases E with
   |false=>
    have g:Hi (jr X s=none):=by
     show _=_;rw[←B.o,show 65-k=(64-k)+1 by omega];exact qh y.o
    go_wp2;go_returns;unfold gj;rw[g.o];exact⟨_,rfl,oI _,by have:=t.o.1;go_grown⟩
   |true=>
    have G:Hi (X.N (el X.nI X.nn b)=V):=by
     show _=_;rw[←HV.o];unfold eM;rw[if_pos y.o]
    go_wp2_with (first|(at_builtin;refine wpList_append_own _ rfl _ _ 67 rfl (w.heap.size+1) 9 i0 (.string ⟨#[]⟩) 1 16 underlying67 hi Q R T rfl (by decide) _ _ _ rfl ((f.o.alloc _).alloc _) ⟨U.heap.size+1,0,none⟩ 1 1 [(.string b)] rfl rfl ?c1 ?c2 ?c3 ?c4 ?c5 ?_)|go_in)
    case c1=>
     intro j u A
     match j,A with
     |0,A=>
      simp at A;subst A;simp[Addr.add]
      try rfl
    case c2=>intro u O;simp at O;(first|(subst O;rfl)|(rcases O with rfl<;>rfl))
    case c3=>unfold maxLen;have:=o.o;omega
    case c4=>have:=o.o;omega
    case c5=>have:=t.o.1.size;simp;omega
    intro v' C d a _;have Y:Hi (aF w C L):=aF.row (aF.step t.o (by go_grown)) D.o (by omega) f.o a;have J:Hi (C.heap[U.heap.size]?=some (.cells #[.string V.id,V.kd,.string V.up] 64)):=(a.block U.heap.size (by first|(simp;done)|(simp;omega)) (fun e=>by have:=(eh f.o e.symm).2;omega)).trans ((aV _ _ _ (by first|(simp;done)|(simp;omega))).trans (bf _ _ _ rfl));have p:Hi (C.ownsRow (w.heap.size+1) 9 1 v' (l++ [b]).length ((l++ [b]).map Value.string)):=by
     show C.ownsRow _ _ _ _ _ _;rw[aZ,List.map_append];exact d
    clear d a;obtain⟨-,y1,y2,-,-⟩:=bV J.o;by_cases n:V.kd=1
    ·have k1:(V.kd==1)=true:=by rw[n];rfl
     have g:Hi (jr X s=some (l++ [b])):=by
      show _=_;rw[←B.o,show 65-k=(64-k)+1 by omega];exact rV y.o (by rw[G.o];exact n)
     clear n;go_wp2;go_returns;unfold gj;rw[g.o];exact⟨_,rfl,rZ p.o,Y.o.1⟩
    ·have k1:(V.kd==1)=false:=by simpa using n
     have g:Hi (gV X (65-(k+1)) V.up (l++ [b])=jr X s):=by
      show _=_;rw[←B.o,show 65-k=(64-k)+1 by omega,qi y.o (by rw[G.o];exact n),G.o,show 65-(k+1)=64-k by omega]
     clear n;go_wp2;go_roundw
     case rel=>exact⟨k+1,V.up,l++ [b],by omega,rfl,by go_num,(by show _=_;rw[aZ,o.o];rfl),g,p,Y.o⟩
     case measure=>simp[intOf];omega
  ·have g:Hi (jr X s=none):=by
    show _=_;rw[←B.o,show 65-k=0 by omega];rfl
   have N:¬(k:Int)≤64:=by omega
   go_wp2;go_returns;unfold gj;rw[g.o];exact⟨_,rfl,oI _,z.o.1⟩
theorem bv:(prog.info? 62).map (fun i=>i.size)=some 18:=by kernel_rfl
theorem bF:prog.underlying 62=some (.struct (prog.fieldsOf 62)):=by kernel_rfl
theorem fA:(prog.info? 69).map (fun i=>i.size)=some 5:=by kernel_rfl
theorem ic:prog.underlying 69=some (.struct (prog.fieldsOf 69)):=by kernel_rfl
theorem cz:(prog.info? 28).map (fun i=>i.size)=some 6:=by kernel_rfl
theorem cH:prog.underlying 28=some (.struct (prog.fieldsOf 28)):=by kernel_rfl
theorem pA (X:bK) (S:dq) (s:ByteArray) (w:World) (h:Hi (cJ w X S)):
 Gv 39 #[.agg (bH X S),.string s] (.tuple #[.agg (aH (gK X s) (jT X S s)),.bool (bZ X.pI X.np s)]) w:=by
 have hn:=(h.o.p).lim;obtain⟨V,z⟩:=oE (gK X s);obtain⟨U,y⟩:=oE (jT X S s);obtain⟨R,x⟩:=oE (bZ X.pI X.np s);have m:Hi (gK X s=V∧jT X S s=U):=⟨z,y⟩;have E:=ar x;rw[z,y,x];clear z y x;obtain⟨on,cn,op,Y,C,os,cs,ok,W,sk,od,T⟩:=S;unfold bH;dsimp only at hn⊢
 go_enter func39,ntmps39;go_wp2;obtain⟨L,G,F⟩:=aF.ex (((aF.nil (ah w.heap.size w)).alloc (w.heap.size) rfl _ _).alloc (w.heap.size+1) (by simp) _ _);have p:=ar G;have K:=ar F;clear G F;go_loopw[6] (fun i wr=>∃j:Nat,j≤X.np∧i= .int .i64 j∧Hi (∀i,i<j→((X.pI i).toList==s.toList)=false)∧aF w wr L) (fun i _=>X.np-(intOf i).toNat)
 case atStart=>exact⟨0,by omega,rfl,fun i I=>absurd I (by omega),K.o⟩
 case round=>
  obtain⟨J,rfl⟩:=wE wr;obtain⟨j,Z,rfl,o,H⟩:=hrel;have d:=ar H;clear H;obtain⟨-,-,x2,-,-,-,-,-⟩:=aJ (aF.nth d.o p.o 1 rfl);by_cases hlt:j<X.np
  ·obtain⟨t,v,rfl,A,c⟩:=bs.at (h.o.p) (fun _=>rfl) hlt;have D:Hi (∀q u,(aH (X.D j) (C j))[q]?=some u→J.cell? (t,v+j*18+q)=some u):=fun q u N=>bI d.o.1 A (c j hlt q u N);have Q:J.cell? (t,v+j*18)=some (.string (X.D j).id):=D.o 0 _ rfl;clear c;by_cases a:((X.pI j).toList==s.toList)=true
   ·have r:Hi (R=true):=E.o.symm.trans (ke hlt o.o a).2;have k:Hi (V=X.D j∧U=C j):=by
     have e:=ke hlt o.o a;refine⟨m.o.1.symm.trans ?_,m.o.2.symm.trans ?_⟩
     ·unfold gK;rw[if_pos e.2,e.1]
     ·unfold jT;rw[if_pos e.2,e.1]
    have O:((X.D j).id.toList==s.toList)=true:=a;clear a;go_wp2_with (first|(with_reducible refine cY 62 t (v+j*18) 18 (aH (X.D j) (C j)) _ bF bv rfl rfl D.o ?_)|(with_reducible refine bB 62 (w.heap.size+1) 18 _ 62 bv rfl rfl rfl rfl (⟨_,aF.nth d.o p.o 0 rfl,rfl⟩) ?_;intro P l))
    have g:=bL.below d.o.1 l (by omega);refine bodyPost_ret (di rfl rfl l.here bF bv rfl) rfl ?_;rw[r.o,k.o.1,k.o.2];exact⟨rfl,g⟩
   ·have a:((X.pI j).toList==s.toList)=false:=by simpa using a
    have B:Hi (∀i,i<j+1→((X.pI i).toList==s.toList)=false):=kB o.o a;have O:((X.D j).id.toList==s.toList)=false:=a;clear a;go_wp2;go_roundw
    case rel=>exact⟨j+1,by omega,by go_num,B,d.o⟩
    case measure=>simp[intOf];omega
  ·have b:=uP (f:=X.pI) (n:=X.np) (s:=s) fun i I=>o.o i (by omega);have r:Hi (R=false):=E.o.symm.trans b.2;have k:Hi (V=jE∧U=je):=by
    refine⟨m.o.1.symm.trans ?_,m.o.2.symm.trans ?_⟩
    ·unfold gK;rw[if_neg (by rw[b.2];decide)]
    ·unfold jT;rw[if_neg (by rw[b.2];decide)]
   clear b;go_wp2_with (first|(with_reducible refine bB 62 (w.heap.size+1) 18 _ 62 bv rfl rfl rfl rfl (⟨_,aF.nth d.o p.o 0 rfl,rfl⟩) ?_;intro P l))
   have g:=bL.below d.o.1 l (by omega);refine bodyPost_ret (di rfl rfl l.here bF bv rfl) rfl ?_;rw[r.o,k.o.1,k.o.2];exact⟨rfl,g⟩
theorem Bg (X:bK) (S:dq) (s:ByteArray) (w:World) (h:Hi (cJ w X S)):
 Gv 43 #[.agg (bH X S),.string s] (.tuple #[.agg (eO (nN X s) (mH X S s)),.bool (bZ X.kI X.nk s)]) w:=by
 have hn:=(h.o.k).lim;obtain⟨V,z⟩:=oE (nN X s);obtain⟨U,y⟩:=oE (mH X S s);obtain⟨R,x⟩:=oE (bZ X.kI X.nk s);have m:Hi (nN X s=V∧mH X S s=U):=⟨z,y⟩;have E:=ar x;rw[z,y,x];clear z y x;obtain⟨on,cn,op,Y,sp,os,cs,ok,W,C,od,T⟩:=S;unfold bH;dsimp only at hn⊢
 go_enter func43,ntmps43;go_wp2;obtain⟨L,G,F⟩:=aF.ex (((aF.nil (ah w.heap.size w)).alloc (w.heap.size) rfl _ _).alloc (w.heap.size+1) (by simp) _ _);have p:=ar G;have K:=ar F;clear G F;go_loopw[6] (fun i wr=>∃j:Nat,j≤X.nk∧i= .int .i64 j∧Hi (∀i,i<j→((X.kI i).toList==s.toList)=false)∧aF w wr L) (fun i _=>X.nk-(intOf i).toNat)
 case atStart=>exact⟨0,by omega,rfl,fun i I=>absurd I (by omega),K.o⟩
 case round=>
  obtain⟨J,rfl⟩:=wE wr;obtain⟨j,Z,rfl,o,H⟩:=hrel;have d:=ar H;clear H;obtain⟨-,-,-,-,x4,-,-,-⟩:=aJ (aF.nth d.o p.o 1 rfl);by_cases hlt:j<X.nk
  ·obtain⟨t,v,rfl,A,c⟩:=bs.at (h.o.k) (fun _=>rfl) hlt;have D:Hi (∀q u,(eO (X.K j) (C j))[q]?=some u→J.cell? (t,v+j*5+q)=some u):=fun q u N=>bI d.o.1 A (c j hlt q u N);have Q:J.cell? (t,v+j*5)=some (.string (X.K j).id):=D.o 0 _ rfl;clear c;by_cases a:((X.kI j).toList==s.toList)=true
   ·have r:Hi (R=true):=E.o.symm.trans (ke hlt o.o a).2;have k:Hi (V=X.K j∧U=C j):=by
     have e:=ke hlt o.o a;refine⟨m.o.1.symm.trans ?_,m.o.2.symm.trans ?_⟩
     ·unfold nN;rw[if_pos e.2,e.1]
     ·unfold mH;rw[if_pos e.2,e.1]
    have O:((X.K j).id.toList==s.toList)=true:=a;clear a;go_wp2_with (first|(with_reducible refine cY 69 t (v+j*5) 5 (eO (X.K j) (C j)) _ ic fA rfl rfl D.o ?_)|(with_reducible refine bB 69 (w.heap.size+1) 5 _ 69 fA rfl rfl rfl rfl (⟨_,aF.nth d.o p.o 0 rfl,rfl⟩) ?_;intro P l))
    have g:=bL.below d.o.1 l (by omega);refine bodyPost_ret (di rfl rfl l.here ic fA rfl) rfl ?_;rw[r.o,k.o.1,k.o.2];exact⟨rfl,g⟩
   ·have a:((X.kI j).toList==s.toList)=false:=by simpa using a
    have B:Hi (∀i,i<j+1→((X.kI i).toList==s.toList)=false):=kB o.o a;have O:((X.K j).id.toList==s.toList)=false:=a;clear a;go_wp2;go_roundw
    case rel=>exact⟨j+1,by omega,by go_num,B,d.o⟩
    case measure=>simp[intOf];omega
  ·have b:=uP (f:=X.kI) (n:=X.nk) (s:=s) fun i I=>o.o i (by omega);have r:Hi (R=false):=E.o.symm.trans b.2;have k:Hi (V=Dr∧U=Ds):=by
    refine⟨m.o.1.symm.trans ?_,m.o.2.symm.trans ?_⟩
    ·unfold nN;rw[if_neg (by rw[b.2];decide)]
    ·unfold mH;rw[if_neg (by rw[b.2];decide)]
   clear b;go_wp2_with (first|(with_reducible refine bB 69 (w.heap.size+1) 5 _ 69 fA rfl rfl rfl rfl (⟨_,aF.nth d.o p.o 0 rfl,rfl⟩) ?_;intro P l))
   have g:=bL.below d.o.1 l (by omega);refine bodyPost_ret (di rfl rfl l.here ic fA rfl) rfl ?_;rw[r.o,k.o.1,k.o.2];exact⟨rfl,g⟩
theorem Bh (X:bK) (s:ByteArray) {V:mW} {E:Bool} (b:eM X s=V) (a:bZ X.nI X.nn s=E):dU X s=(E&&decide (V.kd=1)):=by
 unfold dU;rw[a];cases E
 ·rfl
 ·rw[←b];unfold eM;rw[if_pos a]
theorem sg (X:bK) (S:dq) (s:ByteArray) (w:World) (h:Hi (cJ w X S)):
 Gv 40 #[.agg (bH X S),.string s] (.bool (dU X s)) w:=by
 have f:cJ w X S:=h.o;obtain⟨V,e⟩:=oE (eM X s);obtain⟨E,d⟩:=oE (bZ X.nI X.nn s);have c:Hi (∀W,Below w.heap.size w W→Gv 32 #[.agg (bH X S),.string s] (.tuple #[.agg #[.string V.id,V.kd,.string V.up],.bool E]) W):=fun W i=>by
  have:=js X S s W (f.below i);rw[e,d]at this;exact this
 rw[Bh X s e d];clear h f e d;obtain⟨p,cn,q,l,u,r,cs,o,k,t,n,j⟩:=S;unfold bH at c⊢
 dsimp only at c⊢
 generalize g:decide (V.kd=1)=K;have m:(V.kd==1)=K:=by rw[←g];rfl
 clear g;go_enter func40,ntmps40;go_wp2_with fail
 (go_at_call 32;refine mz (c.o _ (by go_grown)) fun v b=> ?_);have a:=ar (ag (w:=w) (by go_grown) b);have x:=a.o.size;clear b;cases E
 all_goals
  go_wp2;go_returns;refine⟨?_,by have:=a.o;go_grown⟩
  first|rfl|simp
def lh (q:tW):Prop:=(jZ q.id=true∧jZ q.a=true∧jZ q.b=true)∧q.a≠q.b∧(q.kd=1∨q.kd=2)∧1≤q.ln∧q.ln≤32768∧1≤q.cl∧q.cl≤3
theorem sj (j a b:ByteArray) (k g f:Int) (w:World) (z:j.size≤2147483648) (K:a.size≤2147483648) (N:b.size≤2147483648):
 Calls prog 38 #[.agg #[.string j,.string a,.string b,k,g,f]] w (dL (lh ⟨j,a,b,k,g,f⟩) w):=by
 obtain⟨Iid,c⟩:=oE (jZ j);have m:Hi (∀W,Gv 33 #[.string j] (.bool Iid) W):=fun W=>by rw[←c];exact iA j W z
 have l:=ar c;clear c;obtain⟨o,h⟩:=oE (jZ a);have v:Hi (∀W,Gv 33 #[.string a] (.bool o) W):=fun W=>by rw[←h];exact iA a W K
 have t:=ar h;clear h;obtain⟨p,i⟩:=oE (jZ b);have x:Hi (∀W,Gv 33 #[.string b] (.bool p) W):=fun W=>by rw[←i];exact iA b W N
 have u:=ar i;clear i;go_enter func38,ntmps38;go_wp2_with fail
 (go_at_call 33;refine mz (m.o _) fun Q n=> ?_);obtain⟨L,B,A⟩:=aF.ex (aF.step ((aF.nil (ah w.heap.size w)).alloc (w.heap.size) rfl _ _) n);have y:=ar B;have r:=ar A;clear B A n;obtain⟨-,F,-,q,-,-,-,-⟩:=aJ (aF.nth r.o y.o 0 rfl);obtain rfl|rfl:Iid=false∨Iid=true:=by cases Iid<;>simp
 ·go_wp2;go_returns;exact bS (by decide) r.o.1
 go_wp2_with fail
 (go_at_call 33;refine cy (v.o _) r fun R s=> ?_);clear F q;obtain⟨-,-,G,q,-,-,-,-⟩:=aJ (aF.nth s.o y.o 0 rfl);obtain rfl|rfl:o=false∨o=true:=by cases o<;>simp
 ·go_wp2;go_returns;exact bS (by decide) s.o.1
 go_wp2_with fail
 (go_at_call 33;refine cy (x.o _) s fun T d=> ?_);clear G q;obtain⟨-,F,G,q,U,X,-,-⟩:=aJ (aF.nth d.o y.o 0 rfl);obtain rfl|rfl:p=false∨p=true:=by cases p<;>simp
 ·go_wp2;go_returns;exact bS (by decide) d.o.1
 obtain⟨E,J⟩:=oE ((a.toList==b.toList));have H:=ar J;obtain rfl|rfl:E=true∨E=false:=by cases E<;>simp
 ·go_wp2;go_returns;exact bS (by decide) d.o.1
 by_cases c1:k=1∨k=2;rotate_left
 ·have C:(k !=1)=true:=by simp;omega
  have D:(k !=2)=true:=by simp;omega
  go_wp2;go_returns;exact bS (by decide) d.o.1
 by_cases d0:g<1
 ·have O:decide (g<1)=true:=decide_eq_true d0;rcases c1 with rfl|rfl
  all_goals
   go_wp2;go_returns;exact bS (by decide) d.o.1
 have O:decide (g<1)=false:=decide_eq_false d0;by_cases d1:32768<g
 ·have C:decide (32768<g)=true:=decide_eq_true d1;rcases c1 with rfl|rfl
  all_goals
   go_wp2;go_returns;exact bS (by decide) d.o.1
 have C:decide (32768<g)=false:=decide_eq_false d1;by_cases d2:f<1
 ·have D:decide (f<1)=true:=decide_eq_true d2;rcases c1 with rfl|rfl
  all_goals
   go_wp2;go_returns;exact bS (by decide) d.o.1
 have D:decide (f<1)=false:=decide_eq_false d2;by_cases d3:3<f
 ·have P:decide (3<f)=true:=decide_eq_true d3;rcases c1 with rfl|rfl
  all_goals
   go_wp2;go_returns;exact bS (by decide) d.o.1
 have P:decide (3<f)=false:=decide_eq_false d3;have I:Hi (lh ⟨j,a,b,k,g,f⟩):=⟨⟨l.o,t.o,u.o⟩,fun e=>by have:=H.o;simp only[show a=b from e]at this;simp at this,c1,by dsimp only;omega⟩;rcases c1 with rfl|rfl
 all_goals
  go_wp2;go_returns;exact mX I.o d.o.1
theorem ye (X:bK) (S:dq) (w:World) (h:Hi (cJ w X S)) (o:Hi (eY X)):
 Calls prog 15 #[.agg (bH X S)] w (dL (∀i,i<X.ns→lh (X.Q i)∧bZ X.pI X.np (X.Q i).a=true∧bZ X.pI X.np (X.Q i).b=true) w):=by
 have hn:=(h.o.s).lim;have h0:cJ w X S:=h.o;obtain⟨G,HN⟩:∃G:ByteArray→cN,Hi (∀W q,Below w.heap.size w W→Gv 39 #[.agg (bH X S),.string q] (.tuple #[.agg (aH (gK X q) (G q)),.bool (bZ X.pI X.np q)]) W):=⟨jT X S,fun W q d=>pA X S q W (h0.below d)⟩;clear h0;obtain⟨on,cn,op,cp,sp,os,cs,ok,ck,sk,od,cd⟩:=S;unfold bH at HN⊢
 dsimp only at hn HN⊢
 go_enter func15,ntmps15;go_wp2;obtain⟨L,hL,h0⟩:=aF.ex ((aF.nil (ah w.heap.size w)).alloc (w.heap.size) rfl _ _);have HL:=ar hL;have H0:=ar h0;clear hL h0;go_loopw[3] (fun i wr=>∃j:Nat,j≤X.ns∧i= .int .i64 j∧Hi (∀i,i<j→lh (X.Q i)∧bZ X.pI X.np (X.Q i).a=true∧bZ X.pI X.np (X.Q i).b=true)∧aF w wr L) (fun i _=>X.ns-(intOf i).toNat)
 case atStart=>exact⟨0,by omega,rfl,fun i hi=>absurd hi (by omega),H0.o⟩
 case round=>
  obtain⟨y,rfl⟩:=wE wr;obtain⟨j,hj,rfl,hm,hO⟩:=hrel;have F:=ar hO;clear hO;obtain⟨-,-,-,x3,-,-,-,-⟩:=aJ (aF.nth F.o HL.o 0 rfl);by_cases hlt:j<X.ns
  ·obtain⟨n,B,rfl,a5,N⟩:=bs.at (h.o.s) (fun _=>rfl) hlt;have K:Hi (∀W,aF w W L→∀q u,((X.Q j).c)[q]?=some u→W.cell? (n,B+j*6+q)=some u):=fun W hW q u hq=>bI hW.1 a5 (N j hlt q u hq);have c7:n<y.heap.size:=aM a5 F.o.1.size;clear N;have c0:y.cell? (n,B+j*6)=some (.string (X.Q j).id):=K.o y F.o 0 _ rfl;have c1:y.cell? (n,B+j*6+1)=some (.string (X.Q j).a):=K.o y F.o 1 _ rfl;have c2:y.cell? (n,B+j*6+2)=some (.string (X.Q j).b):=K.o y F.o 2 _ rfl;have c3:y.cell? (n,B+j*6+3)=some (.int .i64 (X.Q j).kd):=K.o y F.o 3 _ rfl;have c4:y.cell? (n,B+j*6+4)=some (.int .i64 (X.Q j).ln):=K.o y F.o 4 _ rfl;have c5:y.cell? (n,B+j*6+5)=some (.int .i64 (X.Q j).cl):=K.o y F.o 5 _ rfl;obtain⟨V0,H⟩:=oE (gK X (X.Q j).a);obtain⟨U0,hU⟩:=oE (G (X.Q j).a);obtain⟨B0,Q⟩:=oE (bZ X.pI X.np (X.Q j).a);have b5:Hi (∀W,Below w.heap.size w W→Gv 39 #[.agg #[.string X.hull,.slice on X.nn cn,.slice op X.np cp,.slice (some ⟨n,B,none⟩) X.ns cs,.slice ok X.nk ck,.slice od X.nd cd],.string (X.Q j).a] (.tuple #[.agg (aH V0 U0),.bool B0]) W):=fun W d=>by
    have:=HN.o W (X.Q j).a d;rw[H,hU,Q]at this;exact this
   have a6:=ar Q;clear H hU Q;obtain⟨V1,H⟩:=oE (gK X (X.Q j).b);obtain⟨U1,hU⟩:=oE (G (X.Q j).b);obtain⟨B1,R⟩:=oE (bZ X.pI X.np (X.Q j).b);have b6:Hi (∀W,Below w.heap.size w W→Gv 39 #[.agg #[.string X.hull,.slice on X.nn cn,.slice op X.np cp,.slice (some ⟨n,B,none⟩) X.ns cs,.slice ok X.nk ck,.slice od X.nd cd],.string (X.Q j).b] (.tuple #[.agg (aH V1 U1),.bool B1]) W):=fun W d=>by
    have:=HN.o W (X.Q j).b d;rw[H,hU,R]at this;exact this
   have a7:=ar R;clear H hU R;have s1:=(o.o.s j hlt).1;have s2:=(o.o.s j hlt).2.1;have s3:=(o.o.s j hlt).2.2;have b8:Hi (∀W,Calls prog 38 #[.agg #[.string (X.Q j).id,.string (X.Q j).a,.string (X.Q j).b,(X.Q j).kd,(X.Q j).ln,(X.Q j).cl]] W (dL (lh (X.Q j)) W)):=fun W=>sj _ _ _ _ _ _ W (by omega) (by omega) (by omega);clear s1 s2 s3;go_wp2_with fail
   (go_at_call 38;refine(b8.o _).mono ?_;rintro e_ w3 ⟨c,rfl,a0,T⟩);have b1:=ar a0;have Y:=ar (aF.step F.o T);have c8:n<w3.heap.size:=aM c7 T.size;have d6:=Y.o.len HL.o 0 rfl;clear T a0 c0 c1 c2 c3 c4 c5;clear x3;obtain⟨x0,x1,x2,x3,x4,x5,-,-⟩:=aJ (aF.nth Y.o HL.o 0 rfl);have c1:w3.cell? (n,B+j*6+1)=some (.string (X.Q j).a):=K.o w3 Y.o 1 _ rfl;by_cases hc0:c=0
   ·subst hc0;go_wp2_with fail
    refine dd 14 [⟨11,12,(aH jE je),62⟩] [] (by kernel_rfl) (by kernel_rfl) (by kernel_rfl) (by kernel_rfl) (by kernel_rfl) ?_ ?_ ?_
    ·intro r U;cases U
    ·intro r U;cases U
    simp only[ac,aj,aK,aC,aa,ae,af];iterate 7
     apply dE (by kernel_rfl)
     ·intro u f d l;replace d:=d.nil;have o:=dx d;have p:w.heap.size<f.heap.size:=by omega
      have s:n<f.heap.size:=by omega
      obtain⟨I,J⟩:=br d;have m:=ar d;clear d o;simp[cL,ai,dK,bN,dm.is,dm.any]at l;go_simp
      first|exact⟨ah _ _,rfl⟩|rfl
    apply dE (by kernel_rfl)
    ·intro u f d l;replace d:=d.nil;have o:=dx d;have p:w.heap.size<f.heap.size:=by omega
     have s:n<f.heap.size:=by omega
     obtain⟨I,J⟩:=br d;have m:=ar d;clear d o;simp[cL,ai,dK,bN,dm.is,dm.any]at l;go_simp
     first|rfl|(go_at_call 39;refine(b5.o _ (ag Y.o.1 m.o)).mono ?_;rintro e w1 ⟨rfl,C⟩;first|exact⟨rfl,C⟩|exact⟨_,rfl,C,rfl⟩)
    iterate 3
     apply dE (by kernel_rfl)
     ·intro u f d l;replace d:=d.nil;have o:=dx d;have p:w.heap.size<f.heap.size:=by omega
      have s:n<f.heap.size:=by omega
      obtain⟨I,J⟩:=br d;have m:=ar d;clear d o;simp[cL,ai,dK,bN,dm.is,dm.any]at l;go_simp
      first|exact⟨ah _ _,rfl⟩|rfl
    refine dZ ⟨11,12,(aH jE je),62⟩ (by simp) rfl ?_ ?_
    ·intro u f d;refine⟨by simp[au],?_⟩;go_simp
     first|done|rfl|exact⟨rfl,rfl⟩
    apply cC ⟨11,12,(aH jE je),62⟩ (by simp) rfl (by kernel_rfl) rfl (by kernel_rfl)
    ·intro u f d l;replace d:=d.nil;have o:=dx d;have p:w.heap.size<f.heap.size:=by omega
     have s:n<f.heap.size:=by omega
     obtain⟨I,J⟩:=br d;have m:=ar d;clear d o;simp[cL,ai,dK,bN,dm.is,dm.any]at l;refine⟨by simp[au],fun b' D b9 k=> ?_⟩;exact gQ 62 b' 18 (aH jE je) (aH V0 U0) 62 bv (by first|exact D|simpa [Act.eval]using D) (by first|exact l.1|exact l.2.1|exact l|simp[Act.eval,l]) rfl rfl rfl k (fun _=>fY k)
    apply dE (by kernel_rfl)
    ·intro u f d l;replace d:=d.nil;have o:=dx d;have p:w.heap.size<f.heap.size:=by omega
     have s:n<f.heap.size:=by omega
     obtain⟨I,J⟩:=br d;have m:=ar d;clear d o;simp[cL,ai,dK,bN,dm.is,dm.any]at l;go_simp
     first|exact⟨ah _ _,rfl⟩|rfl
    intro u w4 d g H hP;replace d:=d.nil;clear hP;have Z:u 0=_:=eE g 0;have e1:u 1=_:=eE g 1;have e2:u 2=_:=eE g 2;have e3:u 3=_:=eE g 3;have e4:u 4=_:=eE g 4;have e5:u 5=_:=eE g 5;have e6:u 6=_:=eE g 6;have e7:u 7=_:=eE g 7;have e8:u 8=_:=eE g 8;have e9:u 9=_:=eE g 9;have z:u 10=_:=eE g 10;have x:u 12=_:=eE g 12;have A:u 13=_:=eE g 13;obtain⟨⟨VA,t,E,v⟩,-,-⟩:=H;replace v:w4.heap[VA]?=some (.cells (u 12).cells 62):=v;rw[x]at v;replace t:u 11= .pointer (some VA):=t;clear v;(try simp only[aw,aT]at E);(try have d3:w3.heap.size≤VA:=by omega);clear E;simp only[am,ax,ac,aj,aK,aC,aa,ae,af,Z,e1,e2,e3,e4,e5,e6,e7,e8,e9,z,x,A,t];clear Z e1 e2 e3 e4 e5 e6 e7 e8 e9 z x A t g;have O:=ar d;have d5:=ag (w:=w3) (by first|assumption|go_grown) d;obtain⟨d1,c9,a1,a3,a8⟩:=pr d;clear d;have H4:=ar (aF.step Y.o O.o);clear a1 a3 c1;clear x3;obtain⟨x0,x1,x2,x3,x4,x5,-,-⟩:=aJ (aF.nth H4.o HL.o 0 rfl);have c2:w4.cell? (n,B+j*6+2)=some (.string (X.Q j).b):=K.o w4 H4.o 2 _ rfl;go_wp2_with fail
    refine dd 14 [⟨11,12,(aH jE je),62⟩] [] (by kernel_rfl) (by kernel_rfl) (by kernel_rfl) (by kernel_rfl) (by kernel_rfl) ?_ ?_ ?_
    ·intro r U;cases U
    ·intro r U;cases U
    simp only[ac,aj,aK,aC,aa,ae,af];iterate 7
     apply dE (by kernel_rfl)
     ·intro u f d l;replace d:=d.nil;have o:=dx d;have p:w.heap.size<f.heap.size:=by omega
      have s:n<f.heap.size:=by omega
      obtain⟨I,J⟩:=br d;have m:=ar d;clear d o;simp[cL,ai,dK,bN,dm.is,dm.any]at l;go_simp
      first|exact⟨ah _ _,rfl⟩|rfl
    apply dE (by kernel_rfl)
    ·intro u f d l;replace d:=d.nil;have o:=dx d;have p:w.heap.size<f.heap.size:=by omega
     have s:n<f.heap.size:=by omega
     obtain⟨I,J⟩:=br d;have m:=ar d;clear d o;simp[cL,ai,dK,bN,dm.is,dm.any]at l;go_simp
     first|rfl|(go_at_call 39;refine(b6.o _ (ag H4.o.1 m.o)).mono ?_;rintro e w1 ⟨rfl,C⟩;first|exact⟨rfl,C⟩|exact⟨_,rfl,C,rfl⟩)
    iterate 3
     apply dE (by kernel_rfl)
     ·intro u f d l;replace d:=d.nil;have o:=dx d;have p:w.heap.size<f.heap.size:=by omega
      have s:n<f.heap.size:=by omega
      obtain⟨I,J⟩:=br d;have m:=ar d;clear d o;simp[cL,ai,dK,bN,dm.is,dm.any]at l;go_simp
      first|exact⟨ah _ _,rfl⟩|rfl
    refine dZ ⟨11,12,(aH jE je),62⟩ (by simp) rfl ?_ ?_
    ·intro u f d;refine⟨by simp[au],?_⟩;go_simp
     first|done|rfl|exact⟨rfl,rfl⟩
    apply cC ⟨11,12,(aH jE je),62⟩ (by simp) rfl (by kernel_rfl) rfl (by kernel_rfl)
    ·intro u f d l;replace d:=d.nil;have o:=dx d;have p:w.heap.size<f.heap.size:=by omega
     have s:n<f.heap.size:=by omega
     obtain⟨I,J⟩:=br d;have m:=ar d;clear d o;simp[cL,ai,dK,bN,dm.is,dm.any]at l;refine⟨by simp[au],fun b' D b9 k=> ?_⟩;exact gQ 62 b' 18 (aH jE je) (aH V1 U1) 62 bv (by first|exact D|simpa [Act.eval]using D) (by first|exact l.1|exact l.2.1|exact l|simp[Act.eval,l]) rfl rfl rfl k (fun _=>fY k)
    apply dE (by kernel_rfl)
    ·intro u f d l;replace d:=d.nil;have o:=dx d;have p:w.heap.size<f.heap.size:=by omega
     have s:n<f.heap.size:=by omega
     obtain⟨I,J⟩:=br d;have m:=ar d;clear d o;simp[cL,ai,dK,bN,dm.is,dm.any]at l;go_simp
     first|exact⟨ah _ _,rfl⟩|rfl
    intro u w5 d g H hP;replace d:=d.nil;clear hP;have Z:u 0=_:=eE g 0;have e1:u 1=_:=eE g 1;have e2:u 2=_:=eE g 2;have e3:u 3=_:=eE g 3;have e4:u 4=_:=eE g 4;have e5:u 5=_:=eE g 5;have e6:u 6=_:=eE g 6;have e7:u 7=_:=eE g 7;have e8:u 8=_:=eE g 8;have e9:u 9=_:=eE g 9;have z:u 10=_:=eE g 10;have x:u 12=_:=eE g 12;have A:u 13=_:=eE g 13;obtain⟨⟨VB,t,E,v⟩,-,-⟩:=H;replace v:w5.heap[VB]?=some (.cells (u 12).cells 62):=v;rw[x]at v;replace t:u 11= .pointer (some VB):=t;clear v;(try simp only[aw,aT]at E);(try have d4:w4.heap.size≤VB:=by omega);clear E;simp only[am,ax,ac,aj,aK,aC,aa,ae,af,Z,e1,e2,e3,e4,e5,e6,e7,e8,e9,z,x,A,t];clear Z e1 e2 e3 e4 e5 e6 e7 e8 e9 z x A t g;have P:=ar d;obtain⟨d2,d0,a2,a4,a9⟩:=pr d;clear d;have H5:=ar (aF.step H4.o P.o);clear a2 a4;clear x3;cases B0 with
    |false=>
     go_wp2;go_returns;exact bS (by decide) H5.o.1
    |true=>
     cases B1 with
     |false=>
      go_wp2;go_returns;exact bS (by decide) H5.o.1
     |true=>
      have c6:Hi (∀i,i<j+1→lh (X.Q i)∧bZ X.pI X.np (X.Q i).a=true∧bZ X.pI X.np (X.Q i).b=true):=fun i hi=>by
       by_cases e:i=j
       ·rw[e];exact⟨b1.o (by trivial),a6.o,a7.o⟩
       ·exact hm.o i (by omega)
      go_wp2;go_roundw
      case rel=>exact⟨j+1,by omega,by go_num,c6,H5.o⟩
      case measure=>simp[intOf];omega
   ·have k1:(c !=0)=true:=by simp;omega
    have b0:=ar hc0;clear hc0;go_wp2;go_returns;exact bS b0.o Y.o.1
  ·have HT:Hi (∀i,i<X.ns→lh (X.Q i)∧bZ X.pI X.np (X.Q i).a=true∧bZ X.pI X.np (X.Q i).b=true):=fun i hi=>hm.o i (by omega);go_wp2;go_returns;exact mX HT.o F.o.1
theorem wF (a b:qg) (w:World):Gv 30 #[.agg #[a.kd,.string a.bl,.string a.on],.agg #[b.kd,.string b.bl,.string b.on]] (.bool (lq a b)) w:=by
 generalize c:lq a b=R;unfold lq tj at c;by_cases h1:a.kd=b.kd
 ·rw[if_pos h1]at c;have d:(a.kd !=b.kd)=false:=by simp[h1]
  by_cases h2:a.bl=b.bl
  ·rw[if_pos h2]at c;have f:(a.bl.toList==b.bl.toList)=true:=by rw[h2];simp
   clear h1 h2;go_enter func30,ntmps30;go_wp2;go_returns;exact⟨rfl,by go_grown⟩
  ·rw[if_neg h2]at c;have f:(a.bl.toList==b.bl.toList)=false:=by simpa using fun e=>h2 (ee e)
   clear h1 h2;go_enter func30,ntmps30;go_wp2;go_returns;exact⟨rfl,by go_grown⟩
 ·rw[if_neg h1]at c;have d:(a.kd !=b.kd)=true:=by simpa using h1
  clear h1;go_enter func30,ntmps30;go_wp2;go_returns;exact⟨rfl,by go_grown⟩
def qQ (n:Nat) (w:World) (e:Ending) (w':World):Prop:=∃o c,e= .returned (.slice o n c)∧Below w.heap.size w w'
theorem yg (X:bK) (S:dq) (s:ByteArray) (w:World) (h:Hi (cJ w X S)) (hs:bZ X.nI X.nn s=true):
 Calls prog 35 #[.agg (bH X S),.string s] w (qQ ((jr X s).getD []).length w):=by
 obtain⟨i0,hi,Z,a0,a1⟩:=info_parts iQ;have O:cJ w X S:=h.o;obtain⟨V,hV⟩:=oE (eM X s);obtain⟨l,D⟩:=oE ((jr X s).getD []);obtain⟨E,hE⟩:=oE ((jr X s).isSome);have o:Hi (l.length≤65):=by
  show l.length≤65;rw[←D];cases e:jr X s with
  |none=>simp
  |some l'=>have:=mG e;simpa using this.2
 have J:Hi (∀W,Below w.heap.size w W→Gv 32 #[.agg (bH X S),.string s] (.tuple #[.agg #[.string V.id,V.kd,.string V.up],.bool true]) W):=fun W P=>by
  have:=js X S s W (O.below P);rw[hV,hs]at this;exact this
 have N:Hi (∀W,Below w.heap.size w W→Calls prog 34 #[.agg (bH X S),.string s] W (fun e w'=>∃v,e= .returned (.tuple #[v,.bool E])∧Dq w' v l∧Below W.heap.size W w')):=fun W P=>by
  have:=uT X S s W (O.below P);unfold gj at this;rw[hE,D]at this;exact this
 rw[D];obtain⟨n,hn⟩:=oE l.length;have I:=ar hn;rw[hn]at o⊢
 clear h O hs hV D hE hn;obtain⟨on,cn,op,cp,sp,os,cs,ok,ck,sk,od,cd⟩:=S;unfold bH at J N⊢
 dsimp only at J N⊢
 go_enter func35,ntmps35;go_wp2_with fail
 (go_at_call 32;refine mz (J.o _ (by go_grown)) fun w3 k=> ?_);have F:=ar (aF.step ((aF.nil (ah w.heap.size w)).alloc (w.heap.size) rfl _ _) k);have z3:=k.size;simp only[aw]at z3;clear k;obtain⟨x0,x1,x2,x3,x4,x5,-,xz⟩:=aJ (F.o.get 0 rfl);go_wp2_with fail
 (go_at_call 34;refine(N.o _ (by have:=F.o.1;go_grown)).mono ?_;rintro e_ d ⟨v,rfl,B,x⟩);have c:bs d v n 1 (fun i=>#[.string (l.getD i ⟨#[]⟩)]):=by
  have h9:bs d v l.length 1 (fun i=>#[.string (l.getD i ⟨#[]⟩)]):=B
  rwa [I.o]at h9
 obtain⟨oa,ca,rfl,a2,-,-⟩:=c.form (fun _=>rfl);have HS:=ar c;have G:Hi (Below w.heap.size w d):=ag (w:=w) (by have:=F.o.1;go_grown) x;clear x B c x0 x1 x2 x3 x4 x5 xz;have a3:=o.o;have u0:IntKind.i64.wrap ((n:Int)-1)=(n:Int)-1:=iw;go_wp2;go_loopw[12,13] (fun v i wr=>∃(p:Nat) (g:List ByteArray),p≤n∧i= .int .i64 ((p:Int)-1)∧Hi (g.length+p=n)∧Hi (wr.ownsRow d.heap.size 9 1 v g.length (g.map Value.string))∧Below d.heap.size d wr) (fun _ i _=>(intOf i+1).toNat)
 case atStart=>exact⟨n,[],by omega,rfl,by show _=_;simp,World.ownsRow_nil _ _ _ _,ah _ _⟩
 case round=>
  obtain⟨w6,rfl⟩:=wE wr;obtain⟨r,g,hr,rfl,f,L,m⟩:=hrel;by_cases hlt:0<r
  ·obtain⟨p,T⟩:∃p:Nat,(r:Int)-1=p:=⟨r-1,by omega⟩;have HP:=ar T;have A:p<n:=by omega
   rw[T];obtain⟨bc,fc,rfl,Q,z⟩:=bs.at HS.o (fun _=>rfl) A;have c0:w6.cell? (bc,fc+p)=some (l.getD p ⟨#[]⟩):=bI m Q (by have:=z p A 0 _ rfl;rwa [Nat.mul_one,Nat.add_zero]at this);obtain⟨y,hy⟩:=oE (l.getD p ⟨#[]⟩);rw[hy]at c0;clear hy;have u1:=dS p;have u2:(p:Int)<(n:Int):=by omega
   have u3:IntKind.i64.wrap ((p:Int)-1)=(p:Int)-1:=iw;clear z T;go_wp2_with (first|(at_builtin;refine wpList_append_own _ rfl _ _ 67 rfl (d.heap.size) 9 i0 (.string ⟨#[]⟩) 1 16 underlying67 hi Z a0 a1 rfl (by decide) _ _ _ rfl (L.o.alloc _) ⟨w6.heap.size,0,none⟩ 1 1 [(.string y)] rfl rfl ?c1 ?c2 ?c3 ?c4 ?c5 ?_)|go_in)
   case c1=>
    intro j u C
    match j,C with
    |0,C=>
     simp at C;subst C;simp[Addr.add]
     try rfl
   case c2=>intro u Y;simp at Y;(first|(subst Y;rfl)|(rcases Y with rfl<;>rfl))
   case c3=>unfold maxLen;have:=f.o;omega
   case c4=>have:=f.o;omega
   case c5=>have:=m.size;simp;omega
   intro v' w7 b a _;have t:Below d.heap.size d w7:=Below.grown (m.alloc m.size _) a (by have:=m.size;first|omega|(simp;omega)) (fun q hq=>bU L.o q hq);have K:Hi (w7.ownsRow d.heap.size 9 1 v' (g++ [y]).length ((g++ [y]).map Value.string)):=by
    show w7.ownsRow _ _ _ _ _ _;rw[aZ,List.map_append];exact b
   have H:=ar t;clear b a t;go_wp2;go_roundw
   case rel=>exact⟨p,g++ [y],by omega,rfl,(by show _=_;have:=f.o;have:=HP.o;rw[aZ];simp;omega),K,H.o⟩
   case measure=>first|(simp[intOf];done)|(simp[intOf];omega)
  ·have U:r=0:=by omega
   subst U;have k1:((0:Nat):Int)-1= -1:=rfl;rw[k1];have R:g.length=n:=by have:=f.o;omega
   subst R;obtain⟨ov,cv,rfl,-,-,-⟩:=(rZ L.o).form (fun _=>rfl);go_wp2;go_returns;unfold qQ;exact⟨_,_,rfl,ag G.o m⟩
def oJ (X:bK):Prop:=(∀i,i<X.nn→jZ (X.nI i)=true∧((X.N i).kd=1∧(X.N i).up=⟨#[]⟩∨(X.N i).kd=2∧bZ X.nI X.nn (X.N i).up=true))∧∀i,i<X.nn→∃l,jr X (X.nI i)=some l∧l.length≤8
theorem qR {s:ByteArray} (h:(s.toList==([]:List UInt8))=true):s=⟨#[]⟩:=ee (by
 have e:s.toList= []:=by simpa using h
 exact e.trans (show []=(⟨#[]⟩:ByteArray).toList by kernel_rfl))
theorem yh (X:bK) (S:dq) (w:World) (h:Hi (cJ w X S)) (J:Hi (eY X)):
 Calls prog 13 #[.agg (bH X S)] w (dL (oJ X) w):=by
 have hn:=(h.o.n).lim;have Q:cJ w X S:=h.o;have HN:Hi (∀W q,Below w.heap.size w W→Gv 32 #[.agg (bH X S),.string q] (.tuple #[.agg (eM X q).c,.bool (bZ X.nI X.nn q)]) W):=fun W q d=>js X S q W (Q.below d);have P:Hi (∀W q,Below w.heap.size w W→Calls prog 34 #[.agg (bH X S),.string q] W (gj X q W)):=fun W q d=>uT X S q W (Q.below d);have O:Hi (∀W q,Below w.heap.size w W→bZ X.nI X.nn q=true→Calls prog 35 #[.agg (bH X S),.string q] W (qQ ((jr X q).getD []).length W)):=fun W q d hs=>yg X S q W (Q.below d) hs;clear Q;obtain⟨on,cn,op,cp,sp,os,cs,ok,ck,sk,od,cd⟩:=S;unfold bH at HN P O⊢
 dsimp only at hn HN P O⊢
 go_enter func13,ntmps13;go_wp2;obtain⟨L,hL,Q⟩:=aF.ex ((aF.nil (ah w.heap.size w)).alloc (w.heap.size) rfl _ _);have HL:=ar hL;have H0:=ar Q;clear hL Q;go_loopw[3] (fun i wr=>∃j:Nat,j≤X.nn∧i= .int .i64 j∧Hi (∀i,i<j→jZ (X.nI i)=true∧((X.N i).kd=1∧(X.N i).up=⟨#[]⟩∨(X.N i).kd=2∧bZ X.nI X.nn (X.N i).up=true))∧aF w wr L) (fun i _=>X.nn-(intOf i).toNat)
 case atStart=>exact⟨0,by omega,rfl,fun i t=>absurd t (by omega),H0.o⟩
 case round=>
  obtain⟨y,rfl⟩:=wE wr;obtain⟨j,hj,rfl,C,H⟩:=hrel;have b:=ar H;clear H;obtain⟨x0,x1,x2,x3,x4,x5,xf,xz⟩:=aJ (aF.nth b.o HL.o 0 rfl);by_cases hlt:j<X.nn
  ·obtain⟨E,p⟩:=oE (bZ X.nI X.nn (X.N j).up);obtain⟨V,hV⟩:=oE (eM X (X.N j).up);obtain⟨I,hI⟩:=oE (jZ (X.N j).id);have HE:=ar p;have a0:=ar hI;obtain⟨s,D,rfl,f,a⟩:=bs.at (h.o.n) (fun _=>rfl) hlt;have c0:y.cell? (s,D+j*3)=some (.string (X.N j).id):=bI b.o.1 f (a j hlt 0 _ rfl);have F:y.cell? (s,D+j*3+1)=some (.int .i64 (X.N j).kd):=bI b.o.1 f (a j hlt 1 _ rfl);have G:y.cell? (s,D+j*3+2)=some (.string (X.N j).up):=bI b.o.1 f (a j hlt 2 _ rfl);clear a;have a7:Hi (∀W,Below w.heap.size w W→Gv 32 #[.agg #[.string X.hull,.slice (some ⟨s,D,none⟩) X.nn cn,.slice op X.np cp,.slice os X.ns cs,.slice ok X.nk ck,.slice od X.nd cd],.string (X.N j).up] (.tuple #[.agg #[.string V.id,V.kd,.string V.up],.bool E]) W):=fun W d=>by
    have:=HN.o W (X.N j).up d;rw[hV,p]at this;exact this
   have HI:Hi (∀W,Gv 33 #[.string (X.N j).id] (.bool I) W):=fun W=>by rw[←hI];exact iA _ W (by have:=(J.o.n j hlt).1;omega)
   clear p hV hI;go_wp2_with fail
   (go_at_call 32;refine mz (a7.o _ (by have:=b.o.1;go_grown)) fun w3 a2=> ?_);have H3:=ar (aF.step (b.o.alloc y.heap.size rfl _ _) a2);clear a2 c0 F G;clear x0 x1 x2 x3 x4 x5 xf xz;obtain⟨y0,-,-,-,yz⟩:=bV (H3.o.get 0 rfl);go_wp2_with fail
   (go_at_call 33;refine mz (HI.o _) fun w4 a3=> ?_);have N:=ar (aF.tail (aF.step (H3.o.alloc w3.heap.size rfl _ _) a3));clear a3 y0 yz;obtain⟨-,y1,y2,-,-⟩:=bV (N.o.get 0 rfl);obtain rfl|rfl:I=false∨I=true:=by cases I<;>simp
   ·go_wp2;go_returns;exact bS (by decide) N.o.1
   by_cases F:(X.N j).kd=1
   ·have k1:((X.N j).kd==1)=true:=by simp[F]
    have k2:((X.N j).kd !=1)=false:=by simp[F]
    have k3:((X.N j).kd==2)=false:=by simp[F]
    have C1:=ar F;obtain⟨B,hB⟩:=oE (((X.N j).up.toList==([]:List UInt8)));have HB:=ar hB;clear F;obtain rfl|rfl:B=false∨B=true:=by cases B<;>simp
    ·go_wp2;go_returns;exact bS (by decide) N.o.1
    have r:Hi (∀i,i<j+1→jZ (X.nI i)=true∧((X.N i).kd=1∧(X.N i).up=⟨#[]⟩∨(X.N i).kd=2∧bZ X.nI X.nn (X.N i).up=true)):=fun i t=>by
     by_cases e:i=j
     ·rw[e];exact⟨a0.o,.inl ⟨C1.o,qR HB.o⟩⟩
     ·exact C.o i (by omega)
    go_wp2;go_roundw
    case rel=>exact⟨j+1,by omega,by go_num,r,N.o.tail⟩
    case measure=>simp[intOf];omega
   by_cases G:(X.N j).kd=2
   ·have k1:((X.N j).kd==1)=false:=by simp[G]
    have k2:((X.N j).kd !=1)=true:=by simp[G]
    have k3:((X.N j).kd==2)=true:=by simp[G]
    have k4:((X.N j).kd !=2)=false:=by simp[G]
    have C1:=ar G;clear F G;obtain rfl|rfl:E=false∨E=true:=by cases E<;>simp
    ·go_wp2;go_returns;exact bS (by decide) N.o.1
    have r:Hi (∀i,i<j+1→jZ (X.nI i)=true∧((X.N i).kd=1∧(X.N i).up=⟨#[]⟩∨(X.N i).kd=2∧bZ X.nI X.nn (X.N i).up=true)):=fun i t=>by
     by_cases e:i=j
     ·rw[e];exact⟨a0.o,.inr ⟨C1.o,HE.o⟩⟩
     ·exact C.o i (by omega)
    go_wp2;go_roundw
    case rel=>exact⟨j+1,by omega,by go_num,r,N.o.tail⟩
    case measure=>simp[intOf];omega
   have k2:((X.N j).kd !=1)=true:=by simpa using F
   have k4:((X.N j).kd !=2)=true:=by simpa using G
   go_wp2;go_returns;exact bS (by decide) N.o.1
  ·have a5:Hi (∀i,i<X.nn→jZ (X.nI i)=true∧((X.N i).kd=1∧(X.N i).up=⟨#[]⟩∨(X.N i).kd=2∧bZ X.nI X.nn (X.N i).up=true)):=fun i t=>C.o i (by omega);have H1:=b;clear C b;go_wp2;clear hj hlt;go_loopw[7] (fun i wr=>∃j:Nat,j≤X.nn∧i= .int .i64 j∧Hi (∀i,i<j→∃l,jr X (X.nI i)=some l)∧aF w wr L) (fun i _=>X.nn-(intOf i).toNat)
   case atStart=>exact⟨0,by omega,rfl,fun i t=>absurd t (by omega),H1.o⟩
   case round=>
    clear H1;obtain⟨w9,rfl⟩:∃x:World,x=y:=⟨_,rfl⟩;obtain⟨y,rfl⟩:=wE wr;obtain⟨j,hj,rfl,C,H⟩:=hrel;have b:=ar H;clear H;obtain⟨x0,x1,x2,x3,x4,x5,xf,xz⟩:=aJ (aF.nth b.o HL.o 0 rfl);by_cases hlt:j<X.nn
    ·obtain⟨E,p⟩:=oE ((jr X (X.N j).id).isSome);have HE:=ar p;obtain⟨s,D,rfl,f,a⟩:=bs.at (h.o.n) (fun _=>rfl) hlt;have c0:y.cell? (s,D+j*3)=some (.string (X.N j).id):=bI b.o.1 f (a j hlt 0 _ rfl);have b0:s<y.heap.size:=aM f b.o.1.size;have HU:Hi (∀W,Below w.heap.size w W→Calls prog 34 #[.agg #[.string X.hull,.slice (some ⟨s,D,none⟩) X.nn cn,.slice op X.np cp,.slice os X.ns cs,.slice ok X.nk ck,.slice od X.nd cd],.string (X.N j).id] W (fun e w'=>∃v,e= .returned (.tuple #[v,.bool E])∧True∧Below W.heap.size W w')):=fun W d=>(P.o W (X.N j).id d).mono fun e w' hp=>by
      unfold gj at hp;rw[p]at hp;obtain⟨v,h1,-,h3⟩:=hp;exact⟨v,h1,trivial,h3⟩
     clear a p;have hB:=b.o.1;go_wp2_with fail
     refine aD 13 ?_;simp only[ac,aj,aK,aC,aa,ae,af];iterate 7 refine bJ ?_
     refine bG (ay.val (fun v=>∃x,v= .tuple #[x,.bool E])) ?_ ?_
     ·intro u Z J U Y g k;simp[aU,ai,aR,ay.is,ay.any]at k;refine⟨by simp[au],?_⟩;go_simp
      go_at_call 34;refine(HU.o _ (ag b.o.1 g.o)).mono ?_;rintro e w1 ⟨v,rfl,-,R⟩;exact⟨_,rfl,R,v,rfl⟩
     refine bG (ay.val (fun v=>∃x,v= .tuple #[x,.bool E])) ?_ ?_
     ·intro u Z J U Y g k;simp[aU,ai,aR,ay.is,ay.any]at k;refine⟨by simp[au],?_⟩;obtain⟨x,hx⟩:=k;go_simp
      first|done|exact⟨ah _ _,x,rfl⟩|exact⟨ah _ _,rfl⟩|exact⟨ah _ _,trivial⟩|exact ah _ _|rfl
     refine bG (ay.val (fun v=>True)) ?_ ?_
     ·intro u Z J U Y g k;simp[aU,ai,aR,ay.is,ay.any]at k;refine⟨by simp[au],?_⟩;obtain⟨x,hx⟩:=k;go_simp
      first|done|exact⟨ah _ _,x,rfl⟩|exact⟨ah _ _,rfl⟩|exact⟨ah _ _,trivial⟩|exact ah _ _|rfl
     apply bg (x:= .bool E)
     ·intro u Z J U Y g k;simp[aU,ai,aR,ay.is,ay.any]at k;obtain⟨x,hx⟩:=k;go_simp
      first|done|exact⟨ah _ _,x,rfl⟩|exact⟨ah _ _,rfl⟩|exact⟨ah _ _,trivial⟩|exact ah _ _|rfl
     refine bG (ay.val (fun v=>True)) ?_ ?_
     ·intro u Z J U Y g k;simp[aU,ai,aR,ay.is,ay.any]at k;refine⟨by simp[au],?_⟩;go_simp
      first|done|exact⟨ah _ _,trivial⟩|exact ah _ _|trivial
     refine bJ ?_;intro u w5 d p;simp only[cF,aR,ay.is,aE,aA,reduceIte]at p;simp only[am,ax,ac,aj,aK,aC,aa,ae,af,p];clear p;have b6:=ar (ag (w:=w) (by first|assumption|go_grown) d);have m:=ar d;have K:=dx d;have b1:w.heap.size<w5.heap.size:=by omega
     have b5:s<w5.heap.size:=by omega
     obtain⟨z,A⟩:=br d;clear d K;have H5:=ar (aF.step b.o m.o);clear z A c0;clear x0 x1 x2 x3 x4 x5 xf xz;obtain rfl|rfl:E=false∨E=true:=by cases E<;>simp
     ·go_wp2;go_returns;exact bS (by decide) H5.o.1
     have r:Hi (∀i,i<j+1→∃l,jr X (X.nI i)=some l):=fun i t=>by
      by_cases e:i=j
      ·rw[e];exact Option.isSome_iff_exists.1 HE.o
      ·exact C.o i (by omega)
     go_wp2;go_roundw
     case rel=>exact⟨j+1,by omega,by go_num,r,H5.o⟩
     case measure=>simp[intOf];omega
    ·have a6:Hi (∀i,i<X.nn→∃l,jr X (X.nI i)=some l):=fun i t=>C.o i (by omega);have H1:=b;clear C b;go_wp2;clear hj hlt;go_loopw[10] (fun i wr=>∃j:Nat,j≤X.nn∧i= .int .i64 j∧Hi (∀i,i<j→((jr X (X.nI i)).getD []).length≤8)∧aF w wr L) (fun i _=>X.nn-(intOf i).toNat)
     case atStart=>exact⟨0,by omega,rfl,fun i t=>absurd t (by omega),H1.o⟩
     case round=>
      clear H1;obtain⟨w8,rfl⟩:∃x:World,x=y:=⟨_,rfl⟩;obtain⟨y,rfl⟩:=wE wr;obtain⟨j,hj,rfl,C,H⟩:=hrel;have b:=ar H;clear H;obtain⟨x0,x1,x2,x3,x4,x5,xf,xz⟩:=aJ (aF.nth b.o HL.o 0 rfl);by_cases hlt:j<X.nn
      ·obtain⟨n,T⟩:=oE (((jr X (X.N j).id).getD []).length);have a8:=ar T;obtain⟨s,D,rfl,f,a⟩:=bs.at (h.o.n) (fun _=>rfl) hlt;have c0:y.cell? (s,D+j*3)=some (.string (X.N j).id):=bI b.o.1 f (a j hlt 0 _ rfl);have b0:s<y.heap.size:=aM f b.o.1.size;have a9:Hi (∀W,Below w.heap.size w W→Calls prog 35 #[.agg #[.string X.hull,.slice (some ⟨s,D,none⟩) X.nn cn,.slice op X.np cp,.slice os X.ns cs,.slice ok X.nk ck,.slice od X.nd cd],.string (X.N j).id] W (fun e w'=>∃o c,e= .returned (.slice o n c)∧Below W.heap.size W w')):=fun W d=>by
        have:=O.o W (X.N j).id d (jh.2 ⟨j,hlt,rfl⟩);unfold qQ at this;rw[T]at this;exact this
       clear a T;have hB:=b.o.1;obtain⟨B,a1⟩:=oE (decide ((8:Int)<(n:Int)));have a4:=ar a1;go_wp2_with fail
       refine aD 10 ?_;simp only[ac,aj,aK,aC,aa,ae,af];iterate 7 refine bJ ?_
       refine bG (ay.val (fun v=>∃o c,v= .slice o n c)) ?_ ?_
       ·intro u Z J U Y g k;simp[aU,ai,aR,ay.is,ay.any]at k;refine⟨by simp[au],?_⟩;go_simp
        go_at_call 35;refine(a9.o _ (ag b.o.1 g.o)).mono ?_;rintro e w1 ⟨o,c,rfl,R⟩;exact⟨_,rfl,R,o,c,rfl⟩
       apply bg (x:= .int .i64 n)
       ·intro u Z J U Y g k;simp[aU,ai,aR,ay.is,ay.any]at k;obtain⟨o,c,hx⟩:=k;go_simp
        first|done|exact⟨ah _ _,x,rfl⟩|exact⟨ah _ _,rfl⟩|exact⟨ah _ _,trivial⟩|exact ah _ _|rfl
       refine bJ ?_;intro u w5 d p;simp only[cF,aR,ay.is,aE,aA,reduceIte]at p;simp only[am,ax,ac,aj,aK,aC,aa,ae,af,p];clear p;obtain⟨K,b8,z,A,m⟩:=pr d;clear d;have H5:=ar (aF.step b.o m.o);clear z A c0;clear x0 x1 x2 x3 x4 x5 xf xz;clear a1;obtain rfl|rfl:B=true∨B=false:=by cases B<;>simp
       ·go_wp2;go_returns;exact bS (by decide) H5.o.1
       have r:Hi (∀i,i<j+1→((jr X (X.nI i)).getD []).length≤8):=fun i t=>by
        by_cases e:i=j
        ·rw[e];have h8:=of_decide_eq_false a4.o;have h9:=a8.o;show((jr X (X.N j).id).getD []).length≤8;omega
        ·exact C.o i (by omega)
       go_wp2;go_roundw
       case rel=>exact⟨j+1,by omega,by go_num,r,H5.o⟩
       case measure=>simp[intOf];omega
      ·have HT:Hi (oJ X):=⟨a5.o,fun i t=>by
        obtain⟨l,hl⟩:=a6.o i t;have:=C.o i (by omega);rw[hl]at this;exact⟨l,hl,this⟩⟩
       go_wp2;go_returns;exact mX HT.o b.o.1
theorem yj (X:bK) (S:dq) (w:World) (h:Hi (cJ w X S)):
 Calls prog 17 #[.agg (bH X S)] w (dL (∀i,i<X.nd→(1≤(X.R i).kd∧(X.R i).kd≤3)∧(X.R i).on≠(X.R i).bl∧dU X (X.R i).bl=true∧((X.R i).kd=1∧((X.R i).on=⟨#[]⟩∨dU X (X.R i).on=true)∨(X.R i).kd=2∧dU X (X.R i).on=true∨(X.R i).kd=3∧bZ X.kI X.nk (X.R i).on=true)) w):=by
 have hn:=(h.o.d).lim;have N:cJ w X S:=h.o;obtain⟨G,H⟩:∃G:ByteArray→jD,Hi (∀W q,Below w.heap.size w W→Gv 43 #[.agg (bH X S),.string q] (.tuple #[.agg (eO (nN X q) (G q)),.bool (bZ X.kI X.nk q)]) W):=⟨mH X S,fun W q I=>Bg X S q W (N.below I)⟩;have D:Hi (∀W q,Below w.heap.size w W→Gv 40 #[.agg (bH X S),.string q] (.bool (dU X q)) W):=fun W q I=>sg X S q W (N.below I);clear N;obtain⟨on,cn,op,cp,sp,os,cs,ok,ck,sk,od,cd⟩:=S;unfold bH at H D⊢
 unfold eO at H;dsimp only at hn H D⊢
 go_enter func17,ntmps17;go_wp2;obtain⟨L,hL,N⟩:=aF.ex ((aF.nil (ah w.heap.size w)).alloc (w.heap.size) rfl _ _);have v:=ar hL;have H0:=ar N;clear hL N;go_loopw[3] (fun i wr=>∃j:Nat,j≤X.nd∧i= .int .i64 j∧Hi (∀i,i<j→(1≤(X.R i).kd∧(X.R i).kd≤3)∧(X.R i).on≠(X.R i).bl∧dU X (X.R i).bl=true∧((X.R i).kd=1∧((X.R i).on=⟨#[]⟩∨dU X (X.R i).on=true)∨(X.R i).kd=2∧dU X (X.R i).on=true∨(X.R i).kd=3∧bZ X.kI X.nk (X.R i).on=true))∧aF w wr L) (fun i _=>X.nd-(intOf i).toNat)
 case atStart=>exact⟨0,by omega,rfl,fun i hi=>absurd hi (by omega),H0.o⟩
 case round=>
  obtain⟨w2,rfl⟩:=wE wr;obtain⟨j,hj,rfl,hm,hO⟩:=hrel;have r:=ar hO;clear hO;obtain⟨k,l,m,n,o,c,-,y⟩:=aJ (aF.nth r.o v.o 0 rfl);by_cases hlt:j<X.nd
  ·obtain⟨bc,fc,rfl,T,t⟩:=bs.at (h.o.d) (fun _=>rfl) hlt;have c0:w2.cell? (bc,fc+j*3)=some (.int .i64 (X.R j).kd):=bI r.o.1 T (t j hlt 0 _ rfl);have c1:w2.cell? (bc,fc+j*3+1)=some (.string (X.R j).bl):=bI r.o.1 T (t j hlt 1 _ rfl);have c2:w2.cell? (bc,fc+j*3+2)=some (.string (X.R j).on):=bI r.o.1 T (t j hlt 2 _ rfl);clear t;obtain⟨V,hV⟩:=oE (nN X (X.R j).on);obtain⟨U,hU⟩:=oE (G (X.R j).on);obtain⟨K,hK⟩:=oE (bZ X.kI X.nk (X.R j).on);have a1:=ar hK;have P:Hi (∀W,Below w.heap.size w W→Gv 43 #[.agg #[.string X.hull,.slice on X.nn cn,.slice op X.np cp,.slice os X.ns cs,.slice ok X.nk ck,.slice (some ⟨bc,fc,none⟩) X.nd cd],.string (X.R j).on] (.tuple #[.agg #[.string V.id,.string V.bl,.slice U.op V.m U.cp,V.hr,.slice U.oa V.k U.ca],.bool K]) W):=fun W I=>by
    have:=H.o W (X.R j).on I;rw[hV,hU,hK]at this;exact this
   clear hV hU hK;obtain⟨O,Q⟩:=oE (dU X (X.R j).on);have a0:=ar Q;have J:Hi (∀W,Below w.heap.size w W→Gv 40 #[.agg #[.string X.hull,.slice on X.nn cn,.slice op X.np cp,.slice os X.ns cs,.slice ok X.nk ck,.slice (some ⟨bc,fc,none⟩) X.nd cd],.string (X.R j).on] (.bool O) W):=fun W I=>by
    have:=D.o W (X.R j).on I;rw[Q]at this;exact this
   clear Q;obtain⟨p,R⟩:=oE (dU X (X.R j).bl);have C:=ar R;have d:Hi (∀W,Below w.heap.size w W→Gv 40 #[.agg #[.string X.hull,.slice on X.nn cn,.slice op X.np cp,.slice os X.ns cs,.slice ok X.nk ck,.slice (some ⟨bc,fc,none⟩) X.nd cd],.string (X.R j).bl] (.bool p) W):=fun W I=>by
    have:=D.o W (X.R j).bl I;rw[R]at this;exact this
   clear R;obtain⟨E,hE⟩:=oE (((X.R j).on.toList==(X.R j).bl.toList));have F:Hi (E=false→(X.R j).on≠(X.R j).bl):=fun N e=>by
    rw[N,e]at hE;simp at hE
   by_cases hlo:(X.R j).kd<1
   ·go_wp2;go_returns;exact bS (by decide) (by have:=r.o.1;go_grown)
   by_cases hhi:3<(X.R j).kd
   ·go_wp2;go_returns;exact bS (by decide) (by have:=r.o.1;go_grown)
   have h3:(X.R j).kd=1∨(X.R j).kd=2∨(X.R j).kd=3:=by omega
   clear hlo hhi;rcases h3 with hk|hk|hk
   ·have k1:((X.R j).kd==1)=true:=by simp[hk]
    have k2:((X.R j).kd==2)=false:=by simp[hk]
    have k3:((X.R j).kd==3)=false:=by simp[hk]
    have g1:decide ((X.R j).kd<1)=false:=df;have g2:decide (3<(X.R j).kd)=false:=df;have A:=ar hk;clear hk;obtain⟨B,hB⟩:=oE (((X.R j).on.toList==([]:List UInt8)));have HB:=ar hB;obtain rfl|rfl:E=true∨E=false:=by cases E<;>simp
    ·go_wp2;go_returns;exact bS (by decide) (by have:=r.o.1;go_grown)
    go_wp2_with fail
    (go_at_call 43;refine mz (P.o _ (by have:=r.o.1;go_grown)) fun Y g=> ?_);have f:=ar (aF.step (r.o.alloc w2.heap.size rfl _ _) g);clear g c0 c1 c2;clear k l m n o c y;obtain⟨x,z,y2,-,Z⟩:=bV (f.o.get 0 rfl);obtain⟨k,l,m,n,o,c,-,y⟩:=aJ (aF.nth f.o.tail v.o 0 rfl);obtain rfl|rfl:B=true∨B=false:=by cases B<;>simp
    ·go_wp2_with fail
     (go_at_call 40;refine mz (d.o _ (by have:=f.o.1;go_grown)) fun w4 a=> ?_);have b:=ar (aF.tail (aF.step (f.o.alloc Y.heap.size rfl _ _) a));clear a;clear x z y2 Z k l m n o c y;obtain⟨-,-,-,-,-,c,-,-⟩:=aJ (aF.nth b.o.tail v.o 0 rfl);obtain rfl|rfl:p=false∨p=true:=by cases p<;>simp
     ·go_wp2;go_returns;exact bS (by decide) b.o.1
     have s:Hi (∀i,i<j+1→(1≤(X.R i).kd∧(X.R i).kd≤3)∧(X.R i).on≠(X.R i).bl∧dU X (X.R i).bl=true∧((X.R i).kd=1∧((X.R i).on=⟨#[]⟩∨dU X (X.R i).on=true)∨(X.R i).kd=2∧dU X (X.R i).on=true∨(X.R i).kd=3∧bZ X.kI X.nk (X.R i).on=true)):=fun i hi=>by
      by_cases e:i=j
      ·rw[e];exact⟨by have:=A.o;omega,F.o (by trivial),C.o,.inl ⟨A.o,.inl (qR HB.o)⟩⟩
      ·exact hm.o i (by omega)
     go_wp2;go_roundw
     case rel=>exact⟨j+1,by omega,by go_num,s,b.o.tail⟩
     case measure=>simp[intOf];omega
    go_wp2_with fail
    (go_at_call 40;refine mz (J.o _ (by have:=f.o.1;go_grown)) fun w4 a=> ?_);have b:=ar (aF.tail (aF.step (f.o.alloc Y.heap.size rfl _ _) a));clear a;clear x z y2 Z k l m n o c y;obtain⟨x,z,-,-,-⟩:=bV (b.o.get 0 rfl);obtain⟨k,l,m,n,o,c,-,-⟩:=aJ (aF.nth b.o.tail v.o 0 rfl);obtain rfl|rfl:O=false∨O=true:=by cases O<;>simp
    ·go_wp2_with fail
     (go_at_call 40;refine cy (d.o _ (by have:=b.o.1;go_grown)) b fun w5 u=> ?_);clear x z k l m n o c;obtain⟨-,-,-,-,-,c,-,-⟩:=aJ (aF.nth u.o.tail v.o 0 rfl);cases p
     all_goals
      go_wp2;go_returns;exact bS (by decide) u.o.1
    go_wp2_with fail
    (go_at_call 40;refine cy (d.o _ (by have:=b.o.1;go_grown)) b fun w5 u=> ?_);clear x z k l m n o c;obtain⟨-,-,-,-,-,c,-,-⟩:=aJ (aF.nth u.o.tail v.o 0 rfl);obtain rfl|rfl:p=false∨p=true:=by cases p<;>simp
    ·go_wp2;go_returns;exact bS (by decide) u.o.1
    have s:Hi (∀i,i<j+1→(1≤(X.R i).kd∧(X.R i).kd≤3)∧(X.R i).on≠(X.R i).bl∧dU X (X.R i).bl=true∧((X.R i).kd=1∧((X.R i).on=⟨#[]⟩∨dU X (X.R i).on=true)∨(X.R i).kd=2∧dU X (X.R i).on=true∨(X.R i).kd=3∧bZ X.kI X.nk (X.R i).on=true)):=fun i hi=>by
     by_cases e:i=j
     ·rw[e];exact⟨by have:=A.o;omega,F.o (by trivial),C.o,.inl ⟨A.o,.inr a0.o⟩⟩
     ·exact hm.o i (by omega)
    go_wp2;go_roundw
    case rel=>exact⟨j+1,by omega,by go_num,s,u.o.tail⟩
    case measure=>simp[intOf];omega
   ·have k1:((X.R j).kd==1)=false:=by simp[hk]
    have k2:((X.R j).kd==2)=true:=by simp[hk]
    have k3:((X.R j).kd==3)=false:=by simp[hk]
    have g1:decide ((X.R j).kd<1)=false:=df;have g2:decide (3<(X.R j).kd)=false:=df;have A:=ar hk;clear hk;obtain rfl|rfl:E=true∨E=false:=by cases E<;>simp
    ·go_wp2;go_returns;exact bS (by decide) (by have:=r.o.1;go_grown)
    go_wp2_with fail
    (go_at_call 43;refine mz (P.o _ (by have:=r.o.1;go_grown)) fun Y g=> ?_);have f:=ar (aF.step (r.o.alloc w2.heap.size rfl _ _) g);clear g c0 c1 c2;clear k l m n o c y;obtain⟨x,-,y2,-,Z⟩:=bV (f.o.get 0 rfl);obtain⟨k,l,m,n,o,c,-,y⟩:=aJ (aF.nth f.o.tail v.o 0 rfl);go_wp2_with fail
    (go_at_call 40;refine mz (J.o _ (by have:=f.o.1;go_grown)) fun w4 a=> ?_);have b:=ar (aF.tail (aF.step (f.o.alloc Y.heap.size rfl _ _) a));clear a;clear x y2 Z k l m n o c y;obtain⟨x,z,-,-,-⟩:=bV (b.o.get 0 rfl);obtain⟨k,l,m,n,o,c,-,-⟩:=aJ (aF.nth b.o.tail v.o 0 rfl);obtain rfl|rfl:O=false∨O=true:=by cases O<;>simp
    ·go_wp2_with fail
     (go_at_call 40;refine cy (d.o _ (by have:=b.o.1;go_grown)) b fun w5 u=> ?_);clear x z k l m n o c;obtain⟨-,-,-,-,-,c,-,-⟩:=aJ (aF.nth u.o.tail v.o 0 rfl);cases p
     all_goals
      go_wp2;go_returns;exact bS (by decide) u.o.1
    go_wp2_with fail
    (go_at_call 40;refine cy (d.o _ (by have:=b.o.1;go_grown)) b fun w5 u=> ?_);clear x z k l m n o c;obtain⟨-,-,-,-,-,c,-,-⟩:=aJ (aF.nth u.o.tail v.o 0 rfl);obtain rfl|rfl:p=false∨p=true:=by cases p<;>simp
    ·go_wp2;go_returns;exact bS (by decide) u.o.1
    have s:Hi (∀i,i<j+1→(1≤(X.R i).kd∧(X.R i).kd≤3)∧(X.R i).on≠(X.R i).bl∧dU X (X.R i).bl=true∧((X.R i).kd=1∧((X.R i).on=⟨#[]⟩∨dU X (X.R i).on=true)∨(X.R i).kd=2∧dU X (X.R i).on=true∨(X.R i).kd=3∧bZ X.kI X.nk (X.R i).on=true)):=fun i hi=>by
     by_cases e:i=j
     ·rw[e];exact⟨by have:=A.o;omega,F.o (by trivial),C.o,.inr (.inl ⟨A.o,a0.o⟩)⟩
     ·exact hm.o i (by omega)
    go_wp2;go_roundw
    case rel=>exact⟨j+1,by omega,by go_num,s,u.o.tail⟩
    case measure=>simp[intOf];omega
   ·have k1:((X.R j).kd==1)=false:=by simp[hk]
    have k2:((X.R j).kd==2)=false:=by simp[hk]
    have k3:((X.R j).kd==3)=true:=by simp[hk]
    have g1:decide ((X.R j).kd<1)=false:=df;have g2:decide (3<(X.R j).kd)=false:=df;have A:=ar hk;clear hk;obtain rfl|rfl:E=true∨E=false:=by cases E<;>simp
    ·go_wp2;go_returns;exact bS (by decide) (by have:=r.o.1;go_grown)
    go_wp2_with fail
    (go_at_call 43;refine mz (P.o _ (by have:=r.o.1;go_grown)) fun Y g=> ?_);have f:=ar (aF.step (r.o.alloc w2.heap.size rfl _ _) g);clear g c0 c1 c2;clear k l m n o c y;obtain⟨x,z,-,-,Z⟩:=bV (f.o.get 0 rfl);obtain⟨k,l,m,n,o,c,-,y⟩:=aJ (aF.nth f.o.tail v.o 0 rfl);obtain rfl|rfl:K=false∨K=true:=by cases K<;>simp
    ·go_wp2_with fail
     (go_at_call 40;refine mz (d.o _ (by have:=f.o.1;go_grown)) fun w4 a=> ?_);have b:=ar (aF.tail (aF.step (f.o.alloc Y.heap.size rfl _ _) a));clear a;clear x z Z k l m n o c y;obtain⟨-,-,-,-,-,c,-,-⟩:=aJ (aF.nth b.o.tail v.o 0 rfl);cases p
     all_goals
      go_wp2;go_returns;exact bS (by decide) b.o.1
    go_wp2_with fail
    (go_at_call 40;refine mz (d.o _ (by have:=f.o.1;go_grown)) fun w4 a=> ?_);have b:=ar (aF.tail (aF.step (f.o.alloc Y.heap.size rfl _ _) a));clear a;clear x z Z k l m n o c y;obtain⟨-,-,-,-,-,c,-,-⟩:=aJ (aF.nth b.o.tail v.o 0 rfl);obtain rfl|rfl:p=false∨p=true:=by cases p<;>simp
    ·go_wp2;go_returns;exact bS (by decide) b.o.1
    have s:Hi (∀i,i<j+1→(1≤(X.R i).kd∧(X.R i).kd≤3)∧(X.R i).on≠(X.R i).bl∧dU X (X.R i).bl=true∧((X.R i).kd=1∧((X.R i).on=⟨#[]⟩∨dU X (X.R i).on=true)∨(X.R i).kd=2∧dU X (X.R i).on=true∨(X.R i).kd=3∧bZ X.kI X.nk (X.R i).on=true)):=fun i hi=>by
     by_cases e:i=j
     ·rw[e];exact⟨by have:=A.o;omega,F.o (by trivial),C.o,.inr (.inr ⟨A.o,a1.o⟩)⟩
     ·exact hm.o i (by omega)
    go_wp2;go_roundw
    case rel=>exact⟨j+1,by omega,by go_num,s,b.o.tail⟩
    case measure=>simp[intOf];omega
  ·have HT:Hi (∀i,i<X.nd→(1≤(X.R i).kd∧(X.R i).kd≤3)∧(X.R i).on≠(X.R i).bl∧dU X (X.R i).bl=true∧((X.R i).kd=1∧((X.R i).on=⟨#[]⟩∨dU X (X.R i).on=true)∨(X.R i).kd=2∧dU X (X.R i).on=true∨(X.R i).kd=3∧bZ X.kI X.nk (X.R i).on=true)):=fun i hi=>hm.o i (by omega);go_wp2;go_returns;exact mX HT.o r.o.1
def zK (P:Prop) (w:World) (e:Ending) (w':World):Prop:=∃b:Bool,e= .returned (.bool b)∧(b=true→P)∧Below w.heap.size w w'
theorem Dt (X:bK) (S:dq) (w:World) (h:Hi (cJ w X S)):
 Calls prog 4 #[.agg (bH X S),.int .i64 40] w (zK (X.nn≤40∧X.np≤40∧X.ns≤40∧X.nk≤40∧X.nd≤40∧∀i,i<X.nk→(X.K i).m≤40∧(X.K i).k≤40) w):=by
 have F:=(h.o.n).lim;have G:=(h.o.p).lim;have H:=(h.o.s).lim;have I:=(h.o.k).lim;have J:=(h.o.d).lim;obtain⟨W,cn,Y,Q,sp,Z,cs,U,P,l,T,O⟩:=S;unfold bH;dsimp only at F G H I J⊢
 by_cases c0:40<X.nn
 ·have x:decide ((40:Int)<(X.nn:Int))=true:=dt;go_enter func4,ntmps4;go_wp2;go_returns;exact⟨false,rfl,fun h=>(by cases h),by go_grown⟩
 have x:decide ((40:Int)<(X.nn:Int))=false:=df;by_cases c1:40<X.np
 ·have d:decide ((40:Int)<(X.np:Int))=true:=dt;go_enter func4,ntmps4;go_wp2;go_returns;exact⟨false,rfl,fun h=>(by cases h),by go_grown⟩
 have d:decide ((40:Int)<(X.np:Int))=false:=df;by_cases E:40<X.ns
 ·have g:decide ((40:Int)<(X.ns:Int))=true:=dt;go_enter func4,ntmps4;go_wp2;go_returns;exact⟨false,rfl,fun h=>(by cases h),by go_grown⟩
 have g:decide ((40:Int)<(X.ns:Int))=false:=df;by_cases c3:40<X.nk
 ·have y:decide ((40:Int)<(X.nk:Int))=true:=dt;go_enter func4,ntmps4;go_wp2;go_returns;exact⟨false,rfl,fun h=>(by cases h),by go_grown⟩
 have y:decide ((40:Int)<(X.nk:Int))=false:=df;by_cases c4:40<X.nd
 ·have z:decide ((40:Int)<(X.nd:Int))=true:=dt;go_enter func4,ntmps4;go_wp2;go_returns;exact⟨false,rfl,fun h=>(by cases h),by go_grown⟩
 have z:decide ((40:Int)<(X.nd:Int))=false:=df;go_enter func4,ntmps4;go_wp2;obtain⟨L,t,s⟩:=aF.ex ((aF.nil (ah w.heap.size w)).alloc (w.heap.size) rfl _ _);have C:=ar t;have B:=ar s;clear t s;go_loopw[5] (fun i wr=>∃j:Nat,j≤X.nk∧i= .int .i64 j∧Hi (∀i,i<j→(X.K i).m≤40∧(X.K i).k≤40)∧aF w wr L) (fun i _=>X.nk-(intOf i).toNat)
 case atStart=>exact⟨0,by omega,rfl,fun i n=>absurd n (by omega),B.o⟩
 case round=>
  clear x d g y z;obtain⟨A,rfl⟩:=wE wr;obtain⟨j,R,rfl,v,u⟩:=hrel;have b:=ar u;clear u;obtain⟨-,-,-,-,x4,-,-,-⟩:=aJ (aF.nth b.o C.o 0 rfl);by_cases hlt:j<X.nk
  ·have K:=(h.o.kp j hlt).lim;have N:=(h.o.ka j hlt).lim;dsimp only at K N;obtain⟨q,r,rfl,c,a⟩:=bs.at (h.o.k) (fun _=>rfl) hlt;have E:A.cell? (q,r+j*5+2)=some (.slice (l j).op (X.K j).m (l j).cp):=bI b.o.1 c (a j hlt 2 _ rfl);have c4:A.cell? (q,r+j*5+4)=some (.slice (l j).oa (X.K j).k (l j).ca):=bI b.o.1 c (a j hlt 4 _ rfl);clear a;by_cases d1:40<(X.K j).m
   ·have d:decide ((40:Int)<((X.K j).m:Int))=true:=dt;have f:decide (40<(X.K j).m)=true:=dt;go_wp2;go_returns;exact⟨false,rfl,fun h=>(by cases h),b.o.1⟩
   by_cases d2:40<(X.K j).k
   ·have d:decide ((40:Int)<((X.K j).m:Int))=false:=df;have f:decide (40<(X.K j).m)=false:=df;have g:decide ((40:Int)<((X.K j).k:Int))=true:=dt;have p:decide (40<(X.K j).k)=true:=dt;go_wp2;go_returns;exact⟨false,rfl,fun h=>(by cases h),b.o.1⟩
   have d:decide ((40:Int)<((X.K j).m:Int))=false:=df;have f:decide (40<(X.K j).m)=false:=df;have g:decide ((40:Int)<((X.K j).k:Int))=false:=df;have p:decide (40<(X.K j).k)=false:=df;have o:Hi (∀i,i<j+1→(X.K i).m≤40∧(X.K i).k≤40):=fun i n=>by
    by_cases e:i=j
    ·rw[e];omega
    ·exact v.o i (by omega)
   clear d1 d2;go_wp2;go_roundw
   case rel=>exact⟨j+1,by omega,by go_num,o,b.o⟩
   case measure=>simp[intOf];omega
  ·have D:Hi (X.nn≤40∧X.np≤40∧X.ns≤40∧X.nk≤40∧X.nd≤40∧∀i,i<X.nk→(X.K i).m≤40∧(X.K i).k≤40):=⟨by omega,by omega,by omega,by omega,by omega,fun i n=>v.o i (by omega)⟩;go_wp2;go_returns;exact⟨true,rfl,fun _=>D.o,b.o.1⟩
def Du (n lo hi:Int):Bool:=decide (lo≤n)&&decide (n≤hi)
theorem gR {n lo a:Int}:Du n lo a=true↔lo≤n∧n≤a:=by simp[Du]
theorem pB (n lo a:Int) (w:World):Gv 27 #[n,lo,a] (.bool (Du n lo a)) w:=by
 generalize b:Du n lo a=R;unfold Du at b;obtain⟨B,c⟩:=oE (decide (lo≤n));obtain⟨C,d⟩:=oE (decide (n≤a));rw[c,d]at b;go_enter func27,ntmps27;cases B<;>cases C
 all_goals
  subst b;go_wp2;go_returns;exact⟨rfl,by go_grown⟩
def iT (n:Nat) (f:Nat→Int):Prop:=0<n∧n≤16∧∀i,i<n→(1≤f i∧f i≤120)∧(0<i→f (i-1)<f i)
theorem yk (v:Value) (n:Nat) (f:Nat→Int) (w:World) (h:ew w v n f):
 Calls prog 70 #[v] w (dL (iT n f) w):=by
 obtain⟨oa,cap,rfl,hn,G⟩:=h.form;have P:=ar G;clear h G;by_cases A:n=0
 ·subst A;go_enter func70,ntmps70;go_wp2;go_returns;exact bS (by decide) (by go_grown)
 have k0:((n:Int)==0)=false:=by simpa using A
 have x:(n==0)=false:=by simpa using A
 by_cases c1:16<n
 ·have k1:decide ((16:Int)<(n:Int))=true:=dt;have I:decide (16<n)=true:=decide_eq_true c1;go_enter func70,ntmps70;go_wp2;go_returns;exact bS (by decide) (by go_grown)
 have k1:decide ((16:Int)<(n:Int))=false:=df;have I:decide (16<n)=false:=decide_eq_false c1;go_enter func70,ntmps70;go_wp2;clear k0 x k1 I;go_loopw[3] (fun i wr=>∃j:Nat,j≤n∧i= .int .i64 j∧Hi (∀i,i<j→(1≤f i∧f i≤120)∧(0<i→f (i-1)<f i))∧Below w.heap.size w wr) (fun i _=>n-(intOf i).toNat)
 case atStart=>exact⟨0,by omega,rfl,fun i L=>absurd L (by omega),ah _ _⟩
 case round=>
  obtain⟨X,rfl⟩:=wE wr;obtain⟨j,hj,rfl,R,C⟩:=hrel;by_cases hlt:j<n
  ·obtain⟨o,K,rfl,b,k⟩:=P.o j hlt;have O:Hi (∀W q,Below w.heap.size w W→q<n→W.cell? (o,K+q)=some (f q)):=fun W q hW hq=>bI hW b (k q hq);have A:X.cell? (o,K+j)=some (f j):=O.o X j C hlt;have Q:o<X.heap.size:=aM b C.size;clear k;obtain⟨J,r⟩:=oE (Du (f j) 1 120);have g:=ar r;have z:Hi (∀W,Gv 27 #[(f j),.int .i64 1,.int .i64 120] (.bool J) W):=fun W=>by rw[←r];exact pB _ _ _ W
   clear r;go_wp2_with fail
   (go_at_call 27;refine mz (z.o _) fun y E=> ?_);have c:Below w.heap.size w y:=ag C E;have Y:o<y.heap.size:=aM b c.size;clear E C A Q;obtain rfl|rfl:J=false∨J=true:=by cases J<;>simp
   ·go_wp2;go_returns;exact bS (by decide) c
   have d0:y.cell? (o,K+j)=some (f j):=O.o y j c hlt;by_cases hj0:0<j
   ·obtain⟨p,Z⟩:∃p,p+1=j:=⟨j-1,by omega⟩;have HP:=ar Z;have T:p<n:=by omega
    have u1:IntKind.i64.wrap ((j:Int)-1)=(p:Int):=by rw[iw];omega
    have u2:=dS p;have u3:(p:Int)<(n:Int):=by omega
    have d1:y.cell? (o,K+p)=some (f p):=O.o y p c T;have x:decide (0<j)=true:=decide_eq_true hj0;obtain⟨B,D⟩:=oE (decide (f j≤f p));have N:=ar D;clear Z;go_wp2_with fail
    refine aD 14 ?_;simp only[ac,aj,aK,aC,aa,ae,af];iterate 14 refine bJ ?_
    intro u w5 d s;simp only[cF,aR,ay.is,aE,aA,reduceIte]at s;simp only[am,ax,ac,aj,aK,aC,aa,ae,af,s];clear s;have a:=ar (ag (w:=w) (by first|assumption|go_grown) d);have m:=ar d;have l:=dx d;have U:o<w5.heap.size:=by omega
    obtain⟨F,H⟩:=br d;clear d l;clear D hj0;obtain rfl|rfl:B=true∨B=false:=by cases B<;>simp
    ·go_wp2;go_returns;exact bS (by decide) a.o
    have t:Hi (∀i,i<j+1→(1≤f i∧f i≤120)∧(0<i→f (i-1)<f i)):=fun i L=>by
     by_cases e:i=j
     ·rw[e];refine⟨gR.1 g.o,fun _=> ?_⟩;rw[show j-1=p by have:=HP.o;omega];have:=of_decide_eq_false N.o;omega
     ·exact R.o i (by omega)
    go_wp2;go_roundw
    case rel=>exact⟨j+1,by omega,by go_num,t,a.o⟩
    case measure=>simp[intOf];omega
   ·have x:decide (0<j)=false:=decide_eq_false hj0;go_wp2_with fail
    refine aD 14 ?_;simp only[ac,aj,aK,aC,aa,ae,af];iterate 14 refine bJ ?_
    intro u w5 d s;simp only[cF,aR,ay.is,aE,aA,reduceIte]at s;simp only[am,ax,ac,aj,aK,aC,aa,ae,af,s];clear s;have a:=ar (ag (w:=w) (by first|assumption|go_grown) d);obtain⟨l,a0,F,H,m⟩:=pr d;clear d;have t:Hi (∀i,i<j+1→(1≤f i∧f i≤120)∧(0<i→f (i-1)<f i)):=fun i L=>by
     by_cases e:i=j
     ·rw[e];exact⟨gR.1 g.o,fun h0=>absurd h0 hj0⟩
     ·exact R.o i (by omega)
    clear hj0;go_wp2;go_roundw
    case rel=>exact⟨j+1,by omega,by go_num,t,a.o⟩
    case measure=>simp[intOf];omega
  ·have HT:Hi (iT n f):=⟨by omega,by omega,fun i L=>R.o i (by omega)⟩;go_wp2;go_returns;exact mX HT.o C
theorem sq (a b:ByteArray):(Op.bytesLess a.toList b.toList||a.toList==b.toList)= !Op.bytesLess b.toList a.toList:=by
 by_cases e:a=b
 ·subst e;rw[kr];simp
 ·have hn:(a.toList==b.toList)=false:=by simpa using fun h=>e (ee h)
  rw[hn,aQ];cases h:Op.bytesLess a.toList b.toList with
  |true=>rw[CT h];rfl
  |false=>rw[vP _ _ h (fun h=>e (ee h))];rfl
theorem yl (v:Value) (m:fZ) (gv:Nat→Value) (w:World) (h:vR w v m gv) (hs:Hi (∀i,i<m.ng→(m.nm i).size≤1048576)):
 Calls prog 25 #[v] w (dL (∀i,i<m.ng→dM (m.nm i)=true∧(1000≤m.de i∧m.de i≤20000)∧(100≤m.yi i∧m.yi i≤1500)∧iT (m.gn i) (m.gf i)∧(0<i→tj (m.nm (i-1)) (m.nm i)=true)) w):=by
 have P:=ar h.2;obtain⟨oa,cap,rfl,hn,Z⟩:=h.form;have a5:=ar Z;clear h Z;go_enter func25,ntmps25;go_wp2;go_loopw[3] (fun i wr=>∃j:Nat,j≤m.ng∧i= .int .i64 j∧Hi (∀i,i<j→dM (m.nm i)=true∧(1000≤m.de i∧m.de i≤20000)∧(100≤m.yi i∧m.yi i≤1500)∧iT (m.gn i) (m.gf i)∧(0<i→tj (m.nm (i-1)) (m.nm i)=true))∧Below w.heap.size w wr) (fun i _=>m.ng-(intOf i).toNat)
 case atStart=>exact⟨0,by omega,rfl,fun i hi=>absurd hi (by omega),ah _ _⟩
 case round=>
  obtain⟨w1,rfl⟩:=wE wr;obtain⟨j,hj,rfl,hm,n⟩:=hrel;by_cases hlt:j<m.ng
  ·obtain⟨f,l,rfl,a,d⟩:=a5.o j hlt;have I:Hi (∀W q,Below w.heap.size w W→q<m.ng→W.cell? (f,l+q*4)=some (m.nm q)∧W.cell? (f,l+q*4+1)=some (m.de q)∧W.cell? (f,l+q*4+2)=some (m.yi q)∧W.cell? (f,l+q*4+3)=some (gv q)):=fun W q hW hq=>⟨bI hW a (d q hq).1,bI hW a (d q hq).2.1,bI hW a (d q hq).2.2.1,bI hW a (d q hq).2.2.2⟩;obtain⟨oc,cc,G,-,-⟩:=(P.o j hlt).form;have a6:Hi (ew w (.slice oc (m.gn j) cc) (m.gn j) (m.gf j)):=by
    show ew _ _ _ _;rw[←G];exact P.o j hlt
   have c0:w1.cell? (f,l+j*4)=some (m.nm j):=(I.o w1 j n hlt).1;have b:f<w1.heap.size:=aM a n.size;have a4:=ar G;clear d G;obtain⟨N,hN⟩:=oE (dM (m.nm j));have HN:=ar hN;have a3:Hi (∀W,Gv 26 #[.string (m.nm j)] (.bool N) W):=fun W=>by rw[←hN];exact iO _ W (by have:=hs.o j hlt;omega)
   clear hN;obtain⟨D1,D⟩:=oE (Du (m.de j) 1000 20000);have x:=ar D;have K:Hi (∀W,Gv 27 #[(m.de j),.int .i64 1000,.int .i64 20000] (.bool D1) W):=fun W=>by rw[←D];exact pB _ _ _ W
   clear D;obtain⟨Y1,F⟩:=oE (Du (m.yi j) 100 1500);have y:=ar F;have O:Hi (∀W,Gv 27 #[(m.yi j),.int .i64 100,.int .i64 1500] (.bool Y1) W):=fun W=>by rw[←F];exact pB _ _ _ W
   clear F;go_wp2_with fail
   (go_at_call 26;refine mz (a3.o _) fun w2 Q=> ?_);have o:Below w.heap.size w w2:=ag n Q;clear Q;clear c0 b;have c1:w2.cell? (f,l+j*4+1)=some (m.de j):=(I.o w2 j o hlt).2.1;have b:f<w2.heap.size:=aM a o.size;obtain rfl|rfl:N=false∨N=true:=by cases N<;>simp
   ·go_wp2;go_returns;exact bS (by decide) o
   go_wp2_with fail
   (go_at_call 27;refine mz (K.o _) fun w3 R=> ?_);have r:Below w.heap.size w w3:=ag o R;clear R;clear c1 b;have c2:w3.cell? (f,l+j*4+2)=some (m.yi j):=(I.o w3 j r hlt).2.2.1;have b:f<w3.heap.size:=aM a r.size;obtain rfl|rfl:D1=false∨D1=true:=by cases D1<;>simp
   ·go_wp2;go_returns;exact bS (by decide) r
   go_wp2_with fail
   (go_at_call 27;refine mz (O.o _) fun w4 T=> ?_);have k:Below w.heap.size w w4:=ag r T;clear T;clear c2 b;have c3:w4.cell? (f,l+j*4+3)=some (.slice oc (m.gn j) cc):=((I.o w4 j k hlt).2.2.2).trans (congrArg some a4.o);have b:f<w4.heap.size:=aM a k.size;obtain rfl|rfl:Y1=false∨Y1=true:=by cases Y1<;>simp
   ·go_wp2;go_returns;exact bS (by decide) k
   go_wp2_with fail
   (go_at_call 70;refine(yk _ _ _ _ (a6.o.below k)).mono ?_;rintro e_ J ⟨c,rfl,X,U⟩);have L:=ar X;clear X;have s:Below w.heap.size w J:=ag k U;clear U;clear c3 b;have c0:J.cell? (f,l+j*4)=some (m.nm j):=(I.o J j s hlt).1;have b:f<J.heap.size:=aM a s.size;by_cases hc0:c=0
   ·subst hc0;by_cases hj0:0<j
    ·obtain⟨p,hp⟩:∃p,p+1=j:=⟨j-1,by omega⟩;have HP:=ar hp;have a8:p<m.ng:=by omega
     have u1:IntKind.i64.wrap ((j:Int)-1)=(p:Int):=by rw[iw];omega
     have u2:=dS p;have u3:(p:Int)<(m.ng:Int):=by omega
     have d1:J.cell? (f,l+p*4)=some (m.nm p):=(I.o J p s a8).1;have b0:decide (0<j)=true:=decide_eq_true hj0;obtain⟨B,C⟩:=oE (Op.bytesLess (m.nm p).toList (m.nm j).toList);have a1:=ar C;have a7:(Op.bytesLess (m.nm j).toList (m.nm p).toList||(m.nm j).toList==(m.nm p).toList)= !B:=by rw[sq,C]
     clear hp C;go_wp2_with fail
     refine aD 16 ?_;simp only[ac,aj,aK,aC,aa,ae,af];iterate 16 refine bJ ?_
     intro u w7 t E;simp only[cF,aR,ay.is,aE,aA,reduceIte]at E;simp only[am,ax,ac,aj,aK,aC,aa,ae,af,E];clear E;have g:=ar (ag (w:=w) (by first|assumption|go_grown) t);have A:=ar t;have z:=dx t;have a9:f<w7.heap.size:=by omega
     obtain⟨Y,a0⟩:=br t;clear t z;clear a7 hj0;obtain rfl|rfl:B=false∨B=true:=by cases B<;>simp
     ·go_wp2;go_returns;exact bS (by decide) g.o
     have H:Hi (∀i,i<j+1→dM (m.nm i)=true∧(1000≤m.de i∧m.de i≤20000)∧(100≤m.yi i∧m.yi i≤1500)∧iT (m.gn i) (m.gf i)∧(0<i→tj (m.nm (i-1)) (m.nm i)=true)):=fun i hi=>by
      by_cases e:i=j
      ·rw[e];refine⟨HN.o,gR.1 x.o,gR.1 y.o,L.o (by trivial),fun _=> ?_⟩;rw[show j-1=p by have:=HP.o;omega];exact a1.o
      ·exact hm.o i (by omega)
     go_wp2;go_roundw
     case rel=>exact⟨j+1,by omega,by go_num,H,g.o⟩
     case measure=>simp[intOf];omega
    ·have b0:decide (0<j)=false:=decide_eq_false hj0;go_wp2_with fail
     refine aD 16 ?_;simp only[ac,aj,aK,aC,aa,ae,af];iterate 16 refine bJ ?_
     intro u w7 t E;simp only[cF,aR,ay.is,aE,aA,reduceIte]at E;simp only[am,ax,ac,aj,aK,aC,aa,ae,af,E];clear E;have g:=ar (ag (w:=w) (by first|assumption|go_grown) t);obtain⟨z,b5,Y,a0,A⟩:=pr t;clear t;have H:Hi (∀i,i<j+1→dM (m.nm i)=true∧(1000≤m.de i∧m.de i≤20000)∧(100≤m.yi i∧m.yi i≤1500)∧iT (m.gn i) (m.gf i)∧(0<i→tj (m.nm (i-1)) (m.nm i)=true)):=fun i hi=>by
      by_cases e:i=j
      ·rw[e];exact⟨HN.o,gR.1 x.o,gR.1 y.o,L.o (by trivial),fun h0=>absurd h0 hj0⟩
      ·exact hm.o i (by omega)
     clear hj0;go_wp2;go_roundw
     case rel=>exact⟨j+1,by omega,by go_num,H,g.o⟩
     case measure=>simp[intOf];omega
   ·have k1:(c !=0)=true:=by simp;omega
    have a2:=ar hc0;clear hc0;go_wp2;go_returns;exact bS a2.o s
  ·have HT:Hi (∀i,i<m.ng→dM (m.nm i)=true∧(1000≤m.de i∧m.de i≤20000)∧(100≤m.yi i∧m.yi i≤1500)∧iT (m.gn i) (m.gf i)∧(0<i→tj (m.nm (i-1)) (m.nm i)=true)):=fun i hi=>hm.o i (by omega);go_wp2;go_returns;exact mX HT.o n
end
end Go.Proofs.YtencnijahlkbaaaGreatDoor
