/-
  Lemmas of this claim, joined. Conditions: as stated. By an AI agent.
-/
import Derived.Test.YtencnijahlkbaaaGreatDoorJ1
import Derived.Test.YtencnijahlkbaaaGreatDoorJ2
import Derived.Test.YtencnijahlkbaaaGreatDoorJ3
import Derived.Test.YtencnijahlkbaaaGreatDoorJ4
import Derived.Test.YtencnijahlkbaaaGreatDoorJ5
import Derived.Test.YtencnijahlkbaaaGreatDoorJ6
open Go.Act renaming put → aC
open Array renaming getElem?_eq_some_iff → av
open Go.RowKit.Below renaming refl → ah
open Bool renaming false_or → aP
open Int renaming mul_nonneg → bE
open List renaming take_succ_cons → ac, take_zero → aj, drop_succ_cons → am, drop_zero → ax, setIfInBounds_toArray → aa, set_cons_zero → ae, set_cons_succ → af, mem_cons_self → bw, getElem?_eq_getElem → aS, getD_eq_getElem?_getD → aO, length_append → aZ, mem_cons → bj
open Nat renaming le_refl → aB, lt_of_lt_of_le → aM, le_trans → bW, reduceAdd → aE, reduceEqDiff → aA
open Go.Region renaming binds → ai, wanted → au
open Go.World renaming size_setCell → aT, size_alloc → aw
namespace Go.Proofs.YtencnijahlkbaaaGreatDoor
set_option maxHeartbeats 8000000
set_option maxRecDepth 100000
set_option linter.unusedVariables false
set_option linter.unusedSimpArgs false
open Go.Proofs.Tryz
section
open Go Go.ChangeShapes Go.WideShapes Go.RowKit Go.ChangeAt
theorem pD {c m:Nat} {P:Nat→Pt} {hn:Nat→Nat} {H:Nat→Nat→Pt} (h:GH c P m hn H):fx c P m hn H≤32*34359738368:=by
 have e:=(uM h.po.near).2;have f:=h.no32;have d:∀q,q≤m→cB (fun i=>bP (hn i) (H i)) q≤0:=by
  intro q
  induction q with
  |zero=>intro _;exact Int.le_refl _
  |succ q ih=>
   intro j;have a:=ih (by omega);have b:=h.neg q (by omega);rw[cB];omega
 have g:=d m (aB _);unfold fx;omega
theorem gS {a b A B:Int} (d:0≤a) (e:a≤A) (c:0≤b) (f:b≤B):0≤a*b∧a*b≤A*B:=
 ⟨bE d c,Int.le_trans (Int.mul_le_mul_of_nonneg_right e c) (Int.mul_le_mul_of_nonneg_left f (by omega))⟩
theorem qV {m:fZ} {D:bX} (h:em m D):0≤eD m D∧eD m D≤9000000000000000:=by
 unfold eD;split
 ·rename_i h1;have f:=(h.sh h1).reg;have i:=f.area_pos;have g:=pD f;have d:=h.p1 h1;have e:=h.gr (by omega);have c:=gS (a:=fx D.no D.P D.nh D.hn D.H) (b:=D.th) (by omega) g (by omega) d.2.1;have b2:=gS (a:=fx D.no D.P D.nh D.hn D.H*D.th) (b:=m.de (m.gi D.g)) c.1 c.2 (by omega) e.2.2;constructor<;>omega
 ·split
  ·rename_i h1 h4;have:=h.p4 h4;omega
  ·rename_i h1 h4;have d:=h.p2 (by have:=h.kd;omega);have e:=h.gr h4;have c:=gS (a:=m.sa (m.si D.s)) (b:=D.ln) (by omega) d.2.1.2 (by omega) d.2.2.2.2;have b2:=gS (a:=m.sa (m.si D.s)*D.ln) (b:=m.de (m.gi D.g)) c.1 c.2 (by omega) e.2.2;constructor<;>omega
theorem DH (D:bX) (S:cN) (v:Value) (m:fZ) (gv:Nat→Value) (w:World) (hm:fE w v m gv) (Z:dj w D S) (h1:D.id.size≤2147483648) (h2:D.nd.size≤2147483648) (l:Hi (em m D)):
 Gv 37 #[.agg (aH D S),v] (.tuple #[(eD m D),()]) w:=by
 generalize r:eD m D=R;unfold eD at r;obtain⟨G,hG⟩:=oE (m.hasG D.g);obtain⟨O,q⟩:=oE (m.de (m.gi D.g));obtain⟨SB,U⟩:=oE (m.hasS D.s);obtain⟨SA,B⟩:=oE (m.sa (m.si D.s));obtain⟨N,A⟩:=oE (fx D.no D.P D.nh D.hn D.H);have c7:Hi (∀W,Below w.heap.size w W→Gv 36 #[.agg (aH D S),v] (.int .i64 0) W):=fun W f=>(lS D S v m gv W (hm.below f) (Z.below f) h1 h2).mono fun e w' hp=>by
  obtain⟨c,b8,d2,d3⟩:=hp;rw[d2.2 l.o]at b8;exact⟨b8,d3⟩
 have c8:Hi (∀W,Below w.heap.size w W→Calls prog 78 #[v,.string D.g] W (fun e w'=>∃K d y o1 n1 c1,e= .returned (.tuple #[.agg #[.string K,.int .i64 d,.int .i64 y,.slice o1 n1 c1],.bool G])∧(G=true→d=O)∧Below W.heap.size W w')):=fun W f=>(nE v m gv D.g W (hm.below f)).mono fun e w' hp=>by
  obtain⟨K,d,y,g1,h1,h2,h3,h4⟩:=hp;obtain⟨o1,c1,rfl,-,-⟩:=h3.form;rw[hG]at h1 h2;rw[q]at h2;exact⟨K,d,y,_,_,_,h1,h2,h4⟩
 have c9:Hi (∀W,Below w.heap.size w W→Calls prog 79 #[v,.string D.s] W (fun e w'=>∃K a h k,e= .returned (.tuple #[.agg #[.string K,.int .i64 a,.int .i64 h,.int .i64 k],.bool SB])∧(SB=true→a=SA)∧Below W.heap.size W w')):=fun W f=>(oy v m gv D.s W (hm.below f)).mono fun e w' hp=>by
  obtain⟨K,a,h,k,q1,q2,q3⟩:=hp;rw[U]at q1 q2;rw[B]at q2;exact⟨K,a,h,k,q1,fun e=>(q2 e).1,q3⟩
 have p:D.kd=1→Hi (∀W,Below w.heap.size w W→Gv 80 #[.agg #[.slice S.oo D.no S.co,.slice S.oq D.nh S.cq]] (.int .i64 N) W):=fun g W f=>by rw[←A];exact yu _ _ _ _ _ _ _ _ _ W (Z.1.below f) (Z.2.below f) (l.o.sh g)
 have C:D.kd=1→Hi ((0≤N∧N≤32*34359738368)∧(0≤D.th∧D.th≤120)∧(0≤O∧O≤20000)∧G=true):=fun g=>by
  have hr:=(l.o.sh g).reg;have a1:=hr.area_pos;have a2:=pD hr;have Y:=l.o.p1 g;have T:=l.o.gr (by omega);rw[A]at a1 a2;rw[q,hG]at T;exact⟨⟨by omega,a2⟩,⟨by omega,Y.2.1⟩,⟨by omega,T.2.2⟩,T.1⟩
 have E:D.kd=2∨D.kd=3→Hi ((0≤SA∧SA≤1000000)∧(0≤D.ln∧D.ln≤32768)∧(0≤O∧O≤20000)∧G=true∧SB=true):=fun g=>by
  have Y:=l.o.p2 g;have T:=l.o.gr (by omega);rw[B,U]at Y;rw[q,hG]at T;exact⟨⟨by omega,Y.2.1.2⟩,⟨by omega,Y.2.2.2.2⟩,⟨by omega,T.2.2⟩,T.1,Y.1⟩
 have d5:=l.o.kd;rw[A,q,B]at r;obtain⟨vg,vs,rfl,a8,a9,-,-,-⟩:=hm;obtain⟨og,cg,rfl,-,-⟩:=a8.form;obtain⟨d6,d0,rfl,-,-⟩:=a9.form;have x:Hi (((w.alloc (.cells (aH D S) 62)).alloc (.cells #[.slice og m.ng cg,.slice d6 m.ns d0] 32)).heap[w.heap.size]?=some (.cells (aH D S) 62)):=(aV _ _ _ (by simp)).trans (bf _ _ _ rfl);clear a8 a9 hG q U B A Z;have d4:D.kd=1∨D.kd=4∨(D.kd=2∨D.kd=3):=by omega
 clear d5;go_enter func37,ntmps37;go_wp2_with (first|(with_reducible refine bA 62 w.heap.size 18 (aH D S) 62 _ bF bv rfl rfl x.o ?_)|fail)
 (go_at_call 36;refine mz (c7.o _ (by go_grown)) fun w1 s=> ?_);obtain⟨L,hL,a7⟩:=aF.ex (aF.step (((aF.nil (ah w.heap.size w)).alloc (w.heap.size) rfl _ _).alloc (w.heap.size+1) (by simp) _ _) s);have J:=ar hL;have H1:=ar a7;clear hL a7 s;have n:Hi (w1.heap[w.heap.size]?=some (.cells (aH D S) 62)):=aF.nth H1.o J.o 1 rfl;have d7:w1.cell? (w.heap.size,4)=some D.g:=aX n.o rfl;obtain⟨m0,m1,-,-⟩:=al (aF.nth H1.o J.o 0 rfl);go_wp2_with fail
 (go_at_call 78;refine(c8.o _ H1.o.1).mono ?_;rintro e_ w2 ⟨K,d,y,o1,n1,c1,rfl,b9,b5⟩);have H2:=ar (aF.step H1.o b5);have a6:=ar b9;clear b5 b9;clear d7;clear m0 m1 n;have n:Hi (w2.heap[w.heap.size]?=some (.cells (aH D S) 62)):=aF.nth H2.o J.o 1 rfl;have d8:w2.cell? (w.heap.size,8)=some D.s:=aX n.o rfl;obtain⟨m0,m1,-,mz⟩:=al (aF.nth H2.o J.o 0 rfl);have c0:=H2.o.len J.o 1 rfl;go_wp2_with fail
 (go_at_call 79;refine(c9.o _ (by have:=H2.o.1;go_grown)).mono ?_;rintro e_ w3 ⟨s2,a,h,k,rfl,b0,b6⟩);have a0:=ar (aF.step (H2.o.alloc w2.heap.size rfl _ _) b6);have P:Hi (aF w w3 L):=a0.o.tail;have c2:=ar b0;clear b6 b0;obtain⟨-,y1,-,-,-,yz⟩:=bR (a0.o.get 0 rfl);clear d8;clear m0 m1 mz c0 n;have n:Hi (w3.heap[w.heap.size]?=some (.cells (aH D S) 62)):=aF.nth P.o J.o 1 rfl;obtain⟨-,-,e6,-,-,f1,e9,f0,-,e7,e8,-,-,-,-,-,-,-⟩:=tb n.o;obtain⟨-,-,-,mz⟩:=al (aF.nth P.o J.o 0 rfl);have c0:=P.o.len J.o 1 rfl;rcases d4 with g|g|g
 ·have k1:(D.kd==1)=true:=by simp[g]
  rw[if_pos g]at r;have p:=p g;have c3:=C g;clear C E g;have f:=c3.o;have X:d=O:=a6.o f.2.2.2;subst X;have z:=gS (a:=N) (b:=D.th) (f.1).1 (f.1).2 (f.2.1).1 (f.2.1).2;obtain⟨F,i⟩:=oE (N*D.th);rw[i]at z;have b2:=gS (a:=F) (b:=d) z.1 z.2 (f.2.2.1).1 (f.2.2.1).2;obtain⟨H,j⟩:=oE (F*d);rw[j]at b2;have d9:IntKind.i64.wrap (N*D.th)=F:=by rw[i];exact iw
  have e0:IntKind.i64.wrap (F*d)=H:=by rw[j];exact iw
  obtain⟨I,o⟩:=oE (H.tdiv 2000000);have t:I=H/2000000:=by rw[←o,Int.tdiv_eq_ediv_of_nonneg b2.1]
  have e1:IntKind.i64.wrap (H.tdiv 2000000)=I:=by rw[o];exact iw
  have Q:Hi (I=N*D.th*d/2000000):=by show _=_;rw[t,←j,←i]
  clear i j o t z b2;have HE:Hi (R=I):=r.symm.trans Q.o.symm;clear r f x;have f2:=P.o.1;go_wp2_with fail
  refine aD 12 ?_;simp only[ac,aj,aK,aC,aa,ae,af];iterate 2 refine bJ ?_
  apply bg
  ·intro u wx hz hc hf c5 Z;simp[aU,ai,aR,ay.is,ay.any]at Z;go_simp
   first|rfl|(go_at_call 80;refine(p.o _ (ag (w:=w) (by have:=P.o.1;go_grown) c5.o)).mono ?_;rintro e w1 ⟨rfl,s⟩;first|exact⟨rfl,s⟩|exact⟨_,rfl,s,rfl⟩)
  iterate 9 refine bJ ?_
  intro u w5 f hE;simp only[cF,aR,ay.is,aE,aA,reduceIte]at hE;simp only[am,ax,ac,aj,aK,aC,aa,ae,af,hE];clear hE;have a5:=ar (ag (w:=w) (by first|assumption|go_grown) f);obtain⟨e5,e4,e2,e3,c6⟩:=pr f;clear f;go_wp2;go_returns;exact⟨by rw[HE.o];rfl,a5.o⟩
 ·have k1:(D.kd==1)=false:=by simp[g]
  have k4:(D.kd==4)=true:=by simp[g]
  rw[if_neg (by omega),if_pos g]at r;have HE:Hi (R=D.ma):=r.symm;clear r g C E p x;go_wp2;go_returns;exact⟨by rw[HE.o];rfl,by have:=P.o.1;go_grown⟩
 ·have k1:(D.kd==1)=false:=by simp;omega
  have k4:(D.kd==4)=false:=by simp;omega
  rw[if_neg (by omega),if_neg (by omega)]at r;have c4:=E g;clear C E g p;have f:=c4.o;have X:d=O:=a6.o f.2.2.2.1;subst X;have d1:a=SA:=c2.o f.2.2.2.2;subst d1;have z:=gS (a:=a) (b:=D.ln) (f.1).1 (f.1).2 (f.2.1).1 (f.2.1).2;obtain⟨F,i⟩:=oE (a*D.ln);rw[i]at z;have b2:=gS (a:=F) (b:=d) z.1 z.2 (f.2.2.1).1 (f.2.2.1).2;obtain⟨H,j⟩:=oE (F*d);rw[j]at b2;have d9:IntKind.i64.wrap (a*D.ln)=F:=by rw[i];exact iw
  have e0:IntKind.i64.wrap (F*d)=H:=by rw[j];exact iw
  obtain⟨I,o⟩:=oE (H.tdiv 1000000);have t:I=H/1000000:=by rw[←o,Int.tdiv_eq_ediv_of_nonneg b2.1]
  have e1:IntKind.i64.wrap (H.tdiv 1000000)=I:=by rw[o];exact iw
  have Q:Hi (I=a*D.ln*d/1000000):=by show _=_;rw[t,←j,←i]
  clear i j o t z b2;have HE:Hi (R=I):=r.symm.trans Q.o.symm;clear r f x;go_wp2;go_returns;exact⟨by rw[HE.o];rfl,by have:=P.o.1;go_grown⟩
def qW (m:fZ) (X:bK):Prop:=(∀i,i<X.np→em m (X.D i)∧bZ X.nI X.nn (X.D i).nd=true)∧cB (fun i=>eD m (X.D i)) X.np≤1099511627776
theorem yv (X:bK) (S:dq) (v:Value) (m:fZ) (gv:Nat→Value) (w:World) (h:Hi (cJ w X S)) (t:Hi (eY X)) (hm:fE w v m gv) (hp:Hi (∀i,i<X.np→dj w (X.D i) (S.sp i))):
 Calls prog 14 #[.agg (bH X S),v] w (dL (qW m X) w):=by
 have hn:=(h.o.p).lim;have h0:cJ w X S:=h.o;have Y:=t.o.few;have c8:Hi (X.np≤40):=Y.2.1;have HN:Hi (∀W q,Below w.heap.size w W→Gv 32 #[.agg (bH X S),.string q] (.tuple #[.agg (eM X q).c,.bool (bZ X.nI X.nn q)]) W):=fun W q a=>js X S q W (h0.below a);have T:Hi (∀W i,Below w.heap.size w W→i<X.np→Calls prog 36 #[.agg (aH (X.D i) (S.sp i)),v] W (uV (em m (X.D i)) W)):=fun W i a D=>lS _ _ v m gv W (hm.below a) ((hp.o i D).below a) (by have:=(t.o.p i D).1;omega) (by have:=(t.o.p i D).2;omega);have U:Hi (∀W i,Below w.heap.size w W→i<X.np→em m (X.D i)→Gv 37 #[.agg (aH (X.D i) (S.sp i)),v] (.tuple #[(eD m (X.D i)),()]) W):=fun W i a D d9=>DH _ _ v m gv W (hm.below a) ((hp.o i D).below a) (by have:=(t.o.p i D).1;omega) (by have:=(t.o.p i D).2;omega) d9;obtain⟨vg,vs,rfl,a6,a7,-,-,-⟩:=hm;obtain⟨og,cg,rfl,-,-⟩:=a6.form;obtain⟨f0,d3,rfl,-,-⟩:=a7.form;clear a6 a7 h0 Y hp;obtain⟨on,cn,op,cp,sp,os,cs,ok,ck,sk,od,cd⟩:=S;unfold bH at HN⊢
 dsimp only at hn HN T U⊢
 go_enter func14,ntmps14;go_wp2;obtain⟨L,hL,h0⟩:=aF.ex (((aF.nil (ah w.heap.size w)).alloc (w.heap.size) rfl _ _).alloc (w.heap.size+1) (by simp) _ _);have J:=ar hL;have H0:=ar h0;clear hL h0;go_loopw[5] (fun i wr=>∃j:Nat,j≤X.np∧i= .int .i64 j∧Hi (∀i,i<j→em m (X.D i)∧bZ X.nI X.nn (X.D i).nd=true)∧aF w wr L) (fun i _=>X.np-(intOf i).toNat)
 case atStart=>exact⟨0,by omega,rfl,fun i D=>absurd D (by omega),H0.o⟩
 case round=>
  clear H0;obtain⟨w2,rfl⟩:=wE wr;obtain⟨j,hj,rfl,hm,hO⟩:=hrel;have l:=ar hO;clear hO;obtain⟨x0,x1,x2,x3,x4,x5,xf,xz⟩:=aJ (aF.nth l.o J.o 1 rfl);obtain⟨y0,y1,yf,yz⟩:=al (aF.nth l.o J.o 0 rfl);have zx:=l.o.len J.o 1 rfl;have zy:=l.o.len J.o 0 rfl;by_cases hlt:j<X.np
  ·have d0:=ar (fun W a=>T.o W j a hlt);obtain⟨E,d⟩:=oE (bZ X.nI X.nn (X.D j).nd);obtain⟨V,hV⟩:=oE (eM X (X.D j).nd);have HE:=ar d;obtain⟨z,fc,rfl,C,y⟩:=bs.at (h.o.p) (fun _=>rfl) hlt;have HC:Hi (∀W,Below w.heap.size w W→∀q u,(aH (X.D j) (sp j))[q]?=some u→W.cell? (z,fc+j*18+q)=some u):=fun W hW q u H=>bI hW C (y j hlt q u H);have d8:z<w2.heap.size:=aM C l.o.1.size;clear y;have c9:Hi (∀W,Below w.heap.size w W→Gv 32 #[.agg #[.string X.hull,.slice on X.nn cn,.slice (some ⟨z,fc,none⟩) X.np cp,.slice os X.ns cs,.slice ok X.nk ck,.slice od X.nd cd],.string (X.D j).nd] (.tuple #[.agg #[.string V.id,V.kd,.string V.up],.bool E]) W):=fun W a=>by
    have:=HN.o W (X.D j).nd a;rw[hV,d]at this;exact this
   clear d hV;have hB:=l.o.1;go_wp2_with fail
   refine aD 8 ?_;simp only[ac,aj,aK,aC,aa,ae,af];iterate 4 refine bJ ?_
   apply bg (x:= .agg (aH (X.D j) (sp j)))
   ·intro u p t G O b g;simp[aU,ai,aR,ay.is,ay.any]at g;rw[if_pos (by first|rfl|simp[au,yielded,g])];exact cI 62 z (fc+j*18) 18 (aH (X.D j) (sp j)) _ bF bv (by first|exact g|simpa [Act.eval]using g) rfl (fun q u H=>HC.o p (ag l.o.1 b.o) q u H) ⟨ah _ _,rfl⟩
   refine bJ ?_;refine bG (ay.val (fun v=>∃c:Int,v= .int .i64 c∧Hi (c=0↔em m (X.D j)))) ?_ ?_
   ·intro u p t G O b g;simp[aU,ai,aR,ay.is,ay.any]at g;refine⟨by simp[au],?_⟩;go_simp
    go_at_call 36;refine(d0.o _ (ag l.o.1 b.o)).mono ?_;rintro e w1 ⟨c,rfl,G,A⟩;exact⟨_,rfl,A,c,rfl,G⟩
   refine bG (ay.val (fun v=>∃c:Int,v= .int .i64 c∧Hi (c=0↔em m (X.D j)))) ?_ ?_
   ·intro u p t G O b g;simp[aU,ai,aR,ay.is,ay.any]at g;refine⟨by simp[au],?_⟩;obtain⟨x,hx,b9⟩:=g;go_simp
    first|exact ah _ _|exact⟨ah _ _,x,rfl,b9⟩|exact⟨ah _ _,x,hx,b9⟩
   intro u w3 a d;obtain⟨c,e7,c6⟩:∃c:Int,u 7= .int .i64 c∧Hi (c=0↔em m (X.D j)):=eS d 7;simp only[cF,aR,ay.is,aE,aA,reduceIte]at d;simp only[am,ax,ac,aj,aK,aC,aa,ae,af,e7,d];clear e7 d;obtain⟨f7,f3,a8,b1,a1⟩:=pr a;clear a;have Z:=ar (aF.step l.o a1.o);clear a8 b1;clear x0 x1 x2 x3 x4 x5 xf xz y0 y1 yf yz zx zy;obtain⟨x0,x1,x2,x3,x4,x5,xf,xz⟩:=aJ (aF.nth Z.o J.o 1 rfl);by_cases hc0:c=0;rotate_left
   ·have k1:(c !=0)=true:=by simpa using hc0
    have c5:=ar hc0;clear hc0;go_wp2;go_returns;exact bS c5.o Z.o.1
   subst hc0;have c3:w3.cell? (z,fc+j*18+3)=some (.string (X.D j).nd):=HC.o w3 Z.o.1 3 _ rfl;have zx:=Z.o.len J.o 1 rfl;have d4:=Z.o.1;have f2:z<w3.heap.size:=aM C d4.size;go_wp2_with fail
   refine dd 14 [⟨11,12,#["",(), ""],64⟩] [] (by kernel_rfl) (by kernel_rfl) (by kernel_rfl) (by kernel_rfl) (by kernel_rfl) ?_ ?_ ?_
   ·intro r hr;cases hr
   ·intro r hr;cases hr
   simp only[ac,aj,aK,aC,aa,ae,af];iterate 7
    apply dE (by kernel_rfl)
    ·intro u p a g;replace a:=a.nil;have t:=dx a;have P:w.heap.size<p.heap.size:=by omega
     have Q:z<p.heap.size:=by omega
     obtain⟨G,O⟩:=br a;have b:=ar a;clear a t;simp[cL,ai,dK,bN,dm.is,dm.any]at g;go_simp
     first|exact⟨ah _ _,rfl⟩|rfl
   apply dE (by kernel_rfl)
   ·intro u p a g;replace a:=a.nil;have t:=dx a;have P:w.heap.size<p.heap.size:=by omega
    have Q:z<p.heap.size:=by omega
    obtain⟨G,O⟩:=br a;have b:=ar a;clear a t;simp[cL,ai,dK,bN,dm.is,dm.any]at g;go_simp
    first|rfl|(go_at_call 32;refine(c9.o _ (ag Z.o.1 b.o)).mono ?_;rintro e w1 ⟨rfl,A⟩;first|exact⟨rfl,A⟩|exact⟨_,rfl,A,rfl⟩)
   iterate 3
    apply dE (by kernel_rfl)
    ·intro u p a g;replace a:=a.nil;have t:=dx a;have P:w.heap.size<p.heap.size:=by omega
     have Q:z<p.heap.size:=by omega
     obtain⟨G,O⟩:=br a;have b:=ar a;clear a t;simp[cL,ai,dK,bN,dm.is,dm.any]at g;go_simp
     first|exact⟨ah _ _,rfl⟩|rfl
   refine dZ ⟨11,12,#["",(), ""],64⟩ (by simp) rfl ?_ ?_
   ·intro u p a;refine⟨by simp[au],?_⟩;go_simp
    first|done|rfl|exact⟨rfl,rfl⟩
   apply cC ⟨11,12,#["",(), ""],64⟩ (by simp) rfl (by kernel_rfl) rfl (by kernel_rfl)
   ·intro u p a g;replace a:=a.nil;have t:=dx a;have P:w.heap.size<p.heap.size:=by omega
    have Q:z<p.heap.size:=by omega
    obtain⟨G,O⟩:=br a;have b:=ar a;clear a t;simp[cL,ai,dK,bN,dm.is,dm.any]at g;refine⟨by simp[au],fun b' b8 g2 B=> ?_⟩;have f6:u 11= .pointer (some b'):=b8;have o:p.heap[b']?=some (.cells #["",(), ""] 64):=B;have g1:=bV o;have c7:=ar o;clear B o b8;go_simp;exact bL.c3 c7.o _ _ _
   apply dE (by kernel_rfl)
   ·intro u p a g;replace a:=a.nil;have t:=dx a;have P:w.heap.size<p.heap.size:=by omega
    have Q:z<p.heap.size:=by omega
    obtain⟨G,O⟩:=br a;have b:=ar a;clear a t;simp[cL,ai,dK,bN,dm.is,dm.any]at g;go_simp
    first|exact⟨ah _ _,rfl⟩|rfl
   intro u w4 a d hV hP;replace a:=a.nil;clear hP;have e0:u 0=_:=eE d 0;have e1:u 1=_:=eE d 1;have e2:u 2=_:=eE d 2;have e3:u 3=_:=eE d 3;have e4:u 4=_:=eE d 4;have e5:u 5=_:=eE d 5;have e6:u 6=_:=eE d 6;have e7:u 7=_:=eE d 7;have e8:u 8=_:=eE d 8;have e9:u 9=_:=eE d 9;have a4:u 10=_:=eE d 10;have a3:u 12=_:=eE d 12;have a5:u 13=_:=eE d 13;obtain⟨⟨VA,R,c0,I⟩,-,-⟩:=hV;replace I:w4.heap[VA]?=some (.cells (u 12).cells 64):=I;rw[a3]at I;replace R:u 11= .pointer (some VA):=R;have f1:=ar I;clear I;(try simp only[aw,aT]at c0);have c1:VA≠w.heap.size:=by omega
   have c2:VA≠z:=by omega
   (try have g0:w3.heap.size≤VA:=by omega);clear c0;simp only[am,ax,ac,aj,aK,aC,aa,ae,af,e0,e1,e2,e3,e4,e5,e6,e7,e8,e9,a4,a3,a5,R];clear e0 e1 e2 e3 e4 e5 e6 e7 e8 e9 a4 a3 a5 R d;have a0:=ar a;have g4:=ag (w:=w3) (by first|assumption|go_grown) a;obtain⟨f8,f4,a9,b5,c4⟩:=pr a;clear a;have H4:=ar (aF.step Z.o a0.o);clear a9 b5 c3 x0 x1 x2 x3 x4 x5 xf xz;obtain rfl|rfl:E=false∨E=true:=by cases E<;>simp
   ·go_wp2;go_returns;exact bS (by decide) H4.o.1
   have d6:Hi (∀i,i<j+1→em m (X.D i)∧bZ X.nI X.nn (X.D i).nd=true):=fun i D=>by
    by_cases e:i=j
    ·rw[e];exact⟨c6.o.1 (by trivial),HE.o⟩
    ·exact hm.o i (by omega)
   go_wp2;go_roundw
   case rel=>exact⟨j+1,by omega,by go_num,d6,H4.o⟩
   case measure=>simp[intOf];omega
  ·have F:Hi (∀i,i<X.np→em m (X.D i)∧bZ X.nI X.nn (X.D i).nd=true):=fun i D=>hm.o i (by omega);have H1:=l;clear hm l;go_wp2;clear x0 x1 x2 x3 x4 x5 xf xz y0 y1 yf yz zx zy;clear hj hlt;go_loopw[9,10] (fun s i wr=>∃(j:Nat) (q:Int),j≤X.np∧i= .int .i64 j∧s= .int .i64 q∧Hi (q=cB (fun i=>eD m (X.D i)) j)∧aF w wr L) (fun _ i _=>X.np-(intOf i).toNat)
   case atStart=>exact⟨0,0,by omega,rfl,rfl,rfl,H1.o⟩
   case round=>
    clear H1;obtain⟨w9,rfl⟩:∃x:World,x=w2:=⟨_,rfl⟩;obtain⟨w2,rfl⟩:=wE wr;obtain⟨j,q,hj,rfl,rfl,H,hO⟩:=hrel;have l:=ar hO;clear hO;obtain⟨x0,x1,x2,x3,x4,x5,xf,xz⟩:=aJ (aF.nth l.o J.o 1 rfl);obtain⟨y0,y1,yf,yz⟩:=al (aF.nth l.o J.o 0 rfl);have zx:=l.o.len J.o 1 rfl;have zy:=l.o.len J.o 0 rfl;have g3:0≤q∧q≤9000000000000000*40:=by
     have h1:=oH (f:=fun i=>eD m (X.D i)) (K:=9000000000000000) (n:=j) (fun i D=>by have:=qV (F.o i (by omega)).1;omega);have h2:∀k,k≤j→0≤cB (fun i=>eD m (X.D i)) k:=fun k hk=>by
      induction k with
      |zero=>exact Int.le_refl _
      |succ k ih=>have:=ih (by omega);have:=(qV (F.o k (by omega)).1).1;rw[cB];omega
     have h3:=h2 j (aB _);have h4:=c8.o;rw[←H.o]at h1 h3;omega
    by_cases hlt:j<X.np
    ·obtain⟨MS,N⟩:=oE (eD m (X.D j));have d7:=qV (F.o j hlt).1;rw[N]at d7;have d1:Hi (∀W,Below w.heap.size w W→Gv 37 #[.agg (aH (X.D j) (sp j)),.agg #[.slice og m.ng cg,.slice f0 m.ns d3]] (.tuple #[MS,()]) W):=fun W a=>by
      have:=U.o W j a hlt (F.o j hlt).1;rw[N]at this;exact this
     have u1:IntKind.i64.wrap (q+MS)=q+MS:=iw;have d2:Hi (q+MS=cB (fun i=>eD m (X.D i)) (j+1)):=by show _=_;rw[cB,←H.o,N]
     obtain⟨z,fc,rfl,C,y⟩:=bs.at (h.o.p) (fun _=>rfl) hlt;have HC:Hi (∀W,Below w.heap.size w W→∀q u,(aH (X.D j) (sp j))[q]?=some u→W.cell? (z,fc+j*18+q)=some u):=fun W hW q u H=>bI hW C (y j hlt q u H);have d8:z<w2.heap.size:=aM C l.o.1.size;clear y;have hB:=l.o.1;clear N;go_wp2_with fail
     refine aD 12 ?_;simp only[ac,aj,aK,aC,aa,ae,af];iterate 4 refine bJ ?_
     apply bg (x:= .agg (aH (X.D j) (sp j)))
     ·intro u p t G O b g;simp[aU,ai,aR,ay.is,ay.any]at g;rw[if_pos (by first|rfl|simp[au,yielded,g])];exact cI 62 z (fc+j*18) 18 (aH (X.D j) (sp j)) _ bF bv (by first|exact g|simpa [Act.eval]using g) rfl (fun q u H=>HC.o p (ag l.o.1 b.o) q u H) ⟨ah _ _,rfl⟩
     refine bJ ?_;apply bg
     ·intro u p t G O b g;simp[aU,ai,aR,ay.is,ay.any]at g;go_simp
      first|rfl|(go_at_call 37;refine(d1.o _ (ag l.o.1 b.o)).mono ?_;rintro e w1 ⟨rfl,A⟩;first|exact⟨rfl,A⟩|exact⟨_,rfl,A,rfl⟩)
     iterate 5 refine bJ ?_
     intro u w5 a d;simp only[cF,aR,ay.is,aE,aA,reduceIte]at d;simp only[am,ax,ac,aj,aK,aC,aa,ae,af,d];clear d;obtain⟨f9,f5,b0,b6,a2⟩:=pr a;clear a;have H5:=ar (aF.step l.o a2.o);clear b0 b6;clear x0 x1 x2 x3 x4 x5 xf xz y0 y1 yf yz zx zy;go_wp2;go_roundw
     case rel=>exact⟨j+1,q+MS,by omega,by go_num,rfl,d2,H5.o⟩
     case measure=>simp[intOf];omega
    ·have d5:j=X.np:=by omega
     subst d5;by_cases hbig:1099511627776<q
     ·have k1:decide (1099511627776<q)=true:=decide_eq_true hbig;go_wp2;go_returns;exact bS (by decide) l.o.1
     ·have k1:decide (1099511627776<q)=false:=decide_eq_false hbig;have HT:Hi (qW m X):=⟨F.o,by rw[←H.o];omega⟩;go_wp2;go_returns;exact mX HT.o l.o.1
def Bm (l:Option (List ByteArray)):ByteArray:=match l with|some l=>l.getLast?.getD ⟨#[]⟩|none=>⟨#[]⟩
theorem uW {l:List ByteArray} {p:Nat} (h:l.length=p+1):l.getD p ⟨#[]⟩=l.getLast?.getD ⟨#[]⟩:=by
 rw[List.getLast?_eq_getElem?,aO,h];rfl
theorem Bn (X:bK) (S:dq) (s:ByteArray) (w:World) (h:Hi (cJ w X S)) (hn:bZ X.nI X.nn s=false) (d:bZ X.pI X.np s=true):
 Gv 81 #[.agg (bH X S),.string s] (.tuple #[.string (Bm (jr X (gK X s).nd)),.bool (jr X (gK X s).nd).isSome]) w:=by
 have A:cJ w X S:=h.o;obtain⟨V,hV⟩:=oE (eM X s);obtain⟨D,J⟩:=oE (gK X s);obtain⟨U,hU⟩:=oE (jT X S s);obtain⟨l,B⟩:=oE (jr X D.nd);have F:Hi (∀E,l=some E→1≤E.length∧E.length≤65):=fun E e=>mG (B.trans e);have G:Hi (∀W,Below w.heap.size w W→Gv 32 #[.agg (bH X S),.string s] (.tuple #[.agg #[.string V.id,V.kd,.string V.up],.bool false]) W):=fun W k=>by
  have:=js X S s W (A.below k);rw[hV,hn]at this;exact this
 have c:Hi (∀W,Below w.heap.size w W→Gv 39 #[.agg (bH X S),.string s] (.tuple #[.agg (aH D U),.bool true]) W):=fun W k=>by
  have:=pA X S s W (A.below k);rw[J,hU,d]at this;exact this
 have H:Hi (∀W,Below w.heap.size w W→Calls prog 34 #[.agg (bH X S),.string D.nd] W (fun e w'=>∃v,e= .returned (.tuple #[v,.bool l.isSome])∧Dq w' v (l.getD [])∧Below W.heap.size W w')):=fun W k=>by
  have:=uT X S D.nd W (A.below k);unfold gj at this;rw[B]at this;exact this
 rw[J,B];clear h A hV J hU B hn d;obtain⟨on,cn,op,cp,sp,os,cs,ok,ck,sk,od,cd⟩:=S;unfold bH at G c H⊢
 dsimp only at G c H⊢
 go_enter func81,ntmps81;go_wp2_with fail
 (go_at_call 32;refine mz (G.o _ (by go_grown)) fun w1 m=> ?_);have x:=ar (aF.step ((aF.nil (ah w.heap.size w)).alloc (w.heap.size) rfl _ _) m);clear m;obtain⟨P,Q,R,T,Y,Z,-,xz⟩:=aJ (x.o.get 0 rfl);have z0:=x.o.1.size;go_wp2_with fail
 (go_at_call 39;refine mz (c.o _ (by have:=x.o.1;go_grown)) fun L o=> ?_);have f:=ar (aF.tail (aF.step (x.o.alloc w1.heap.size rfl _ _) o));clear o P Q R T Y Z xz;have z2:w.heap.size<L.heap.size:=f.o.lt (bw ..);go_wp2_with (first|((with_reducible refine bB 62 L.heap.size 18 (aH D U) 62 bv rfl rfl rfl rfl (⟨_,bf _ _ _ rfl,rfl⟩) ?_);intro N C;have HS:=ar C;have hx:N.heap[w.heap.size]?=some (.cells #[.string X.hull,.slice on X.nn cn,.slice op X.np cp,.slice os X.ns cs,.slice ok X.nk ck,.slice od X.nd cd] 28):=(C.other _ (by omega)).trans ((aV _ _ _ z2).trans (f.o.get 0 rfl));have p3:N.cell? (L.heap.size,3)=some D.nd:=aX C.here rfl;obtain⟨P,Q,R,T,Y,Z,-,-⟩:=aJ hx;clear C hx)|fail)
 have g:Hi (Below w.heap.size w N):=bL.below (f.o.1.alloc f.o.1.size _) HS.o f.o.1.size;(go_at_call 34;refine(H.o _ g.o).mono ?_;rintro e_ O ⟨v,rfl,b,q⟩);have j:Hi (Below w.heap.size w O):=ag g.o q;clear q P Q R T Y Z p3;cases l with
 |none=>
  obtain⟨oa,ca,rfl,-,-,-⟩:=bs.form b (fun _=>rfl);clear b;go_wp2;go_returns;exact⟨rfl,j.o⟩
 |some l=>
  have a:bs O v l.length 1 (fun i=>#[.string (l.getD i ⟨#[]⟩)]):=b;have u:=F.o l rfl;obtain⟨p,d⟩:∃p,l.length=p+1:=⟨l.length-1,by omega⟩;have HT:Hi (l.getD p ⟨#[]⟩=Bm (some l)):=uW d;obtain⟨n,hn⟩:=oE l.length;rw[hn]at a d u;obtain⟨oa,ca,rfl,-,-,t⟩:=bs.form a (fun _=>rfl);obtain⟨bc,fc,rfl,-,r⟩:=t p (by omega);have c0:O.cell? (bc,fc+p)=some (l.getD p ⟨#[]⟩):=by have:=r p (by omega) 0 _ rfl;rwa [Nat.mul_one,Nat.add_zero]at this
  obtain⟨y,K⟩:=oE (l.getD p ⟨#[]⟩);obtain⟨z,hz⟩:=oE (Bm (some l));have I:Hi (y=z):=by have:=HT.o;rw[K,hz]at this;exact this
  rw[K]at c0;have u1:IntKind.i64.wrap ((n:Int)-1)=(p:Int):=by rw[iw];omega
  have u2:=dS p;have u3:(p:Int)<(n:Int):=by omega
  clear b a hn d u r K t;go_wp2;go_returns;rw[hz];exact⟨by rw[I.o];rfl,j.o⟩
theorem aF.cons {w W:World} {L:List (Nat×Array Value×TypeId)} {b:Nat} {C:Array Value} {t:TypeId} (h:aF w W L) (c:W.heap[b]?=some (.cells C t)):aF w W ((b,C,t)::L):=
 ⟨h.1,fun x a=>by
  rcases bj.1 a with rfl|a
  ·exact c
  ·exact h.2 x a⟩
def nO (X:bK) (k:Nat):Prop:=∀j,j<(X.K k).m→bZ X.pI X.np ((X.K k).P j)=true∧((X.D (el X.pI X.np ((X.K k).P j))).kd=4∨(X.D (el X.pI X.np ((X.K k).P j))).kd=3)∧(∃l,jr X (X.D (el X.pI X.np ((X.K k).P j))).nd=some l∧l.getLast?=some (X.K k).bl)∧∀i',i'<k→∀j',j'<(X.K i').m→(X.K i').P j'≠(X.K k).P j
theorem Hb {l:Option (List ByteArray)} {b:ByteArray} (h:Bm l=b) (c:b≠⟨#[]⟩):∃a,l=some a∧a.getLast?=some b:=by
 cases l with
 |none=>exact absurd h.symm c
 |some a=>
  refine⟨a,rfl,?_⟩;replace h:a.getLast?.getD ⟨#[]⟩=b:=h;cases e:a.getLast? with
  |none=>rw[e]at h;exact absurd h.symm c
  |some x=>rw[e]at h;exact congrArg some h
theorem tu (X:bK) (S:dq) (k:Nat) (w:World) (h:Hi (cJ w X S)) (hk:k<X.nk) (g:Hi (∀i j,i<X.np→j<X.nn→X.pI i≠X.nI j)) (d5:Hi ((X.K k).bl≠⟨#[]⟩)):
 Calls prog 41 #[.agg (bH X S),(k:Int)] w (dL (nO X k) w):=by
 have hn:=(h.o.k).lim;have c4:=(h.o.kp k hk).lim;have h0:cJ w X S:=h.o;obtain⟨G,HN⟩:∃G:ByteArray→cN,Hi (∀W q,Below w.heap.size w W→Gv 39 #[.agg (bH X S),.string q] (.tuple #[.agg (aH (gK X q) (G q)),.bool (bZ X.pI X.np q)]) W):=⟨jT X S,fun W q a=>pA X S q W (h0.below a)⟩;have a1:Hi (∀W q,Below w.heap.size w W→bZ X.nI X.nn q=false→bZ X.pI X.np q=true→Gv 81 #[.agg (bH X S),.string q] (.tuple #[.string (Bm (jr X (gK X q).nd)),.bool (jr X (gK X q).nd).isSome]) W):=fun W q a h1 h2=>Bn X S q W (h0.below a) h1 h2;have a7:Hi (∀W i q,Below w.heap.size w W→i<X.nk→Gv 31 #[.slice (S.sk i).op (X.K i).m (S.sk i).cp,.string q] (.bool (bZ (X.K i).P (X.K i).m q)) W):=fun W i q a hi=>uS _ _ _ _ W ((h0.kp i hi).below a);clear h0;obtain⟨on,cn,op,cp,sp,os,cs,ok,ck,A,od,cd⟩:=S;unfold bH at HN a1⊢
 dsimp only at hn c4 HN a1 a7⊢
 have a8:=ar h.o.k;have a4:=ar (h.o.kp k hk);dsimp only at a8 a4;obtain⟨o1,a6⟩:=oE ((A k).op);obtain⟨c1,J⟩:=oE ((A k).cp);rw[a6,J]at a4;rw[J]at c4;obtain⟨t,D,rfl,c3,b⟩:=bs.at a8.o (fun _=>rfl) hk;have c9:Hi (∀W,Below w.heap.size w W→∀i,i<X.nk→∀q u,(eO (X.K i) (A i))[q]?=some u→W.cell? (t,D+i*5+q)=some u):=fun W hW i hi q u hq=>bI hW c3 (b i hi q u hq);have p0:w.cell? (t,D+k*5)=some (.string (X.K k).id):=b k hk 0 _ rfl;have p1:w.cell? (t,D+k*5+1)=some (.string (X.K k).bl):=b k hk 1 _ rfl;have p2:w.cell? (t,D+k*5+2)=some (.slice o1 (X.K k).m c1):=by
  have q2:w.cell? (t,D+k*5+2)=some (.slice (A k).op (X.K k).m (A k).cp):=b k hk 2 _ rfl
  rwa [a6,J]at q2
 have p3:w.cell? (t,D+k*5+3)=some (.int .i64 (X.K k).hr):=b k hk 3 _ rfl;have p4:w.cell? (t,D+k*5+4)=some (.slice (A k).oa (X.K k).k (A k).ca):=b k hk 4 _ rfl;clear b a6 J;have g1:=dS k;have g2:(k:Int)<(X.nk:Int):=by omega
 go_enter func41,ntmps41;go_wp2;obtain⟨L,hL,h0⟩:=aF.ex (((aF.nil (ah w.heap.size w)).alloc (w.heap.size) rfl _ _).alloc (w.heap.size+1) (by simp) _ _);have C:=ar hL;have H0:=ar h0;clear hL h0;go_loopw[6] (fun i wr=>∃j:Nat,j≤(X.K k).m∧i= .int .i64 j∧Hi (∀q,q<j→bZ X.pI X.np ((X.K k).P q)=true∧((X.D (el X.pI X.np ((X.K k).P q))).kd=4∨(X.D (el X.pI X.np ((X.K k).P q))).kd=3)∧(∃l,jr X (X.D (el X.pI X.np ((X.K k).P q))).nd=some l∧l.getLast?=some (X.K k).bl)∧∀d,d<k→∀j',j'<(X.K d).m→(X.K d).P j'≠(X.K k).P q)∧aF w wr L) (fun i _=>(X.K k).m-(intOf i).toNat)
 case atStart=>exact⟨0,by omega,rfl,fun i hi=>absurd hi (by omega),H0.o⟩
 case round=>
  clear H0;obtain⟨w2,rfl⟩:=wE wr;obtain⟨j,hj,rfl,hm,hO⟩:=hrel;have H:=ar hO;clear hO;obtain⟨x0,x1,x2,x3,x4,x5,-,xz⟩:=aJ (aF.nth H.o C.o 1 rfl);obtain⟨-,y1,y2,-,-,-,yz⟩:=bM (aF.nth H.o C.o 0 rfl);by_cases hlt:j<(X.K k).m
  ·obtain⟨T,fc,rfl,c2,Y⟩:=bs.at a4.o (fun _=>rfl) hlt;obtain⟨s,hs⟩:=oE ((X.K k).P j);have c0:w2.cell? (T,fc+j)=some s:=bI H.o.1 c2 (by
    have q9:w.cell? (T,fc+j)=some ((X.K k).P j):=by have:=Y j hlt 0 _ rfl;rwa [Nat.mul_one,Nat.add_zero]at this
    rw[q9,hs])
   have f8:T<w2.heap.size:=aM c2 H.o.1.size;have zx:=H.o.len C.o 1 rfl;have zy:=H.o.len C.o 0 rfl;have HS:=ar hs;obtain⟨V,hV⟩:=oE (gK X s);obtain⟨U,hU⟩:=oE (G s);obtain⟨B,hB⟩:=oE (bZ X.pI X.np s);have HV:=ar hV;have HB:=ar hB;have d4:Hi (∀W,Below w.heap.size w W→Gv 39 #[.agg #[.string X.hull,.slice on X.nn cn,.slice op X.np cp,.slice os X.ns cs,.slice (some ⟨t,D,none⟩) X.nk ck,.slice od X.nd cd],.string s] (.tuple #[.agg (aH V U),.bool B]) W):=fun W a=>by
    have:=HN.o W s a;rw[hV,hU,hB]at this;exact this
   clear hV hU hB hs Y;go_wp2_with fail
   refine dd 13 [⟨10,11,(aH jE je),62⟩] [] (by kernel_rfl) (by kernel_rfl) (by kernel_rfl) (by kernel_rfl) (by kernel_rfl) ?_ ?_ ?_
   ·intro r hr;cases hr
   ·intro r hr;cases hr
   simp only[ac,aj,aK,aC,aa,ae,af];iterate 6
    apply dE (by kernel_rfl)
    ·intro u c a g;replace a:=a.nil;have F:=dx a;have K:w.heap.size<c.heap.size:=by omega
     have N:w.heap.size+1<c.heap.size:=by omega
     have O:T<c.heap.size:=by omega
     obtain⟨hc,hf⟩:=br a;have n:=ar a;clear a F;simp[cL,ai,dK,bN,dm.is,dm.any]at g;go_simp
     first|exact⟨ah _ _,rfl⟩|rfl
   apply dE (by kernel_rfl)
   ·intro u c a g;replace a:=a.nil;have F:=dx a;have K:w.heap.size<c.heap.size:=by omega
    have N:w.heap.size+1<c.heap.size:=by omega
    have O:T<c.heap.size:=by omega
    obtain⟨hc,hf⟩:=br a;have n:=ar a;clear a F;simp[cL,ai,dK,bN,dm.is,dm.any]at g;go_simp
    first|rfl|(go_at_call 39;refine(d4.o _ (ag H.o.1 n.o)).mono ?_;rintro e w1 ⟨rfl,v⟩;first|exact⟨rfl,v⟩|exact⟨_,rfl,v,rfl⟩)
   iterate 3
    apply dE (by kernel_rfl)
    ·intro u c a g;replace a:=a.nil;have F:=dx a;have K:w.heap.size<c.heap.size:=by omega
     have N:w.heap.size+1<c.heap.size:=by omega
     have O:T<c.heap.size:=by omega
     obtain⟨hc,hf⟩:=br a;have n:=ar a;clear a F;simp[cL,ai,dK,bN,dm.is,dm.any]at g;go_simp
     first|exact⟨ah _ _,rfl⟩|rfl
   refine dZ ⟨10,11,(aH jE je),62⟩ (by simp) rfl ?_ ?_
   ·intro u c a;refine⟨by simp[au],?_⟩;go_simp
    first|done|rfl|exact⟨rfl,rfl⟩
   apply cC ⟨10,11,(aH jE je),62⟩ (by simp) rfl (by kernel_rfl) rfl (by kernel_rfl)
   ·intro u c a g;replace a:=a.nil;have F:=dx a;have K:w.heap.size<c.heap.size:=by omega
    have N:w.heap.size+1<c.heap.size:=by omega
    have O:T<c.heap.size:=by omega
    obtain⟨hc,hf⟩:=br a;have n:=ar a;clear a F;simp[cL,ai,dK,bN,dm.is,dm.any]at g;refine⟨by simp[au],fun b' c5 f7 o=> ?_⟩;exact gQ 62 b' 18 (aH jE je) (aH V U) 62 bv (by first|exact c5|simpa [Act.eval]using c5) (by first|exact g.1|exact g.2.1|exact g|simp[Act.eval,g]) rfl rfl rfl o (fun _=>fY o)
   apply dE (by kernel_rfl)
   ·intro u c a g;replace a:=a.nil;have F:=dx a;have K:w.heap.size<c.heap.size:=by omega
    have N:w.heap.size+1<c.heap.size:=by omega
    have O:T<c.heap.size:=by omega
    obtain⟨hc,hf⟩:=br a;have n:=ar a;clear a F;simp[cL,ai,dK,bN,dm.is,dm.any]at g;go_simp
    first|exact⟨ah _ _,rfl⟩|rfl
   intro u w4 a f hV hP;replace a:=a.nil;clear hP;have e0:u 0=_:=eE f 0;have e1:u 1=_:=eE f 1;have e2:u 2=_:=eE f 2;have e3:u 3=_:=eE f 3;have e4:u 4=_:=eE f 4;have e5:u 5=_:=eE f 5;have e6:u 6=_:=eE f 6;have e7:u 7=_:=eE f 7;have e8:u 8=_:=eE f 8;have e9:u 9=_:=eE f 9;have a5:u 11=_:=eE f 11;have b1:u 12=_:=eE f 12;obtain⟨⟨VA,Q,c6,z⟩,-,-⟩:=hV;replace z:w4.heap[VA]?=some (.cells (u 11).cells 62):=z;rw[a5]at z;replace Q:u 10= .pointer (some VA):=Q;have R:=ar z;clear z;(try simp only[aw,aT]at c6);(try have f5:w2.heap.size≤VA:=by omega);clear c6;simp only[am,ax,ac,aj,aK,aC,aa,ae,af,e0,e1,e2,e3,e4,e5,e6,e7,e8,e9,a5,b1,Q];clear e0 e1 e2 e3 e4 e5 e6 e7 e8 e9 a5 b1 Q f;have a2:=ar a;have g0:=ag (w:=w2) (by first|assumption|go_grown) a;obtain⟨f3,f1,b5,b8,c8⟩:=pr a;clear a;have H4:=ar (aF.cons (aF.step H.o a2.o) R.o);clear b5 b8 c0;clear x0 x1 x2 x3 x4 x5 xz y1 y2 yz;obtain rfl|rfl:B=false∨B=true:=by cases B<;>simp
   ·go_wp2;go_returns;exact bS (by decide) H4.o.1
   have a9:Hi (V=X.D (el X.pI X.np s)):=by
    show _=_;rw[←HV.o];unfold gK;rw[if_pos HB.o]
   have b0:Hi (V.id=s):=by
    show _=_;rw[a9.o];exact le (of_decide_eq_true HB.o)
   have d3:Hi (bZ X.nI X.nn s=false):=by
    show _=_;cases e:bZ X.nI X.nn s with
    |false=>rfl
    |true=>
     have h1:=le (of_decide_eq_true e);have h2:=le (of_decide_eq_true HB.o);exact absurd (h2.trans h1.symm) (g.o _ _ (of_decide_eq_true HB.o) (of_decide_eq_true e))
   obtain⟨v0,-,v2,-,-,-,-,-,-,-,-,-,-,-,-,-,-,-⟩:=tb R.o;by_cases hkd:V.kd=4∨V.kd=3;rotate_left
   ·have k1:(V.kd !=4)=true:=by simp;omega
    have k2:(V.kd !=3)=true:=by simp;omega
    go_wp2;go_returns;exact bS (by decide) H4.o.1
   have f0:(V.kd !=4)=false∨((V.kd !=4)=true∧(V.kd !=3)=false):=by
    rcases hkd with h|h<;>simp[h]
   have d1:=ar hkd;clear hkd;obtain⟨y,hy⟩:=oE (Bm (jr X V.nd));obtain⟨I,hI⟩:=oE ((jr X V.nd).isSome);have HY:=ar hy;have c7:Hi (∀W,Below w.heap.size w W→Gv 81 #[.agg #[.string X.hull,.slice on X.nn cn,.slice op X.np cp,.slice os X.ns cs,.slice (some ⟨t,D,none⟩) X.nk ck,.slice od X.nd cd],.string V.id] (.tuple #[.string y,.bool I]) W):=fun W a=>by
    have:=a1.o W s a d3.o HB.o;rw[HV.o,hy,hI]at this;rw[b0.o];exact this
   clear hy hI;obtain⟨x0,x1,x2,x3,x4,x5,-,xz⟩:=aJ (aF.nth H4.o.tail C.o 1 rfl);obtain⟨E,f⟩:=oE ((y.toList==(X.K k).bl.toList));have HE:=ar f;rcases f0 with k1|⟨k1,k2⟩
   all_goals
    go_wp2_with fail
    (go_at_call 81;refine cy (c7.o _ H4.o.1) H4 fun w5 H5=> ?_);clear x0 x1 x2 x3 x4 x5 xz v0 v2;obtain⟨x0,x1,x2,x3,x4,x5,-,xz⟩:=aJ (aF.nth H5.o.tail C.o 1 rfl);obtain⟨-,y1,y2,-,-,-,yz⟩:=bM (aF.nth H5.o.tail C.o 0 rfl);obtain rfl|rfl:E=false∨E=true:=by cases E<;>simp
    ·go_wp2;go_returns;exact bS (by decide) H5.o.1
    go_wp2;clear x0 x1 x2 x3 x4 x5 xz y1 y2 yz;go_loopw[11] (fun i wr=>∃l:Nat,l≤k∧i= .int .i64 l∧Hi (∀d,d<l→bZ (X.K d).P (X.K d).m s=false)∧aF w wr ((VA,aH V U,62)::L)) (fun i _=>k-(intOf i).toNat)
    case atStart=>exact⟨0,by omega,rfl,fun i hi=>absurd hi (by omega),H5.o⟩
    case round=>
     clear H5;obtain⟨w9,rfl⟩:∃x:World,x=w2:=⟨_,rfl⟩;obtain⟨w6,rfl⟩:=wE wr;obtain⟨l,hl,rfl,hq,hI⟩:=hrel;have p:=ar hI;clear hI;by_cases hlk2:l<k
     ·have a0:l<X.nk:=by omega
      obtain⟨x0,x1,x2,x3,x4,x5,-,xz⟩:=aJ (aF.nth p.o.tail C.o 1 rfl);have v0:w6.cell? VA=some V.id:=aX (p.o.get 0 rfl) rfl;have d2:w6.cell? (t,D+l*5+2)=some (.slice (A l).op (X.K l).m (A l).cp):=c9.o w6 p.o.1 l a0 2 _ rfl;have g4:VA<w6.heap.size:=p.o.lt (bw ..);have g3:t<w6.heap.size:=aM c3 p.o.1.size;have zx:=p.o.tail.len C.o 1 rfl;have zy:=p.o.tail.len C.o 0 rfl;have l0:=dS l;have l1:(l:Int)<(X.nk:Int):=by omega
      obtain⟨Z,hZ⟩:=oE (bZ (X.K l).P (X.K l).m V.id);have HZ:=ar hZ;have d0:Hi (∀W,Below w.heap.size w W→Gv 31 #[.slice (A l).op (X.K l).m (A l).cp,.string V.id] (.bool Z) W):=fun W a=>by rw[←hZ];exact a7.o W l V.id a a0
      have f6:=p.o.1;clear hZ;go_wp2_with fail
      refine aD 9 ?_;simp only[ac,aj,aK,aC,aa,ae,af];iterate 8 refine bJ ?_
      apply bg
      ·intro u c F hc hf n g;simp[aU,ai,aR,ay.is,ay.any]at g;go_simp
       first|rfl|(go_at_call 31;refine(d0.o _ (ag p.o.1 n.o)).mono ?_;rintro e w1 ⟨rfl,v⟩;first|exact⟨rfl,v⟩|exact⟨_,rfl,v,rfl⟩)
      intro u w7 a f;simp only[cF,aR,ay.is,aE,aA,reduceIte]at f;simp only[am,ax,ac,aj,aK,aC,aa,ae,af,f];clear f;obtain⟨f4,f2,b6,b9,a3⟩:=pr a;clear a;have H7:=ar (aF.step p.o a3.o);clear b6 b9 v0 d2 x0 x1 x2 x3 x4 x5 xz;obtain rfl|rfl:Z=true∨Z=false:=by cases Z<;>simp
      ·go_wp2;go_returns;exact bS (by decide) H7.o.1
      have d9:Hi (∀d,d<l+1→bZ (X.K d).P (X.K d).m s=false):=fun d d6=>by
       by_cases e:d=l
       ·rw[e,←b0.o];exact HZ.o
       ·exact hq.o d (by omega)
      go_wp2;go_roundw
      case rel=>exact⟨l+1,by omega,by go_num,d9,H7.o⟩
      case measure=>simp[intOf];omega
     ·have d8:Hi (∀q,q<j+1→bZ X.pI X.np ((X.K k).P q)=true∧((X.D (el X.pI X.np ((X.K k).P q))).kd=4∨(X.D (el X.pI X.np ((X.K k).P q))).kd=3)∧(∃l,jr X (X.D (el X.pI X.np ((X.K k).P q))).nd=some l∧l.getLast?=some (X.K k).bl)∧∀d,d<k→∀j',j'<(X.K d).m→(X.K d).P j'≠(X.K k).P q):=fun q f9=>by
       by_cases e:q=j
       ·rw[e,HS.o,←a9.o];refine⟨HB.o,d1.o,Hb (HY.o.trans (ee (by simpa using HE.o))) d5.o,fun d d6 j' d7 e2=> ?_⟩;have h1:=hq.o d (by omega);rw[jh.2 ⟨j',d7,e2⟩]at h1;cases h1
       ·exact hm.o q (by omega)
      go_wp2;go_roundw
      case rel=>exact⟨j+1,by omega,by go_num,d8,p.o.tail⟩
      case measure=>simp[intOf];omega
  ·have HT:Hi (nO X k):=fun i hi=>hm.o i (by omega);go_wp2;go_returns;exact mX HT.o H.o.1
def lC (X:bK) (i:Nat):Nat:=match i with|0=>X.nn|1=>X.np|2=>X.ns|_=>X.nk
def lF (X:bK) (i:Nat):Nat→ByteArray:=match i with|0=>X.nI|1=>X.pI|2=>X.sI|_=>X.kI
structure sB (X:bK):Prop where
 hull:dM X.hull=true
 asc:∀i,i<4→fG (lF X i) (lC X i)
 nd:∀i,0<i→i<X.nd→lq (X.R (i-1)) (X.R i)=true
 dis:∀i,i<4→∀k,k<i→∀n,n<lC X i→bZ (lF X k) (lC X k) (lF X i n)=false
theorem yw {w':World} {X:bK} {g h k l:Value} (c:bs w' g X.nn 1 (fun i=>#[.string (X.nI i)])) (d:bs w' h X.np 1 (fun i=>#[.string (X.pI i)])) (e:bs w' k X.ns 1 (fun i=>#[.string (X.sI i)])) (f:bs w' l X.nk 1 (fun i=>#[.string (X.kI i)])):
 ∃(b:Nat→Option Addr) (a:Nat→Nat),(g= .slice (b 0) X.nn (a 0)∧h= .slice (b 1) X.np (a 1)∧k= .slice (b 2) X.ns (a 2)∧l= .slice (b 3) X.nk (a 3))∧∀i,i<4→bs w' (.slice (b i) (lC X i) (a i)) (lC X i) 1 (fun j=>#[.string (lF X i j)]):=by
 obtain⟨r,m,rfl,-⟩:=c.form (fun _=>rfl);obtain⟨s,n,rfl,-⟩:=d.form (fun _=>rfl);obtain⟨t,o,rfl,-⟩:=e.form (fun _=>rfl);obtain⟨u,p,rfl,-⟩:=f.form (fun _=>rfl);refine⟨fun i=>match i with|0=>r|1=>s|2=>t|_=>u,fun i=>match i with|0=>m|1=>n|2=>o|_=>p,⟨rfl,rfl,rfl,rfl⟩,fun i q=> ?_⟩
 match i,q with
 |0,_=>exact c
 |1,_=>exact d
 |2,_=>exact e
 |3,_=>exact f
theorem Bo (X:bK) (S:dq) (w:World) (h:Hi (cJ w X S)) (hz:Hi (eY X)):
 Calls prog 12 #[.agg (bH X S)] w (dL (sB X) w):=by
 have I:=hz.o.few;have hn:=(h.o.d).lim;have h0:cJ w X S:=h.o;obtain⟨NM,a2⟩:=oE (dM X.hull);have e1:=ar a2;have d7:Hi (∀W,Gv 26 #[.string X.hull] (.bool NM) W):=fun W=>by rw[←a2];exact iO _ W (by have:=hz.o.h;omega)
 have Y:Hi (∀W,Below w.heap.size w W→Calls prog 28 #[.agg (bH X S)] W (mL X W)):=fun W C=>sA X S W (h0.below C) ⟨I.1,I.2.1,I.2.2.1,I.2.2.2.1⟩;clear h0 a2;obtain⟨on,cn,op,cp,sp,os,cs,ok,ck,sk,od,cd⟩:=S;unfold bH at Y⊢
 dsimp only at hn Y⊢
 have j0:decide ((64:Int)<(X.nn:Int))=false:=df;have e4:decide (64<X.nn)=false:=df;have j1:decide ((256:Int)<(X.np:Int))=false:=df;have e5:decide (256<X.np)=false:=df;have j2:decide ((256:Int)<(X.ns:Int))=false:=df;have e6:decide (256<X.ns)=false:=df;have j3:decide ((64:Int)<(X.nk:Int))=false:=df;have e7:decide (64<X.nk)=false:=df;have j4:decide ((256:Int)<(X.nd:Int))=false:=df;have e8:decide (256<X.nd)=false:=df;go_enter func12,ntmps12;go_wp2_with fail
 (go_at_call 26;refine mz (d7.o _) fun w1 l=> ?_);obtain⟨L,hL,h1⟩:=aF.ex (aF.step ((aF.nil (ah w.heap.size w)).alloc (w.heap.size) rfl _ _) l);have HL:=ar hL;have H1:=ar h1;clear hL h1 l;obtain⟨x0,x1,x2,x3,x4,x5,-,-⟩:=aJ (aF.nth H1.o HL.o 0 rfl);obtain rfl|rfl:NM=false∨NM=true:=by cases NM<;>simp
 ·go_wp2;go_returns;exact bS (by decide) H1.o.1
 go_wp2_with fail
 (go_at_call 28;refine(Y.o _ H1.o.1).mono ?_;rintro e_ w2 e2);obtain⟨v0,v1,v2,v3,rfl,q0,q1,q2,q3,b8⟩:=e2;have a7:=yw q0 q1 q2 q3;obtain⟨m,o,⟨rfl,rfl,rfl,rfl⟩,F⟩:=a7;have a8:=ar F;have H2:=ar (aF.step H1.o b8);obtain⟨v,a9⟩:=oE w2.heap.size;have a5:=ar a9;clear b8 q0 q1 q2 q3 F x0 x1 x2 x3 x4 x5 j0 e4 j1 e5 j2 e6 j3 e7 j4 e8;clear a9;go_wp2;rw[a5.o];generalize J:w2.alloc (.cells #[.slice (m 0) X.nn (o 0),.slice (m 1) X.np (o 1),.slice (m 2) X.ns (o 2),.slice (m 3) X.nk (o 3)] 89)=w3;have P:Hi (w3.heap[v]?=some (.cells #[.slice (m 0) X.nn (o 0),.slice (m 1) X.np (o 1),.slice (m 2) X.ns (o 2),.slice (m 3) X.nk (o 3)] 89)):=by show _=_;rw[←J];exact bf _ _ _ a5.o.symm
 have H3:Hi (aF w w3 L):=by show aF _ _ _;rw[←J];exact aF.tail (H2.o.alloc w2.heap.size rfl _ _)
 have N:Hi (Below w2.heap.size w2 w3):=by show Below _ _ _;rw[←J];exact(ah _ _).alloc (aB _) _
 clear J;have Q:Hi (∀W:World,W.heap[v]?=w3.heap[v]?→∀i,i<4→W.cell? ⟨v,i,none⟩=some (.slice (m i) (lC X i) (o i))):=fun W hW i f=>by
  have h1:=hW.trans P.o
  match i,f with
  |0,_=>exact aX h1 rfl
  |1,_=>exact aX h1 rfl
  |2,_=>exact aX h1 rfl
  |3,_=>exact aX h1 rfl
 have Z:Hi (∀W,Below w3.heap.size w3 W→∀i,i<4→bs W (.slice (m i) (lC X i) (o i)) (lC X i) 1 (fun j=>#[.string (lF X i j)])):=fun W hW i f=>((a8.o i f).below N.o).below hW;have H:Hi (v<w3.heap.size):=(av.1 P.o).1;clear a8 N H2 P H1;go_loopw[4] (fun i wr=>∃j:Nat,j≤4∧i= .int .i64 j∧Hi (∀i,i<j→fG (lF X i) (lC X i))∧Below w3.heap.size w3 wr) (fun i _=>4-(intOf i).toNat)
 case atStart=>exact⟨0,by omega,rfl,fun i f=>absurd f (by omega),ah _ _⟩
 case round=>
  obtain⟨c,rfl⟩:=wE wr;obtain⟨j,hj,rfl,hm,t⟩:=hrel;have K:=ar t;by_cases hlt:j<4
  ·have c0:c.cell? (v,j)=some (.slice (m j) (lC X j) (o j)):=Q.o c (t.block v H.o) j hlt;have j0:=dS j;have j1:(j:Int)<4:=by omega
   obtain⟨E,g⟩:=oE (sb (lF X j) (lC X j));have HE:=ar g;have d4:Hi (∀W,Below w3.heap.size w3 W→Gv 29 #[.slice (m j) (lC X j) (o j)] (.bool E) W):=fun W C=>by rw[←g];exact se _ _ _ W (Z.o W C j hlt)
   clear g t;go_wp2_with fail
   (go_at_call 29;refine mz (d4.o _ K.o) fun w5 b9=> ?_);have G:=ar (ag K.o b9);have H5:=ar (aF.step H3.o G.o);clear b9;obtain rfl|rfl:E=false∨E=true:=by cases E<;>simp
   ·go_wp2;go_returns;exact bS (by decide) H5.o.1
   have a3:Hi (∀i,i<j+1→fG (lF X i) (lC X i)):=fun i f=>by
    by_cases e:i=j
    ·rw[e];exact sd.1 HE.o
    ·exact hm.o i (by omega)
   go_wp2;go_roundw
   case rel=>exact⟨j+1,by omega,by go_num,a3,G.o⟩
   case measure=>simp[intOf];omega
  ·have d9:Hi (∀i,i<4→fG (lF X i) (lC X i)):=fun i f=>hm.o i (by omega);clear t hm;go_wp2;clear hlt hj;go_loopw[5] (fun i wr=>∃j p:Nat,Hi (j=p+1)∧i= .int .i64 j∧Hi (∀i,0<i→i<j→lq (X.R (i-1)) (X.R i)=true)∧Below w3.heap.size w3 wr) (fun i _=>X.nd-(intOf i).toNat)
   case atStart=>exact⟨1,0,rfl,rfl,fun i h0 f=>absurd f (by omega),K.o⟩
   case round=>
    clear K;obtain⟨w9,rfl⟩:∃x:World,x=c:=⟨_,rfl⟩;obtain⟨c,rfl⟩:=wE wr;obtain⟨j,p,hp,rfl,hm,a1⟩:=hrel;have K:=ar a1;have H4:=ar (aF.step H3.o a1);obtain⟨-,-,-,-,-,x5,-,xz⟩:=aJ (aF.nth H4.o HL.o 0 rfl);have zx:=H4.o.len HL.o 0 rfl;have t:=H4.o.1;clear a1;by_cases hlt:j<X.nd
    ·have e3:p<j:=by have:=hp.o;omega
     have a4:p<X.nd:=by omega
     obtain⟨bc,fc,rfl,r,d⟩:=bs.at (h.o.d) (fun _=>rfl) hlt;have c0:c.cell? (bc,fc+j*3)=some (.int .i64 (X.R j).kd):=bI t r (d j hlt 0 _ rfl);have c1:c.cell? (bc,fc+j*3+1)=some (.string (X.R j).bl):=bI t r (d j hlt 1 _ rfl);have c2:c.cell? (bc,fc+j*3+2)=some (.string (X.R j).on):=bI t r (d j hlt 2 _ rfl);have d0:c.cell? (bc,fc+p*3)=some (.int .i64 (X.R p).kd):=bI t r (d p a4 0 _ rfl);have d1:c.cell? (bc,fc+p*3+1)=some (.string (X.R p).bl):=bI t r (d p a4 1 _ rfl);have d2:c.cell? (bc,fc+p*3+2)=some (.string (X.R p).on):=bI t r (d p a4 2 _ rfl);have f6:bc<c.heap.size:=aM r t.size;have u1:IntKind.i64.wrap ((j:Int)-1)=(p:Int):=by rw[iw];have:=hp.o;omega
     have u2:=dS p;have u3:(p:Int)<(X.nd:Int):=by omega
     clear d e3;obtain⟨E,g⟩:=oE (lq (X.R p) (X.R j));have HE:=ar g;go_wp2_with fail
     refine aD 13 ?_;simp only[ac,aj,aK,aC,aa,ae,af];iterate 11 refine bJ ?_
     apply bg
     ·intro u wx hz hc hf a6 hd;simp[aU,ai,aR,ay.is,ay.any]at hd;go_simp
      first|rfl|(go_at_call 30;refine(wF _ _ _).mono ?_;rintro e w1 ⟨rfl,l⟩;first|exact⟨rfl,l⟩|exact⟨_,rfl,l,rfl⟩)
     refine bJ ?_;intro u w5 C g;simp only[cF,aR,ay.is,aE,aA,reduceIte]at g;simp only[am,ax,ac,aj,aK,aC,aa,ae,af,g];clear g;obtain⟨f3,f1,c3,c8,z⟩:=pr C;clear C;have G:=ar (ag K.o z.o);have H5:=ar (aF.step H4.o z.o);clear g c3 c8 x5 c0 c1 c2 d0 d1 d2;obtain rfl|rfl:E=false∨E=true:=by cases E<;>simp
     ·go_wp2;go_returns;exact bS (by decide) H5.o.1
     have a3:Hi (∀i,0<i→i<j+1→lq (X.R (i-1)) (X.R i)=true):=fun i h0 f=>by
      by_cases e:i=j
      ·rw[e,show j-1=p by have:=hp.o;omega];exact HE.o
      ·exact hm.o i h0 (by omega)
     go_wp2;go_roundw
     case rel=>exact⟨j+1,j,rfl,by go_num,a3,G.o⟩
     case measure=>simp[intOf];omega
    ·have e0:Hi (∀i,0<i→i<X.nd→lq (X.R (i-1)) (X.R i)=true):=fun i h0 f=>hm.o i h0 (by omega);clear t hm H4;go_wp2;clear hlt hp x5;go_loopw[6] (fun i wr=>∃a:Nat,a≤4∧i= .int .i64 a∧Hi (∀i,i<a→∀k,k<i→∀n,n<lC X i→bZ (lF X k) (lC X k) (lF X i n)=false)∧Below w3.heap.size w3 wr) (fun i _=>4-(intOf i).toNat)
     case atStart=>exact⟨0,by omega,rfl,fun i f=>absurd f (by omega),K.o⟩
     case round=>
      clear K;obtain⟨w8,rfl⟩:∃x:World,x=c:=⟨_,rfl⟩;obtain⟨c,rfl⟩:=wE wr;obtain⟨a,f7,rfl,c5,b5⟩:=hrel;have R:=ar b5;clear b5;by_cases hlt:a<4
      ·go_wp2;go_loopw[7] (fun i wr=>∃b:Nat,b≤a∧i= .int .i64 b∧Hi (∀k,k<b→∀n,n<lC X a→bZ (lF X k) (lC X k) (lF X a n)=false)∧Below w3.heap.size w3 wr) (fun i _=>a-(intOf i).toNat)
       case atStart=>exact⟨0,by omega,rfl,fun i f=>absurd f (by omega),R.o⟩
       case round=>
        clear R;obtain⟨g0,rfl⟩:∃x:World,x=c:=⟨_,rfl⟩;obtain⟨c,rfl⟩:=wE wr;obtain⟨b,f8,rfl,c6,b6⟩:=hrel;have T:=ar b6;clear b6;by_cases hlk:b<a
        ·go_wp2;go_loopw[8] (fun i wr=>∃s:Nat,s≤lC X a∧i= .int .i64 s∧Hi (∀n,n<s→bZ (lF X b) (lC X b) (lF X a n)=false)∧Below w3.heap.size w3 wr) (fun i _=>lC X a-(intOf i).toNat)
         case atStart=>exact⟨0,by omega,rfl,fun i f=>absurd f (by omega),T.o⟩
         case round=>
          clear T;obtain⟨g1,rfl⟩:∃x:World,x=c:=⟨_,rfl⟩;obtain⟨c,rfl⟩:=wE wr;obtain⟨s,f9,rfl,c7,q⟩:=hrel;have U:=ar q;have HI:=ar (aF.step H3.o q);have c0:c.cell? (v,a)=some (.slice (m a) (lC X a) (o a)):=Q.o c (q.block v H.o) a hlt;have c1:c.cell? (v,b)=some (.slice (m b) (lC X b) (o b)):=Q.o c (q.block v H.o) b (by omega);have g2:v<c.heap.size:=by have:=q.size;have:=H.o;omega
          have a0:=dS a;have b0:=dS b;have b1:(b:Int)<4:=by omega
          obtain⟨oi,d3⟩:=oE (m a);have B:bs c (.slice (m a) (lC X a) (o a)) (lC X a) 1 (fun j=>#[.string (lF X a j)]):=Z.o c q a hlt;have e9:=B.lim;rw[d3]at c0 B;clear q d3;by_cases hln:s<lC X a
          ·obtain⟨bn,fn,rfl,f0,O⟩:=bs.at B (fun _=>rfl) hln;obtain⟨y,hy⟩:=oE (lF X a s);have d0:c.cell? (bn,fn+s)=some y:=by
            have q9:c.cell? (bn,fn+s)=some (lF X a s):=by have:=O s hln 0 _ rfl;rwa [Nat.mul_one,Nat.add_zero]at this
            rw[q9,hy]
           obtain⟨E,g⟩:=oE (bZ (lF X b) (lC X b) y);have HE:Hi (bZ (lF X b) (lC X b) (lF X a s)=E):=by show _=_;rw[hy];exact g
           have d8:Hi (∀W,Below w3.heap.size w3 W→Gv 31 #[.slice (m b) (lC X b) (o b),.string y] (.bool E) W):=fun W C=>by rw[←g];exact uS _ _ _ _ W (Z.o W C b (by omega))
           have f5:=HI.o.1;clear hy g O B;go_wp2_with fail
           refine aD 10 ?_;simp only[ac,aj,aK,aC,aa,ae,af];iterate 9 refine bJ ?_
           apply bg
           ·intro u wx hz hc hf a6 hd;simp[aU,ai,aR,ay.is,ay.any]at hd;go_simp
            first|rfl|(go_at_call 31;refine(d8.o _ (ag U.o a6.o)).mono ?_;rintro e w1 ⟨rfl,l⟩;first|exact⟨rfl,l⟩|exact⟨_,rfl,l,rfl⟩)
           intro u w7 C g;simp only[cF,aR,ay.is,aE,aA,reduceIte]at g;simp only[am,ax,ac,aj,aK,aC,aa,ae,af,g];clear g;obtain⟨f4,f2,c4,c9,A⟩:=pr C;clear C;have d5:=ar (ag U.o A.o);have H7:=ar (aF.step HI.o A.o);clear c4 c9 c0 c1 d0;obtain rfl|rfl:E=true∨E=false:=by cases E<;>simp
           ·go_wp2;go_returns;exact bS (by decide) H7.o.1
           have D:Hi (∀n,n<s+1→bZ (lF X b) (lC X b) (lF X a n)=false):=fun n hn=>by
            by_cases e:n=s
            ·rw[e];exact HE.o
            ·exact c7.o n (by omega)
           go_wp2;go_roundw
           case rel=>exact⟨s+1,by omega,by go_num,D,d5.o⟩
           case measure=>simp[intOf];omega
          ·have D:Hi (∀k,k<b+1→∀n,n<lC X a→bZ (lF X k) (lC X k) (lF X a n)=false):=fun k hk n hn=>by
            by_cases e:k=b
            ·rw[e];exact c7.o n (by omega)
            ·exact c6.o k (by omega) n hn
           clear B;go_wp2;go_roundw
           case rel=>exact⟨b+1,by omega,by go_num,D,U.o⟩
           case measure=>simp[intOf];omega
        ·have D:Hi (∀i,i<a+1→∀k,k<i→∀n,n<lC X i→bZ (lF X k) (lC X k) (lF X i n)=false):=fun i f k hk n hn=>by
          by_cases e:i=a
          ·subst e;exact c6.o k (by omega) n hn
          ·exact c5.o i (by omega) k hk n hn
         go_wp2;go_roundw
         case rel=>exact⟨a+1,by omega,by go_num,D,T.o⟩
         case measure=>simp[intOf];omega
      ·have HT:Hi (sB X):=⟨e1.o,d9.o,e0.o,fun i f=>c5.o i (by omega)⟩;have d6:Hi (Below w.heap.size w c):=ag H3.o.1 R.o;go_wp2;go_returns;exact mX HT.o d6.o
def uX (H i n:Nat):List (Nat×Nat):=if H<n then [(H,i)]else []
def xm:List (Nat×Nat)→List Value
 | []=> []
 |e::l=> .int .i64 (e.1:Int):: .int .i64 (e.2:Int)::xm l
theorem sC (e:Nat×Nat):∀l,xm (l++ [e])=xm l++ [.int .i64 (e.1:Int),.int .i64 (e.2:Int)]
 | []=>rfl
 |x::l=>by show _::_::xm (l++ [e])=_;rw[sC e l];rfl
theorem DI:∀(l:List (Nat×Nat)) (i:Nat),i<l.length→(xm l)[i*2]?=some (.int .i64 ((l.getD i (0,0)).1:Int))∧(xm l)[i*2+1]?=some (.int .i64 ((l.getD i (0,0)).2:Int))
 | [],i,h=>absurd h (by simp)
 |x::l,0,_=>⟨rfl,rfl⟩
 |x::l,i+1,h=>by
  have:=DI l i (by simpa using h);rw[show(i+1)*2=i*2+2 by omega];exact this
theorem zN {w:World} {B:Nat} {v:Value} {El:List (Nat×Nat)} (h:w.ownsRow B 108 2 v El.length (xm El)):Cj w v El:=
 fv h _ (by decide) fun i j b c=>by
  have a:=DI El i b
  match j,c with
  |0,_=>exact a.1
  |1,_=>exact a.2
theorem zR:(prog.info? 108).map (fun i=>(i.zero,i.size,i.bytes))=some (some (.agg #[(),()]),2,16):=by kernel_rfl
theorem jj {w:World} {B b:Nat} {t d:TypeId} {k n:Nat} {v:Value} {m:List Value} {C:Array Value} (h:w.ownsRow B t k v n m) (j:w.heap[b]?=some (.cells C d)) (l:t≠d):v.ownBlock≠some b:=by
 obtain⟨-,⟨i,-⟩|⟨g,cap,f,e,-,a,-⟩⟩:=h
 ·rw[i];intro e;cases e
 ·rw[e];intro c;simp[Value.ownBlock]at c;subst c;rw[j]at a;simp at a;exact l a.2.symm
def nP (X:bK):Prop:=(∀i,i<X.nk→(jZ (X.K i).id=true∧dU X (X.K i).bl=true∧(1≤(X.K i).hr∧(X.K i).hr≤10000)∧fG (X.K i).P (X.K i).m∧fG (X.K i).A (X.K i).k)∧nO X i∧∀j,j<(X.K i).k→(X.K i).A j≠(X.K i).id∧bZ X.kI X.nk ((X.K i).A j)=true)∧pq X.nk (cW X X.nk)
theorem ju (X:bK) (i:Nat):∀k,(fH X i k).length=k
 |0=>rfl
 |k+1=>by rw[fH,aZ,ju X i k];rfl
theorem mM {X:bK} (h:∀i,i<X.nk→(X.K i).k≤40):∀i,i≤X.nk→(cW X i).length≤40*i
 |0,_=>by simp[cW]
 |i+1,hi=>by
  have a:=mM h i (by omega);have b:=h i (by omega);rw[cW,aZ,ju];omega
theorem tY {X:bK} {i:Nat}:∀{k:Nat} {e:Nat×Nat},e∈fH X i k→∃j,j<k∧e=(el X.kI X.nk ((X.K i).A j),i)
 |0,e,h=>by cases h
 |k+1,e,h=>by
  rcases List.mem_append.1 h with h|h
  ·obtain⟨j,b,a⟩:=tY h;exact⟨j,by omega,a⟩
  ·rw[List.mem_singleton]at h;exact⟨k,by omega,h⟩
theorem tZ {X:bK}:∀{n:Nat} {e:Nat×Nat},e∈cW X n→∃i j,i<n∧j<(X.K i).k∧e=(el X.kI X.nk ((X.K i).A j),i)
 |0,e,h=>by cases h
 |n+1,e,h=>by
  rcases List.mem_append.1 h with h|h
  ·obtain⟨i,j,c,b,a⟩:=tZ h;exact⟨i,j,by omega,b,a⟩
  ·obtain⟨j,b,a⟩:=tY h;exact⟨n,j,by omega,b,a⟩
theorem wH {X:bK} (o:X.nk≤40) (h:∀i,i<X.nk→(X.K i).k≤40) (g:∀i,i<X.nk→∀j,j<(X.K i).k→(X.K i).A j≠(X.K i).id∧bZ X.kI X.nk ((X.K i).A j)=true):jU X.nk (cW X X.nk):=by
 refine⟨by have:=mM h X.nk (aB _);omega,fun q f=> ?_⟩;have n:(cW X X.nk).getD q (0,0)∈cW X X.nk:=by
  rw[aO,aS f];exact List.getElem_mem f
 obtain⟨i,j,d,m,l⟩:=tZ n;have a:=g i d j m;have b:=of_decide_eq_true a.2;rw[l];refine⟨b,d,fun e=>a.1 ?_⟩;have c:=le b;dsimp only at e;rw[e]at c;exact c.symm
theorem tv (X:bK) (S:dq) (w:World) (h:Hi (cJ w X S)) (hz:Hi (eY X)) (hd:Hi (∀i j,i<X.np→j<X.nn→X.pI i≠X.nI j)) (o0:Hi (∀i,i<X.nn→X.nI i≠⟨#[]⟩)) (n5:Hi (fG X.kI X.nk)):
 Calls prog 16 #[.agg (bH X S)] w (dL (nP X) w):=by
 obtain⟨i0,hi,o2,o3,o4⟩:=dC zR;have R:=hz.o.few;have hn:=(h.o.k).lim;have h0:cJ w X S:=h.o;have f4:Hi (∀W,Below w.heap.size w W→Calls prog 28 #[.agg (bH X S)] W (mL X W)):=fun W p=>sA X S W (h0.below p) ⟨R.1,R.2.1,R.2.2.1,R.2.2.2.1⟩;have f1:Hi (∀W q,Below w.heap.size w W→Gv 40 #[.agg (bH X S),.string q] (.bool (dU X q)) W):=fun W q p=>sg X S q W (h0.below p);have f2:Hi (∀W i,Below w.heap.size w W→i<X.nk→(X.K i).bl≠⟨#[]⟩→Calls prog 41 #[.agg (bH X S),(i:Int)] W (dL (nO X i) W)):=fun W i p hi n6=>tu X S i W (h0.below p) hi hd n6;have i4:=ar h.o.k;have d1:Hi (∀W i,Below w.heap.size w W→i<X.nk→bs W (.slice (S.sk i).op (X.K i).m (S.sk i).cp) (X.K i).m 1 (fun j=>#[.string ((X.K i).P j)])∧bs W (.slice (S.sk i).oa (X.K i).k (S.sk i).ca) (X.K i).k 1 (fun j=>#[.string ((X.K i).A j)])):=fun W i p hi=>⟨(h0.kp i hi).below p,(h0.ka i hi).below p⟩;have a3:Hi (X.nk≤40∧∀i,i<X.nk→(X.K i).k≤40):=⟨R.2.2.2.1,fun i hi=>(R.2.2.2.2.2 i hi).2⟩;clear h0 R;obtain⟨on,cn,op,cp,sp,os,cs,ok,ck,o,od,cd⟩:=S;unfold bH at f4 f1 f2⊢
 dsimp only at hn f4 f1 f2 i4 d1⊢
 go_enter func16,ntmps16;go_wp2_with fail
 (go_at_call 28;refine(f4.o _ (by go_grown)).mono ?_;rintro e_ b n8);obtain⟨v0,v1,v2,v3,rfl,-,-,-,q3,k8⟩:=n8;obtain⟨oi,ci,rfl,-,-,-⟩:=bs.form q3 (fun _=>rfl);have i3:=ar q3;have ix:∀W,(Instr.index 89 (.agg #[v0,v1,v2,.slice oi X.nk ci]) (.int .i64 3)).run prog W= .ok (.slice oi X.nk ci) W:=fun W=>by kernel_rfl
 obtain⟨L,hL,a⟩:=aF.ex (aF.step ((aF.nil (ah w.heap.size w)).alloc (w.heap.size) rfl _ _) k8);have HL:=ar hL;have H1:=ar a;have n2:Hi (∀x∈L,x.1<w.heap.size+1):=fun x hx=>by
  rw[HL.o]at hx;simp only[bj,List.not_mem_nil,or_false]at hx;rcases hx with rfl;dsimp only;omega
 clear hL a k8 q3;go_wp2;clear ix;go_loopw[4,5] (fun v i wr=>∃(j:Nat) (C:Option Addr) (t:Nat),j≤X.nk∧i= .int .i64 j∧v= .slice C (cW X j).length t∧Hi (wr.ownsRow b.heap.size 108 2 (.slice C (cW X j).length t) (cW X j).length (xm (cW X j)))∧Hi (∀i,i<j→(jZ (X.K i).id=true∧dU X (X.K i).bl=true∧(1≤(X.K i).hr∧(X.K i).hr≤10000)∧fG (X.K i).P (X.K i).m∧fG (X.K i).A (X.K i).k)∧nO X i∧∀j,j<(X.K i).k→(X.K i).A j≠(X.K i).id∧bZ X.kI X.nk ((X.K i).A j)=true)∧Below b.heap.size b wr) (fun _ i _=>X.nk-(intOf i).toNat)
 case atStart=>exact⟨0,none,0,by omega,rfl,rfl,World.ownsRow_nil _ _ _ _,fun i hi=>absurd hi (by omega),ah _ _⟩
 case round=>
  obtain⟨w2,rfl⟩:=wE wr;obtain⟨i,C,t,p8,rfl,rfl,HR,hm,g1⟩:=hrel;have i2:=ar g1;have HO:=ar (aF.step H1.o g1);clear g1;obtain⟨O,d5⟩:=oE ((cW X i).length);have d3:=ar d5;rw[d5]at HR;rw[d5];clear d5;obtain⟨-,-,-,-,x4,-,-,-⟩:=aJ (aF.nth HO.o HL.o 0 rfl);by_cases hlt:i<X.nk
  ·obtain⟨bk,fk,rfl,b5,r⟩:=bs.at i4.o (fun _=>rfl) hlt;have a5:=HO.o.1;have p0:w2.cell? (bk,fk+i*5)=some (.string (X.K i).id):=bI a5 b5 (r i hlt 0 _ rfl);have p1:w2.cell? (bk,fk+i*5+1)=some (.string (X.K i).bl):=bI a5 b5 (r i hlt 1 _ rfl);have p2:w2.cell? (bk,fk+i*5+2)=some (.slice (o i).op (X.K i).m (o i).cp):=bI a5 b5 (r i hlt 2 _ rfl);have p3:w2.cell? (bk,fk+i*5+3)=some (.int .i64 (X.K i).hr):=bI a5 b5 (r i hlt 3 _ rfl);have p4:w2.cell? (bk,fk+i*5+4)=some (.slice (o i).oa (X.K i).k (o i).ca):=bI a5 b5 (r i hlt 4 _ rfl);clear r a5;obtain⟨I,hI⟩:=oE (jZ (X.K i).id);obtain⟨BL,g0⟩:=oE (dU X (X.K i).bl);obtain⟨E1,g2⟩:=oE (sb (X.K i).P (X.K i).m);obtain⟨E2,g3⟩:=oE (sb (X.K i).A (X.K i).k);have n1:=ar hI;have i1:=ar g0;have m6:=ar g2;have c9:=ar g3;have m2:Hi (∀W,Gv 33 #[.string (X.K i).id] (.bool I) W):=fun W=>by rw[←hI];exact iA _ W (by have:=(hz.o.k i hlt).1;omega)
   have m3:Hi (∀W,Below w.heap.size w W→Gv 40 #[.agg #[.string X.hull,.slice on X.nn cn,.slice op X.np cp,.slice os X.ns cs,.slice (some ⟨bk,fk,none⟩) X.nk ck,.slice od X.nd cd],.string (X.K i).bl] (.bool BL) W):=fun W p=>by rw[←g0];exact f1.o W _ p
   have m4:Hi (∀W,Below w.heap.size w W→Gv 29 #[.slice (o i).op (X.K i).m (o i).cp] (.bool E1) W):=fun W p=>by rw[←g2];exact se _ _ _ W (d1.o W i p hlt).1
   have m5:Hi (∀W,Below w.heap.size w W→Gv 29 #[.slice (o i).oa (X.K i).k (o i).ca] (.bool E2) W):=fun W p=>by rw[←g3];exact se _ _ _ W (d1.o W i p hlt).2
   have q1:=dS i;have q2:(i:Int)<(X.nk:Int):=by omega
   clear hI g0 g2 g3;go_wp2_with fail
   (go_at_call 33;refine mz (m2.o _) fun w3 Q=> ?_);have H3:=ar (aF.step (HO.o.alloc w2.heap.size rfl _ _) Q);have j4:Hi (Below b.heap.size b w3):=ag (w:=b) (by have a:=i2.o;have J:=a.size;go_grown) Q;have i8:=ar (bD (HR.o.alloc _) Q);clear Q;clear x4 p0 p1 p2 p3 p4;obtain⟨x0,x1,x2,x3,x4,x5,-,-⟩:=aJ (aF.nth H3.o.tail HL.o 0 rfl);obtain⟨U,Y,Z,y3,K,-,-⟩:=bM (H3.o.get 0 rfl);obtain rfl|rfl:I=false∨I=true:=by cases I<;>simp
   ·go_wp2;go_returns;exact bS (by decide) H3.o.1
   go_wp2_with fail
   (go_at_call 40;refine mz (m3.o _ H3.o.1) fun w4 d6=> ?_);have H4:=ar (aF.step H3.o d6);have j5:Hi (Below b.heap.size b w4):=ag (w:=b) j4.o d6;have i9:=ar (bD i8.o d6);clear d6;clear x4 U Y Z y3 K;obtain⟨-,-,-,-,x4,-,-,-⟩:=aJ (aF.nth H4.o.tail HL.o 0 rfl);obtain⟨U,Y,Z,y3,K,-,-⟩:=bM (H4.o.get 0 rfl);obtain rfl|rfl:BL=false∨BL=true:=by cases BL<;>simp
   ·go_wp2;go_returns;exact bS (by decide) H4.o.1
   by_cases h0:(X.K i).hr<1
   ·have k0:decide ((X.K i).hr<1)=true:=decide_eq_true h0;go_wp2;go_returns;exact bS (by decide) H4.o.1
   have k0:decide ((X.K i).hr<1)=false:=decide_eq_false h0;by_cases a:10000<(X.K i).hr
   ·have k1:decide (10000<(X.K i).hr)=true:=decide_eq_true a;go_wp2;go_returns;exact bS (by decide) H4.o.1
   have k1:decide (10000<(X.K i).hr)=false:=decide_eq_false a;go_wp2_with fail
   (go_at_call 29;refine mz (m4.o _ H4.o.1) fun w5 d7=> ?_);have H5:=ar (aF.step H4.o d7);have j6:Hi (Below b.heap.size b w5):=ag (w:=b) j5.o d7;have j0:=ar (bD i9.o d7);clear d7;clear x4 U Y Z y3 K;obtain⟨-,-,-,-,x4,-,-,-⟩:=aJ (aF.nth H5.o.tail HL.o 0 rfl);obtain⟨U,Y,Z,y3,K,-,-⟩:=bM (H5.o.get 0 rfl);obtain rfl|rfl:E1=false∨E1=true:=by cases E1<;>simp
   ·go_wp2;go_returns;exact bS (by decide) H5.o.1
   go_wp2_with fail
   (go_at_call 29;refine mz (m5.o _ H5.o.1) fun w6 d8=> ?_);have H6:=ar (aF.step H5.o d8);have j7:Hi (Below b.heap.size b w6):=ag (w:=b) j6.o d8;have j1:=ar (bD j0.o d8);clear d8;clear x4 U Y Z y3 K;obtain⟨x0,x1,x2,x3,x4,x5,-,-⟩:=aJ (aF.nth H6.o.tail HL.o 0 rfl);obtain⟨U,Y,Z,y3,K,-,-⟩:=bM (H6.o.get 0 rfl);obtain rfl|rfl:E2=false∨E2=true:=by cases E2<;>simp
   ·go_wp2;go_returns;exact bS (by decide) H6.o.1
   have m0:Hi ((X.K i).bl≠⟨#[]⟩):=fun e=>by
    have a:=i1.o;unfold dU at a;simp only[Bool.and_eq_true]at a;have J:=of_decide_eq_true a.1;exact o0.o _ J ((le J).trans e)
   go_wp2_with fail
   (go_at_call 41;refine(f2.o _ i H6.o.1 hlt m0.o).mono ?_;rintro e_ w7 ⟨c,rfl,b0,d9⟩);have H7:=ar (aF.step H6.o d9);have j8:Hi (Below b.heap.size b w7):=ag j7.o d9;have j2:=ar (bD j1.o d9);have f3:=ar b0;clear d9 b0;clear x4 U Y Z y3 K;obtain⟨-,-,-,-,x4,-,-,-⟩:=aJ (aF.nth H7.o.tail HL.o 0 rfl);obtain⟨U,Y,Z,y3,K,-,-⟩:=bM (H7.o.get 0 rfl);by_cases hc0:c=0;rotate_left
   ·have kc:(c !=0)=true:=by simpa using hc0
    have m1:=ar hc0;clear hc0;go_wp2;go_returns;exact bS m1.o H7.o.1
   subst hc0;go_wp2;clear x4 U Y Z y3 K;obtain⟨XB,g5⟩:=oE w2.heap.size;rw[g5]at H7;rw[g5];clear g5 H3 H4 H5 H6 i8 i9 j0 j1 j4 j5 j6 j7 i2 HO;obtain⟨PC,g4⟩:=oE (#[.string (X.K i).id,.string (X.K i).bl,.slice (o i).op (X.K i).m (o i).cp,(X.K i).hr,.slice (o i).oa (X.K i).k (o i).ca]:Array Value);have f5:=ar g4;have h4:Hi (aF w w7 ((XB,PC,69)::L)):=by show aF _ _ _;rw[←g4];exact H7.o
   clear g4 H7;go_loopw[4,8] (fun v x wr=>∃(j:Nat) (C:Option Addr) (t:Nat),j≤(X.K i).k∧x= .int .i64 j∧v= .slice C (O+j) t∧Hi (wr.ownsRow b.heap.size 108 2 (.slice C (O+j) t) (O+j) (xm (cW X i++fH X i j)))∧Hi (∀q,q<j→(X.K i).A q≠(X.K i).id∧bZ X.kI X.nk ((X.K i).A q)=true)∧aF w wr ((XB,PC,69)::L)∧Below b.heap.size b wr) (fun _ x _=>(X.K i).k-(intOf x).toNat)
   case atStart=>exact⟨0,C,t,by omega,rfl,rfl,by show World.ownsRow _ _ _ _ _ _ _;rw[show cW X i++fH X i 0=cW X i from List.append_nil _];exact j2.o,fun q hq=>absurd hq (by omega),h4.o,j8.o⟩
   case round=>
    clear j2 j8 h4 HR;obtain⟨w8,rfl⟩:=wE wr;obtain⟨j,C,t,hj,rfl,rfl,HR,l3,k6,k7⟩:=hrel;have H8:=ar k6;have f7:=ar k7;clear k6 k7;have l6:w8.heap[XB]?=some (.cells #[.string (X.K i).id,.string (X.K i).bl,.slice (o i).op (X.K i).m (o i).cp,(X.K i).hr,.slice (o i).oa (X.K i).k (o i).ca] 69):=by rw[f5.o];exact H8.o.get 0 rfl
    obtain⟨U,Y,Z,y3,K,-,yz⟩:=bM l6;clear l6;by_cases hlj:j<(X.K i).k
    ·have o8:=a3.o.2 i hlt;obtain⟨oa,g9⟩:=oE ((o i).oa);have b8:=(d1.o w i (ah _ _) hlt).2;have i6:=ar g9;rw[g9]at b8 K;clear g9;obtain⟨ba,fa,rfl,a6,e9⟩:=bs.at b8 (fun _=>rfl) hlj;obtain⟨s,hs⟩:=oE ((X.K i).A j);have HS:=ar hs;have c8:Hi (w.cell? (ba,fa+j)=some s):=by
      show _=_;have q9:w.cell? (ba,fa+j)=some ((X.K i).A j):=by have:=e9 j hlj 0 _ rfl;rwa [Nat.mul_one,Nat.add_zero]at this
      rw[q9,hs]
     have a0:w8.cell? (ba,fa+j)=some s:=bI H8.o.1 a6 c8.o;have o7:ba<w8.heap.size:=aM a6 H8.o.1.size;have n4:=H8.o.1;obtain⟨E,hE⟩:=oE ((s.toList==(X.K i).id.toList));have HE:=ar hE;clear hs e9 b8;go_wp2_with fail
     refine aD 8 ?_;simp only[ac,aj,aK,aC,aa,ae,af];iterate 8 refine bJ ?_
     intro u w9 p hE;simp only[cF,aR,ay.is,aE,aA,reduceIte]at hE;simp only[am,ax,ac,aj,aK,aC,aa,ae,af,hE];clear hE;obtain⟨p5,o9,k9,l0,N⟩:=pr p;clear p;have H9:=ar (aF.step H8.o N.o);have f8:=ar (ag f7.o N.o);have j3:=ar (bD HR.o N.o);clear k9 l0 U Y Z y3 K a0 n4;obtain rfl|rfl:E=true∨E=false:=by cases E<;>simp
     ·go_wp2;go_returns;exact bS (by decide) H9.o.1
     have k2:Hi (w9.heap[XB]?=some (.cells #[.string (X.K i).id,.string (X.K i).bl,.slice (o i).op (X.K i).m (o i).cp,(X.K i).hr,.slice (some ⟨ba,fa,none⟩) (X.K i).k (o i).ca] 69)):=by show _=_;rw[←i6.o,f5.o];exact H9.o.get 0 rfl
     obtain⟨U,Y,Z,y3,K,-,-⟩:=bM k2.o;have a0:w9.cell? (ba,fa+j)=some s:=bI H9.o.1 a6 c8.o;obtain⟨B,hB⟩:=oE (bZ X.kI X.nk s);have HB:=ar hB;have m9:Hi (∀W,Below b.heap.size b W→Gv 31 #[.slice oi X.nk ci,.string s] (.bool B) W):=fun W p=>by rw[←hB];exact uS _ _ _ _ W (bs.below i3.o p)
     clear hB;go_wp2_with fail
     (go_at_call 31;refine mz (m9.o _ f8.o) fun c6 a2=> ?_);have a7:=ar (aF.step H9.o a2);have e5:=ar (ag f8.o a2);have e3:=ar (bD j3.o a2);have e1:Hi (c6.cell? (ba,fa+j)=some s):=bI a7.o.1 a6 c8.o;have l7:ba<c6.heap.size:=aM a6 a7.o.1.size;clear a2 U Y Z y3 K a0;obtain rfl|rfl:B=false∨B=true:=by cases B<;>simp
     ·go_wp2;go_returns;exact bS (by decide) a7.o.1
     obtain⟨H,hH⟩:=oE (el X.kI X.nk s);have HH:Hi (H<X.nk):=by show _<_;rw[←hH];exact of_decide_eq_true HB.o
     have d0:=ar hH;clear hH;go_wp2;go_loopw[4,9] (fun v x wr=>∃(d:Nat) (C:Option Addr) (t:Nat),d≤X.nk∧x= .int .i64 d∧v= .slice C (O+j+(uX H i d).length) t∧Hi (wr.ownsRow b.heap.size 108 2 (.slice C (O+j+(uX H i d).length) t) (O+j+(uX H i d).length) (xm (cW X i++fH X i j++uX H i d)))∧Hi (c6.heap.size≤wr.heap.size)∧Hi (wr.cell? (ba,fa+j)=some s)∧aF w wr ((XB,PC,69)::L)∧Below b.heap.size b wr) (fun _ x _=>X.nk-(intOf x).toNat)
     case atStart=>exact⟨0,C,t,by omega,rfl,rfl,by show World.ownsRow _ _ _ _ _ _ _;rw[show cW X i++fH X i j++uX H i 0=cW X i++fH X i j from List.append_nil _];exact e3.o,aB _,e1.o,a7.o,e5.o⟩
     case round=>
      clear e3 e5 a7 j3 f8 H9 HR f7 H8 k2 e1;obtain⟨T,rfl⟩:=wE wr;obtain⟨d,C,t,q0,rfl,rfl,HR,HZ,HA,e7,G⟩:=hrel;have a1:=ar e7;have j9:=ar G;clear e7;obtain⟨LX,d4⟩:=oE ((uX H i d).length);have d2:=ar d4;rw[d4]at HR;rw[d4];clear d4;by_cases hln:d<X.nk
      ·obtain⟨bi,fi,rfl,l2,f0⟩:=bs.at i3.o (fun _=>rfl) hln;obtain⟨y,hy⟩:=oE (X.kI d);have HY:=ar hy;have c0:T.cell? (bi,fi+d)=some y:=by
        have q9:T.cell? (bi,fi+d)=some (X.kI d):=bI G l2 (by have:=f0 d hln 0 _ rfl;rwa [Nat.mul_one,Nat.add_zero]at this);rw[q9,hy]
       have a0:=HA.o;have b9:T.heap[XB]?=some (.cells #[.string (X.K i).id,.string (X.K i).bl,.slice (o i).op (X.K i).m (o i).cp,(X.K i).hr,.slice (some ⟨ba,fa,none⟩) (X.K i).k (o i).ca] 69):=by rw[←i6.o,f5.o];exact a1.o.get 0 rfl
       have p7:XB<T.heap.size:=(av.1 b9).1;have p6:bi<T.heap.size:=aM l2 G.size;have l8:ba<T.heap.size:=aM l7 HZ.o;obtain⟨U,Y,Z,y3,K,-,-⟩:=bM b9;have k4:=a1.o.1;obtain⟨E,hE⟩:=oE ((y.toList==s.toList));have c9:=ar hE;clear hy f0 G b9;go_wp2_with fail
       refine aD 10 ?_;simp only[ac,aj,aK,aC,aa,ae,af];iterate 10 refine bJ ?_
       intro u e0 p hE;simp only[cF,aR,ay.is,aE,aA,reduceIte]at hE;simp only[am,ax,ac,aj,aK,aC,aa,ae,af,hE];clear hE;obtain⟨o5,o1,g6,g7,l⟩:=pr p;clear p;have a8:=ar (aF.step a1.o l.o);have F:=ar (ag j9.o l.o);have a4:=ar (bD HR.o l.o);have h6:Hi (e0.cell? (ba,fa+j)=some s):=bI l.o l8 HA.o;have e6:Hi (c6.heap.size≤e0.heap.size):=bW HZ.o l.o.size;clear g6 g7 c0 a0 U Y Z y3 K hE k4;obtain rfl|rfl:E=false∨E=true:=by cases E<;>simp
       ·have a9:Hi (uX H i (d+1)=uX H i d):=by
         show _=_;have a:H≠d:=fun e=>by
          have J:=le (f:=X.kI) (n:=X.nk) (s:=s) (by rw[d0.o];exact HH.o);rw[d0.o,e,HY.o]at J;have h3:=c9.o;rw[J]at h3;simp at h3
         unfold uX;by_cases e:H<d
         ·rw[if_pos e,if_pos (by omega)]
         ·rw[if_neg e,if_neg (by omega)]
        go_wp2;go_roundw
        case rel=>exact⟨d+1,C,t,by omega,by go_num,by rw[a9.o,d2.o],by show World.ownsRow _ _ _ _ _ _ _;rw[a9.o,d2.o];exact a4.o,e6.o,h6.o,a8.o,F.o⟩
        case measure=>simp[intOf];omega
       have k5:H=d:=by
        have a:y=s:=ee (by simpa using c9.o);rw[←d0.o,←a,←HY.o];exact FG n5.o hln
       have a9:Hi (LX=0∧uX H i (d+1)= [(d,i)]∧uX H i d= []):=by
        have a:uX H i d= []:=by unfold uX;rw[if_neg (by omega)]
        refine⟨by rw[←d2.o,a];rfl,?_,a⟩;unfold uX;rw[if_pos (by omega),k5]
       have i5:Hi (O+j+LX≤1700):=by
        have a:=mM a3.o.2 i (by omega);have J:=d3.o;have h3:=a3.o.1;have h5:=a9.o.1;show _≤_;omega
       clear k5;go_wp2_with (first|(at_builtin;refine wpList_append_own _ rfl _ _ 105 rfl (b.heap.size) 108 i0 (.agg #[(),()]) 2 16 underlying105 hi o2 o3 o4 rfl (by decide) _ _ _ rfl (a4.o.alloc _) ⟨e0.heap.size,0,none⟩ 1 1 [(.int .i64 (d:Int)),(.int .i64 (i:Int))] rfl rfl ?c1 ?c2 ?c3 ?c4 ?c5 ?_)|go_in)
       case c1=>
        intro j u hj
        match j,hj with
        |0,hj=>
         simp at hj;subst hj;simp[Addr.add]
         first|done|rfl|(simp[go_sem];done)
        |1,hj=>
         simp at hj;subst hj;simp[Addr.add]
         first|done|rfl|(simp[go_sem];done)
       case c2=>intro u hu;simp at hu;(first|(subst hu;rfl)|(rcases hu with rfl|rfl<;>rfl))
       case c3=>unfold maxLen;have:=i5.o;omega
       case c4=>have:=i5.o;omega
       case c5=>have:=F.o.size;simp;omega
       intro v' c7 b6 z _;have i7:Hi (aF w c7 ((XB,PC,69)::L)):=by
        refine aF.grown (aF.tail (aF.alloc a8.o e0.heap.size rfl _ _)) z fun g hg=>⟨by have:=bU a4.o g hg;have:=H1.o.1.size;omega,fun x hx e=> ?_⟩;rcases bj.1 hx with rfl|hx
        ·exact jj a4.o (a8.o.get 0 rfl) (by decide) (hg.trans (congrArg some e.symm))
        ·have a:=n2.o x hx;have J:=bU a4.o g hg;have h3:=H1.o.len HL.o 0 rfl;omega
       have e8:Below b.heap.size b c7:=Below.grown (F.o.alloc F.o.size _) z (by have:=F.o.size;first|omega|(simp;omega)) (fun g hg=>bU a4.o g hg);have h7:Hi (c7.cell? (ba,fa+j)=some s):=bI i7.o.1 a6 c8.o;have k3:Hi (c6.heap.size≤c7.heap.size):=by
        show _≤_;have a:=e6.o;have J:=z.size;simp at J;omega
       have e4:Hi (c7.ownsRow b.heap.size 108 2 v' (O+j+(uX H i (d+1)).length) (xm (cW X i++fH X i j++uX H i (d+1)))):=by
        show World.ownsRow _ _ _ _ _ _ _;have a:=a9.o;rw[a.2.1,sC];have J:=b6;rw[a.2.2,a.1,List.append_nil]at J;exact J
       have h9:=ar e8;clear b6 z e8;obtain⟨o6,n3,l5⟩:=cj e4.o;subst l5;go_wp2;go_roundw
       case rel=>exact⟨d+1,o6,n3,by omega,by go_num,rfl,e4.o,k3.o,h7.o,i7.o,h9.o⟩
       case measure=>simp[intOf];omega
      ·have f9:Hi (LX=1∧cW X i++fH X i j++uX H i d=cW X i++fH X i (j+1)):=by
        have a:uX H i d= [(H,i)]:=by unfold uX;rw[if_pos (by have:=HH.o;omega)]
        refine⟨by rw[←d2.o,a];rfl,?_⟩;rw[a,List.append_assoc,fH,HS.o,d0.o]
       have f6:Hi (T.ownsRow b.heap.size 108 2 (.slice C (O+(j+1)) t) (O+(j+1)) (xm (cW X i++fH X i (j+1)))):=by
        show World.ownsRow _ _ _ _ _ _ _;have a:=HR.o;rw[f9.o.1,f9.o.2]at a;exact a
       have l4:Hi (∀q,q<j+1→(X.K i).A q≠(X.K i).id∧bZ X.kI X.nk ((X.K i).A q)=true):=fun q hq=>by
        by_cases e:q=j
        ·rw[e,HS.o];exact⟨fun e2=>by have:=HE.o;rw[e2]at this;simp at this,HB.o⟩
        ·exact l3.o q (by omega)
       have b1:O+j+LX=O+(j+1):=by have:=f9.o.1;omega
       rw[b1];clear b1 G;go_wp2;go_roundw
       case rel=>exact⟨j+1,C,t,by omega,by go_num,rfl,f6.o,l4,a1.o,j9.o⟩
       case measure=>simp[intOf];omega
    ·have g8:j=(X.K i).k:=by omega
     have f6:Hi (w8.ownsRow b.heap.size 108 2 (.slice C (cW X (i+1)).length t) (cW X (i+1)).length (xm (cW X (i+1)))):=by
      show World.ownsRow _ _ _ _ _ _ _;have a:=HR.o;have J:cW X (i+1)=cW X i++fH X i j:=by rw[cW,g8]
      have h3:(cW X (i+1)).length=O+j:=by rw[J,aZ,d3.o,ju]
      rw[h3,J];exact a
     have b1:O+j=(cW X (i+1)).length:=by rw[cW,aZ,d3.o,ju,g8]
     have n9:Hi (∀q,q<i+1→(jZ (X.K q).id=true∧dU X (X.K q).bl=true∧(1≤(X.K q).hr∧(X.K q).hr≤10000)∧fG (X.K q).P (X.K q).m∧fG (X.K q).A (X.K q).k)∧nO X q∧∀j,j<(X.K q).k→(X.K q).A j≠(X.K q).id∧bZ X.kI X.nk ((X.K q).A j)=true):=fun q hq=>by
      by_cases e:q=i
      ·subst e;exact⟨⟨n1.o,i1.o,by omega,sd.1 m6.o,sd.1 c9.o⟩,f3.o (by trivial),fun j' p9=>l3.o j' (by omega)⟩
      ·exact hm.o q (by omega)
     rw[b1];clear b1 g8;go_wp2;go_roundw
     case rel=>exact⟨i+1,C,t,by omega,by go_num,rfl,f6.o,n9,f7.o⟩
     case measure=>simp[intOf];omega
  ·have l1:i=X.nk:=by omega
   have m7:Hi (Cj w2 (.slice C O t) (cW X X.nk)):=by
    show Cj _ _ _;have a:=HR.o;rw[←d3.o]at a⊢
    rw[←l1];exact zN a
   have m8:Hi (jU X.nk (cW X X.nk)):=wH a3.o.1 a3.o.2 fun D n7=>(hm.o D (by omega)).2.2;have h8:Hi (∀D,D<X.nk→(jZ (X.K D).id=true∧dU X (X.K D).bl=true∧(1≤(X.K D).hr∧(X.K D).hr≤10000)∧fG (X.K D).P (X.K D).m∧fG (X.K D).A (X.K D).k)∧nO X D∧∀j,j<(X.K D).k→(X.K D).A j≠(X.K D).id∧bZ X.kI X.nk ((X.K D).A j)=true):=fun D n7=>hm.o D (by omega);clear l1;go_wp2_with fail
   (go_at_call 42;refine(yr _ _ _ _ m7.o m8 a3.o.1).mono ?_;rintro e_ w3 ⟨c,v,rfl,b0,Q⟩);have f3:=ar b0;have l9:Hi (Below w.heap.size w w3):=ag HO.o.1 Q;clear Q b0;go_wp2;go_returns;exact⟨c,rfl,fun h=>⟨h8.o,f3.o h⟩,l9.o⟩
theorem nQ {f g:Nat→ByteArray} {n k:Nat} (h:∀i,i<n→bZ g k (f i)=false) {i j:Nat} (b:i<n) (c:j<k):f i≠g j:=fun e=>by
 have a:=h i b;rw[jh.2 ⟨j,c,e.symm⟩]at a;cases a
theorem DJ {m:fZ} {X:bK} (o:X.nn≤40∧X.np≤40∧X.ns≤40∧X.nk≤40∧X.nd≤40) (l:kC m) (e:sB X) (h:oJ X) (k:qW m X) (f:∀i,i<X.ns→lh (X.Q i)∧bZ X.pI X.np (X.Q i).a=true∧bZ X.pI X.np (X.Q i).b=true) (g:nP X)
 (n:∀i,i<X.nd→(1≤(X.R i).kd∧(X.R i).kd≤3)∧(X.R i).on≠(X.R i).bl∧dU X (X.R i).bl=true∧((X.R i).kd=1∧((X.R i).on=⟨#[]⟩∨dU X (X.R i).on=true)∨(X.R i).kd=2∧dU X (X.R i).on=true∨(X.R i).kd=3∧bZ X.kI X.nk (X.R i).on=true)):io m X where
 mat:=l
 hull:=e.hull
 ln:=by omega
 an:=e.asc 0 (by decide)
 ap:=e.asc 1 (by decide)
 aq:=e.asc 2 (by decide)
 ak:=e.asc 3 (by decide)
 ad:=e.nd
 d01:=fun i j c d=>nQ (e.dis 1 (by decide) 0 (by decide)) c d
 d02:=fun i j c d=>nQ (e.dis 2 (by decide) 0 (by decide)) c d
 d12:=fun i j c d=>nQ (e.dis 2 (by decide) 1 (by decide)) c d
 d03:=fun i j c d=>nQ (e.dis 3 (by decide) 0 (by decide)) c d
 d13:=fun i j c d=>nQ (e.dis 3 (by decide) 1 (by decide)) c d
 d23:=fun i j c d=>nQ (e.dis 3 (by decide) 2 (by decide)) c d
 nd:=h.1
 nu:=h.2
 pt:=k.1
 ms:=k.2
 sm:=fun i c=>⟨(f i c).1.1,(f i c).1.2.1,(f i c).1.2.2.1,(f i c).1.2.2.2,(f i c).2.1,(f i c).2.2⟩
 pk:=fun i c=>(g.1 i c).1
 pc:=fun i c j d=>(g.1 i c).2.1 j d
 pa:=fun i c j d=>(g.1 i c).2.2 j d
 od:=g.2
 ne:=n
theorem Hc {s:ByteArray} (h:jZ s=true):s≠⟨#[]⟩:=fun e=>by
 rw[e]at h;exact absurd h (by rw[show jZ ⟨#[]⟩=false by kernel_rfl];decide)
theorem yx (X:bK) (S:dq) (v:Value) (m:fZ) (gv:Nat→Value) (w:World) (h:Hi (cJ w X S)) (J:Hi (eY X)) (hm:fE w v m gv) (hp:Hi (∀i,i<X.np→dj w (X.D i) (S.sp i))) (a4:Hi (∀i,i<m.ng→(m.nm i).size≤1048576)) (a5:Hi (∀i,i<m.ns→(m.sn i).size≤1048576)):
 Calls prog 5 #[.agg (bH X S),v] w (dL (io m X) w):=by
 have H:cJ w X S:=h.o;have k:=J.o.few;have a2:Hi (X.nn≤40∧X.np≤40∧X.ns≤40∧X.nk≤40∧X.nd≤40):=⟨k.1,k.2.1,k.2.2.1,k.2.2.2.1,k.2.2.2.2.1⟩;have a3:Hi (∀W,Below w.heap.size w W→Calls prog 11 #[v] W (dL (kC m) W)):=fun W f=>Dv v m gv W (hm.below f) a4 a5;have B:Hi (∀W,Below w.heap.size w W→Calls prog 12 #[.agg (bH X S)] W (dL (sB X) W)):=fun W f=>Bo X S W (H.below f) J;have C:Hi (∀W,Below w.heap.size w W→Calls prog 13 #[.agg (bH X S)] W (dL (oJ X) W)):=fun W f=>yh X S W (H.below f) J;have D:Hi (∀W,Below w.heap.size w W→Calls prog 14 #[.agg (bH X S),v] W (dL (qW m X) W)):=fun W f=>yv X S v m gv W (H.below f) J (hm.below f) (fun i P=>(hp.o i P).below f);have E:Hi (∀W,Below w.heap.size w W→Calls prog 15 #[.agg (bH X S)] W (dL (∀i,i<X.ns→lh (X.Q i)∧bZ X.pI X.np (X.Q i).a=true∧bZ X.pI X.np (X.Q i).b=true) W)):=fun W f=>ye X S W (H.below f) J;have F:Hi (∀W,Below w.heap.size w W→sB X→oJ X→Calls prog 16 #[.agg (bH X S)] W (dL (nP X) W)):=fun W f q2 q3=>tv X S W (H.below f) J (fun i j P hj=>nQ (q2.dis 1 (by decide) 0 (by decide)) P hj) (fun i P=>Hc (q3.1 i P).1) (q2.asc 3 (by decide));have G:Hi (∀W,Below w.heap.size w W→Calls prog 17 #[.agg (bH X S)] W (dL (∀i,i<X.nd→(1≤(X.R i).kd∧(X.R i).kd≤3)∧(X.R i).on≠(X.R i).bl∧dU X (X.R i).bl=true∧((X.R i).kd=1∧((X.R i).on=⟨#[]⟩∨dU X (X.R i).on=true)∨(X.R i).kd=2∧dU X (X.R i).on=true∨(X.R i).kd=3∧bZ X.kI X.nk (X.R i).on=true)) W)):=fun W f=>yj X S W (H.below f);obtain⟨vg,vs,rfl,N,O,-,-,-⟩:=hm;obtain⟨og,cg,rfl,-,-⟩:=N.form;obtain⟨a7,a6,rfl,-,-⟩:=O.form;clear N O H k hp;obtain⟨on,cn,op,cp,sp,os,cs,ok,ck,sk,od,cd⟩:=S;unfold bH at B C D E F G⊢
 dsimp only at B C D E F G⊢
 go_enter func5,ntmps5;go_wp2_with fail
 (go_at_call 11;refine(a3.o _ (by go_grown)).mono ?_;rintro I w1 ⟨c,rfl,d,f⟩);obtain⟨L,hL,h1⟩:=aF.ex (aF.step (((aF.nil (ah w.heap.size w)).alloc (w.heap.size) rfl _ _).alloc (w.heap.size+1) (by simp) _ _) f);have A:=ar hL;have R:=ar h1;clear hL h1;have u:=ar d;clear f d;obtain⟨l,n,o,p,q,r,-,-⟩:=aJ (aF.nth R.o A.o 1 rfl);by_cases hc0:c=0;rotate_left
 ·have Q:(c !=0)=true:=by simpa using hc0
  have g:=ar hc0;clear hc0;go_wp2;go_returns;exact bS g.o R.o.1
 subst hc0;replace u:=ar (u.o (by trivial));go_wp2_with fail
 (go_at_call 12;refine(B.o _ R.o.1).mono ?_;rintro I w2 ⟨c,rfl,d,f⟩);have T:=ar (aF.step R.o f);clear l n o p q r;have s:=ar d;clear f d;obtain⟨l,n,o,p,q,r,-,-⟩:=aJ (aF.nth T.o A.o 1 rfl);by_cases hc0:c=0;rotate_left
 ·have Q:(c !=0)=true:=by simpa using hc0
  have g:=ar hc0;clear hc0;go_wp2;go_returns;exact bS g.o T.o.1
 subst hc0;replace s:=ar (s.o (by trivial));go_wp2_with fail
 (go_at_call 13;refine(C.o _ T.o.1).mono ?_;rintro I w3 ⟨c,rfl,d,f⟩);have K:=ar (aF.step T.o f);clear l n o p q r;have t:=ar d;clear f d;obtain⟨l,n,o,p,q,r,-,-⟩:=aJ (aF.nth K.o A.o 1 rfl);obtain⟨m0,m1,-,-⟩:=al (aF.nth K.o A.o 0 rfl);by_cases hc0:c=0;rotate_left
 ·have Q:(c !=0)=true:=by simpa using hc0
  have g:=ar hc0;clear hc0;go_wp2;go_returns;exact bS g.o K.o.1
 subst hc0;replace t:=ar (t.o (by trivial));go_wp2_with fail
 (go_at_call 14;refine(D.o _ K.o.1).mono ?_;rintro I w4 ⟨c,rfl,d,f⟩);have U:=ar (aF.step K.o f);clear l n o p q r m0 m1;have x:=ar d;clear f d;obtain⟨l,n,o,p,q,r,-,-⟩:=aJ (aF.nth U.o A.o 1 rfl);by_cases hc0:c=0;rotate_left
 ·have Q:(c !=0)=true:=by simpa using hc0
  have g:=ar hc0;clear hc0;go_wp2;go_returns;exact bS g.o U.o.1
 subst hc0;replace x:=ar (x.o (by trivial));go_wp2_with fail
 (go_at_call 15;refine(E.o _ U.o.1).mono ?_;rintro I w5 ⟨c,rfl,d,f⟩);have Y:=ar (aF.step U.o f);clear l n o p q r;have y:=ar d;clear f d;obtain⟨l,n,o,p,q,r,-,-⟩:=aJ (aF.nth Y.o A.o 1 rfl);by_cases hc0:c=0;rotate_left
 ·have Q:(c !=0)=true:=by simpa using hc0
  have g:=ar hc0;clear hc0;go_wp2;go_returns;exact bS g.o Y.o.1
 subst hc0;replace y:=ar (y.o (by trivial));go_wp2_with fail
 (go_at_call 16;refine(F.o _ Y.o.1 s.o t.o).mono ?_;rintro I w6 ⟨c,rfl,d,f⟩);have Z:=ar (aF.step Y.o f);clear l n o p q r;have z:=ar d;clear f d;obtain⟨l,n,o,p,q,r,-,-⟩:=aJ (aF.nth Z.o A.o 1 rfl);by_cases hc0:c=0;rotate_left
 ·have Q:(c !=0)=true:=by simpa using hc0
  have g:=ar hc0;clear hc0;go_wp2;go_returns;exact bS g.o Z.o.1
 subst hc0;replace z:=ar (z.o (by trivial));go_wp2_with fail
 (go_at_call 17;refine(G.o _ Z.o.1).mono ?_;rintro I w7 ⟨c,rfl,d,f⟩);have a0:Hi (Below w.heap.size w w7):=ag Z.o.1 f;have a1:=ar d;clear f d;go_wp2;go_returns;exact⟨c,rfl,fun e=>DJ a2.o u.o s.o t.o x.o y.o z.o (a1.o e),a0.o⟩
theorem yy (v:Value) (n:Nat) (P:Nat→Pt) (d e:Int) (w:World) (h:bO w v n P) (u:Hi (lK 32768 n P)) (j:n≤32) (p:bP n P≠0):
 Gv 93 #[.agg #[v,Nat],.agg #[d,e]] (.int .i64 (fd n P (d,e))) w:=by
 obtain⟨Z,k⟩:=oE (fd n P (d,e));have g:=pw n P (d,e);rw[k]at g;have s:Hi (∀W o,bO W o n P→Gv 138 #[o,.agg #[d,e]] (.int .i64 Z) W):=fun W o a=>by rw[←k];exact xZ _ n P d e W a u j p
 obtain⟨x,t,rfl,-,-,-⟩:=h.form;have H:=ar h;rw[k];clear h k p;go_enter func93,ntmps93;go_wp2_with fail
 (go_at_call 138;refine mz (s.o _ _ (H.o.below (by go_grown))) fun q b=> ?_);have c:=ar (ag (w:=w) (by go_grown) b);have m:Hi (q.heap[w.heap.size]?=some (.cells #[.slice x n t,Nat] 56)):=(b.block w.heap.size (by simp;omega)).trans ((aV _ _ _ (by simp)).trans (bf _ _ _ rfl));have r:Hi (q.heap[w.heap.size+1]?=some (.cells #[d,e] 43)):=(b.block (w.heap.size+1) (by simp)).trans (bf _ _ _ (by simp));clear b;rcases g with rfl|rfl|rfl
 ·obtain⟨-,y,-,-⟩:=al m.o;go_wp2;go_loopw[19] (fun i wr=>i= .int .i64 0∧Below w.heap.size w wr) (fun i _=>0)
  case atStart=>exact⟨rfl,c.o⟩
  case round=>
   obtain⟨z,rfl⟩:=wE wr;obtain⟨rfl,f⟩:=hrel;have l:=ar f;clear f;go_wp2;go_returns;exact⟨rfl,l.o⟩
 ·go_wp2;go_returns;exact⟨rfl,c.o⟩
 ·go_wp2;go_returns;exact⟨rfl,c.o⟩
theorem qo (v:Value) (n:Nat) (P:Nat→Pt) (d e:Int) (w:World) (h:bO w v n P) (q:Hi (lK 32768 n P)) (c:n≤32) (p:0<bP n P):
 Gv 49 #[.agg #[v,Nat],.agg #[d,e]] (.int .i64 (fd n P (d,e))) w:=by
 obtain⟨Z,k⟩:=oE (fd n P (d,e));have i:=pw n P (d,e);rw[k]at i;have t:Hi (∀W f,bO W f n P→Gv 93 #[.agg #[f,Nat],.agg #[d,e]] (.int .i64 Z) W):=fun W f a=>by rw[←k];exact yy _ n P d e W a q c (by omega)
 have s:Hi (∀W f,bO W f n P→Gv 87 #[.agg #[f,Nat]] (.int .i64 0) W):=fun W f a=>ky _ _ n 0 P (fun _=>none) (fun _=>0) (fun _=>0) (fun _ _=>(0,0)) W a (nK _ _ _ _ _) (rU q.o c p _ _);obtain⟨x,u,rfl,-,-,-⟩:=h.form;have H:=ar h;rw[k];clear h k p i;go_enter func49,ntmps49;go_wp2_with fail
 (go_at_call 87;refine mz (s.o _ _ (H.o.below (by go_grown))) fun r b=> ?_);have g:=ar (ag (w:=w) (by go_grown) b);have o:Hi (r.heap[w.heap.size]?=some (.cells #[.slice x n u,Nat] 56)):=(b.block w.heap.size (by simp;omega)).trans ((aV _ _ _ (by simp)).trans (bf _ _ _ rfl));have m:Hi (r.heap[w.heap.size+1]?=some (.cells #[d,e] 43)):=(b.block (w.heap.size+1) (by simp)).trans (bf _ _ _ (by simp));clear b;obtain⟨A,B,-,-⟩:=al o.o;obtain⟨z,y,-,-⟩:=al m.o;go_wp2_with fail
 (go_at_call 93;refine mz (t.o _ _ (H.o.below g.o)) fun C j=> ?_);have l:=ar (ag g.o j);clear j;go_wp2;go_returns;exact⟨rfl,l.o⟩
theorem oL (v:Value) (n:Nat) (P:Nat→Pt) (d e:Int) (w:World) (h:bO w v n P) (D:Hi (dT n P)) (C:0<bP n P):
 Gv 59 #[.agg #[v,Nat],.agg #[d,e]] (.int .i64 (fd n P (d,e))) w:=by
 obtain⟨Z,o⟩:=oE (fd n P (d,e));have m:=pw n P (d,e);rw[o]at m;have G:Hi (∀W f,bO W f n P→Gv 66 #[f,.agg #[d,e]] (.int .i64 Z) W):=fun W f a=>by rw[←o];exact wA _ n P d e W a D
 have E:Hi (∀W f,bO W f n P→Gv 23 #[.agg #[f,Nat]] (.int .i64 0) W):=fun W f a=>ld _ n P W a D C;obtain⟨x,u,rfl,-,-,-⟩:=h.form;have H:=ar h;rw[o];clear h o C m;go_enter func59,ntmps59;go_wp2_with fail
 (go_at_call 23;refine mz (E.o _ _ (H.o.below (by go_grown))) fun z b=> ?_);have g:=ar (ag (w:=w) (by go_grown) b);have k:Hi (z.heap[w.heap.size]?=some (.cells #[.slice x n u,Nat] 56)):=(b.block w.heap.size (by simp;omega)).trans ((aV _ _ _ (by simp)).trans (bf _ _ _ rfl));have j:Hi (z.heap[w.heap.size+1]?=some (.cells #[d,e] 43)):=(b.block (w.heap.size+1) (by simp)).trans (bf _ _ _ (by simp));have K:w.heap.size+1<z.heap.size:=by have:=b.size;simp only[aw]at this;omega
 clear b;obtain⟨J,-,-,-⟩:=al k.o;obtain⟨I,y,-,-⟩:=al j.o;go_wp2_with fail
 (go_at_call 66;refine mz (G.o _ _ (H.o.below g.o)) fun A c=> ?_);clear J I y;have p:=ar (ag g.o c);have s:Hi (A.heap[w.heap.size]?=some (.cells #[.slice x n u,Nat] 56)):=(c.block w.heap.size (by omega)).trans k.o;have F:Hi (A.heap[w.heap.size+1]?=some (.cells #[d,e] 43)):=(c.block (w.heap.size+1) (by omega)).trans j.o;have B:w.heap.size+1<A.heap.size:=by have:=c.size;omega
 clear c;go_wp2;go_loopw[5,6] (fun r i wr=>r= .int .i64 Z∧i= .int .i64 0∧w.heap.size+1<wr.heap.size∧Hi (wr.heap[w.heap.size]?=some (.cells #[.slice x n u,Nat] 56))∧Below w.heap.size w wr) (fun r i _=>0)
 case atStart=>exact⟨rfl,rfl,B,s,p.o⟩
 case round=>
  obtain⟨N,rfl⟩:=wE wr;obtain⟨rfl,rfl,-,t,l⟩:=hrel;have q:=ar l;clear l;obtain⟨-,L,-,-⟩:=al t.o;go_wp2;go_returns;exact⟨rfl,q.o⟩
def dl (lo hi:Pt):Nat→Pt
 |0=>lo
 |1=>(hi.1,lo.2)
 |2=>hi
 |_=>(lo.1,hi.2)
theorem zS {lo c:Pt} (a:Nr lo) (b:Nr c) (j:Nat) (d:j<4):Nr (dl lo c j):=by
 match j,d with
 |0,_=>exact a
 |1,_=>exact⟨b.1,a.2⟩
 |2,_=>exact b
 |3,_=>exact⟨a.1,b.2⟩
def fR (f:Nat→Bool):Nat→Bool
 |0=>false
 |k+1=>fR f k||f k
theorem uZ (a b:Int):mx a b=max a b:=by unfold mx;split<;>omega
theorem vb (a b:Int):mn a b=min a b:=by unfold mn;split<;>omega
def gm (a b lo hi:Pt):Bool:=decide (mx a.1 b.1≤lo.1)||decide (hi.1≤mn a.1 b.1)||decide (mx a.2 b.2≤lo.2)||decide (hi.2≤mn a.2 b.2)
theorem zT (a b lo c:Pt):jA a b lo c=(!gm a b lo c&&(fR (fun k=>decide (0<bQ a b (dl lo c k))) 4&&fR (fun k=>decide (bQ a b (dl lo c k)<0)) 4)):=by
 unfold jA gm;rw[uZ,vb,uZ,vb];simp only[fR,dl,aP]
theorem qq (a b c d:Int) (w:World):Gv 98 #[.agg #[a,b,c,d]] (.agg #[a,b,c,b,c,d,a,d]) w:=by
 go_enter func98,ntmps98;go_wp2;refine bodyPost_ret (v:= .agg #[a,b,c,b,c,d,a,d]) (by simp(maxDischargeDepth:=9) [results,results98,go_sem, *]) rfl ⟨rfl,by go_grown⟩
theorem Bp (b c d b2 e f:Int) (w:World) (h:Nr (b,c)) (i:Nr (d,b2)) (j:Nr (e,f)):Gv 142 #[.agg #[b,c],.agg #[d,b2],.agg #[e,f]] (.int .i64 (bQ (b,c) (d,b2) (e,f))) w:=by
 obtain⟨C,g⟩:=oE (bQ (b,c) (d,b2) (e,f));have a:(d-b)*(f-c)-(b2-c)*(e-b)=C:=g;unfold Nr at h i j;dsimp only at h i j;obtain⟨p,n⟩:=oE (d-b);obtain⟨q,t⟩:=oE (f-c);obtain⟨r,u⟩:=oE (b2-c);obtain⟨s,v⟩:=oE (e-b);have B:IntKind.i64.wrap (d-b)=p:=by rw[n];exact iw
 have D:IntKind.i64.wrap (f-c)=q:=by rw[t];exact iw
 have E:IntKind.i64.wrap (b2-c)=r:=by rw[u];exact iw
 have F:IntKind.i64.wrap (e-b)=s:=by rw[v];exact iw
 have z:=eH (x:=p) (y:=q) (by omega) (by omega);have A:=eH (x:=r) (y:=s) (by omega) (by omega);rw[n,t,u,v]at a;obtain⟨m,k⟩:=oE (p*q);obtain⟨o,l⟩:=oE (r*s);rw[k]at z a;rw[l]at A a;have G:IntKind.i64.wrap (p*q)=m:=by rw[k];exact iw
 have H:IntKind.i64.wrap (r*s)=o:=by rw[l];exact iw
 have I:IntKind.i64.wrap (m-o)=C:=by rw[a];exact iw
 rw[g];clear g a n t u v k l z A h i j;go_enter func142,ntmps142;go_wp2;go_returns;exact⟨rfl,by go_grown⟩
theorem DK (g l d f a b c b2:Int) (w:World) (N:Nr (a,b)) (O:Nr (c,b2)) (hl:Nr (g,l)) (hu:Nr (d,f)):
 Gv 99 #[.agg #[g,l,d,f],.agg #[a,b],.agg #[c,b2]] (.bool (jA (a,b) (c,b2) (g,l) (d,f))) w:=by
 have q1:=jX;have q2:=jY;generalize hR:jA (a,b) (c,b2) (g,l) (d,f)=R;have L:Hi ((!gm (a,b) (c,b2) (g,l) (d,f)&&(fR (fun k=>decide (0<bQ (a,b) (c,b2) (dl (g,l) (d,f) k))) 4&&fR (fun k=>decide (bQ (a,b) (c,b2) (dl (g,l) (d,f) k)<0)) 4))=R):=(zT _ _ _ _).symm.trans hR;clear hR;have a3:=ar N;have a4:=ar O;clear N O;by_cases c0:mx a c≤g
 ·have k0:decide (mx a c≤g)=true:=decide_eq_true c0;have e:R=false:=by
   rw[←L.o];unfold gm;dsimp only;rw[k0];simp
  subst e;clear c0;go_enter func99,ntmps99;go_wp2;go_returns;exact⟨rfl,by go_grown⟩
 have k0:decide (mx a c≤g)=false:=decide_eq_false c0;by_cases E:d≤mn a c
 ·have k1:decide (d≤mn a c)=true:=decide_eq_true E;have e:R=false:=by
   rw[←L.o];unfold gm;dsimp only;rw[k1];simp
  subst e;clear E;go_enter func99,ntmps99;go_wp2;go_returns;exact⟨rfl,by go_grown⟩
 have k1:decide (d≤mn a c)=false:=decide_eq_false E;by_cases F:mx b b2≤l
 ·have k2:decide (mx b b2≤l)=true:=decide_eq_true F;have e:R=false:=by
   rw[←L.o];unfold gm;dsimp only;rw[k2];simp
  subst e;clear F;go_enter func99,ntmps99;go_wp2;go_returns;exact⟨rfl,by go_grown⟩
 have k2:decide (mx b b2≤l)=false:=decide_eq_false F;by_cases c3:f≤mn b b2
 ·have k3:decide (f≤mn b b2)=true:=decide_eq_true c3;have e:R=false:=by
   rw[←L.o];unfold gm;dsimp only;rw[k3];simp
  subst e;clear c3;go_enter func99,ntmps99;go_wp2;go_returns;exact⟨rfl,by go_grown⟩
 have k3:decide (f≤mn b b2)=false:=decide_eq_false c3;have a5:Hi ((fR (fun k=>decide (0<bQ (a,b) (c,b2) (dl (g,l) (d,f) k))) 4&&fR (fun k=>decide (bQ (a,b) (c,b2) (dl (g,l) (d,f) k)<0)) 4)=R):=by
  show _=_;rw[←L.o];unfold gm;dsimp only;rw[k0,k1,k2,k3];rfl
 clear c0 E F c3 L;go_enter func99,ntmps99;go_wp2_with fail
 (go_at_call 98;refine mz (qq _ _ _ _ _) fun w1 A=> ?_);have a0:=ar (ag (w:=w) (by go_grown) A);have a6:Hi (w1.heap[(w.heap.size+1)]?=some (.cells #[a,b] 43)):=(A.block (w.heap.size+1) (by first|(simp;done)|(simp;omega))).trans ((aV _ _ _ (by simp)).trans (bf _ _ _ (by simp)));have a7:Hi (w1.heap[(w.heap.size+1+1)]?=some (.cells #[c,b2] 43)):=(A.block (w.heap.size+1+1) (by first|(simp;done)|(simp;omega))).trans (bf _ _ _ (by simp));have a8:w.heap.size+1+1<w1.heap.size:=by have:=A.size;simp only[aw]at this;omega
 clear A;go_wp2;go_loopw[7,8,56] (fun tl tr i wr=>∃(j:Nat) (B D:Bool),j≤4∧i= .int .i64 j∧tl= .bool B∧tr= .bool D∧Hi (B=fR (fun k=>decide (0<bQ (a,b) (c,b2) (dl (g,l) (d,f) k))) j)∧Hi (D=fR (fun k=>decide (bQ (a,b) (c,b2) (dl (g,l) (d,f) k)<0)) j)∧w.heap.size+1+1<wr.heap.size∧Hi (wr.heap[(w.heap.size+1)]?=some (.cells #[a,b] 43))∧Hi (wr.heap[(w.heap.size+1+1)]?=some (.cells #[c,b2] 43))∧Below w.heap.size w wr) (fun tl tr i _=>4-(intOf i).toNat)
 case atStart=>exact⟨0,false,false,by omega,rfl,rfl,rfl,rfl,rfl,a8,a6,a7,a0.o⟩
 case round=>
  obtain⟨w2,rfl⟩:=wE wr;obtain⟨j,B,D,hj,rfl,rfl,rfl,Y,X,a9,H,I,Q⟩:=hrel;have G:=ar Q;clear Q;by_cases hlt:j<4
  ·have ix:∀W,(Instr.index 162 (.agg #[g,l,d,l,d,f,g,f]) (.int .i64 (j:Int))).run prog W= .ok (.agg #[(dl (g,l) (d,f) j).1,(dl (g,l) (d,f) j).2]) W:=by
    rcases(by omega:j=0∨j=1∨j=2∨j=3)with rfl|rfl|rfl|rfl
    ·intro W;kernel_rfl
    ·intro W;kernel_rfl
    ·intro W;kernel_rfl
    ·intro W;kernel_rfl
   have Z:Nr (dl (g,l) (d,f) j):=zS hl hu j hlt;obtain⟨E,J⟩:=oE ((dl (g,l) (d,f) j).1);obtain⟨F,K⟩:=oE ((dl (g,l) (d,f) j).2);have n:Hi (dl (g,l) (d,f) j=(E,F)):=Prod.ext J K;rw[n.o]at Z;rw[J,K]at ix;clear J K;obtain⟨C,hC⟩:=oE (bQ (a,b) (c,b2) (E,F));have z:(c-a)*(F-b)-(b2-b)*(E-a)=C:=hC;have N:=a3.o;have O:=a4.o;unfold Nr at N O Z;dsimp only at N O Z;obtain⟨p,hp⟩:=oE (c-a);obtain⟨q,hq⟩:=oE (F-b);obtain⟨r,hr⟩:=oE (b2-b);obtain⟨s,P⟩:=oE (E-a);have u1:IntKind.i64.wrap (c-a)=p:=by rw[hp];exact iw
   have u2:IntKind.i64.wrap (F-b)=q:=by rw[hq];exact iw
   have u3:IntKind.i64.wrap (b2-b)=r:=by rw[hr];exact iw
   have u4:IntKind.i64.wrap (E-a)=s:=by rw[P];exact iw
   have g1:=eH (x:=p) (y:=q) (by omega) (by omega);have g2:=eH (x:=r) (y:=s) (by omega) (by omega);rw[hp,hq,hr,P]at z;obtain⟨m,hm⟩:=oE (p*q);obtain⟨o,ho⟩:=oE (r*s);rw[hm]at g1 z;rw[ho]at g2 z;have u5:IntKind.i64.wrap (p*q)=m:=by rw[hm];exact iw
   have u6:IntKind.i64.wrap (r*s)=o:=by rw[ho];exact iw
   have u7:IntKind.i64.wrap (m-o)=C:=by rw[z];exact iw
   have t:=ar hC;clear N O hC z hp hq hr P hm ho g1 g2 Z;obtain⟨x0,x1,-,xz⟩:=al H.o;obtain⟨y0,y1,-,yz⟩:=al I.o;rcases(by omega:0<C∨C=0∨C<0)with P|P|P
   ·have T:decide (0<C)=true:=dt;have U:decide (C<0)=false:=df;have v:Hi ((B||true)=fR (fun k=>decide (0<bQ (a,b) (c,b2) (dl (g,l) (d,f) k))) (j+1)):=by show _=_;rw[fR,←Y.o];(try dsimp only);rw[n.o,t.o,T]
    have u:Hi ((D||false)=fR (fun k=>decide (bQ (a,b) (c,b2) (dl (g,l) (d,f) k)<0)) (j+1)):=by show _=_;rw[fR,←X.o];(try dsimp only);rw[n.o,t.o,U]
    cases B<;>cases D
    all_goals
     go_wp2;go_roundw
     case rel=>exact⟨j+1,_,_,by omega,by go_num,rfl,rfl,v,u,by simp;omega,(aV _ _ _ (by omega)).trans H.o,(aV _ _ _ (by omega)).trans I.o,by have h:=G.o;have hz:=h.size;go_grown⟩
     case measure=>simp[intOf];omega
   ·have T:decide (0<C)=false:=df;have U:decide (C<0)=false:=df;have v:Hi ((B||false)=fR (fun k=>decide (0<bQ (a,b) (c,b2) (dl (g,l) (d,f) k))) (j+1)):=by show _=_;rw[fR,←Y.o];(try dsimp only);rw[n.o,t.o,T]
    have u:Hi ((D||false)=fR (fun k=>decide (bQ (a,b) (c,b2) (dl (g,l) (d,f) k)<0)) (j+1)):=by show _=_;rw[fR,←X.o];(try dsimp only);rw[n.o,t.o,U]
    cases B<;>cases D
    all_goals
     go_wp2;go_roundw
     case rel=>exact⟨j+1,_,_,by omega,by go_num,rfl,rfl,v,u,by simp;omega,(aV _ _ _ (by omega)).trans H.o,(aV _ _ _ (by omega)).trans I.o,by have h:=G.o;have hz:=h.size;go_grown⟩
     case measure=>simp[intOf];omega
   ·have T:decide (0<C)=false:=df;have U:decide (C<0)=true:=dt;have v:Hi ((B||false)=fR (fun k=>decide (0<bQ (a,b) (c,b2) (dl (g,l) (d,f) k))) (j+1)):=by show _=_;rw[fR,←Y.o];(try dsimp only);rw[n.o,t.o,T]
    have u:Hi ((D||true)=fR (fun k=>decide (bQ (a,b) (c,b2) (dl (g,l) (d,f) k)<0)) (j+1)):=by show _=_;rw[fR,←X.o];(try dsimp only);rw[n.o,t.o,U]
    cases B<;>cases D
    all_goals
     go_wp2;go_roundw
     case rel=>exact⟨j+1,_,_,by omega,by go_num,rfl,rfl,v,u,by simp;omega,(aV _ _ _ (by omega)).trans H.o,(aV _ _ _ (by omega)).trans I.o,by have h:=G.o;have hz:=h.size;go_grown⟩
     case measure=>simp[intOf];omega
  ·obtain rfl:j=4:=by omega
   have HE:Hi ((B&&D)=R):=by show _=_;rw[Y.o,X.o];exact a5.o
   cases B<;>cases D
   all_goals
    have e:R=_:=HE.o.symm;subst e;go_wp2;go_returns;exact⟨rfl,G.o⟩
end
end Go.Proofs.YtencnijahlkbaaaGreatDoor
