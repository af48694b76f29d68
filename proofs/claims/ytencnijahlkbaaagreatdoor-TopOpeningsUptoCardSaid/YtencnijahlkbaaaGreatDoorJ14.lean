/-
  Lemmas of this claim, joined. Conditions: as stated. By an AI agent.
-/
import Derived.Test.YtencnijahlkbaaaGreatDoorJ1
import Derived.Test.YtencnijahlkbaaaGreatDoorJ2
import Derived.Test.YtencnijahlkbaaaGreatDoorJ4
import Derived.Test.YtencnijahlkbaaaGreatDoorJ7
import Derived.Test.YtencnijahlkbaaaGreatDoorJ12
import Derived.Test.YtencnijahlkbaaaGreatDoorJ13
import Derived.Test.YtencnijahlkbaaaGreatDoorCards
import Derived.Test.YtencnijahlkbaaaGreatDoorTie
open Go.Act renaming put → aC
open Array renaming getElem?_eq_some_iff → av
open Go.RowKit.Below renaming refl → ah
open Bool renaming false_and → aI, true_and → aN, and_false → aL, false_or → aP, true_or → aW, or_false → aQ, eq_false_iff → cG
open Classical renaming byContradiction → aG
open Int renaming mul_nonneg → bE
open List renaming take_succ_cons → ac, take_zero → aj, drop_succ_cons → am, drop_zero → ax, setIfInBounds_toArray → aa, set_cons_zero → ae, set_cons_succ → af, mem_cons_self → bw, getElem?_eq_getElem → aS, getD_eq_getElem?_getD → aO, getElem?_append_left → cV, getElem?_append_right → cD, length_append → aZ, mem_cons → bj
open Nat renaming le_refl → aB, lt_of_lt_of_le → aM, le_trans → bW, reduceAdd → aE, reduceEqDiff → aA
open Go.Region renaming binds → ai, wanted → au
open Go.World renaming size_setCell → aT, size_alloc → aw
namespace Go.Proofs.YtencnijahlkbaaaGreatDoor
set_option maxHeartbeats 8000000
set_option maxRecDepth 100000
set_option linter.unusedVariables false
set_option linter.unusedSimpArgs false
open Go.Proofs.Tryz
section
open Go Go.ChangeShapes Go.WideShapes Go.RowKit Go.ChangeAt
theorem nU:prog.underlying 48=some (.struct (prog.fieldsOf 48)):=by kernel_rfl
theorem gG:(prog.info? 48).map (fun i=>i.size)=some 2:=by kernel_rfl
theorem Ex:(prog.info? 73).map (fun i=>(i.zero,i.size,i.bytes))=some (some (.agg #[.int .i64 0,.string ⟨#[]⟩,.string ⟨#[]⟩,.string ⟨#[]⟩,.int .i64 0,.string ⟨#[]⟩,.string ⟨#[]⟩,.int .i64 0,.int .i64 0,.string ⟨#[]⟩,.string ⟨#[]⟩,.int .i64 0,.slice none 0 0,.slice none 0 0,.string ⟨#[]⟩,.int .i64 0,.int .i64 0,.int .i64 0,.int .i64 0,.int .i64 0,.int .i64 0,.int .i64 0,.int .i64 0,.int .i64 0,.string ⟨#[]⟩,.string ⟨#[]⟩,.string ⟨#[]⟩,.int .i64 0,.int .i64 0,.int .i64 0,.string ⟨#[]⟩,.string ⟨#[]⟩,.slice none 0 0,.int .i64 0,.slice none 0 0,.int .i64 0,.string ⟨#[]⟩,.string ⟨#[]⟩]),38,488):=by kernel_rfl
def ay.bld (B n:Nat) (xs:List Value):ay:=⟨fun v w=>∃(g:Nat) (o:Option Addr) (c:Nat),v= .slice (some ⟨g,0,none⟩) 1 1∧w.heap[g]?=some (.cells #[.slice o n c] 53)∧w.ownsRow B 43 2 (.slice o n c) n xs,
 fun v w w' hb ⟨g,o,c,h1,h2,h3⟩=>⟨g,o,c,h1,(hb.block g (av.1 h2).1).trans h2,bD h3 hb⟩⟩
def Im (X:bK) (M:Nat→List Pt) (sz:Int) (i:Nat):Prop:=(X.D i).kd=1∧(X.D i).rv<1000∧fP (X.D i).no (X.D i).P ((X.D i).nh+(M i).length) (eX (X.D i).nh (X.D i).hn) (iu (X.D i).nh (X.D i).H sz (M i))
theorem Cf (X:bK) (S:dq) (v:Value) (l:List (ByteArray×Pt)) (M:Nat→List Pt) (sz:Int) (w:World) (hr:bs w (.slice S.op X.np S.cp) X.np 18 (fun i=>aH (X.D i) (S.sp i))) (b5:Hi (∀i,i<X.np→dj w (X.D i) (S.sp i))) (s3:X.np≤40)
 (l8:Hi (∀i,i<X.np→(X.D i).nh≤1000000∧1≤(X.D i).rv∧(X.D i).rv≤1000)) (hm:iq w v sz l) (s0:l.length≤1000000) (hl:Hi (∀k,k<l.length→(1≤sz∧sz≤10000)∧(-32768≤(l.getD k lr).2.1∧(l.getD k lr).2.1≤32768)∧ -32768≤(l.getD k lr).2.2∧(l.getD k lr).2.2≤32768))
 (hM:Hi (∀i,i<X.np→yV l (X.pI i) l.length=M i)) (p5:Hi (∀i,i<X.np→M i≠ []→(X.D i).kd=1)):
 Calls prog 9 #[.agg (bH X S),v] w (xk X M sz w):=by
 obtain⟨i0,l2,m0,m1,m3⟩:=info_parts Ac;obtain⟨i1,o8,p9,q0,q1⟩:=info_parts Ex;obtain⟨om,cm,rfl,-,-,-⟩:=hm.form (fun _=>rfl);have j3:=ar hr;have n2:=ar hm;have l3:=hr.lim;obtain⟨on,cn,op,cp,K,os,cs,ok,ck,sk,od,cd⟩:=S;dsimp only at b5 j3 hr l3⊢
 clear hr hm;unfold bH;dsimp only;have h0:aF w (((w.alloc (.cells #[.string X.hull,.slice on X.nn cn,.slice op X.np cp,.slice os X.ns cs,.slice ok X.nk ck,.slice od X.nd cd] 28)).alloc (.cells #["",Nat] 48)).alloc (.cells #["",Nat] 48)) ((w.heap.size+1+1,#["",Nat],48):: [(w.heap.size+1,#["",Nat],48),(w.heap.size,#[.string X.hull,.slice on X.nn cn,.slice op X.np cp,.slice os X.ns cs,.slice ok X.nk ck,.slice od X.nd cd],28)]):=(((aF.nil (ah w.heap.size w)).alloc (w.heap.size) rfl _ _).alloc (w.heap.size+1) (by simp) _ _).alloc (w.heap.size+1+1) (by simp) _ _;have j9:Hi ((((w.alloc (.cells #[.string X.hull,.slice on X.nn cn,.slice op X.np cp,.slice os X.ns cs,.slice ok X.nk ck,.slice od X.nd cd] 28)).alloc (.cells #["",Nat] 48)).alloc (.cells #["",Nat] 48)).heap[w.heap.size+1+1]?=some (.cells #["",Nat] 48)):=h0.get 0 rfl;obtain⟨L,hL⟩:=oE ([(w.heap.size+1,#["",Nat],48),(w.heap.size,#[.string X.hull,.slice on X.nn cn,.slice op X.np cp,.slice os X.ns cs,.slice ok X.nk ck,.slice od X.nd cd],28)]:List (Nat×Array Value×TypeId));rw[hL]at h0;have HL:=ar hL.symm;have H0:=ar h0;have d7:Hi (∀x∈L,x.1<w.heap.size+1+1):=fun x F=>by
  rw[HL.o]at F;simp only[bj,List.not_mem_nil,or_false]at F;rcases F with rfl|rfl<;>dsimp only<;>omega
 have i4:Hi (∀x∈L,x.1≠w.heap.size+1+1):=fun x F=>by have:=d7.o x F;omega
 clear hL h0;go_enter func9,ntmps9;go_wp2_with (first|((with_reducible refine bB 48 (w.heap.size+1+1) 2 #[.string ⟨#[79,80,49]⟩,Nat] 48 gG rfl rfl rfl rfl (⟨#["",Nat],j9.o,rfl⟩) ?_);intro G R;(have H1:=ar (aF.wrote H0.o R (by omega) i4.o));clear R)|fail)
 go_loopw[7] (fun x wr=>∃(i n:Nat) (U:Option Addr) (c:Nat) (ES:Nat→cN),i≤X.np∧x= .int .i64 (i:Int)∧Hi (n=(fI M i).length)∧Hi (∀q,q<i→M q≠ []→Im X M sz q)∧Hi (wr.ownsRow (w.heap.size+1+1+1) 73 38 (.slice U n c) n (eG (eN (fun k=>cX (sV X M sz i k) (ES k))) 38 n))∧Hi (∀k,k<n→gp wr (w.heap.size+1+1+1) (X.D ((fI M i).getD k 0)) (K ((fI M i).getD k 0)) (M ((fI M i).getD k 0)) sz (ES k))∧Hi (aF w wr ((w.heap.size+1+1,#[.string ⟨#[79,80,49]⟩,.slice U n c],48)::L))) (fun x _=>X.np-(intOf x).toNat)
 case atStart=>exact⟨0,0,none,0,fun _=>je,by omega,rfl,rfl,fun q hq=>absurd hq (by omega),World.ownsRow_nil _ _ _ _,fun k hk=>absurd hk (by omega),H1⟩
 case round=>
  clear H1 H0 j9;obtain⟨G,rfl⟩:=wE wr;obtain⟨i,n,U,c,ES,hi,rfl,HN,HK,HR,HE,HO⟩:=hrel;have d2:G.cell? (w.heap.size,2)=some (.slice op X.np cp):=aX (aF.nth HO.o.tail HL.o 1 rfl) rfl;have z0:w.heap.size+1+1<G.heap.size:=HO.o.lt (bw ..);by_cases hlt:i<X.np
  ·obtain⟨bc,fc,rfl,p2,f0⟩:=bs.at j3.o (fun _=>rfl) hlt;have h7:Hi (∀q u,(aH (X.D i) (K i))[q]?=some u→G.cell? (bc,fc+i*18+q)=some u):=fun q u hq=>bI HO.o.1 p2 (f0 i hlt q u hq);clear f0;have k0:=dS i;have k1:(i:Int)<(X.np:Int):=by omega
   obtain⟨xs,l9⟩:=oE (eG (fun a _=>Value.slice ((K i).oh a) ((X.D i).hn a) ((K i).ch a)) 1 (X.D i).nh);have c8:=ar l9;clear l9;have s2:=(l8.o i hlt).1;obtain⟨o5,c5,e5,l6,l7⟩:=oR (b5.o i hlt).2.1 (by decide);obtain⟨rfl,rfl⟩:(K i).oq=o5∧(K i).cq=c5:=by cases e5;exact⟨rfl,rfl⟩
   have j4:=ar l6;have j5:=ar l7;clear l6 l7 e5;go_wp2_with (first|(with_reducible refine cY 62 bc (fc+i*18) 18 (aH (X.D i) (K i)) _ bF bv rfl rfl h7.o ?_)|((with_reducible refine bB 62 G.heap.size 18 (aH (X.D i) (K i)) 62 bv rfl rfl rfl rfl (⟨_,bf _ _ _ rfl,rfl⟩) ?_);intro I R;(have H3:=ar (aF.put HO.o R));(have p7:I.cell? (G.heap.size,7)=some (.slice (K i).oq (X.D i).nh (K i).cq):=aX R.here rfl);(have pf:∀q,I.frozen? ⟨G.heap.size,q,none⟩=false:=(bT R.here).2.1);(have zp:G.heap.size<I.heap.size:=H3.o.lt (bw ..));(have e6:=ar (bL.below ((ah G.heap.size G).alloc (aB _) _) R (aB _)));clear R)|(at_builtin;refine me rfl _ _ 54 rfl I.heap.size 53 i0 _ 1 24 underlying54 l2 m0 m1 m3 rfl (by decide) _ 0 [] rfl (World.ownsRow_made I #[] 0 (aB _) (Nat.zero_le _) (by simp)) (K i).oq (X.D i).nh (K i).cq xs rfl ?c1 ?c2 ?c3 ?c4 ?c5 ?c6 ?c7 ?_)|fail)
   case c1=>rw[←c8.o,fC]
   case c2=>exact j4.o
   case c3=>
    intro ad g4 j u hj;rw[←c8.o]at hj;have r:=j5.o ad g4 j u hj;have h2:(ad.add j).block<w.heap.size:=by
     rcases Nat.lt_or_ge (ad.add j).block w.heap.size with h'|h'
     ·exact h'
     ·simp[World.cell?,Array.getElem?_eq_none h']at r
    have h3:(ad.add j).block<I.heap.size:=aM h2 H3.o.1.size;exact(World.cell?_alloc_lt _ _ _ h3).trans ((H3.o.1.cell h2).trans r)
   case c4=>
    intro u hu;rw[←c8.o]at hu;exact iL (fun _ _ _ _=>rfl) u hu
   case c5=>unfold maxLen;omega
   case c6=>omega
   case c7=>simp
   intro v4 w4 A f d3;have e9:Below I.heap.size I w4:=((ah _ I).alloc (aB _) _).grown f (by simp) (by intro k hk;simp[Value.ownBlock]at hk;omega);have a5:=ar e9;have e0:w4.ownsRow I.heap.size 53 1 v4 (X.D i).nh xs:=by simpa using A
   rw[←c8.o]at e0;clear A f d3 e9;obtain⟨o',c',rfl⟩:=cj e0;have j2:=ar e0;have H4:=ar (aF.step H3.o a5.o);have z4:G.heap.size<w4.heap.size:=H4.o.lt (bw ..);have b0:=ar (cS (i:=7) (v:= .slice o' (X.D i).nh c') (H4.o.get 0 rfl));have m4:∀q,w4.frozen? ⟨G.heap.size,q,none⟩=false:=(bT (H4.o.get 0 rfl)).2.1;have p4:w4.cell? (G.heap.size,7)=some (.slice (K i).oq (X.D i).nh (K i).cq):=aX (H4.o.get 0 rfl) rfl;clear e0 H3 p7 pf;obtain⟨y,k7⟩:=oE G.heap.size;rw[k7]at zp z4 b0 m4 H4 p4;rw[k7];go_wp2;obtain⟨w6,e4⟩:=oE ((w4.setCell (y,7) (.slice o' (X.D i).nh c')));rw[e4];rw[e4]at b0;have f8:Hi (∀x∈(w.heap.size+1+1,#[.string ⟨#[79,80,49]⟩,.slice U n c],48)::L,x.1≠y):=fun x F=>by
    rcases bj.1 F with rfl|F
    ·dsimp only;omega
    ·have:=d7.o x F;omega
   have H6:Hi (aF w w6 ((y,aH (pL (X.D i) sz []) {K i with oq:=o',cq:=c'},62)::(w.heap.size+1+1,#[.string ⟨#[79,80,49]⟩,.slice U n c],48)::L)):=aF.wrote H4.o b0.o (by omega) f8.o;have g7:Hi (gp w6 I.heap.size (X.D i) (K i) [] sz {K i with oq:=o',cq:=c'}):=gp.zero (cw j2.o (b:=y) zp b0.o.other);have h4:Hi (Below G.heap.size G w6):=bL.below (xd e6.o (sQ a5.o (by omega))) b0.o (by omega);have j8:Hi (I.heap.size≤w6.heap.size):=by
    show _≤_;rw[←e4,aT];exact a5.o.size
   clear e4 b0 H4 j2 a5 m4 p4 e6 h7 j4 j5 c8 z4;go_loopw[10] (fun x wr=>∃(k m:Nat) (q:List Pt) (T:cN),k≤l.length∧x= .int .i64 (k:Int)∧Hi (yV l (X.D i).id k=q)∧Hi ((X.D i).nh+q.length=m)∧Hi (gp wr I.heap.size (X.D i) (K i) q sz T)∧Hi (Below G.heap.size G wr)∧Hi (I.heap.size≤wr.heap.size)∧Hi (aF w wr ((y,aH (pL (X.D i) sz q) T,62)::(w.heap.size+1+1,#[.string ⟨#[79,80,49]⟩,.slice U n c],48)::L))) (fun x _=>l.length-(intOf x).toNat)
   case atStart=>exact⟨0,(X.D i).nh,[],_,by omega,rfl,rfl,rfl,g7,h4,j8,H6⟩
   case round=>
    clear g7 h4 H6 j8;obtain⟨w7,rfl⟩:=wE wr;obtain⟨k,m,q,T,hk,rfl,HQ,C,HA,HB,HW,Z⟩:=hrel;have p0:w7.cell? y=some (.string (X.D i).id):=aX (Z.o.get 0 rfl) rfl;have p7:w7.cell? (y,7)=some (.slice T.oq m T.cq):=by rw[←C.o];exact aX (Z.o.get 0 rfl) rfl
    have z7:y<w7.heap.size:=Z.o.lt (bw ..);have s1:m≤2000000:=by
     have r:=Gj l (X.D i).id k;rw[HQ.o]at r;have:=C.o;omega
    by_cases hkl:k<l.length
    ·obtain⟨bm,fm,rfl,d4,f1⟩:=bs.at n2.o (fun _=>rfl) hkl;have p3:=hl.o k hkl;obtain⟨e,he⟩:=oE (l.getD k lr);have F:=f1 k hkl;rw[he]at p3 F;have f6:=ar he;have x0:w7.cell? (bm,fm+k*4)=some e.1:=bI Z.o.1 d4 (F 0 _ rfl);have x1:w7.cell? (bm,fm+k*4+1)=some e.2.1:=bI Z.o.1 d4 (F 1 _ rfl);have x2:w7.cell? (bm,fm+k*4+2)=some e.2.2:=bI Z.o.1 d4 (F 2 _ rfl);have x3:w7.cell? (bm,fm+k*4+3)=some sz:=bI Z.o.1 d4 (F 3 _ rfl);have zm:bm<w7.heap.size:=aM d4 Z.o.1.size;have k2:=dS k;have k3:(k:Int)<(l.length:Int):=by omega
     clear F f1 he;by_cases hid:e.1=(X.D i).id
     ·have k4:(e.1.toList==(X.D i).id.toList)=true:=by rw[hid];simp
      go_wp2_with fail
      refine aD 8 ?_;simp only[ac,aj,aK,aC,aa,ae,af];iterate 8 refine bJ ?_
      intro u w8 O hE;simp only[cF,aR,ay.is,aE,aA,reduceIte]at hE;simp only[am,ax,ac,aj,aK,aC,aa,ae,af,hE];clear hE;have q9:=ar (ag (w:=w7) (by first|assumption|go_grown) O);have d:=ar O;have f5:=dx O;have q2:bm<w8.heap.size:=by omega
      have q3:y<w8.heap.size:=by omega
      obtain⟨f2,f3⟩:=br O;clear O f5;have q6:w8.cell? (bm,fm+k*4+1)=some e.2.1:=bI d.o zm x1;have q7:w8.cell? (bm,fm+k*4+2)=some e.2.2:=bI d.o zm x2;have q8:w8.cell? (bm,fm+k*4+3)=some sz:=bI d.o zm x3;have q4:w8.cell? (y,7)=some (.slice T.oq m T.cq):=bI d.o z7 p7;have s4:IntKind.i64.wrap (sz.tdiv 2)=sz/2:=by
       rw[Int.tdiv_eq_ediv_of_nonneg (by omega)];exact iw
      have s5:IntKind.i64.wrap (sz/2+1)=sz/2+1:=iw;clear f2 f3 x0 x1 x2 x3 p0 p7 k4;go_wp2_with fail
      refine aD 17 ?_;simp only[ac,aj,aK,aC,aa,ae,af];iterate 15 refine bJ ?_
      refine bG (ay.owns w8.heap.size 43 2 4 (eG (fun i j=>qb (mV (e.2.1,e.2.2) (sz/2+1) i) j) 2 4)) ?_ ?_
      ·intro u wx hz hc hf h5 hd;simp[aU,ai,aR,ay.is,ay.any]at hd;refine⟨by simp[au],?_⟩;go_simp;(go_at_call 22;refine(Ca e.2.1 e.2.2 (sz/2+1) wx (by omega) (by omega) (by omega)).mono ?_;rintro e_ w9 ⟨v',rfl,ho,o7⟩);exact⟨v',rfl,o7,cA ho h5.o.size⟩
      refine bG (ay.bld w8.heap.size 4 (eG (fun i j=>qb (mV (e.2.1,e.2.2) (sz/2+1) i) j) 2 4)) ?_ ?_
      ·intro u wx hz hc hf h5 hd;simp[aU,ai,aR,ay.is,ay.any]at hd;refine⟨by simp[au],?_⟩;have d9:wx.ownsRow _ _ _ (u 15) _ _:=hd;obtain⟨o4,c4,c9⟩:=cj d9;rw[c9]at d9;have HD:=ar d9;clear hd d9;simp only[aK,aC,aa,ae,af,c9];go_simp;exact⟨(ah _ _).alloc (aB _) _,_,o4,c4,rfl,bf _ _ _ rfl,bD HD.o ((ah _ _).alloc (aB _) _)⟩
      intro u w9 O hE;obtain⟨r9,c9⟩:=oE (u 15);obtain⟨g9,o4,c4,k6,l0,l5⟩:∃(g:Nat) (o:Option Addr) (c:Nat),u 16= .slice (some ⟨g,0,none⟩) 1 1∧w9.heap[g]?=some (.cells #[.slice o 4 c] 53)∧w9.ownsRow w8.heap.size 43 2 (.slice o 4 c) 4 (eG (fun i j=>qb (mV (e.2.1,e.2.2) (sz/2+1) i) j) 2 4):=eS hE 16;have i2:=ar l0;have i6:=ar l5;clear l0 l5;simp only[cF,aR,ay.is,aE,aA,reduceIte]at hE;simp only[am,ax,ac,aj,aK,aC,aa,ae,af,c9,k6,hE];clear c9 k6 hE;obtain⟨r5,r4,k8,k9,J⟩:=pr O;clear O;have d6:=ar (HA.o.keep (ag d.o J.o));have n6:=ar (aF.step (aF.step Z.o d.o) J.o);have a9:Hi (w9.ownsRow I.heap.size 53 1 (.slice T.oq m T.cq) m (eG (fun a _=> .slice (T.oh a) (eX (X.D i).nh (X.D i).hn a) (T.ch a)) 1 m)):=by
       have r:=d6.o.r;rw[C.o]at r;exact r
      have m6:I.heap.size≤w9.heap.size:=bW HW.o (bW d.o.size J.o.size);clear q6 q7 q8 q4 k8 k9;go_wp2_with (first|(at_builtin;refine me rfl _ _ 54 rfl I.heap.size 53 i0 _ 1 24 underlying54 l2 m0 m1 m3 rfl (by decide) _ m _ rfl a9.o (some ⟨g9,0,none⟩) 1 1 [.slice o4 4 c4] rfl ?c1 ?c2 ?c3 ?c4 ?c5 ?c6 ?c7 ?_)|fail)
      case c1=>rfl
      case c2=>intro h;cases h
      case c3=>
       intro ad g4 j u hj;cases g4;exact ie i2.o j u hj
      case c4=>intro u hu;simp only[List.mem_singleton]at hu;subst hu;rfl
      case c5=>unfold maxLen;omega
      case c6=>omega
      case c7=>exact m6
      intro v9 a0 A f d3;have l1:∀g,(Value.slice T.oq m T.cq).ownBlock=some g→I.heap.size≤g:=fun g hg=>(eh a9.o hg).1;have g8:Hi (Below G.heap.size G a0):=Below.grown (ag (ag HB.o d.o) J.o) f (bW HB.o.size (bW d.o.size J.o.size)) (fun g hg=>by have:=l1 g hg;omega);have a6:Hi (aF w a0 ((y,aH (pL (X.D i) sz q) T,62)::(w.heap.size+1+1,#[.string ⟨#[79,80,49]⟩,.slice U n c],48)::L)):=aF.row n6.o (B:=I.heap.size) (fun x F=>by
       rcases bj.1 F with rfl|F
       ·exact zp
       ·rcases bj.1 F with rfl|F
        ·dsimp only;omega
        ·have:=d7.o x F;omega) (by omega) a9.o f
      have g5:Hi (∀a,a<q.length→a0.ownsRow I.heap.size 43 2 (.slice (T.oh ((X.D i).nh+a)) 4 (T.ch ((X.D i).nh+a))) 4 (eG (fun i j=>qb (mV (q.getD a (0,0)) (sz/2+1) i) j) 2 4)):=fun a ha=>ll (d6.o.b a ha) a9.o (by decide) f;have i5:Hi (a0.ownsRow I.heap.size 43 2 (.slice o4 4 c4) 4 (eG (fun i j=>qb (mV (e.2.1,e.2.2) (sz/2+1) i) j) 2 4)):=ll (cA i6.o (bW HW.o d.o.size)) a9.o (by decide) f;have g0:=ar A;obtain⟨o5,c5,rfl⟩:=cj A;have j7:Hi (I.heap.size≤a0.heap.size):=bW m6 f.size;have Q:=ar (cS (i:=7) (v:= .slice o5 (m+1) c5) (a6.o.get 0 rfl));have s7:a0.cell? (y,7)=some (.slice T.oq m T.cq):=by rw[←C.o];exact aX (a6.o.get 0 rfl) rfl
      have r6:∀q,a0.frozen? ⟨y,q,none⟩=false:=(bT (a6.o.get 0 rfl)).2.1;have j1:IntKind.i64.wrap ((k:Int)+1)=((k+1:Nat):Int):=iw;clear A f d3 l1 i2 i6 a9;go_wp2;go_roundw
      case rel=>
       have e1:=yW (D:=X.D i) (T:=T) (q:=q) (sz:=sz) (p:=(e.2.1,e.2.2)) (o4:=o4) (o':=o5) (c4:=c4) (c':=c5) C.o;refine⟨k+1,m+1,q++ [(e.2.1,e.2.2)],{T with oq:=o5,cq:=c5,oh:=iX T.oh m o4,ch:=iX T.ch m c4},by omega,by go_num,?_,?_,?_,bL.below g8.o Q.o (by omega),?_,?_⟩
       ·show yV l _ (k+1)=_;rw[Gi hkl (by rw[f6.o];exact hid),HQ.o,f6.o]
       ·show _=_;rw[aZ,←C.o];rfl
       ·exact gp.push C.o (p:=(e.2.1,e.2.2)) d6.o.o d6.o.a (fun a ha=>cw (g5.o a ha) (b:=y) zp Q.o.other) (cw g0.o (b:=y) zp Q.o.other) (cw i5.o (b:=y) zp Q.o.other)
       ·show _≤_;rw[aT];exact j7.o
       ·have r:=aF.wrote a6.o Q.o (by omega) f8.o;rw[e1]at r;exact r
      case measure=>simp[intOf];omega
     ·have k4:(e.1.toList==(X.D i).id.toList)=false:=by
       rw[cG];intro h;exact hid (ee (by simpa using h))
      go_wp2_with fail
      refine aD 8 ?_;simp only[ac,aj,aK,aC,aa,ae,af];iterate 8 refine bJ ?_
      intro u w8 O hE;simp only[cF,aR,ay.is,aE,aA,reduceIte]at hE;simp only[am,ax,ac,aj,aK,aC,aa,ae,af,hE];clear hE;obtain⟨f5,r3,f2,f3,d⟩:=pr O;clear O;have n5:=ar (aF.step Z.o d.o);have m7:=ar (HA.o.keep d.o);have m8:=ar (ag HB.o d.o);have n9:Hi (I.heap.size≤w8.heap.size):=bW HW.o d.o.size;have j1:IntKind.i64.wrap ((k:Int)+1)=((k+1:Nat):Int):=iw;go_wp2;go_roundw
      case rel=>
       refine⟨k+1,m,q,T,by omega,by go_num,?_,C,m7,m8,n9,n5⟩;show yV l _ (k+1)=_;rw[Ew hkl (by rw[f6.o];exact hid),HQ.o]
      case measure=>simp[intOf];omega
    ·obtain rfl:k=l.length:=by omega
     have b9:Hi (q=M i):=by
      show _=_;rw[←HQ.o];exact hM.o i hlt
     have j0:IntKind.i64.wrap ((i:Int)+1)=((i+1:Nat):Int):=iw;by_cases hmi:M i= []
     ·have k4:((m:Int)==((X.D i).nh:Int))=true:=by
       have r:=C.o;rw[b9.o,hmi]at r;simp at r;simp[r]
      have n1:Hi (∀k,sV X M sz (i+1) k=sV X M sz i k):=fun k=>by unfold sV;rw[sW hmi]
      have n4:=ar Z.o.tail;have n8:=ar (bD HR.o HB.o);clear HQ HA;go_wp2;go_roundw
      case rel=>
       refine⟨i+1,n,U,c,ES,by omega,by go_num,?_,fun q hq b1=> ?_,?_,fun k hk=> ?_,n4⟩
       ·show _=_;rw[sW hmi];exact HN.o
       ·by_cases e:q=i
        ·subst e;exact absurd hmi b1
        ·exact HK.o q (by omega) b1
       ·show World.ownsRow _ _ _ _ _ _ _;rw[iK (g:=eN (fun k=>cX (sV X M sz i k) (ES k))) (fun a b ha O=>by unfold eN;dsimp only;rw[n1.o])];exact n8.o
       ·rw[sW hmi];exact(HE.o k hk).keep HB.o
      case measure=>simp[intOf];omega
     ·have k4:((m:Int)==((X.D i).nh:Int))=false:=by
       have r:=C.o;rw[b9.o]at r;have h2:0<(M i).length:=List.length_pos_iff.2 hmi;rw[beq_eq_false_iff_ne];omega
      have s6:=(l8.o i hlt).2;have i7:Hi (dj w7 (X.D i) (K i)):=⟨(b5.o i hlt).1.below Z.o.1,(b5.o i hlt).2.below Z.o.1⟩;have i8:=ar (HA.o.part i7.o);have h6:Hi (∀W,Below w7.heap.size w7 W→Calls prog 23 #[.agg #[.slice T.oo (X.D i).no T.co,.slice T.oq m T.cq]] W (fun e w'=>∃cc:Int,e= .returned (.int .i64 cc)∧(cc=0→fP (X.D i).no (X.D i).P ((X.D i).nh+q.length) (eX (X.D i).nh (X.D i).hn) (iu (X.D i).nh (X.D i).H sz q))∧Below W.heap.size W w')):=fun W O=>by
       have h2:=i8.o.2.below O;have h3:=lP (.slice T.oo (X.D i).no T.co) (.slice T.oq m T.cq) (X.D i).no m (X.D i).P T.oh T.ch (eX (X.D i).nh (X.D i).hn) (iu (X.D i).nh (X.D i).H sz q) W (i8.o.1.below O) (by rw[←C.o];exact h2);rw[C.o];refine h3.mono ?_;rintro e w' ⟨cc,rfl,d8,o6⟩;exact⟨cc,rfl,d8.o.1,o6⟩
      have p6:w7.cell? (y,6)=some (.slice T.oo (X.D i).no T.co):=aX (Z.o.get 0 rfl) rfl;go_wp2_with fail
      (go_at_call 23;refine(h6.o _ (ah _ _)).mono ?_;rintro e_ z ⟨cc,rfl,d8,d1⟩);have m9:=ar d8;have b6:=ar d1;have E:=ar (aF.step Z.o d1);have p1:z.cell? (y,1)=some (.int .i64 (X.D i).rv):=aX (E.o.get 0 rfl) rfl;have r7:∀q,z.frozen? ⟨y,q,none⟩=false:=(bT (E.o.get 0 rfl)).2.1;have t0:y<z.heap.size:=E.o.lt (bw ..);clear d8 d1 h6 p6 p0 p7 k4;by_cases hc0:cc=0
      ·subst hc0;by_cases hv:1000≤(X.D i).rv
       ·have k5:decide ((1000:Int)≤(X.D i).rv)=true:=decide_eq_true hv;have g1:Hi (z.heap[w.heap.size+1]?=some (.cells #["",Nat] 48)):=aF.nth E.o.tail.tail HL.o 0 rfl;go_wp2_with (first|((with_reducible refine bB 48 (w.heap.size+1) 2 #["",Nat] 48 gG rfl rfl rfl rfl (⟨_,g1.o,rfl⟩) ?_);intro q5 hs)|fail)
        have d0:=bL.below E.o.1 hs (by omega);refine bodyPost_ret (di rfl rfl hs.here nU gG rfl) rfl ?_;exact⟨_,none,0,0,false,rfl,d0,fun h=>by cases h⟩
       ·have k5:decide ((1000:Int)≤(X.D i).rv)=false:=decide_eq_false hv;have n3:Hi (Im X M sz i):=⟨p5.o i hlt hmi,by omega,by have:=m9.o rfl;rw[b9.o]at this;exact this⟩;have a8:=ar (cS (i:=1) (v:= .int .i64 0) (E.o.get 0 rfl));have c0:Hi (aF w (z.setCell (y,1) (.int .i64 0)) ((y,aH {pL (X.D i) sz q with rv:=0} T,62)::(w.heap.size+1+1,#[.string ⟨#[79,80,49]⟩,.slice U n c],48)::L)):=aF.wrote E.o a8.o (by omega) f8.o;have i3:Hi ((z.setCell (y,1) (.int .i64 0)).heap[y]?=some (.cells #[.string (X.D i).id,(),(X.D i).kd,.string (X.D i).nd,.string (X.D i).g,(X.D i).th,.slice T.oo (X.D i).no T.co,.slice T.oq m T.cq,.string (X.D i).s,(X.D i).ln,(X.D i).ma,(X.D i).e1,(X.D i).e2,(X.D i).e3,(X.D i).a1,(X.D i).a2,(X.D i).a3,(X.D i).t] 62)):=by
         have r:=c0.o.get 0 rfl;have e1:aH {pL (X.D i) sz q with rv:=0} T=(#[.string (X.D i).id,(),(X.D i).kd,.string (X.D i).nd,.string (X.D i).g,(X.D i).th,.slice T.oo (X.D i).no T.co,.slice T.oq m T.cq,.string (X.D i).s,(X.D i).ln,(X.D i).ma,(X.D i).e1,(X.D i).e2,(X.D i).e3,(X.D i).a1,(X.D i).a2,(X.D i).a3,(X.D i).t]:Array Value):=by
          rw[←C.o];rfl
         rw[e1]at r;exact r
        have e7:Hi (Below G.heap.size G (z.setCell (y,1) (.int .i64 0))):=bL.below (ag HB.o b6.o) a8.o (by omega);have g6:Hi (gp (z.setCell (y,1) (.int .i64 0)) I.heap.size (X.D i) (K i) q sz T):=by
         have r:=HA.o.keep b6.o;exact⟨r.o,cw r.r (b:=y) zp a8.o.other,r.a,fun a ha=>cw (r.b a ha) (b:=y) zp a8.o.other⟩
        have o1:(z.setCell (y,1) (.int .i64 0)).cell? (w.heap.size+1+1,1)=some (.slice U n c):=aX (c0.o.get 1 rfl) rfl;have e8:=ar (bD HR.o e7.o);have m5:z.heap.size=(z.setCell (y,1) (.int .i64 0)).heap.size:=(aT _ _ _).symm;have m2:w.heap.size+1+1+1≤(z.setCell (y,1) (.int .i64 0)).heap.size:=by rw[←m5];omega
        have r2:n≤40:=by have r:=HN.o;have h2:=zU M i;omega
        clear m5;have o2:Hi (∀k,k<n→sV X M sz (i+1) k=sV X M sz i k):=fun k hk=>by
         have r:k<(fI M i).length:=by have:=HN.o;omega
         unfold sV;rw[Aj hmi r]
        have n0:Hi (sV X M sz (i+1) n={pL (X.D i) sz q with rv:=0}):=by
         show _=_;unfold sV;rw[HN.o,xj hmi,b9.o]
        have h9:Hi ((cX {pL (X.D i) sz q with rv:=0} T).toList= [.int .i64 5,.string ⟨#[]⟩,.string ⟨#[]⟩,.string ⟨#[]⟩,.int .i64 0,.string ⟨#[]⟩,.string (X.D i).id,.int .i64 0,.int .i64 (X.D i).kd,.string (X.D i).nd,.string (X.D i).g,.int .i64 (X.D i).th,.slice T.oo (X.D i).no T.co,.slice T.oq m T.cq,.string (X.D i).s,.int .i64 (X.D i).ln,.int .i64 (X.D i).ma,.int .i64 (X.D i).e1,.int .i64 (X.D i).e2,.int .i64 (X.D i).e3,.int .i64 (X.D i).a1,.int .i64 (X.D i).a2,.int .i64 (X.D i).a3,.int .i64 (X.D i).t,.string ⟨#[]⟩,.string ⟨#[]⟩,.string ⟨#[]⟩,.int .i64 0,.int .i64 0,.int .i64 0,.string ⟨#[]⟩,.string ⟨#[]⟩,.slice none 0 0,.int .i64 0,.slice none 0 0,.int .i64 0,.string ⟨#[]⟩,.string ⟨#[]⟩]):=by
         show _=_;rw[←C.o];rfl
        have t1:w.heap.size+1+1<z.heap.size:=by omega
        go_wp2_with (first|(with_reducible refine bA 62 y 18 #[.string (X.D i).id,(),(X.D i).kd,.string (X.D i).nd,.string (X.D i).g,(X.D i).th,.slice T.oo (X.D i).no T.co,.slice T.oq m T.cq,.string (X.D i).s,(X.D i).ln,(X.D i).ma,(X.D i).e1,(X.D i).e2,(X.D i).e3,(X.D i).a1,(X.D i).a2,(X.D i).a3,(X.D i).t] 62 _ bF bv rfl rfl i3.o ?_)|(at_builtin;refine wpList_append_own_at _ rfl _ _ 46 rfl (w.heap.size+1+1+1) 73 i1 (.agg #[.int .i64 0,.string ⟨#[]⟩,.string ⟨#[]⟩,.string ⟨#[]⟩,.int .i64 0,.string ⟨#[]⟩,.string ⟨#[]⟩,.int .i64 0,.int .i64 0,.string ⟨#[]⟩,.string ⟨#[]⟩,.int .i64 0,.slice none 0 0,.slice none 0 0,.string ⟨#[]⟩,.int .i64 0,.int .i64 0,.int .i64 0,.int .i64 0,.int .i64 0,.int .i64 0,.int .i64 0,.int .i64 0,.int .i64 0,.string ⟨#[]⟩,.string ⟨#[]⟩,.string ⟨#[]⟩,.int .i64 0,.int .i64 0,.int .i64 0,.string ⟨#[]⟩,.string ⟨#[]⟩,.slice none 0 0,.int .i64 0,.slice none 0 0,.int .i64 0,.string ⟨#[]⟩,.string ⟨#[]⟩]) 38 488 underlying46 o8 p9 q0 q1 rfl (by decide) _ _ _ rfl (e8.o.alloc _) ⟨z.heap.size,0,none⟩ 1 1 [.int .i64 5,.string ⟨#[]⟩,.string ⟨#[]⟩,.string ⟨#[]⟩,.int .i64 0,.string ⟨#[]⟩,.string (X.D i).id,.int .i64 0,.int .i64 (X.D i).kd,.string (X.D i).nd,.string (X.D i).g,.int .i64 (X.D i).th,.slice T.oo (X.D i).no T.co,.slice T.oq m T.cq,.string (X.D i).s,.int .i64 (X.D i).ln,.int .i64 (X.D i).ma,.int .i64 (X.D i).e1,.int .i64 (X.D i).e2,.int .i64 (X.D i).e3,.int .i64 (X.D i).a1,.int .i64 (X.D i).a2,.int .i64 (X.D i).a3,.int .i64 (X.D i).t,.string ⟨#[]⟩,.string ⟨#[]⟩,.string ⟨#[]⟩,.int .i64 0,.int .i64 0,.int .i64 0,.string ⟨#[]⟩,.string ⟨#[]⟩,.slice none 0 0,.int .i64 0,.slice none 0 0,.int .i64 0,.string ⟨#[]⟩,.string ⟨#[]⟩] rfl rfl ?c1 ?c2 ?c3 ?c4 ?c5 ?_)|fail)
        case c2=>simp[Value.oneCell']
        case c3=>unfold maxLen;omega
        case c4=>omega
        case c5=>have:=m2;simp only[aT]at this;simp;omega
        intro s9 d5 A f l4 o3;have j6:Hi (aF w ((z.setCell (y,1) (.int .i64 0)).alloc (.cells ([.int .i64 5,.string ⟨#[]⟩,.string ⟨#[]⟩,.string ⟨#[]⟩,.int .i64 0,.string ⟨#[]⟩,.string (X.D i).id,.int .i64 0,.int .i64 (X.D i).kd,.string (X.D i).nd,.string (X.D i).g,.int .i64 (X.D i).th,.slice T.oo (X.D i).no T.co,.slice T.oq m T.cq,.string (X.D i).s,.int .i64 (X.D i).ln,.int .i64 (X.D i).ma,.int .i64 (X.D i).e1,.int .i64 (X.D i).e2,.int .i64 (X.D i).e3,.int .i64 (X.D i).a1,.int .i64 (X.D i).a2,.int .i64 (X.D i).a3,.int .i64 (X.D i).t,.string ⟨#[]⟩,.string ⟨#[]⟩,.string ⟨#[]⟩,.int .i64 0,.int .i64 0,.int .i64 0,.string ⟨#[]⟩,.string ⟨#[]⟩,.slice none 0 0,.int .i64 0,.slice none 0 0,.int .i64 0,.string ⟨#[]⟩,.string ⟨#[]⟩]:List Value).toArray 73)) ((w.heap.size+1+1,#[.string ⟨#[79,80,49]⟩,.slice U n c],48)::L)):=aF.obj c0.o.tail _;have f9:=ar (e8.o.alloc (.cells ([.int .i64 5,.string ⟨#[]⟩,.string ⟨#[]⟩,.string ⟨#[]⟩,.int .i64 0,.string ⟨#[]⟩,.string (X.D i).id,.int .i64 0,.int .i64 (X.D i).kd,.string (X.D i).nd,.string (X.D i).g,.int .i64 (X.D i).th,.slice T.oo (X.D i).no T.co,.slice T.oq m T.cq,.string (X.D i).s,.int .i64 (X.D i).ln,.int .i64 (X.D i).ma,.int .i64 (X.D i).e1,.int .i64 (X.D i).e2,.int .i64 (X.D i).e3,.int .i64 (X.D i).a1,.int .i64 (X.D i).a2,.int .i64 (X.D i).a3,.int .i64 (X.D i).t,.string ⟨#[]⟩,.string ⟨#[]⟩,.string ⟨#[]⟩,.int .i64 0,.int .i64 0,.int .i64 0,.string ⟨#[]⟩,.string ⟨#[]⟩,.slice none 0 0,.int .i64 0,.slice none 0 0,.int .i64 0,.string ⟨#[]⟩,.string ⟨#[]⟩]:List Value).toArray 73));have a7:Hi (aF w d5 ((w.heap.size+1+1,#[.string ⟨#[79,80,49]⟩,.slice U n c],48)::L)):=aF.row j6.o (B:=w.heap.size+1+1+1) (fun x F=>by
         rcases bj.1 F with rfl|F
         ·exact Nat.lt_succ_self _
         ·have:=d7.o x F;omega) (by omega) f9.o f
        have a4:Hi (gp d5 (w.heap.size+1+1+1) (X.D i) (K i) q sz T):=((g6.o.weak (by omega)).keep ((ah _ _).alloc (aB _) (.cells ([.int .i64 5,.string ⟨#[]⟩,.string ⟨#[]⟩,.string ⟨#[]⟩,.int .i64 0,.string ⟨#[]⟩,.string (X.D i).id,.int .i64 0,.int .i64 (X.D i).kd,.string (X.D i).nd,.string (X.D i).g,.int .i64 (X.D i).th,.slice T.oo (X.D i).no T.co,.slice T.oq m T.cq,.string (X.D i).s,.int .i64 (X.D i).ln,.int .i64 (X.D i).ma,.int .i64 (X.D i).e1,.int .i64 (X.D i).e2,.int .i64 (X.D i).e3,.int .i64 (X.D i).a1,.int .i64 (X.D i).a2,.int .i64 (X.D i).a3,.int .i64 (X.D i).t,.string ⟨#[]⟩,.string ⟨#[]⟩,.string ⟨#[]⟩,.int .i64 0,.int .i64 0,.int .i64 0,.string ⟨#[]⟩,.string ⟨#[]⟩,.slice none 0 0,.int .i64 0,.slice none 0 0,.int .i64 0,.string ⟨#[]⟩,.string ⟨#[]⟩]:List Value).toArray 73))).grown f9.o (by decide) (by decide) f;have h8:Hi (∀k,k<n→gp d5 (w.heap.size+1+1+1) (X.D ((fI M i).getD k 0)) (K ((fI M i).getD k 0)) (M ((fI M i).getD k 0)) sz (ES k)):=fun k hk=>(((HE.o k hk).keep e7.o).keep ((ah _ _).alloc (aB _) (.cells ([.int .i64 5,.string ⟨#[]⟩,.string ⟨#[]⟩,.string ⟨#[]⟩,.int .i64 0,.string ⟨#[]⟩,.string (X.D i).id,.int .i64 0,.int .i64 (X.D i).kd,.string (X.D i).nd,.string (X.D i).g,.int .i64 (X.D i).th,.slice T.oo (X.D i).no T.co,.slice T.oq m T.cq,.string (X.D i).s,.int .i64 (X.D i).ln,.int .i64 (X.D i).ma,.int .i64 (X.D i).e1,.int .i64 (X.D i).e2,.int .i64 (X.D i).e3,.int .i64 (X.D i).a1,.int .i64 (X.D i).a2,.int .i64 (X.D i).a3,.int .i64 (X.D i).t,.string ⟨#[]⟩,.string ⟨#[]⟩,.string ⟨#[]⟩,.int .i64 0,.int .i64 0,.int .i64 0,.string ⟨#[]⟩,.string ⟨#[]⟩,.slice none 0 0,.int .i64 0,.slice none 0 0,.int .i64 0,.string ⟨#[]⟩,.string ⟨#[]⟩]:List Value).toArray 73))).grown f9.o (by decide) (by decide) f;have g0:=ar A;obtain⟨o',c',p8⟩:=cj A;subst p8;have s8:d5.cell? (w.heap.size+1+1,1)=some (.slice U n c):=aX (a7.o.get 0 rfl) rfl;have r8:∀q,d5.frozen? ⟨w.heap.size+1+1,q,none⟩=false:=(bT (a7.o.get 0 rfl)).2.1;have N:=ar (cS (i:=1) (v:= .slice o' (n+1) c') (a7.o.get 0 rfl));clear A f l4 o3 j6;go_wp2;go_roundw
        case rel=>
         refine⟨i+1,n+1,o',c',iX ES n T,by omega,by go_num,?_,fun q hq b1=> ?_,?_,fun k hk=> ?_,?_⟩
         ·show _=_;rw[sX hmi,aZ,←HN.o];rfl
         ·by_cases e:q=i
          ·subst e;exact n3.o
          ·exact HK.o q (by omega) b1
         ·show World.ownsRow _ _ _ _ _ _ _;have r:=cw g0.o (b:=w.heap.size+1+1) (Nat.lt_succ_self _) N.o.other;rw[iK (g:=eN (fun k=>cX (sV X M sz (i+1) k) (iX ES n T k))) (fun a b ha O=>by unfold eN;dsimp only;rw[dy _ _ (by omega),o2.o a ha])]at r;have e1:(List.range 38).map (eN (fun k=>cX (sV X M sz (i+1) k) (iX ES n T k)) n)= [.int .i64 5,.string ⟨#[]⟩,.string ⟨#[]⟩,.string ⟨#[]⟩,.int .i64 0,.string ⟨#[]⟩,.string (X.D i).id,.int .i64 0,.int .i64 (X.D i).kd,.string (X.D i).nd,.string (X.D i).g,.int .i64 (X.D i).th,.slice T.oo (X.D i).no T.co,.slice T.oq m T.cq,.string (X.D i).s,.int .i64 (X.D i).ln,.int .i64 (X.D i).ma,.int .i64 (X.D i).e1,.int .i64 (X.D i).e2,.int .i64 (X.D i).e3,.int .i64 (X.D i).a1,.int .i64 (X.D i).a2,.int .i64 (X.D i).a3,.int .i64 (X.D i).t,.string ⟨#[]⟩,.string ⟨#[]⟩,.string ⟨#[]⟩,.int .i64 0,.int .i64 0,.int .i64 0,.string ⟨#[]⟩,.string ⟨#[]⟩,.slice none 0 0,.int .i64 0,.slice none 0 0,.int .i64 0,.string ⟨#[]⟩,.string ⟨#[]⟩]:=by
           rw[←h9.o];unfold eN;dsimp only;rw[dr,n0.o];rfl
          rw[eG,e1];exact r
         ·by_cases e:k=n
          ·subst e;rw[dr];have h2:(fI M (i+1)).getD k 0=i:=by rw[HN.o];exact xj hmi
           rw[h2,←b9.o];exact⟨a4.o.o,cw a4.o.r (b:=w.heap.size+1+1) (Nat.lt_succ_self _) N.o.other,a4.o.a,fun a ha=>cw (a4.o.b a ha) (b:=w.heap.size+1+1) (Nat.lt_succ_self _) N.o.other⟩
          ·have o9:k<n:=by omega
           rw[dy _ _ e,Aj hmi (by have:=HN.o;omega)];have r:=h8.o k o9;exact⟨r.o,cw r.r (b:=w.heap.size+1+1) (Nat.lt_succ_self _) N.o.other,r.a,fun a ha=>cw (r.b a ha) (b:=w.heap.size+1+1) (Nat.lt_succ_self _) N.o.other⟩
         ·exact aF.wrote a7.o N.o (by omega) i4.o
        case measure=>simp[intOf];omega
      ·have k5:(cc !=0)=true:=by simpa using hc0
       have g1:Hi (z.heap[w.heap.size+1]?=some (.cells #["",Nat] 48)):=aF.nth E.o.tail.tail HL.o 0 rfl;go_wp2_with (first|((with_reducible refine bB 48 (w.heap.size+1) 2 #["",Nat] 48 gG rfl rfl rfl rfl (⟨_,g1.o,rfl⟩) ?_);intro q5 hs)|fail)
       have d0:=bL.below E.o.1 hs (by omega);refine bodyPost_ret (di rfl rfl hs.here nU gG rfl) rfl ?_;exact⟨_,none,0,0,false,rfl,d0,fun h=>by cases h⟩
  ·obtain rfl:i=X.np:=by omega
   have n7:Hi (G.heap[w.heap.size+1+1]?=some (.cells #[.string ⟨#[79,80,49]⟩,.slice U n c] 48)):=HO.o.get 0 rfl;have i9:Hi (G.heap[w.heap.size+1]?=some (.cells #["",Nat] 48)):=aF.nth HO.o.tail HL.o 0 rfl;obtain⟨o0,o1,-,-⟩:=al n7.o;obtain⟨r0,r1,rf,-⟩:=al i9.o;go_wp2
   go_region
   have g2:=ar (cS (i:=0) (v:= .string ⟨#[79,80,49]⟩) i9.o);have g3:=ar (cS (i:=1) (v:= .slice U n c) g2.o.here);have hB:=bL.below (bL.below HO.o.1 g2.o (by omega)) g3.o (by omega);have f4:∀(t:TypeId) (k n:Nat) (v:Value) (xs:List Value),G.ownsRow (w.heap.size+1+1+1) t k v n xs→World.ownsRow _ (w.heap.size+1+1+1) t k v n xs:=fun t k n v xs h=>cw (cw h (b:=w.heap.size+1) (by omega) g2.o.other) (b:=w.heap.size+1) (by omega) g3.o.other;have b8:=ar f4;have Y:=ar hB;have f7:=ar g3.o.here;clear hB f4 o0 o1 r0 r1 rf d2;go_wp2;refine bodyPost_ret (di rfl rfl f7.o nU gG rfl) rfl ?_;refine⟨_,U,n,c,decide (0<n),rfl,⟨Y.o.os,Y.o.tape,Y.o.output,Y.o.size,Y.o.block⟩,fun O=>⟨rfl,HN.o,of_decide_eq_true O,fun i hi b1=>HK.o i hi b1,ES,?_,fun k hk=> ?_⟩⟩
   ·exact jI (b8.o _ _ _ _ _ HR.o) (by decide)
   ·have r:=HE.o k hk;have hj:(fI M X.np).getD k 0<X.np:=(pF (by have:=HN.o;omega)).1;have h2:=gp.part (w':=(G.setCell (w.heap.size+1,0) (.string ⟨#[79,80,49]⟩)).setCell (w.heap.size+1,1) (.slice U n c)) ⟨r.o,b8.o _ _ _ _ _ r.r,r.a,fun a ha=>b8.o _ _ _ _ _ (r.b a ha)⟩ ⟨(b5.o _ hj).1.below Y.o,(b5.o _ hj).2.below Y.o⟩;exact h2
def Hn (X:bK) (M:Nat→List Pt) (sz:Int) (k:Nat):bK:=ek X M sz (match k with|0=>0|q+1=>(fI M X.np).getD q 0+1)
theorem mg (X:bK) (M:Nat→List Pt) (sz:Int):Hn X M sz 0=X:=rW X M sz
theorem Ho {X:bK} {M:Nat→List Pt} {sz:Int} {k:Nat} (d:k<(fI M X.np).length):Hn X M sz k=ek X M sz ((fI M X.np).getD k 0):=by
 symm;cases k with
 |zero=>exact lf (Nat.zero_le _) fun i g c=>zV d (fun q f=>absurd f (by omega)) c
 |succ k=>
  show ek X M sz _=ek X M sz ((fI M X.np).getD k 0+1);refine lf (jG (by omega) d) fun i g c=>zV d (fun q f=> ?_) c;by_cases e:q=k
  ·subst e;omega
  ·have:=jG (M:=M) (i:=X.np) (a:=q) (b:=k) (by omega) (by omega);omega
theorem Gl {X:bK} {M:Nat→List Pt} {sz:Int} (hn:0<(fI M X.np).length):Hn X M sz (fI M X.np).length=ek X M sz X.np:=by
 obtain⟨n,e⟩:∃n,(fI M X.np).length=n+1:=⟨(fI M X.np).length-1,by omega⟩;rw[e];symm;have h:=(pF (M:=M) (i:=X.np) (k:=n) (by omega)).1;refine lf (k:=(fI M X.np).getD n 0+1) (by omega) fun i j d=> ?_;apply aG;intro c;obtain⟨q,g,f⟩:=List.mem_iff_getElem.1 (mO.2 ⟨d,c⟩);have l:(fI M X.np).getD q 0=i:=by rw[aO,aS g];exact f
 by_cases e2:q=n
 ·subst e2;omega
 ·have:=jG (M:=M) (i:=X.np) (a:=q) (b:=n) (by omega) (by omega);omega
theorem kH (X:bK) (M:Nat→List Pt) (sz:Int) (k q:Nat):((ek X M sz k).D q).id=(X.D q).id∧((ek X M sz k).D q).nd=(X.D q).nd:=by
 show(if q<k∧M q≠ []then ia X M sz q else X.D q).id=_∧(if q<k∧M q≠ []then ia X M sz q else X.D q).nd=_;split<;>exact⟨rfl,rfl⟩
theorem Ey {X:bK} {M:Nat→List Pt} {sz:Int} {q:Nat} (a:q<X.np):((ek X M sz X.np).D q).rv=(X.D q).rv+(((if M q= []then 0 else 1):Nat):Int):=by
 show(if q<X.np∧M q≠ []then ia X M sz q else X.D q).rv=_;by_cases e:M q= []
 ·rw[if_neg (fun c=>c.2 e),if_pos e];simp
 ·rw[if_pos ⟨a,e⟩,if_neg e];rfl
theorem eY.open {X:bK} (h:eY X) (M:Nat→List Pt) (sz:Int) (k:Nat):eY (ek X M sz k)where
 h:=h.h
 n:=h.n
 p:=fun i a=>by rw[(kH X M sz k i).1,(kH X M sz k i).2];exact h.p i a
 s:=h.s
 k:=h.k
 d:=h.d
 few:=h.few
theorem Cg {D:bX} (h:fP D.no D.P D.nh D.hn D.H):gF D:=⟨by have:=h.po.n32;omega,by have:=h.m8;omega,fun i a=>by have:=(h.hp i a).n32;omega⟩
theorem sY {m:fZ} {D:bX} (h:em m D):gF D:=by
 by_cases e:D.kd=1
 ·exact Cg (h.sh e)
 ·obtain⟨-,a,b⟩:=h.no1 e;exact⟨by omega,by omega,fun i c=>by omega⟩
theorem xl {m:fZ} {X:bK} (h:io m X) (c:eY X):oT X:=by
 have b:=c.few;refine⟨by omega,fun i a=>sY (h.pt i a).1,fun i a=> ?_⟩;have:=b.2.2.2.2.2 i a;omega
theorem sZ {m:fZ} {X:bK} {n:Nat} {K:Nat→V} {sz:Int} (a:io m X):∀{i:Nat},i≤X.np→∀x∈gI X n K sz i,(-32768≤x.2.1∧x.2.1≤32768)∧ -32768≤x.2.2∧x.2.2≤32768
 |0,_,x,h=>by cases h
 |i+1,hi,x,h=>by
  unfold gI at h;rcases List.mem_append.1 h with h|h
  ·exact sZ a (by omega) x h
  ·obtain⟨q,c,rfl⟩:=List.mem_map.1 h;exact lW (fun b=>((a.pt i (by omega)).1.sh b).po.pol) (pE c)
theorem Ez {m:fZ} {X:bK} {M:Nat→List Pt} {sz:Int} (c:io m X) (d:rY X M sz) (l:eY X) {k:Nat} (g:k<(fI M X.np).length):vp m (Hn X M sz k) (Hn X M sz (k+1)) (sV X M sz X.np k):=by
 rw[Ho g];obtain⟨i,b⟩:=oE ((fI M X.np).getD k 0);have a:=pF g;have n:Hn X M sz (k+1)=ek X M sz (i+1):=by
  show ek X M sz ((fI M X.np).getD k 0+1)=_;rw[b]
 have o:sV X M sz X.np k={pL (X.D i) sz (M i)with rv:=0}:=by
  unfold sV;rw[b]
 rw[n,o,b];rw[b]at a;have r:=lg c d i (by omega);have f:(ek X M sz i).D i=X.D i:=wC (aB _);obtain⟨-,v,e⟩:=d i a.1 a.2;have t:=(c.pt i a.1).1.rev;refine⟨i,a.1,fun q u=> ?_,?_,?_,rfl,?_,?_,xl r (l.open M sz i),?_,l.open M sz (i+1),lg c d (i+1) (by omega)⟩
 ·rw[show(ek X M sz i).pI q=X.pI q from(kH X M sz i q).1,cG];intro h;have p:X.pI q=X.pI i:=ee (eq_of_beq h);have:=mF c.ap (by omega) a.1 p;omega
 ·exact(kH X M sz i i).1
 ·exact(kH X M sz i i).2
 ·rw[f];omega
 ·exact⟨by have:=e.po.n32;show(X.D i).no≤_;omega,by have:=e.m8;show(X.D i).nh+(M i).length≤_;omega,fun j s=>by have:=(e.hp j s).n32;show eX _ _ j≤_;omega⟩
 ·rw[rX a.2,f];rfl
theorem pM (X:bK) (S:dq) (v:Value) (m:fZ) (gv:Nat→Value) (oa:Option Addr) (n cap:Nat) (K:Nat→V) (sz:Int) (w:World) (hr:cJ w X S) (a0:qZ w X S) (j4:GM X) (hm:fE w v m gv) (f2:Hi (∀i,i<m.ng→(m.nm i).size≤1048576)) (f3:Hi (∀i,i<m.ns→(m.sn i).size≤1048576))
 (hp:gL w (.slice oa n cap) n K) (i9:dN w) (hg:gD w):
 Gv 3 #[.agg (bH X S),v,.agg #[.slice oa n cap,sz]] (.bool true) w:=by
 have HR:=ar hr;have l0:=ar a0;have Z:=ar j4;have k8:=ar hm;have k9:=ar hp;have HG:=ar hg;have g2:Hi (∀W,Below w.heap.size w W→Calls prog 4 #[.agg (bH X S),.int .i64 40] W (zK (X.nn≤40∧X.np≤40∧X.ns≤40∧X.nk≤40∧X.nd≤40∧∀i,i<X.nk→(X.K i).m≤40∧(X.K i).k≤40) W)):=fun W j=>Dt X S W (hr.below j);have d5:Hi (eY X→∀W,Below w.heap.size w W→Calls prog 5 #[.agg (bH X S),v] W (dL (io m X) W)):=fun hz W j=>yx X S v m gv W (hr.below j) hz (hm.below j) (fun i E=>(a0 i E).below j) f2 f3;have h4:Hi (mc X→n≤8→X.np≤40→∀W,Below w.heap.size w W→Calls prog 6 #[.agg (bH X S),.slice oa n cap,sz] W (oS X n K sz W)):=fun J h2 h3 W j=>qB X S _ n K sz W (hg.below j) (hr.below j) (fun i E=>(a0 i E).below j) J (hp.below j) h2 h3;have h5:Hi (mc X→n≤8→X.np≤40→∀W,Below w.heap.size w W→Calls prog 8 #[.agg (bH X S),.slice oa n cap,sz] W (oS X n K sz W)):=fun J h2 h3 W j=>wZ X S _ n K sz W (hr.below j) (fun i E=>(a0 i E).below j) J (hp.below j) h2 h3;have d4:Hi (eY X→io m X→∀(M:Nat→List Pt) (W:World) (oe:Option Addr) (y ce:Nat) (ES:Nat→cN),Below w.heap.size w W→rY X M sz→y=(fI M X.np).length→0<y→y≤32→bs W (.slice oe y ce) y 38 (fun k=>cX (sV X M sz X.np k) (ES k))→(∀k,k<y→dj W (sV X M sz X.np k) (ES k))→Calls prog 10 #[.agg (bH X S),v,.agg #[.string ⟨#[79,80,49]⟩,.slice oe y ce]] W (fun e w'=>∃N,e= .returned (.tuple #[.agg (bH (ek X M sz X.np) N),()])∧dg w' W.heap.size (ek X M sz X.np) N∧Below W.heap.size W w')):=by
  intro hz hR M W oe y ce ES j ho Q h0 h7 U c0;subst Q;have J:=BZ (fI M X.np).length (Hn X M sz) S ⟨#[79,80,49]⟩ oe ce (sV X M sz X.np) ES v m gv W (by rw[mg];exact hr.below j) (by rw[mg];exact fun q hq=>(a0 q hq).below j) U c0 ⟨h0,h7⟩ (fun k hk=>Ez hR ho hz hk) (by kernel_rfl) (by decide) (hm.below j) (i9.below j) f2 f3 (by rw[mg];exact hz) (by rw[mg];exact hR);rw[mg,Gl h0]at J;exact J
 clear hr a0 j4 hp i9 hg f2 f3;obtain⟨vg,vs,rfl,h8,h9,-,-,-⟩:=hm;obtain⟨og,cg,rfl,-,-⟩:=h8.form;obtain⟨f5,e0,rfl,-,-⟩:=h9.form;obtain⟨ng,j3⟩:=oE m.ng;obtain⟨f4,j5⟩:=oE m.ns;rw[j3,j5]at d5 d4⊢
 clear h8 h9 j3 j5 k8;obtain⟨L,hL,h0⟩:=aF.ex (((((aF.nil (ah w.heap.size w)).alloc (w.heap.size) rfl (bH X S) 28).alloc (w.heap.size+1) (by simp) #[.slice og ng cg,.slice f5 f4 e0] 32).alloc (w.heap.size+1+1) (by simp) #[.slice oa n cap,sz] 35));have g:=ar hL;have H0:=ar h0;clear hL h0;have d:Hi ((((w.alloc (.cells (bH X S) 28)).alloc (.cells #[.slice og ng cg,.slice f5 f4 e0] 32)).alloc (.cells #[.slice oa n cap,sz] 35)).heap[w.heap.size]?=some (.cells (bH X S) 28)):=aF.nth H0.o g.o 2 rfl;have B:(((w.alloc (.cells (bH X S) 28)).alloc (.cells #[.slice og ng cg,.slice f5 f4 e0] 32)).alloc (.cells #[.slice oa n cap,sz] 35)).cell? (w.heap.size,2)=some (.slice S.op X.np S.cp):=aX (aF.nth H0.o g.o 2 rfl) rfl;go_enter func3,ntmps3;go_wp2_with (first|(with_reducible refine bA 28 (w.heap.size) 6 (bH X S) 28 _ cH cz rfl rfl d.o ?_)|fail)
 (go_at_call 4;refine(g2.o _ H0.o.1).mono ?_;rintro e_ w1 ⟨b,rfl,d0,e3⟩);have H1:=ar (aF.step H0.o e3);clear d B;cases b with
 |false=>
  clear e3 H0;go_wp2;go_returns;exact⟨rfl,H1.o.1⟩
 |true=>
  have e9:=d0 rfl;have hz:eY X:=⟨Z.o.h,Z.o.n,Z.o.p,Z.o.s,Z.o.k,Z.o.d,e9⟩;have HZ:=ar hz;have f9:=ar (d5.o hz);have b9:X.np≤40:=e9.2.1;clear e3 H0 d0 e9 hz d5;have d:Hi (w1.heap[w.heap.size]?=some (.cells (bH X S) 28)):=aF.nth H1.o g.o 2 rfl;obtain⟨r0,-,-,-⟩:=al (aF.nth H1.o g.o 0 rfl);obtain⟨m0,m1,-,-⟩:=al (aF.nth H1.o g.o 1 rfl);by_cases hn8:8<n
  ·have k1:decide ((8:Int)<(n:Int))=true:=dt;go_wp2;go_returns;exact⟨rfl,H1.o.1⟩
  have k1:decide ((8:Int)<(n:Int))=false:=df;go_wp2_with (first|(with_reducible refine ef 28 (w.heap.size) 0 6 (bH X S) _ cH cz rfl rfl (eA d.o) (by first|rfl|(simp[au,yielded];done)) ?_)|fail)
  (go_at_call 5;refine(f9.o _ H1.o.1).mono ?_;rintro e_ w2 ⟨c,rfl,hc,i0⟩);have H2:=ar (aF.step H1.o i0);clear d;clear i0 H1 k1;by_cases hc0:c=0;rotate_left
  ·have k1:(c !=0)=true:=by simpa using hc0
   have k3:(c==0)=false:=by simpa using hc0
   go_wp2;go_returns;exact⟨rfl,H2.o.1⟩
  subst hc0;have I:=ar (hc rfl);have c6:=ar (uj (hc rfl));have c5:=ar (h4.o c6.o (by omega) b9);have c7:=ar (h5.o c6.o (by omega) b9);clear hc h4 h5;have d:Hi (w2.heap[w.heap.size]?=some (.cells (bH X S) 28)):=aF.nth H2.o g.o 2 rfl;obtain⟨r0,r1,-,-⟩:=al (aF.nth H2.o g.o 0 rfl);go_wp2_with (first|(with_reducible refine bA 28 (w.heap.size) 6 (bH X S) 28 _ cH cz rfl rfl d.o ?_)|fail)
  (go_at_call 6;refine(c5.o _ H2.o.1).mono ?_;rintro e_ w3 ⟨v1,rfl,i6,i1⟩);have H3:=ar (aF.step H2.o i1);have g6:=ar i6;clear d;clear i1 H2 i6 c5;have d:Hi (w3.heap[w.heap.size]?=some (.cells (bH X S) 28)):=aF.nth H3.o g.o 2 rfl;have B:w3.cell? (w.heap.size,2)=some (.slice S.op X.np S.cp):=aX (aF.nth H3.o g.o 2 rfl) rfl;obtain⟨r0,r1,-,-⟩:=al (aF.nth H3.o g.o 0 rfl);go_wp2_with (first|(with_reducible refine bA 28 (w.heap.size) 6 (bH X S) 28 _ cH cz rfl rfl d.o ?_)|fail)
  (go_at_call 8;refine(c7.o _ H3.o.1).mono ?_;rintro e_ w4 ⟨v2,rfl,i7,e4⟩);have H4:=ar (aF.step H3.o e4);have d7:=ar (g6.o.below e4);have g7:=ar i7;clear d B;clear e4 H3 i7 c7 g6;go_wp2_with fail
  (go_at_call 7;refine mz (BN v1 v2 sz _ _ d7.o g7.o) fun w5 e5=> ?_);have H5:=ar (aF.step H4.o e5);have b6:=ar (d7.o.below e5);clear e5 H4 d7 g7;obtain⟨l,hl⟩:=oE (gI X n K sz X.np);have g4:=ar hl;have g5:Hi (∀k,k<l.length→1≤sz∧sz≤10000):=fun k hk=>by
   have J:=(qw (X:=X) (n:=n) (K:=K) (sz:=sz) (i:=X.np) (x:=l[k]) (by rw[hl];exact List.getElem_mem hk));exact⟨J.2.2.1,J.2.2.2.1⟩
  rw[hl]at b6;have n1:l.length≤1240:=by
   have:=mN X n K sz X.np;rw[hl]at this;omega
  clear hl;have g8:Hi (iq w5 v1 sz l):=b6;obtain⟨om,cm,rfl,-,-,-⟩:=b6.o.form (fun _=>rfl);clear b6;go_wp2;go_loopw[8] (fun x wr=>∃k:Nat,k≤l.length∧x= .int .i64 (k:Int)∧Hi (Below w5.heap.size w5 wr)) (fun x _=>l.length-(intOf x).toNat)
  case atStart=>exact⟨0,by omega,rfl,ah _ _⟩
  case round=>
   obtain⟨w6,rfl⟩:=wE wr;obtain⟨k,hk,rfl,a4⟩:=hrel;have H6:=ar (aF.step H5.o a4.o);have d:Hi (w6.heap[w.heap.size]?=some (.cells (bH X S) 28)):=aF.nth H6.o g.o 2 rfl;have B:w6.cell? (w.heap.size,2)=some (.slice S.op X.np S.cp):=aX (aF.nth H6.o g.o 2 rfl) rfl;obtain⟨-,r1,-,rz⟩:=al (aF.nth H6.o g.o 0 rfl);by_cases hkl:k<l.length
   ·obtain⟨bm,fm,rfl,i5,c9⟩:=bs.at g8.o (fun _=>rfl) hkl;have x3:w6.cell? (bm,fm+k*4+3)=some sz:=bI a4.o i5 (c9 k hkl 3 _ rfl);have zm:bm<w6.heap.size:=aM i5 a4.o.size;have hs:=g5.o k hkl;have k1:decide (sz<1)=false:=df;have k2:decide ((10000:Int)<sz)=false:=df;have k3:=dS k;have k4:(k:Int)<(l.length:Int):=by omega
    have j1:IntKind.i64.wrap ((k:Int)+1)=((k+1:Nat):Int):=iw;clear c9 hs B d H6;go_wp2_with fail
    refine aD 18 ?_;simp only[ac,aj,aK,aC,aa,ae,af];iterate 18 refine bJ ?_
    intro u n4 j P;simp only[cF,aR,ay.is,aE,aA,reduceIte]at P;simp only[am,ax,ac,aj,aK,aC,aa,ae,af,P];clear P;obtain⟨m7,m5,l8,m2,b5⟩:=pr j;clear j;have k6:=ar (ag a4.o b5.o);clear x3;go_wp2;go_roundw
    case rel=>exact⟨k+1,by omega,by go_num,k6⟩
    case measure=>simp[intOf];omega
   ·obtain rfl:k=l.length:=by omega
    obtain⟨M,hM⟩:=oE ((fun i=>gB (X.D i) n K sz):Nat→List Pt);have d8:=ar hM;clear hM;have c4:Hi (∀i,i<X.np→yV l (X.pI i) l.length=M i):=fun i E=>by
     rw[Gk,←g4.o,←d8.o];have J:=wO (X:=X) (n:=n) (K:=K) (sz:=sz) I.o.ap E (aB X.np);rw[if_pos E]at J;exact J
    have c2:Hi (Calls prog 9 #[.agg (bH X S),.slice om l.length cm] w6 (xk X M sz w6)):=Cf X S _ l M sz w6 (HR.o.below H6.o.1).p (fun i E=>(l0.o i E).below H6.o.1) b9 (fun i E=>⟨(sY (I.o.pt i E).1).2.1,(I.o.pt i E).1.rev⟩) (g8.o.below a4.o) (by omega) (fun k hk=>⟨g5.o k hk,sZ (n:=n) (K:=K) (sz:=sz) I.o (aB X.np) _ (by rw[g4.o,aO,aS hk];exact List.getElem_mem hk)⟩) c4 (fun i E Q=>(wN (n:=n) (K:=K) (sz:=sz) (by rw[←d8.o]at Q;exact Q)).2);have g3:Hi (rY X M sz→∀(W:World) (N:dq),Below w.heap.size w W→dg W w.heap.size (ek X M sz X.np) N→Calls prog 6 #[.agg (bH (ek X M sz X.np) N),.slice oa n cap,sz] W (fun e w'=>∃o c,e= .returned (.slice o 0 c)∧Below W.heap.size W w')):=fun ho W N j hd=>by
     have J:=qB (ek X M sz X.np) N (.slice oa n cap) n K sz W (HG.o.below j) hd.row (fun i E=>hd.parts i E) (uj (lg I.o ho X.np (aB _))) (k9.o.below j) (by omega) b9;refine J.mono ?_;rintro e w' ⟨v,rfl,i8,l5⟩;have h2:gI (ek X M sz X.np) n K sz (ek X M sz X.np).np= []:=by rw[←d8.o];exact sH (aB _)
     rw[h2]at i8;obtain⟨o,c,e,-⟩:=i8.form (fun _=>rfl);exact⟨o,c,by rw[e];rfl,l5⟩
    have l1:Hi (∀i,i<X.np→((ek X M sz X.np).D i).rv=(X.D i).rv+((sJ (fI M X.np) i (fI M X.np).length:Nat):Int)):=fun i E=>by rw[Ey E,DR E]
    go_wp2_with (first|(with_reducible refine bA 28 (w.heap.size) 6 (bH X S) 28 _ cH cz rfl rfl d.o ?_)|fail)
    (go_at_call 9;refine(c2.o).mono ?_;rintro e_ w7 ⟨so,oe,y,ce,b,rfl,l6,a8⟩);have H7:=ar (aF.step H6.o l6);clear d B;clear c2 c4;cases b with
    |false=>
     go_wp2_with (first|((with_reducible refine bB 48 w7.heap.size 2 #[.string so,.slice oe y ce] 48 gG rfl rfl rfl rfl (⟨_,bf _ _ _ rfl,rfl⟩) ?_);intro w8 f;(have z:=ar (aF.put H7.o f));(have C:=ar (bL.below ((ah w7.heap.size w7).alloc (aB _) _) f (aB _)));(obtain⟨-,-,-,-⟩:=al f.here);(have d:Hi (w8.heap[w.heap.size]?=some (.cells (bH X S) 28)):=aF.nth z.o.tail g.o 2 rfl);(have B:w8.cell? (w.heap.size,2)=some (.slice S.op X.np S.cp):=aX (aF.nth z.o.tail g.o 2 rfl) rfl);(obtain⟨-,-,-,-⟩:=al (aF.nth z.o.tail g.o 0 rfl));(obtain⟨-,-,-,-⟩:=al (aF.nth z.o.tail g.o 1 rfl));(have dz:w.heap.size<w8.heap.size:=aF.len z.o.tail g.o 2 rfl);clear f)|fail)
     go_returns;exact⟨rfl,z.o.1⟩
    |true=>
     obtain⟨rfl,Q,j0,d1,ES,U,c0⟩:=a8 rfl;have d9:=ar Q;have c1:=ar d1;have a5:=ar U;have g9:=ar c0;clear Q d1 U c0 a8;by_cases h7:32<y
     ·have k1:decide ((32:Int)<(y:Int))=true:=dt;go_wp2_with (first|((with_reducible refine bB 48 w7.heap.size 2 #[.string ⟨#[79,80,49]⟩,.slice oe y ce] 48 gG rfl rfl rfl rfl (⟨_,bf _ _ _ rfl,rfl⟩) ?_);intro w8 f;(have z:=ar (aF.put H7.o f));(have C:=ar (bL.below ((ah w7.heap.size w7).alloc (aB _) _) f (aB _)));(obtain⟨-,q1,-,-⟩:=al f.here);(have d:Hi (w8.heap[w.heap.size]?=some (.cells (bH X S) 28)):=aF.nth z.o.tail g.o 2 rfl);(have B:w8.cell? (w.heap.size,2)=some (.slice S.op X.np S.cp):=aX (aF.nth z.o.tail g.o 2 rfl) rfl);(obtain⟨-,-,-,-⟩:=al (aF.nth z.o.tail g.o 0 rfl));(obtain⟨-,-,-,-⟩:=al (aF.nth z.o.tail g.o 1 rfl));(have dz:w.heap.size<w8.heap.size:=aF.len z.o.tail g.o 2 rfl);clear f)|fail)
      go_returns;exact⟨rfl,z.o.1⟩
     have k1:decide ((32:Int)<(y:Int))=false:=df;go_wp2_with (first|((with_reducible refine bB 48 w7.heap.size 2 #[.string ⟨#[79,80,49]⟩,.slice oe y ce] 48 gG rfl rfl rfl rfl (⟨_,bf _ _ _ rfl,rfl⟩) ?_);intro w8 f;(have z:=ar (aF.put H7.o f));(have C:=ar (bL.below ((ah w7.heap.size w7).alloc (aB _) _) f (aB _)));(obtain⟨q0,q1,-,-⟩:=al f.here);(have d:Hi (w8.heap[w.heap.size]?=some (.cells (bH X S) 28)):=aF.nth z.o.tail g.o 2 rfl);(have B:w8.cell? (w.heap.size,2)=some (.slice S.op X.np S.cp):=aX (aF.nth z.o.tail g.o 2 rfl) rfl);(obtain⟨-,-,-,-⟩:=al (aF.nth z.o.tail g.o 0 rfl));(obtain⟨m0,m1,-,-⟩:=al (aF.nth z.o.tail g.o 1 rfl));(have dz:w.heap.size<w8.heap.size:=aF.len z.o.tail g.o 2 rfl);clear f)|(with_reducible refine bA 28 (w.heap.size) 6 (bH X S) 28 _ cH cz rfl rfl d.o ?_)|fail)
     (go_at_call 10;refine(d4.o HZ.o I.o M w8 oe y ce ES z.o.1 c1.o d9.o j0 (by omega) (a5.o.below C.o) (fun k hk=>(g9.o k hk).below C.o)).mono ?_;rintro e_ w9 ⟨N,rfl,hd,e7⟩);have H9:=ar (aF.step z.o e7);have HD:=ar hd;have g1:Hi (bs w9 (.slice oe y ce) y 38 (fun k=>cX (sV X M sz X.np k) (ES k))):=(a5.o.below C.o).below e7;obtain⟨OB,e1⟩:=oE w7.heap.size;rw[e1]at H9;rw[e1];clear d B;have j6:w.heap.size≤w8.heap.size:=z.o.1.size;clear q0 q1 z hd e7 g9 a5 e1 d4 C k1;go_wp2_with (first|((with_reducible refine bB 28 w9.heap.size 6 (bH (ek X M sz X.np) N) 28 cz rfl rfl rfl rfl (⟨_,bf _ _ _ rfl,rfl⟩) ?_);intro a1 f;(have F:=ar (aF.put H9.o f));(have G:=ar (bL.below ((ah w9.heap.size w9).alloc (aB _) _) f (aB _)));(have h6:Hi (a1.heap[w9.heap.size]?=some (.cells (bH (ek X M sz X.np) N) 28)):=f.here);(have yz:w9.heap.size<a1.heap.size:=F.o.lt (bw ..));(have d:Hi (a1.heap[w.heap.size]?=some (.cells (bH X S) 28)):=aF.nth F.o.tail.tail g.o 2 rfl);(have B:a1.cell? (w.heap.size,2)=some (.slice S.op X.np S.cp):=aX (aF.nth F.o.tail.tail g.o 2 rfl) rfl);(obtain⟨r0,r1,-,-⟩:=al (aF.nth F.o.tail.tail g.o 0 rfl));(obtain⟨-,-,-,-⟩:=al (aF.nth F.o.tail.tail g.o 1 rfl));(have dz:w.heap.size<a1.heap.size:=aF.len F.o.tail.tail g.o 2 rfl);clear f)|(with_reducible refine ef 28 w9.heap.size 0 6 (bH (ek X M sz X.np) N) _ cH cz rfl rfl (eA h6.o) (by first|rfl|(simp[au,yielded];done)) ?_)|fail)
     (go_at_call 6;refine(g3.o c1.o a1 N F.o.1 ((HD.o.weak j6).keep G.o)).mono ?_;rintro e_ A ⟨o3,c3,rfl,T⟩);have O:=ar (aF.step F.o T);obtain⟨YB,e2⟩:=oE w9.heap.size;rw[e2]at O;rw[e2];have g0:Hi (dg A w.heap.size (ek X M sz X.np) N):=((HD.o.weak j6).keep G.o).keep T;have d6:Hi (bs A (.slice oe y ce) y 38 (fun k=>cX (sV X M sz X.np k) (ES k))):=(g1.o.below G.o).below T;have y2:A.cell? (YB,2)=some (.slice N.op X.np N.cp):=aX (O.o.get 0 rfl) rfl;have m8:YB<A.heap.size:=O.o.lt (bw ..);clear d B;clear h6 yz T HD g1 G e2 H9 H7 H6 H5 F;have B:A.cell? (w.heap.size,2)=some (.slice S.op X.np S.cp):=aX (aF.nth O.o.tail.tail g.o 2 rfl) rfl;go_wp2;clear y2 m8;clear B;go_loopw[13] (fun x wr=>∃i:Nat,i≤X.np∧x= .int .i64 (i:Int)∧Hi (Below A.heap.size A wr)) (fun x _=>X.np-(intOf x).toNat)
     case atStart=>exact⟨0,by omega,rfl,ah _ _⟩
     case round=>
      obtain⟨f6,rfl⟩:=wE wr;obtain⟨i,E,rfl,a2⟩:=hrel;have f7:=ar (aF.step O.o a2.o);have B:f6.cell? (w.heap.size,2)=some (.slice S.op X.np S.cp):=aX (aF.nth f7.o.tail.tail g.o 2 rfl) rfl;by_cases hlt:i<X.np
      ·obtain⟨bc,fc,ep,i3,a6⟩:=bs.at (HR.o.below O.o.1).p (fun _=>rfl) hlt;have l3:f6.cell? (w.heap.size,2)=some (.slice (some ⟨bc,fc,none⟩) X.np S.cp):=by rw[←ep];exact B
       have x1:f6.cell? (bc,fc+i*18+1)=some (.int .i64 (X.D i).rv):=bI a2.o i3 (a6 i hlt 1 _ rfl);have zc:bc<A.heap.size:=i3;have l2:Hi (A.cell? (bc,fc+i*18)=some (.string (X.D i).id)):=a6 i hlt 0 _ rfl;have n2:=(I.o.pt i hlt).1.rev;have k1:=dS i;have k2:(i:Int)<(X.np:Int):=by omega
       clear B a6;go_wp2;go_loopw[14,15] (fun r x wr=>∃(k:Nat) (R:Int),k≤y∧r= .int .i64 R∧x= .int .i64 (k:Int)∧Hi (R=(X.D i).rv+((sJ (fI M X.np) i k:Nat):Int))∧Hi (Below A.heap.size A wr)) (fun _ x _=>y-(intOf x).toNat)
       case atStart=>exact⟨0,(X.D i).rv,by omega,rfl,rfl,by show _=_;simp[sJ],a2⟩
       case round=>
        clear x1 l3;obtain⟨t,rfl⟩:=wE wr;obtain⟨k,R,hk,rfl,rfl,b8,s⟩:=hrel;have Y:=ar (aF.step O.o s.o);have o1:t.cell? (OB,1)=some (.slice oe y ce):=aX (Y.o.get 1 rfl) rfl;have oz:OB<t.heap.size:=Y.o.tail.lt (bw ..);have x0:t.cell? (bc,fc+i*18)=some (.string (X.D i).id):=bI s.o zc l2.o;have B:t.cell? (w.heap.size,2)=some (.slice (some ⟨bc,fc,none⟩) X.np S.cp):=by rw[←ep];exact aX (aF.nth Y.o.tail.tail g.o 2 rfl) rfl
        have dz:=aF.len Y.o.tail.tail g.o 2 rfl;have m9:bc<t.heap.size:=aM zc s.o.size;by_cases hkn:k<y
        ·obtain⟨be,fe,rfl,i4,c8⟩:=bs.at d6.o (fun _=>rfl) hkn;obtain⟨a,ha⟩:=oE ((fI M X.np).getD k 0);have l4:a<X.np:=by rw[←ha];exact(pF (by have:=d9.o;omega)).1
         have i2:(sV X M sz X.np k).id=(X.D a).id:=by rw[←ha];rfl
         have e6:t.cell? (be,fe+k*38+6)=some (.string (X.D a).id):=by
          rw[←i2];exact bI s.o i4 (c8 k hkn 6 _ rfl)
         have ez:be<t.heap.size:=aM i4 s.o.size;have HA:=ar ha;have k4:(k:Int)<(y:Int):=by omega
         have j1:IntKind.i64.wrap ((k:Int)+1)=((k+1:Nat):Int):=iw;have n0:=zW (fI M X.np) i k;have j2:IntKind.i64.wrap (R+1)=R+1:=IntWalk.i64_in _ (by have:=b8.o;omega);clear c8 ha i2;by_cases hai:a=i
         ·have k5:((X.D a).id.toList==(X.D i).id.toList)=true:=by rw[hai];simp
          have d3:=ar hai;clear hai;go_wp2_with fail
          refine aD 14 ?_;simp only[ac,aj,aK,aC,aa,ae,af];iterate 14 refine bJ ?_
          intro u b0 j P;simp only[cF,aR,ay.is,aE,aA,reduceIte]at P;simp only[am,ax,ac,aj,aK,aC,aa,ae,af,P];clear P;have k7:=ar (ag (w:=t) (by first|assumption|go_grown) j);have H:=ar j;have a9:=dx j;have j7:OB<b0.heap.size:=by omega
          have j8:be<b0.heap.size:=by omega
          have j9:w.heap.size<b0.heap.size:=by omega
          have k0:bc<b0.heap.size:=by omega
          obtain⟨e8,f0⟩:=br j;clear j a9;have a3:=ar (ag s.o H.o);clear o1 x0 B e6;go_wp2;go_roundw
          case rel=>
           refine⟨k+1,R+1,by omega,by go_num,rfl,?_,a3⟩;show _=_;rw[sJ,if_pos (by rw[HA.o];exact d3.o),b8.o];omega
          case measure=>simp[intOf];omega
         ·have k5:((X.D a).id.toList==(X.D i).id.toList)=false:=by
           rw[cG];intro h;exact hai (mF I.o.ap l4 hlt (ee (eq_of_beq h)))
          have d3:=ar hai;clear hai;go_wp2_with fail
          refine aD 14 ?_;simp only[ac,aj,aK,aC,aa,ae,af];iterate 14 refine bJ ?_
          intro u b0 j P;simp only[cF,aR,ay.is,aE,aA,reduceIte]at P;simp only[am,ax,ac,aj,aK,aC,aa,ae,af,P];clear P;obtain⟨a9,m3,e8,f0,H⟩:=pr j;clear j;have a3:=ar (ag s.o H.o);clear o1 x0 B e6;go_wp2;go_roundw
          case rel=>
           refine⟨k+1,R,by omega,by go_num,rfl,?_,a3⟩;show _=_;rw[sJ,if_neg (by rw[HA.o];exact d3.o),b8.o];omega
          case measure=>simp[intOf];omega
        ·obtain rfl:k=y:=by omega
         obtain⟨yb,fy,ey,f1,a7⟩:=bs.at g0.o.row.p (fun _=>rfl) (i:=i) hlt;have y0:t.cell? (yb,fy+i*18)=some (.string (X.D i).id):=by
          rw[←(kH X M sz X.np i).1];exact bI s.o f1 (a7 i hlt 0 _ rfl)
         have y1:t.cell? (yb,fy+i*18+1)=some R:=by
          have J:=l1.o i hlt;rw[←d9.o,←b8.o]at J;rw[←J];exact bI s.o f1 (a7 i hlt 1 _ rfl)
         have y2:t.cell? (YB,2)=some (.slice (some ⟨yb,fy,none⟩) X.np N.cp):=by rw[←ey];exact aX (Y.o.get 0 rfl) rfl
         have yz:YB<t.heap.size:=Y.o.lt (bw ..);have zy:yb<t.heap.size:=aM f1 s.o.size;have j1:IntKind.i64.wrap ((i:Int)+1)=((i+1:Nat):Int):=iw;clear a7;go_wp2_with fail
         refine aD 23 ?_;simp only[ac,aj,aK,aC,aa,ae,af];iterate 23 refine bJ ?_
         intro u n3 j P;simp only[cF,aR,ay.is,aE,aA,reduceIte]at P;simp only[am,ax,ac,aj,aK,aC,aa,ae,af,P];clear P;obtain⟨m6,m4,l7,l9,b1⟩:=pr j;clear j;have f8:=ar (ag s.o b1.o);clear y0 y1 y2 o1 x0 B;go_wp2;go_roundw
         case rel=>exact⟨i+1,by omega,by go_num,f8⟩
         case measure=>simp[intOf];omega
      ·obtain rfl:i=X.np:=by omega
       go_wp2;go_returns;exact⟨rfl,f7.o.1⟩
theorem Hp:prog.globalNamed "shipyard/vec.probe" =some 0:=by kernel_rfl
theorem yX:(prog.globals[0]?).map (·.type)=some 58:=by kernel_rfl
theorem EA:prog.cellsOf 58=3:=by kernel_rfl
theorem tA {W:World} (h:laidMetH prog Rows.topOpeningsUptoRow.laid W):gD W:=by
 rw[MakeChecks.laidMetH_plain _ _ _ (by kernel_rfl)]at h;unfold Rows.topOpeningsUptoRow at h;obtain⟨ps,⟨I,L,k,G,J,K,a,u,c,q,_,_⟩,_,_⟩:=h;obtain rfl:=Option.some.inj (Hp.symm.trans a);obtain rfl:=Option.some.inj (yX.symm.trans u);have B:prog.underlying 58=some (.struct (prog.fieldsOf 58)):=by kernel_rfl
 obtain⟨F,n,_,j,b,e,r⟩:=DataW.trod_struct B q;obtain⟨l⟩:=k;rw[EA]at b
 match l,b with
 | [c0,c1,c2],_=>
  simp only[Prod.mk.injEq]at j;have f:=r 0 ((prog.fieldsOf 58)[0]!) (by kernel_rfl);have g:=r 1 ((prog.fieldsOf 58)[1]!) (by kernel_rfl);have i:=r 2 ((prog.fieldsOf 58)[2]!) (by kernel_rfl);rw[show(prog.fieldsOf 58)[0]!.type=3 by kernel_rfl,show(prog.fieldsOf 58)[0]!.offset=0 by kernel_rfl,show prog.cellsOf 3=1 by kernel_rfl]at f;rw[show(prog.fieldsOf 58)[1]!.type=3 by kernel_rfl,show(prog.fieldsOf 58)[1]!.offset=1 by kernel_rfl,show prog.cellsOf 3=1 by kernel_rfl]at g;rw[show(prog.fieldsOf 58)[2]!.type=3 by kernel_rfl,show(prog.fieldsOf 58)[2]!.offset=2 by kernel_rfl,show prog.cellsOf 3=1 by kernel_rfl]at i;have t:(prog.fieldsOf 58).size=3:=by kernel_rfl
  rw[t]at e
  match F,e,j,f,g,i with
  | [x0,x1,x2],_,j,f,g,i=>
   have d:DataW.agg [x0.1,x1.1,x2.1]=Rows.laid_shipyard_vec_probe (H:=Unit):=by simpa using j.1.symm
   unfold Rows.laid_shipyard_vec_probe at d;simp only[DataW.agg.injEq,List.cons.injEq,and_true]at d;have s:prog.underlying 3=some (.int .i64):=by kernel_rfl
   have m:DataW.trod _ prog W 0 _ false n 3 [c0]=some x0:=f;have o:DataW.trod _ prog W 0 _ false n 3 [c1]=some x1:=g;have p:DataW.trod _ prog W 0 _ false n 3 [c2]=some x2:=i;obtain⟨N,v,y,_⟩:=DataW.trod_int s m;obtain⟨O,w,z,_⟩:=DataW.trod_int s o;obtain⟨P,x,A,_⟩:=DataW.trod_int s p;rw[y,z,A]at d;simp at d v w x;obtain⟨rfl,rfl,rfl⟩:=d;subst v w x;have C:=World.var?_cell a c 0;have D:=World.var?_cell a c 1;have E:=World.var?_cell a c 2;exact⟨by simpa using C,by simpa using D,by simpa using E⟩
noncomputable def pN (os:Os):World:=
 let w0:=World.holding prog os ⟨#[],#[],[]⟩
 let put (h:Array Obj) (g:Nat) (cs:Array Value):Array Obj:=h.modify g fun
  | .cells _ t frozen=> .cells cs t frozen
  |o=>o
 let h0:=put w0.heap 0 #[.int .i64 1,.int .i64 2,.int .i64 3]
 let h1:=put h0 2 (Pinned.utf8FirstZ.map fun(z:Nat)=>Value.int .u8 (z:Int)).toArray
 let h2:=put h1 3 #[.int .u8 128,.int .u8 191,.int .u8 160,.int .u8 191,.int .u8 128,.int .u8 159,.int .u8 144,.int .u8 191,.int .u8 128,.int .u8 143,.int .u8 0,.int .u8 0,.int .u8 0,.int .u8 0,.int .u8 0,.int .u8 0,.int .u8 0,.int .u8 0,.int .u8 0,.int .u8 0,.int .u8 0,.int .u8 0,.int .u8 0,.int .u8 0,.int .u8 0,.int .u8 0,.int .u8 0,.int .u8 0,.int .u8 0,.int .u8 0,.int .u8 0,.int .u8 0]
 {w0 with heap:=h2}
end
end Go.Proofs.YtencnijahlkbaaaGreatDoor
