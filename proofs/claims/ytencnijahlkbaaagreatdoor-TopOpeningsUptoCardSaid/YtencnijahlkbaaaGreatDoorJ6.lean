/-
  Lemmas of this claim, joined. Conditions: as stated. By an AI agent.
-/
import Derived.Test.YtencnijahlkbaaaGreatDoorJ1
import Derived.Test.YtencnijahlkbaaaGreatDoorJ2
import Derived.Test.YtencnijahlkbaaaGreatDoorJ4
import Derived.Test.YtencnijahlkbaaaGreatDoorJ5
import Derived.Laws.Rows
import Derived.Laws.Tables
import Derived.Laws.MakeOwn
import Derived.Deep.OwnRows
open Go.Act renaming put → aC
open Array renaming getElem?_eq_some_iff → av
open Go.RowKit.Below renaming refl → ah
open List renaming take_succ_cons → ac, take_zero → aj, drop_succ_cons → am, drop_zero → ax, setIfInBounds_toArray → aa, set_cons_zero → ae, set_cons_succ → af, getElem?_eq_getElem → aS, getD_eq_getElem?_getD → aO, length_append → aZ, mem_cons → bj
open Nat renaming le_refl → aB, lt_of_lt_of_le → aM, le_trans → bW, reduceAdd → aE, reduceEqDiff → aA
open Go.Region renaming binds → ai, wanted → au
open Go.World renaming size_setCell → aT, size_alloc → aw
namespace Go.Proofs.YtencnijahlkbaaaGreatDoor
set_option maxHeartbeats 8000000
set_option maxRecDepth 100000
set_option linter.unusedVariables false
set_option linter.unusedSimpArgs false
open Go.Proofs.Tryz
section
open Go Go.ChangeShapes Go.WideShapes Go.RowKit Go.ChangeAt
theorem Dv (v:Value) (m:fZ) (gv:Nat→Value) (w:World) (h:fE w v m gv) (b6:Hi (∀i,i<m.ng→(m.nm i).size≤1048576)) (b8:Hi (∀i,i<m.ns→(m.sn i).size≤1048576)):
 Calls prog 11 #[v] w (dL (kC m) w):=by
 obtain⟨vg,vs,rfl,hG,hS,g,a9,l⟩:=h;have a6:Hi (∀W,Below w.heap.size w W→Calls prog 25 #[vg] W (dL (∀i,i<m.ng→dM (m.nm i)=true∧(1000≤m.de i∧m.de i≤20000)∧(100≤m.yi i∧m.yi i≤1500)∧iT (m.gn i) (m.gf i)∧(0<i→tj (m.nm (i-1)) (m.nm i)=true)) W)):=fun W k=>yl vg m gv W (hG.below k) b6;obtain⟨oa,ca,rfl,d0,-⟩:=hG.form;obtain⟨ob,cb,rfl,d2,Z⟩:=hS.form;have a8:=ar Z;clear hG hS g a9 l Z;by_cases c1:16<m.ng
 ·have k1:decide ((16:Int)<(m.ng:Int))=true:=dt;have a1:decide (16<m.ng)=true:=decide_eq_true c1;go_enter func11,ntmps11;go_wp2;go_returns;exact bS (by decide) (by go_grown)
 have k1:decide ((16:Int)<(m.ng:Int))=false:=df;have a1:decide (16<m.ng)=false:=decide_eq_false c1;by_cases c2:32<m.ns
 ·have k2:decide ((32:Int)<(m.ns:Int))=true:=dt;have a2:decide (32<m.ns)=true:=decide_eq_true c2;go_enter func11,ntmps11;go_wp2;go_returns;exact bS (by decide) (by go_grown)
 have k2:decide ((32:Int)<(m.ns:Int))=false:=df;have a2:decide (32<m.ns)=false:=decide_eq_false c2;go_enter func11,ntmps11;go_wp2_with fail
 (go_at_call 25;refine(a6.o _ (by go_grown)).mono ?_;rintro e_ w1 ⟨c,rfl,X,g⟩);clear k1 a1 k2 a2;obtain⟨L,hL,h1⟩:=aF.ex (aF.step ((aF.nil (ah w.heap.size w)).alloc (w.heap.size) rfl _ _) g);have HL:=ar hL;have H1:=ar h1;have a5:=ar X;clear hL h1 g X;by_cases hc0:c=0;rotate_left
 ·have k1:(c !=0)=true:=by simp;omega
  have a4:=ar hc0;clear hc0;go_wp2;go_returns;exact bS a4.o H1.o.1
 subst hc0;go_wp2;go_loopw[4] (fun i wr=>∃j:Nat,j≤m.ns∧i= .int .i64 j∧Hi (∀i,i<j→dM (m.sn i)=true∧(1≤m.sa i∧m.sa i≤1000000)∧(1≤m.sh i∧m.sh i≤2000)∧(100≤m.ss i∧m.ss i≤32768)∧(0<i→tj (m.sn (i-1)) (m.sn i)=true))∧aF w wr L) (fun i _=>m.ns-(intOf i).toNat)
 case atStart=>exact⟨0,by omega,rfl,fun i f=>absurd f (by omega),H1.o⟩
 case round=>
  clear H1;obtain⟨H,rfl⟩:=wE wr;obtain⟨j,hj,rfl,F,hO⟩:=hrel;have n:=ar hO;clear hO;obtain⟨-,x1,-,-⟩:=al (aF.nth n.o HL.o 0 rfl);by_cases hlt:j<m.ns
  ·obtain⟨t,R,rfl,a,b⟩:=a8.o j hlt;have K:Hi (∀W q,Below w.heap.size w W→q<m.ns→W.cell? (t,R+q*4)=some (m.sn q)∧W.cell? (t,R+q*4+1)=some (m.sa q)∧W.cell? (t,R+q*4+2)=some (m.sh q)∧W.cell? (t,R+q*4+3)=some (m.ss q)):=fun W q hW J=>⟨bI hW a (b q J).1,bI hW a (b q J).2.1,bI hW a (b q J).2.2.1,bI hW a (b q J).2.2.2⟩;have c0:=(K.o H j n.o.1 hlt).1;have c1:=(K.o H j n.o.1 hlt).2.1;have c2:=(K.o H j n.o.1 hlt).2.2.1;have c3:=(K.o H j n.o.1 hlt).2.2.2;have g:t<H.heap.size:=aM a n.o.1.size;clear b;obtain⟨N,hN⟩:=oE (dM (m.sn j));have HN:=ar hN;have a7:Hi (∀W,Gv 26 #[.string (m.sn j)] (.bool N) W):=fun W=>by rw[←hN];exact iO _ W (by have:=b8.o j hlt;omega)
   clear hN;obtain⟨D1,z⟩:=oE (Du (m.sa j) 1 1000000);have o:=ar z;have O:Hi (∀W,Gv 27 #[(m.sa j),.int .i64 1,.int .i64 1000000] (.bool D1) W):=fun W=>by rw[←z];exact pB _ _ _ W
   clear z;obtain⟨D2,A⟩:=oE (Du (m.sh j) 1 2000);have r:=ar A;have P:Hi (∀W,Gv 27 #[(m.sh j),.int .i64 1,.int .i64 2000] (.bool D2) W):=fun W=>by rw[←A];exact pB _ _ _ W
   clear A;obtain⟨D3,C⟩:=oE (Du (m.ss j) 100 32768);have s:=ar C;have Q:Hi (∀W,Gv 27 #[(m.ss j),.int .i64 100,.int .i64 32768] (.bool D3) W):=fun W=>by rw[←C];exact pB _ _ _ W
   clear C;go_wp2_with fail
   (go_at_call 26;refine mz (a7.o _) fun w3 l=> ?_);have H3:=ar (aF.step (n.o.alloc H.heap.size rfl _ _) l);clear l;obtain⟨-,y1,-,-,-,-⟩:=bR (H3.o.get 0 rfl);clear x1 c0 c1 c2 c3;obtain rfl|rfl:N=false∨N=true:=by cases N<;>simp
   ·go_wp2;go_returns;exact bS (by decide) H3.o.1
   go_wp2_with fail
   (go_at_call 27;refine cy (O.o _) H3 fun w4 H4=> ?_);clear y1;obtain⟨-,-,y2,-,-,-⟩:=bR (H4.o.get 0 rfl);obtain rfl|rfl:D1=false∨D1=true:=by cases D1<;>simp
   ·go_wp2;go_returns;exact bS (by decide) H4.o.1
   go_wp2_with fail
   (go_at_call 27;refine cy (P.o _) H4 fun w5 H5=> ?_);clear y2;obtain⟨-,-,-,y3,-,-⟩:=bR (H5.o.get 0 rfl);obtain rfl|rfl:D2=false∨D2=true:=by cases D2<;>simp
   ·go_wp2;go_returns;exact bS (by decide) H5.o.1
   go_wp2_with fail
   (go_at_call 27;refine cy (Q.o _) H5 fun w6 I=> ?_);clear y3;obtain⟨y0,-,-,-,-,yz⟩:=bR (I.o.get 0 rfl);obtain rfl|rfl:D3=false∨D3=true:=by cases D3<;>simp
   ·go_wp2;go_returns;exact bS (by decide) I.o.1
   obtain⟨-,x1,-,xz⟩:=al (aF.nth I.o.tail HL.o 0 rfl);have U:=I.o.1;have c9:t<w6.heap.size:=aM a U.size;by_cases hj0:0<j
   ·obtain⟨p,hp⟩:∃p,p+1=j:=⟨j-1,by omega⟩;have HP:=ar hp;have b5:p<m.ns:=by omega
    have u1:IntKind.i64.wrap ((j:Int)-1)=(p:Int):=by rw[iw];omega
    have u2:=dS p;have u3:(p:Int)<(m.ns:Int):=by omega
    have d1:w6.cell? (t,R+p*4)=some (m.sn p):=(K.o w6 p U b5).1;have c6:decide (0<j)=true:=decide_eq_true hj0;obtain⟨B,y⟩:=oE (Op.bytesLess (m.sn p).toList (m.sn j).toList);have a3:=ar y;have b0:(Op.bytesLess (m.sn j).toList (m.sn p).toList||(m.sn j).toList==(m.sn p).toList)= !B:=by rw[sq,y]
    clear hp y;go_wp2_with fail
    refine aD 14 ?_;simp only[ac,aj,aK,aC,aa,ae,af];iterate 14 refine bJ ?_
    intro u w7 k D;simp only[cF,aR,ay.is,aE,aA,reduceIte]at D;simp only[am,ax,ac,aj,aK,aC,aa,ae,af,D];clear D;have c7:=ar (ag (w:=w6) (by first|assumption|go_grown) k);have d:=ar k;have x:=dx k;have b9:w.heap.size<w7.heap.size:=by omega
    have c4:t<w7.heap.size:=by omega
    have c5:H.heap.size<w7.heap.size:=by omega
    obtain⟨Y,a0⟩:=br k;clear k x;have H7:=ar (aF.tail (aF.step I.o d.o));clear b0 hj0;obtain rfl|rfl:B=false∨B=true:=by cases B<;>simp
    ·go_wp2;go_returns;exact bS (by decide) H7.o.1
    have G:Hi (∀i,i<j+1→dM (m.sn i)=true∧(1≤m.sa i∧m.sa i≤1000000)∧(1≤m.sh i∧m.sh i≤2000)∧(100≤m.ss i∧m.ss i≤32768)∧(0<i→tj (m.sn (i-1)) (m.sn i)=true)):=fun i f=>by
     by_cases e:i=j
     ·rw[e];refine⟨HN.o,gR.1 o.o,gR.1 r.o,gR.1 s.o,fun _=> ?_⟩;rw[show j-1=p by have:=HP.o;omega];exact a3.o
     ·exact F.o i (by omega)
    go_wp2;go_roundw
    case rel=>exact⟨j+1,by omega,by go_num,G,H7.o⟩
    case measure=>simp[intOf];omega
   ·have c6:decide (0<j)=false:=decide_eq_false hj0;go_wp2_with fail
    refine aD 14 ?_;simp only[ac,aj,aK,aC,aa,ae,af];iterate 14 refine bJ ?_
    intro u w7 k D;simp only[cF,aR,ay.is,aE,aA,reduceIte]at D;simp only[am,ax,ac,aj,aK,aC,aa,ae,af,D];clear D;obtain⟨x,c8,Y,a0,d⟩:=pr k;clear k;have H7:=ar (aF.tail (aF.step I.o d.o));have G:Hi (∀i,i<j+1→dM (m.sn i)=true∧(1≤m.sa i∧m.sa i≤1000000)∧(1≤m.sh i∧m.sh i≤2000)∧(100≤m.ss i∧m.ss i≤32768)∧(0<i→tj (m.sn (i-1)) (m.sn i)=true)):=fun i f=>by
     by_cases e:i=j
     ·rw[e];exact⟨HN.o,gR.1 o.o,gR.1 r.o,gR.1 s.o,fun T=>absurd T hj0⟩
     ·exact F.o i (by omega)
    clear hj0;go_wp2;go_roundw
    case rel=>exact⟨j+1,by omega,by go_num,G,H7.o⟩
    case measure=>simp[intOf];omega
  ·have HT:Hi (kC m):=by
    have E:=a5.o (by trivial);exact⟨by omega,by omega,fun i f=>⟨(E i f).1,(E i f).2.1,(E i f).2.2.1,(E i f).2.2.2.1.1,(E i f).2.2.2.1.2.1⟩,fun i f q J=>(E i f).2.2.2.1.2.2 q J,fun i T f=>(E i f).2.2.2.2 T,
     fun i f=>⟨(F.o i (by omega)).1,(F.o i (by omega)).2.1,(F.o i (by omega)).2.2.1,(F.o i (by omega)).2.2.2.1⟩,fun i T f=>(F.o i (by omega)).2.2.2.2 T⟩
   go_wp2;go_returns;exact mX HT.o n.o.1
def wG (F:Nat→Int) (k:Nat) (x:Int):Nat→Int:=fun i=>if i=k then x else F i
theorem Bi {F:Nat→Int} {k:Nat} {x:Int}:wG F k x k=x:=by unfold wG;rw[if_pos rfl]
theorem ym {F:Nat→Int} {k i:Nat} {x:Int} (h:i≠k):wG F k x i=F i:=by unfold wG;rw[if_neg h]
def ji (k:Nat) (F:Nat→Int):Array Value:=((List.range k).map fun i=>Value.int .i64 (F i)).toArray
theorem mI (k:Nat) (F:Nat→Int):(ji k F).size=k:=by simp[ji]
theorem qS {k i:Nat} (F:Nat→Int) (h:i<k):(ji k F)[i]?=some (.int .i64 (F i)):=by simp[ji,h]
theorem sr {k:Nat} {F G:Nat→Int} (h:∀i,i<k→F i=G i):ji k F=ji k G:=by
 unfold ji;congr 1;exact List.map_congr_left fun i a=>by rw[h i (List.mem_range.1 a)]
theorem Dw {k i:Nat} {F:Nat→Int} {x:Int}:(ji k F).setIfInBounds i (.int .i64 x)=ji k (wG F i x):=by
 apply Array.ext_getElem?;intro j;by_cases hj:j<k
 ·rw[qS _ hj];by_cases e:i=j
  ·subst e;rw[Array.getElem?_setIfInBounds_self_of_lt (by rw[mI];exact hj),Bi]
  ·rw[Array.getElem?_setIfInBounds_ne e,qS _ hj,ym (fun h=>e h.symm)]
 ·rw[Array.getElem?_eq_none (by simp[mI];omega),Array.getElem?_eq_none (by simp[mI];omega)]
theorem Dx {w:World} {b i k:Nat} {F:Nat→Int} {x:Int} {t:TypeId} (h:w.heap[b]?=some (.cells (ji k F) t)):(w.setCell (b,i) (.int .i64 x)).heap[b]?=some (.cells (ji k (wG F i x)) t):=by
 rw[heap_setCell_same w b i _ t _ h,Dw]
theorem sw {w:World} {b k:Nat} {F:Nat→Int} {t:TypeId} (h:w.heap[b]?=some (.cells (ji k F) t)) {i:Nat} (a:i<k):w.cell? (b,i)=some (F i):=by
 rw[cell_of_row w b i _ t (0,0) h];exact qS F a
def iH (k:Nat) (F:Nat→Bool):Array Value:=((List.range k).map fun i=>Value.bool (F i)).toArray
def Bj (F:Nat→Bool) (k:Nat) (x:Bool):Nat→Bool:=fun i=>if i=k then x else F i
theorem mJ (k:Nat) (F:Nat→Bool):(iH k F).size=k:=by simp[iH]
theorem qT {k i:Nat} (F:Nat→Bool) (h:i<k):(iH k F)[i]?=some (.bool (F i)):=by simp[iH,h]
theorem sx {k:Nat} {F G:Nat→Bool} (h:∀i,i<k→F i=G i):iH k F=iH k G:=by
 unfold iH;congr 1;exact List.map_congr_left fun i a=>by rw[h i (List.mem_range.1 a)]
theorem Dy {k i:Nat} {F:Nat→Bool} {x:Bool}:(iH k F).setIfInBounds i (.bool x)=iH k (Bj F i x):=by
 apply Array.ext_getElem?;intro j;by_cases hj:j<k
 ·rw[qT _ hj];by_cases e:i=j
  ·subst e;rw[Array.getElem?_setIfInBounds_self_of_lt (by rw[mJ];exact hj)];simp[Bj]
  ·rw[Array.getElem?_setIfInBounds_ne e,qT _ hj];simp[Bj];exact fun h=>absurd h.symm e
 ·rw[Array.getElem?_eq_none (by simp[mJ];omega),Array.getElem?_eq_none (by simp[mJ];omega)]
theorem uU {w:World} {b i k:Nat} {F:Nat→Bool} {x:Bool} {t:TypeId} (h:w.heap[b]?=some (.cells (iH k F) t)):(w.setCell (b,i) (.bool x)).heap[b]?=some (.cells (iH k (Bj F i x)) t):=by
 rw[heap_setCell_same w b i _ t _ h,Dy]
theorem jt {w:World} {b k:Nat} {F:Nat→Bool} {t:TypeId} (h:w.heap[b]?=some (.cells (iH k F) t)) {i:Nat} (a:i<k):w.cell? (b,i)=some (.bool (F i)):=by
 rw[cell_of_row w b i _ t (0,0) h];exact qT F a
theorem Ii (n:Nat):madeCells #[()] n=ji n (fun _=>0):=by
 apply Array.ext_getElem?;intro j;by_cases hj:j<n
 ·rw[qS _ hj];simp[madeCells,hj,Nat.mod_one]
 ·rw[Array.getElem?_eq_none (by simp[madeCells];omega),Array.getElem?_eq_none (by simp[mI];omega)]
theorem Dz (n:Nat):madeCells #[.bool false] n=iH n (fun _=>false):=by
 apply Array.ext_getElem?;intro j;by_cases hj:j<n
 ·rw[qT _ hj];simp[madeCells,hj,Nat.mod_one]
 ·rw[Array.getElem?_eq_none (by simp[madeCells];omega),Array.getElem?_eq_none (by simp[mJ];omega)]
theorem dC {i?:Option TypeInfo} {z:Value} {s b:Nat} (h:i?.map (fun i=>(i.zero,i.size,i.bytes))=some (some z,s,b)):∃i,i?=some i∧i.zero=some z∧i.size=s∧i.bytes=b:=by
 cases i? with
 |none=>cases h
 |some i=>simp only[Option.map_some,Option.some.injEq,Prod.mk.injEq]at h;exact⟨i,rfl,h.1,h.2.1,h.2.2⟩
theorem tX:(prog.info? 3).map (fun i=>(i.zero,i.size,i.bytes))=some (some (.int .i64 0),1,8):=by kernel_rfl
theorem sy:(prog.info? 4).map (fun i=>(i.zero,i.size,i.bytes))=some (some (.bool false),1,1):=by kernel_rfl
def jU (n:Nat) (El:List (Nat×Nat)):Prop:=El.length≤1600∧∀i,i<El.length→(El.getD i (0,0)).1<n∧(El.getD i (0,0)).2<n∧(El.getD i (0,0)).1≠(El.getD i (0,0)).2
def Cj (w:World) (v:Value) (El:List (Nat×Nat)):Prop:=bs w v El.length 2 (fun i=>#[((El.getD i (0,0)).1:Int),((El.getD i (0,0)).2:Int)])
def iU (El:List (Nat×Nat)) (T:Nat→Bool) (i v:Nat):Bool:=(El.take i).any (fun x=> !T x.1&&x.2==v)
theorem yn (El:List (Nat×Nat)) (T:Nat→Bool) (v:Nat):iU El T 0 v=false:=by simp[iU]
theorem yo {El:List (Nat×Nat)} {T:Nat→Bool} {i:Nat} (a:i<El.length) (v:Nat):iU El T (i+1) v=(iU El T i v||(!T (El.getD i (0,0)).1&&(El.getD i (0,0)).2==v)):=by
 unfold iU;rw[List.take_add_one,aS a,Option.toList_some,List.any_append,aO,aS a];simp
theorem yp (El:List (Nat×Nat)) (T:Nat→Bool) (v:Nat):jB El T v=(!T v&& !iU El T El.length v):=by
 unfold jB iU;rw[List.take_length];congr 1
 induction El with
 |nil=>rfl
 |cons x l ih=>
  simp only[List.all_cons,List.any_cons,ih];cases T x.1<;>cases(x.2==v)<;>simp
def jF (n:Nat) (El:List (Nat×Nat)) (T:Nat→Bool) (p:Nat):Int:=if bq (jB El T) (n-p) p<n then(bq (jB El T) (n-p) p:Int)else -1
theorem Bk (n:Nat) (El:List (Nat×Nat)) (T:Nat→Bool):jF n El T n= -1:=by
 unfold jF;rw[Nat.sub_self,bq,if_neg (by omega)]
theorem Bl {n:Nat} {El:List (Nat×Nat)} {T:Nat→Bool} {p:Nat} (a:p<n) (h:jB El T p=true):jF n El T p=p:=by
 unfold jF;rw[dI a h,if_pos a]
theorem yq {n:Nat} {El:List (Nat×Nat)} {T:Nat→Bool} {p:Nat} (a:p<n) (h:jB El T p=false):jF n El T p=jF n El T (p+1):=by
 unfold jF;rw[dB a h]
theorem eF {w:World} {B b i:Nat} {t:TypeId} {k n:Nat} {v x:Value} {d:List Value} (h:w.ownsRow B t k v n d) (p:b<B):(w.setCell (b,i) x).ownsRow B t k v n d:=by
 obtain⟨c,⟨f,j⟩|⟨g,cap,a,e,m,l,o⟩⟩:=h
 ·exact⟨c,.inl ⟨f,j⟩⟩
 ·exact⟨c,.inr ⟨g,cap,a,e,m,(da _ _ _ _ _ (by show g≠b;omega)).trans l,o⟩⟩
theorem cj {w:World} {B:Nat} {t:TypeId} {k n:Nat} {v:Value} {f:List Value} (h:w.ownsRow B t k v n f):∃o c,v= .slice o n c:=by
 obtain⟨-,⟨b,d⟩|⟨g,cap,a,e,-,i,-⟩⟩:=h
 ·exact⟨none,0,by rw[b,d]⟩
 ·exact⟨_,_,e⟩
def FI (P:Prop) (w:World) (e:Ending) (w':World):Prop:=∃(c:Int) (v:Value),e= .returned (.tuple #[v,c])∧(c=0→P)∧Below w.heap.size w w'
theorem tp (v:Value) (n:Nat) (El:List (Nat×Nat)) (w:World) (h:Cj w v El) (f:Hi (jU n El)):
 Gv 82 #[(n:Int),v] (.int .i64 0) w:=by
 obtain⟨oa,cap,rfl,hn,K,-⟩:=bs.form h (fun _=>rfl);have C:=ar h;obtain⟨q,p⟩:=oE El.length;have s:=ar p;rw[p]at hn⊢
 clear h p;go_enter func82,ntmps82;go_wp2;go_loopw[5] (fun i wr=>∃j:Nat,j≤q∧i= .int .i64 j∧Below w.heap.size w wr) (fun i _=>q-(intOf i).toNat)
 case atStart=>exact⟨0,by omega,rfl,ah _ _⟩
 case round=>
  obtain⟨r,rfl⟩:=wE wr;obtain⟨j,-,rfl,g⟩:=hrel;by_cases hlt:j<q
  ·have D:Hi (bs w (.slice oa q cap) q 2 (fun i=>#[((El.getD i (0,0)).1:Int),((El.getD i (0,0)).2:Int)])):=by
    have:=C.o;unfold Cj at this;rw[s.o]at this;exact this
   obtain⟨l,t,rfl,o,d⟩:=bs.at D.o (fun _=>rfl) hlt;have A:=f.o.2 j (by have:=s.o;omega);obtain⟨a,m⟩:=oE ((El.getD j (0,0)).1);obtain⟨b,c⟩:=oE ((El.getD j (0,0)).2);have I:r.cell? (l,t+j*2)=some (a:Int):=bI g o (by have:=d j hlt 0 _ rfl;rw[m]at this;exact this);have J:r.cell? (l,t+j*2+1)=some (b:Int):=bI g o (by have:=d j hlt 1 _ rfl;rw[c]at this;exact this);rw[m,c]at A;have E:l<r.heap.size:=aM o g.size;have L:decide ((a:Int)<0)=false:=df;have F:decide (n≤a)=false:=df;have N:decide ((b:Int)<0)=false:=df;have G:decide (n≤b)=false:=df;have O:((a:Int)==(b:Int))=false:=by simp;omega
   have H:(a==b)=false:=by simp;omega
   clear m c d A;go_wp2_with fail
   refine aD 12 ?_;simp only[ac,aj,aK,aC,aa,ae,af];iterate 12 refine bJ ?_
   intro u P c f;simp only[cF,aR,ay.is,aE,aA,reduceIte]at f;simp only[am,ax,ac,aj,aK,aC,aa,ae,af,f];clear f;have e:=ar (ag (w:=w) (by first|assumption|go_grown) c);obtain⟨B,z,x,y,k⟩:=pr c;clear c;go_wp2;go_roundw
   case rel=>exact⟨j+1,by omega,by go_num,e.o⟩
   case measure=>simp[intOf];omega
  ·go_wp2;go_returns;exact⟨rfl,g⟩
theorem yr (v:Value) (n:Nat) (El:List (Nat×Nat)) (w:World) (h:Cj w v El) (hE:Hi (jU n El)) (f4:n≤40):
 Calls prog 42 #[(n:Int),v] w (FI (pq n El) w):=by
 obtain⟨ib,c6,d1,d0,b9⟩:=dC sy;obtain⟨i0,O,e9,f0,f1⟩:=dC tX;have H:=ar h;have a3:Hi (∀W,Below w.heap.size w W→Gv 82 #[(n:Int),v] (.int .i64 0) W):=fun W hb=>tp v n El W (bs.below H.o hb) hE;obtain⟨q,hq⟩:=oE El.length;have HQ:=ar hq;have h2:bs w v q 2 (fun i=>#[((El.getD i (0,0)).1:Int),((El.getD i (0,0)).2:Int)]):=by rw[←hq];exact h
 obtain⟨oa,cap,rfl,f8,f6,-⟩:=bs.form h2 (fun _=>rfl);have d5:=ar h2;have d4:Hi (q≤1600∧∀i,i<q→(El.getD i (0,0)).1<n∧(El.getD i (0,0)).2<n):=by
  have:=hE.o;unfold jU at this;rw[hq]at this;exact⟨this.1,fun i O=>⟨(this.2 i O).1,(this.2 i O).2.1⟩⟩
 clear hq h2;have k1:decide ((n:Int)<0)=false:=df;have k2:decide ((256:Int)<(n:Int))=false:=df;have f2:decide (256<n)=false:=df;clear h;go_enter func42,ntmps42;go_wp2_with fail
 (go_at_call 82;refine mz (a3.o _ (by go_grown)) fun w1 b6=> ?_);have a2:Hi (Below w.heap.size w w1):=ag (w:=w) (by go_grown) b6;clear b6 k1 k2 f2;obtain⟨c,f⟩:=oE w1.heap.size;have a6:=ar f;have z1:w.heap.size≤c:=by have:=a2.o.size;omega
 clear f;go_wp2_with (refine wpList_make_row _ rfl _ _ 150 rfl 4 ib _ underlying150 c6 d1 d0 rfl _ _ n rfl rfl (by rw[b9];omega) (by omega) ?_;rw[Dz])
 rw[a6.o];clear H a3 hE;go_wp2;go_loopw[7] (fun o wr=>∃(k:Nat) (Z:List Value),k≤n∧Hi (Z.length=k)∧Hi (∀i,i<k→jd n El (fQ n El i)<n)∧Hi (wr.ownsRow (c+1) 3 1 o k Z)∧Hi (wr.heap[c]?=some (.cells (iH n (fQ n El k)) 4))∧Below w.heap.size w wr) (fun o _=>match o with| .slice _ l _=>n-l|_=>0)
 case atStart=>
  have h1:=a2.o;have h2:=h1.size;refine⟨0,[],by omega,rfl,fun i O=>absurd O (by omega),World.ownsRow_nil _ _ _ _,bf _ _ _ a6.o.symm,by go_grown⟩
 case round=>
  obtain⟨w2,rfl⟩:=wE wr;obtain⟨k,Z,hk,e6,hm,HR,HT,U⟩:=hrel;obtain⟨ov,cv,e8⟩:=cj HR.o;subst e8;have G:=ar U;have z2:c<w2.heap.size:=(av.1 HT.o).1;have g1:=U.size;clear U;obtain⟨T,hT⟩:=oE (fQ n El k);have a7:=ar hT;rw[hT]at HT;clear hT;by_cases hlt:k<n
  ·obtain⟨t,b5⟩:=oE w2.heap.size;have y:=ar b5;have z3:c<t:=by omega
   clear b5;go_wp2_with (refine wpList_make_row _ rfl _ _ 150 rfl 4 ib _ underlying150 c6 d1 d0 rfl _ _ n rfl rfl (by rw[b9];omega) (by omega) ?_;rw[Dz])
   rw[y.o];go_wp2;go_loopw[10] (fun x wr=>∃i:Nat,i≤q∧x= .int .i64 i∧Hi (wr.heap[t]?=some (.cells (iH n (fun v=>iU El T i v)) 4))∧Below t w2 wr) (fun x _=>q-(intOf x).toNat)
   case atStart=>
    have hw:=y.o;refine⟨0,by omega,rfl,?_,by rw[←hw];go_grown⟩;show _=_;rw[show(fun v=>iU El T 0 v)=(fun _=>false)from funext fun v=>yn El T v];exact bf _ _ _ hw.symm
   case round=>
    obtain⟨z,rfl⟩:=wE wr;obtain⟨i,f7,rfl,Q,a9⟩:=hrel;have zw:t<z.heap.size:=(av.1 Q.o).1;have m:Hi (Below w2.heap.size w2 z):=by
     show Below _ _ _;rw[y.o];exact a9
    clear a9;by_cases hlq:i<q
    ·obtain⟨bc,fc,rfl,hl,X⟩:=bs.at d5.o (fun _=>rfl) hlq;have E:=ag G.o m.o;obtain⟨a,ha⟩:=oE ((El.getD i (0,0)).1);obtain⟨b,hb⟩:=oE ((El.getD i (0,0)).2);have hv:=d4.o.2 i hlq;have Y:=yo (El:=El) (T:=T) (i:=i) (by have:=HQ.o;omega);rw[ha,hb]at hv Y;have a8:=ar Y;have c0:z.cell? (bc,fc+i*2)=some (a:Int):=bI E hl (by have:=X i hlq 0 _ rfl;rw[ha]at this;exact this);have c1:z.cell? (bc,fc+i*2+1)=some (b:Int):=bI E hl (by have:=X i hlq 1 _ rfl;rw[hb]at this;exact this);have e1:Hi (z.heap[c]?=some (.cells (iH n T) 4)):=(m.o.block c z2).trans HT.o;obtain⟨B,f⟩:=oE (T a);have D:=ar f;have t0:z.cell? (c,a)=some (.bool B):=by rw[jt e1.o hv.1,f]
     have a0:=dS a;have a1:(a:Int)<(n:Int):=by omega
     have b0:=dS b;have b1:(b:Int)<(n:Int):=by omega
     have wc:z.cell? (t,b)=some (.bool (iU El T i b)):=jt Q.o hv.2;have wf:z.frozen? (t,b)=false:=frozen_of_row z t b _ _ Q.o;clear ha hb X hv Y E f;obtain rfl|rfl:B=true∨B=false:=by cases B<;>simp
     ·have R:Hi (z.heap[t]?=some (.cells (iH n (fun v=>iU El T (i+1) v)) 4)):=by
       show _=_;rw[show(fun v=>iU El T (i+1) v)=(fun v=>iU El T i v)from funext fun v=>by rw[a8.o v,D.o];simp];exact Q.o
      go_wp2;go_roundw
      case rel=>exact⟨i+1,by omega,by go_num,R,by rw[←y.o];exact m.o⟩
      case measure=>simp[intOf];omega
     have R:Hi ((z.setCell (t,b) (.bool true)).heap[t]?=some (.cells (iH n (fun v=>iU El T (i+1) v)) 4)):=by
      show _=_;rw[uU Q.o];congr 2;refine sx fun v _=> ?_;rw[a8.o v,D.o];unfold Bj;by_cases e:v=b
      ·rw[if_pos e,e];simp
      ·rw[if_neg e,show(b==v)=false by simpa using fun h=>e h.symm];simp
     go_wp2;go_roundw
     case rel=>exact⟨i+1,by omega,by go_num,R,by rw[←y.o];exact m.o.setCell (by rw[y.o];exact aB _) _⟩
     case measure=>simp[intOf];omega
    ·obtain rfl:i=q:=by omega
     have e4:Hi (z.heap[t]?=some (.cells (iH n (fun v=>iU El T El.length v)) 4)):=by
      show _=_;rw[HQ.o];exact Q.o
     obtain⟨w4,rfl⟩:∃x:World,x=z:=⟨_,rfl⟩;have e2:Hi (w4.heap[c]?=some (.cells (iH n T) 4)):=(m.o.block c z2).trans HT.o;have P:=m;have un:IntKind.i64.wrap ((n:Int)-1)=(n:Int)-1:=iw;have f3:c<w4.heap.size:=by omega
     clear Q m HT;go_wp2;clear un;go_loopw[11,12] (fun nx x wr=>∃p:Nat,p≤n∧x= .int .i64 ((p:Int)-1)∧nx= .int .i64 (jF n El T p)∧Below w4.heap.size w4 wr) (fun _ x _=>(intOf x+1).toNat)
     case atStart=>exact⟨n,by omega,rfl,by rw[Bk],ah _ _⟩
     case round=>
      obtain⟨A,rfl⟩:=wE wr;obtain⟨p,hp,rfl,rfl,d⟩:=hrel;have J:Hi (A.heap[c]?=some (.cells (iH n T) 4)):=(d.block c f3).trans e2.o;have e5:Hi (A.heap[t]?=some (.cells (iH n (fun v=>iU El T El.length v)) 4)):=(d.block t zw).trans e4.o;have I:=ar d;have g2:c<A.heap.size:=by have:=d.size;omega
      clear d;by_cases hp0:0<p
      ·obtain⟨r,hr⟩:∃r:Nat,(p:Int)-1=r:=⟨p-1,by omega⟩;have d8:=ar hr;have N:r<n:=by omega
       have c9:p=r+1:=by omega
       obtain⟨N0,K⟩:=oE (jF n El T p);have d6:Hi (jF n El T (r+1)=N0):=by rw[c9]at K;exact K
       rw[hr,K];obtain⟨B,f⟩:=oE (T r);obtain⟨C,hC⟩:=oE (iU El T El.length r);have D:Hi (jB El T r=(!B&& !C)):=by
        show _=_;rw[yp,f,hC]
       have t0:A.cell? (c,r)=some (.bool B):=by rw[jt J.o N,f]
       have c0:A.cell? (t,r)=some (.bool C):=by rw[jt e5.o N,hC]
       have r0:=dS r;have r1:(r:Int)<(n:Int):=by omega
       have u1:IntKind.i64.wrap ((r:Int)-1)=(r:Int)-1:=iw;have d7:Hi (jF n El T r=if(!B&& !C)=true then(r:Int)else N0):=by
        show _=_;by_cases e:jB El T r=true
        ·rw[Bl N e,←D.o,if_pos e]
        ·rw[yq N (by simpa using e),←D.o,if_neg e];exact d6.o
       clear hr c9 K f hC;cases B<;>cases C
       all_goals
        go_wp2;go_roundw
        case rel=>exact⟨r,by omega,rfl,by rw[d7.o];rfl,I.o⟩
        case measure=>first|(simp[intOf];done)|(simp[intOf];have:=d8.o;omega)
      ·obtain rfl:p=0:=by omega
       have km:((0:Nat):Int)-1= -1:=rfl;rw[km];by_cases hnv:jd n El T<n
       ·obtain⟨nx,L⟩:=oE (jd n El T);have a4:=ar L;have e0:jF n El T 0=(nx:Int):=by
         unfold jF;rw[Nat.sub_zero];show(if jd n El T<n then(jd n El T:Int)else -1)=_;rw[if_pos hnv,L]
        rw[e0];rw[L]at hnv;have t0:A.cell? (c,nx)=some (.bool (T nx)):=jt J.o hnv;have tf:A.frozen? (c,nx)=false:=frozen_of_row A c nx _ _ J.o;have n0:=dS nx;have n1:(nx:Int)<(n:Int):=by omega
        have k0:decide ((nx:Int)<0)=false:=df;have d9:Hi (A.ownsRow (c+1) 3 1 (.slice ov k cv) k Z):=bD (bD HR.o P.o) I.o;have d:Below w.heap.size w A:=ag (ag G.o P.o) I.o;have f9:w.heap.size≤A.heap.size:=d.size;have d3:=ar d;clear e0 L d hp0 hp km;go_wp2_with (first|(at_builtin;refine wpList_append_own _ rfl _ _ 109 rfl (c+1) 3 i0 (.int .i64 0) 1 8 underlying109 O e9 f0 f1 rfl (by decide) _ _ _ rfl (((eF d9.o (by omega)).alloc _)) ⟨A.heap.size,0,none⟩ 1 1 [(.int .i64 (nx:Int))] rfl rfl ?c1 ?c2 ?c3 ?c4 ?c5 ?_)|go_in)
        case c1=>
         intro j u hj
         match j,hj with
         |0,hj=>
          simp at hj;subst hj;simp[Addr.add]
          first|done|rfl|(simp[go_sem];done)
        case c2=>intro u hu;simp at hu;(first|(subst hu;rfl)|(rcases hu with rfl<;>rfl))
        case c3=>unfold maxLen;omega
        case c4=>omega
        case c5=>simp;omega
        intro v' w7 F s _;have b8:Below w.heap.size w w7:=Below.grown ((d3.o.setCell (by show w.heap.size≤c;omega) _).alloc (by simp;omega) _) s (by simp;omega) (fun g hg=>by have:=bU HR.o g hg;omega);have e3:Hi (w7.heap[c]?=some (.cells (iH n (fQ n El (k+1))) 4)):=by
         refine(s.block c (by simp;omega) (fun e=>by have:=bU HR.o c e.symm;omega)).trans ((aV _ _ _ (by simp;omega)).trans ((uU J.o).trans ?_));congr 2;refine sx fun u _=> ?_;show Bj T nx true u=lO (fQ n El k) (jd n El (fQ n El k)) u;rw[a7.o,a4.o];rfl
        have a5:Hi (w7.ownsRow (c+1) 3 1 v' (k+1) (Z++ [.int .i64 (nx:Int)])):=F;have d2:=ar b8;have e7:Hi (∀i,i<k+1→jd n El (fQ n El i)<n):=fun i O=>by
         by_cases e:i=k
         ·rw[e,a7.o,a4.o];exact hnv
         ·exact hm.o i (by omega)
        have c7:Hi ((Z++ [Value.int .i64 (nx:Int)]).length=k+1):=by
         show _=_;rw[aZ,e6.o];rfl
        clear F s b8;obtain⟨g0,f5,c8⟩:=cj a5.o;subst c8;go_wp2;go_roundw
        case rel=>exact⟨k+1,_,by omega,c7,e7,a5.o,e3,d2.o⟩
        case measure=>show n-(k+1)<n-k;omega
       ·have e0:jF n El T 0= -1:=by
         unfold jF;rw[Nat.sub_zero];show(if jd n El T<n then(jd n El T:Int)else -1)=_;rw[if_neg hnv]
        rw[e0];have d:Below w.heap.size w A:=ag (ag G.o P.o) I.o;clear e0 hp0 hp km hnv;go_wp2;go_returns;exact⟨_,_,rfl,fun h=>absurd h (by decide),d⟩
  ·have HP:Hi (pq n El):=fun i O=>hm.o i (by omega);go_wp2;go_returns;exact⟨_,_,rfl,fun _=>HP.o,G.o⟩
end
section
open Go Go.RowKit
theorem Ix (g j:Nat):(⟨g,0,none⟩:Addr).add j=⟨g,j,none⟩:=by unfold Addr.add;split<;>simp_all
theorem ie {w:World} {g:Nat} {a:Array Value} {t:TypeId} (h:w.heap[g]?=some (.cells a t)):∀j u,a.toList[j]?=some u→w.cell? ((⟨g,0,none⟩:Addr).add j)=some u:=fun j u b=>by
 rw[Ix,cell_of_row w g j a t (0,0) h];simpa using b
def ay.built (n:Nat) (xs:Array Value) (t:TypeId):ay:=⟨(dm.built n xs t).R,(dm.built n xs t).grow⟩
def ay.app (w0:World) (B:Nat) (e:TypeId) (k n:Nat) (xs:List Value) (ob:Option Nat):ay:=
 ⟨fun v w=>w.ownsRow B e k v n xs∧w0.grownBy w ob∧w0.heap.size≤w.heap.size∧∀b,v.ownBlock=some b→w0.heap.size≤b∨ob=some b,fun v w w' hb ⟨h1,h2,h3,h4⟩=>
  ⟨bD h1 hb,⟨hb.os.trans h2.os,hb.tape.trans h2.tape,hb.output.trans h2.output,by have:=hb.size;omega,fun i hi hne=>(hb.block i (by omega)).trans (h2.block i hi hne)⟩,by have:=hb.size;omega,h4⟩⟩
section
variable {P:Program} {md:Region.Mode} {ops:Array Oper} {w0:World} {pre:List Nat} {q:Nat} {fr:(Nat→Value)→Act} {fin:(Nat→ay)→Prop} {o:Oper} {l:List Oper} {V:Nat→ay}
theorem iV (B:Nat) (s x:Operand) (t:TypeId) (E:o.guard=none)
 (Z:o.op= .call {callee:= .builtin .append,args:=#[s,x],argTypes:=#[t,t]}) (e:TypeId) (i:TypeInfo) (z:Value) (size c n m:Nat) (J a:List Value)
 (ht:P.underlying t=some (.slice e)) (W:P.info? e=some i) (hz:i.zero=some z) (g:i.size=size) (D:i.bytes=c) (I:z.cells.size=size) (H:0<size)
 (v:Value) (hp:q∉pre) (p:w0.ownsRow B e size v n J) (T:B≤w0.heap.size) (A:n+m≤maxLen) (d:(n+m)*c≤140737488355328) (F:a.length=m*size) (L:∀u∈a,u.oneCell'=true)
 (h:∀(u:Nat→Value) (w:World),Below w0.heap.size w0 w→aU md V u w o.after.toList→(fr u).eval s=v∧∃oa y,(fr u).eval x= .slice oa m y∧(oa=none→m=0)∧∀K,oa=some K→∀j u,a[j]?=some u→w.cell? (K.add j)=some u)
 (Y:eC P md ops w0 pre q fr fin l (q+1) (aR V q (ay.app w0 B e size (n+m) (J++a) v.ownBlock))):eC P md ops w0 pre q fr fin (o::l) q V:=by
 refine xF _ hp (fun u w f U=>⟨by simp[au,E],?_⟩) Y;obtain⟨N,oa,y,O,Q,R⟩:=h u w f U;obtain⟨v',w',r1,r2,r,r4⟩:=lp w B t o.type e i z size c ht W hz g D I H v n J (bD p f) oa m y a F Q R L A d (bW T f.size);have hs:=f.size;have a0:=r.size;unfold dh execOp;simp only[Z,resolve,invoke,builtin,Sem.run_bind,Sem.run_pure,Result.andThen_ok,List.map_toArray,List.map_cons,List.map_nil,N,O,r1];exact⟨r2,⟨r.os.trans f.os,r.tape.trans f.tape,r.output.trans f.output,by omega,fun k X G=>(r.block k (by omega) G).trans (f.block k X)⟩,by omega,fun b C=>(r4 b C).imp (fun h=>by omega) id⟩
end
end
section
open Go Go.ChangeShapes Go.WideShapes Go.RowKit Go.ChangeAt
theorem mK {w:World} {B C:Nat} {t:TypeId} {k n:Nat} {v:Value} {c:List Value} (h:w.ownsRow C t k v n c) (l:B≤C):w.ownsRow B t k v n c:=by
 obtain⟨b,⟨d,f⟩|⟨g,cap,a,e,m,i,j⟩⟩:=h
 ·exact⟨b,.inl ⟨d,f⟩⟩
 ·exact⟨b,.inr ⟨g,cap,a,e,by omega,i,j⟩⟩
theorem qU {w:World} {B n:Nat} {t:TypeId} {v:Value} {f:Nat→ByteArray} (h:w.ownsRow B t 1 v n ((List.range n).map (fun i=>Value.string (f i)))):bs w v n 1 (fun i=>#[.string (f i)]):=
 fv h _ (by decide) fun i j a b=>by
  have:j=0:=by omega
  subst this;simp[a]
def mL (X:bK) (w:World) (e:Ending) (w':World):Prop:=∃v0 v1 v2 v3,e= .returned (.agg #[v0,v1,v2,v3])∧bs w' v0 X.nn 1 (fun i=>#[.string (X.nI i)])∧bs w' v1 X.np 1 (fun i=>#[.string (X.pI i)])∧bs w' v2 X.ns 1 (fun i=>#[.string (X.sI i)])∧bs w' v3 X.nk 1 (fun i=>#[.string (X.kI i)])∧Below w.heap.size w w'
theorem sA (X:bK) (S:dq) (w:World) (h:Hi (cJ w X S)) (hf:X.nn≤40∧X.np≤40∧X.ns≤40∧X.nk≤40):
 Calls prog 28 #[.agg (bH X S)] w (mL X w):=by
 have c4:prog.underlying 67=some (.slice 9):=underlying67;obtain⟨i0,c3,b6,b8,b9⟩:=info_parts iQ;obtain⟨on,cn,op,cp,sp,os,cs,ok,ck,sk,od,cd⟩:=S;unfold bH;dsimp only;go_enter func28,ntmps28;go_wp2;obtain⟨w0,c6⟩:=oE (((w.alloc (.cells #[.string X.hull,.slice on X.nn cn,.slice op X.np cp,.slice os X.ns cs,.slice ok X.nk ck,.slice od X.nd cd] 28)).alloc (.cells #[Nat,Nat,Nat,Nat] 89)).alloc (.cells #[Nat,Nat,Nat,Nat] 89));have n:Hi (w0.heap[w.heap.size+1+1]?=some (.cells #[Nat,Nat,Nat,Nat] 89)):=by show _=_;rw[←c6];exact bf _ _ _ (by simp)
 obtain⟨L,hL,ho⟩:=aF.ex (show aF w w0 _ from by rw[←c6];exact aF.tail ((((aF.nil (ah w.heap.size w)).alloc (w.heap.size) rfl _ _).alloc (w.heap.size+1) (by simp) _ _).alloc (w.heap.size+1+1) (by simp) _ _));have HL:=ar hL;have t:=ar ho;have a1:Hi (∀x∈L,x.1<w.heap.size+1+1):=fun x hx=>by
  rw[HL.o]at hx;simp only[bj,List.not_mem_nil,or_false]at hx;rcases hx with rfl|rfl<;>(dsimp only;omega)
 rw[c6];clear c6 hL ho;obtain⟨o,J⟩:=oE w0.heap.size;have d:=ar J;have b1:w.heap.size+1+1<o:=by have F:=(av.1 n.o).1;have h2:=d.o;omega
 clear J;go_loopw[4] (fun i wr=>∃(j:Nat) (C:Option Addr) (z:Nat),j≤X.nn∧i= .int .i64 j∧Hi (wr.ownsRow o 9 1 (.slice C j z) j ((List.range j).map (fun i=>Value.string (X.nI i))))∧Hi (wr.heap[w.heap.size+1+1]?=some (.cells #[.slice C j z,Nat,Nat,Nat] 89))∧Hi (o≤wr.heap.size)∧aF w wr L) (fun i _=>X.nn-(intOf i).toNat)
 case atStart=>exact⟨0,none,0,by omega,rfl,World.ownsRow_nil _ _ _ _,n.o,by have:=d.o;show _≤_;omega,t.o⟩
 case round=>
  clear n d t;obtain⟨D,rfl⟩:=wE wr;obtain⟨j,C,z,hj,rfl,q,n,f,hO⟩:=hrel;have t:=ar hO;clear hO;obtain⟨x0,x1,x2,x3,x4,x5,xf,xz⟩:=aJ (aF.nth t.o HL.o 1 rfl);obtain⟨y0,y1,y2,y3,yf,yz⟩:=bR n.o;by_cases hlt:j<X.nn
  ·obtain⟨Z,fc,rfl,P,s⟩:=bs.at (h.o.n) (fun _=>rfl) hlt;obtain⟨y,hy⟩:=oE ((X.N j).id);have c0:D.cell? (Z,fc+j*3)=some y:=bI t.o.1 P (by have:=s j hlt 0 _ rfl;rw[←hy];exact this);have a6:Hi (((List.range (j+1)).map (fun i=>Value.string (X.nI i)))=((List.range j).map (fun i=>Value.string (X.nI i)))++ [.string y]):=by
    show _=_;rw[List.range_succ,List.map_append,←hy];rfl
   have c8:Z<D.heap.size:=aM P t.o.1.size;have c9:w.heap.size<D.heap.size:=by have:=t.o.1.size;have:=f.o;omega
   have b5:w.heap.size+1+1<D.heap.size:=(av.1 n.o).1;have d5:o≤D.heap.size:=f.o;clear s hy;go_wp2_with fail
   refine gx 11 9 [0,1,2,3,4,5,6,7,8] (by kernel_rfl) (by kernel_rfl) (by kernel_rfl) (by decide) (by kernel_rfl) ?_;simp only[ac,aj,aK,aC,aa,ae,af];refine ej ?_;refine ej ?_;refine ej ?_;refine ej ?_;refine ej ?_;refine ej ?_;refine ej ?_;refine ej ?_;refine kk (ay.built 1 #[.string y] 9) (by decide) (by decide) ?_ ?_
   ·intro u E m hd;have hz:=dx m;have U:w.heap.size<E.heap.size:=by omega
    have W:w.heap.size+1+1<E.heap.size:=by omega
    have Y:Z<E.heap.size:=by omega
    obtain⟨hc,hf⟩:=br m;have a3:=ar m;clear m hz;simp[aU,ai,aR,ay.is,ay.any]at hd;go_simp;exact⟨(ah _ _).alloc (aB _) _,ki _ _ _ _⟩
   refine iV (o) (.tmp 16) (.tmp 23) 67 rfl rfl 9 i0 (.string ⟨#[]⟩) 1 16 (j) (1) ((List.range j).map (fun i=>Value.string (X.nI i))) [.string y] c4 c3 b6 b8 b9 rfl (by decide) (.slice C j z) (by decide) (q.o) (by omega) (by unfold maxLen;omega) (by omega) rfl (by intro u hu;simp only[List.mem_singleton]at hu;subst hu;rfl) ?_ ?_
   ·intro u E m hd;have hz:=dx m;have U:w.heap.size<E.heap.size:=by omega
    have W:w.heap.size+1+1<E.heap.size:=by omega
    have Y:Z<E.heap.size:=by omega
    obtain⟨hc,hf⟩:=br m;have a3:=ar m;clear m hz;simp[aU,ai,aR,ay.is,ay.any]at hd;obtain⟨F,h2⟩:=hd;obtain⟨g,N,a9⟩:=h2;refine⟨by first|exact F|simpa [Act.eval]using F,some ⟨g,0,none⟩,1,by first|exact N|simpa [Act.eval]using N,fun h=>(by cases h),fun ad a8 j u hj=> ?_⟩;cases a8;exact ie a9 j u hj
   refine vO ?_;intro u T B k;replace B:(ay.app _ _ _ _ _ _ _).p (u 9) T:=B;have e0:u 0=_:=k 0 (by decide) (by decide) (dp.is _);have e1:u 1=_:=k 1 (by decide) (by decide) (dp.is _);have e2:u 2=_:=k 2 (by decide) (by decide) (dp.is _);have e3:u 3=_:=k 3 (by decide) (by decide) (dp.is _);have e4:u 4=_:=k 4 (by decide) (by decide) (dp.is _);have e5:u 5=_:=k 5 (by decide) (by decide) (dp.is _);have e6:u 6=_:=k 6 (by decide) (by decide) (dp.is _);have e7:u 7=_:=k 7 (by decide) (by decide) (dp.is _);have I:u 10=_:=k 10 (by decide) (by decide) (dp.is _);obtain⟨a,b,R,Q⟩:=B;(try simp only[aw,aT]at R Q);simp only[am,ax,ac,aj,aK,aC,aa,ae,af,e0,e1,e2,e3,e4,e5,e6,e7,I];clear e0 e1 e2 e3 e4 e5 e6 e7 I k;generalize u 9=vw5 at*
   replace a:=ar a;obtain⟨o5,c5,b0⟩:=cj a.o;subst b0;have A:T.heap[w.heap.size+1+1]?=some (.cells #[.slice C j z,Nat,Nat,Nat] 89):=(b.block _ b5 (fun e=>by have:=bU q.o _ e.symm;omega)).trans n.o;have H:=ar A;have d4:w.heap.size+1+1<T.heap.size:=(av.1 A).1;clear A y0 y1 y2 y3 yf yz x0 x1 x2 x3 x4 x5 xf xz c0;obtain⟨y0,y1,y2,y3,yf,yz⟩:=bR H.o;go_wp2;generalize K:T.setCell (w.heap.size+1+1,0) (.slice o5 (j+1) c5)=w7;have c:=ar K;clear K;have a2:Hi (w7.heap[w.heap.size+1+1]?=some (.cells #[.slice o5 (j+1) c5,Nat,Nat,Nat] 89)):=by
    show _=_;rw[←c.o,heap_setCell_same T (w.heap.size+1+1) 0 _ _ _ H.o];rfl
   have a4:Hi (w7.ownsRow o 9 1 (.slice o5 (j+1) c5) (j+1) ((List.range (j+1)).map (fun i=>Value.string (X.nI i)))):=by
    show World.ownsRow _ _ _ _ _ _ _;rw[a6.o,←c.o];exact cZ a.o fun g l=>da _ _ _ _ _ (by show g≠_;have:=bU a.o g l;omega)
   have H7:Hi (aF w w7 L):=by
    show aF _ _ _;rw[←c.o];exact(aF.grown t.o b fun g l=>⟨by have:=bU q.o g l;omega,fun x hx e=>by have:=a1.o x hx;have:=bU q.o g l;omega⟩).setO (by omega) (fun x hx e=>by have:=a1.o x hx;omega)
   have a5:Hi (o≤w7.heap.size):=by
    show _≤_;rw[←c.o];simp;have:=b.size;omega
   go_roundw
   case rel=>exact⟨j+1,o5,c5,by omega,by go_num,a4.o,a2.o,a5.o,H7.o⟩
   case measure=>simp[intOf];omega
  ·have O:j=X.nn:=by omega
   rw[O]at q n;clear O;clear y0 y1 y2 y3 yf yz;have r:Hi (D.ownsRow (w.heap.size+1+1+1) 9 1 (.slice C X.nn z) X.nn ((List.range X.nn).map (fun i=>Value.string (X.nI i)))):=mK q.o (by omega);obtain⟨z0,U⟩:=oE C;obtain⟨d0,d8⟩:=oE z;rw[U,d8]at r n;obtain⟨v0,rfl⟩:∃x:World,x=D:=⟨_,rfl⟩;clear U d8 q f b1;go_wp2;clear x0 x1 x2 x3 x4 x5 xf xz hj hlt;obtain⟨o,J⟩:=oE v0.heap.size;have d:=ar J;have a0:Hi (∀g,Value.ownBlock (.slice z0 X.nn d0)=some g→w.heap.size+1+1<g∧g<o):=fun g l=>by have F:=(eh r.o l);have h2:=d.o;omega
   have b1:w.heap.size+1+1<o:=by have F:=(av.1 n.o).1;have h2:=d.o;omega
   clear J;go_loopw[5] (fun i wr=>∃(j:Nat) (C:Option Addr) (z:Nat),j≤X.np∧i= .int .i64 j∧Hi (wr.ownsRow o 9 1 (.slice C j z) j ((List.range j).map (fun i=>Value.string (X.pI i))))∧Hi (wr.heap[w.heap.size+1+1]?=some (.cells #[.slice z0 X.nn d0,.slice C j z,Nat,Nat] 89))∧Hi (o≤wr.heap.size)∧aF w wr L∧Hi (wr.ownsRow (w.heap.size+1+1+1) 9 1 (.slice z0 X.nn d0) X.nn ((List.range X.nn).map (fun i=>Value.string (X.nI i))))) (fun i _=>X.np-(intOf i).toNat)
   case atStart=>exact⟨0,none,0,by omega,rfl,World.ownsRow_nil _ _ _ _,n.o,by have:=d.o;show _≤_;omega,t.o,r.o⟩
   case round=>
    clear n d t r;obtain⟨D,rfl⟩:=wE wr;obtain⟨j,C,z,hj,rfl,q,n,f,hO,r⟩:=hrel;have t:=ar hO;clear hO;obtain⟨x0,x1,x2,x3,x4,x5,xf,xz⟩:=aJ (aF.nth t.o HL.o 1 rfl);obtain⟨y0,y1,y2,y3,yf,yz⟩:=bR n.o;by_cases hlt:j<X.np
    ·obtain⟨Z,fc,rfl,P,s⟩:=bs.at (h.o.p) (fun _=>rfl) hlt;obtain⟨y,hy⟩:=oE ((X.D j).id);have c0:D.cell? (Z,fc+j*18)=some y:=bI t.o.1 P (by have:=s j hlt 0 _ rfl;rw[←hy];exact this);have a6:Hi (((List.range (j+1)).map (fun i=>Value.string (X.pI i)))=((List.range j).map (fun i=>Value.string (X.pI i)))++ [.string y]):=by
      show _=_;rw[List.range_succ,List.map_append,←hy];rfl
     have c8:Z<D.heap.size:=aM P t.o.1.size;have c9:w.heap.size<D.heap.size:=by have:=t.o.1.size;have:=f.o;omega
     have b5:w.heap.size+1+1<D.heap.size:=(av.1 n.o).1;have d5:o≤D.heap.size:=f.o;clear s hy;go_wp2_with fail
     refine gx 11 9 [0,1,2,3,4,5,6,7,8] (by kernel_rfl) (by kernel_rfl) (by kernel_rfl) (by decide) (by kernel_rfl) ?_;simp only[ac,aj,aK,aC,aa,ae,af];refine ej ?_;refine ej ?_;refine ej ?_;refine ej ?_;refine ej ?_;refine ej ?_;refine ej ?_;refine ej ?_;refine kk (ay.built 1 #[.string y] 9) (by decide) (by decide) ?_ ?_
     ·intro u E m hd;have hz:=dx m;have U:w.heap.size<E.heap.size:=by omega
      have W:w.heap.size+1+1<E.heap.size:=by omega
      have Y:Z<E.heap.size:=by omega
      obtain⟨hc,hf⟩:=br m;have a3:=ar m;clear m hz;simp[aU,ai,aR,ay.is,ay.any]at hd;go_simp;exact⟨(ah _ _).alloc (aB _) _,ki _ _ _ _⟩
     refine iV (o) (.tmp 34) (.tmp 41) 67 rfl rfl 9 i0 (.string ⟨#[]⟩) 1 16 (j) (1) ((List.range j).map (fun i=>Value.string (X.pI i))) [.string y] c4 c3 b6 b8 b9 rfl (by decide) (.slice C j z) (by decide) (q.o) (by omega) (by unfold maxLen;omega) (by omega) rfl (by intro u hu;simp only[List.mem_singleton]at hu;subst hu;rfl) ?_ ?_
     ·intro u E m hd;have hz:=dx m;have U:w.heap.size<E.heap.size:=by omega
      have W:w.heap.size+1+1<E.heap.size:=by omega
      have Y:Z<E.heap.size:=by omega
      obtain⟨hc,hf⟩:=br m;have a3:=ar m;clear m hz;simp[aU,ai,aR,ay.is,ay.any]at hd;obtain⟨F,h2⟩:=hd;obtain⟨g,N,a9⟩:=h2;refine⟨by first|exact F|simpa [Act.eval]using F,some ⟨g,0,none⟩,1,by first|exact N|simpa [Act.eval]using N,fun h=>(by cases h),fun ad a8 j u hj=> ?_⟩;cases a8;exact ie a9 j u hj
     refine vO ?_;intro u T B k;replace B:(ay.app _ _ _ _ _ _ _).p (u 9) T:=B;have e0:u 0=_:=k 0 (by decide) (by decide) (dp.is _);have e1:u 1=_:=k 1 (by decide) (by decide) (dp.is _);have e2:u 2=_:=k 2 (by decide) (by decide) (dp.is _);have e3:u 3=_:=k 3 (by decide) (by decide) (dp.is _);have e4:u 4=_:=k 4 (by decide) (by decide) (dp.is _);have e5:u 5=_:=k 5 (by decide) (by decide) (dp.is _);have e6:u 6=_:=k 6 (by decide) (by decide) (dp.is _);have e7:u 7=_:=k 7 (by decide) (by decide) (dp.is _);have I:u 10=_:=k 10 (by decide) (by decide) (dp.is _);obtain⟨a,b,R,Q⟩:=B;(try simp only[aw,aT]at R Q);simp only[am,ax,ac,aj,aK,aC,aa,ae,af,e0,e1,e2,e3,e4,e5,e6,e7,I];clear e0 e1 e2 e3 e4 e5 e6 e7 I k;generalize u 9=vw5 at*
     replace a:=ar a;obtain⟨o5,c5,b0⟩:=cj a.o;subst b0;have A:T.heap[w.heap.size+1+1]?=some (.cells #[.slice z0 X.nn d0,.slice C j z,Nat,Nat] 89):=(b.block _ b5 (fun e=>by have:=bU q.o _ e.symm;omega)).trans n.o;have H:=ar A;have d4:w.heap.size+1+1<T.heap.size:=(av.1 A).1;clear A y0 y1 y2 y3 yf yz x0 x1 x2 x3 x4 x5 xf xz c0;obtain⟨y0,y1,y2,y3,yf,yz⟩:=bR H.o;go_wp2;generalize K:T.setCell (w.heap.size+1+1,1) (.slice o5 (j+1) c5)=w7;have c:=ar K;clear K;have a2:Hi (w7.heap[w.heap.size+1+1]?=some (.cells #[.slice z0 X.nn d0,.slice o5 (j+1) c5,Nat,Nat] 89)):=by
      show _=_;rw[←c.o,heap_setCell_same T (w.heap.size+1+1) 1 _ _ _ H.o];rfl
     have a4:Hi (w7.ownsRow o 9 1 (.slice o5 (j+1) c5) (j+1) ((List.range (j+1)).map (fun i=>Value.string (X.pI i)))):=by
      show World.ownsRow _ _ _ _ _ _ _;rw[a6.o,←c.o];exact cZ a.o fun g l=>da _ _ _ _ _ (by show g≠_;have:=bU a.o g l;omega)
     have H7:Hi (aF w w7 L):=by
      show aF _ _ _;rw[←c.o];exact(aF.grown t.o b fun g l=>⟨by have:=bU q.o g l;omega,fun x hx e=>by have:=a1.o x hx;have:=bU q.o g l;omega⟩).setO (by omega) (fun x hx e=>by have:=a1.o x hx;omega)
     have a5:Hi (o≤w7.heap.size):=by
      show _≤_;rw[←c.o];simp;have:=b.size;omega
     have c2:Hi (w7.ownsRow (w.heap.size+1+1+1) 9 1 (.slice z0 X.nn d0) X.nn ((List.range X.nn).map (fun i=>Value.string (X.nI i)))):=cZ r.o fun g l=>by
      have F:=a0.o g l;rw[←c.o];exact(da _ _ _ _ _ (by show g≠_;omega)).trans (b.block g (by have:=f.o;omega) (fun e=>by have:=bU q.o g e.symm;omega))
     go_roundw
     case rel=>exact⟨j+1,o5,c5,by omega,by go_num,a4.o,a2.o,a5.o,H7.o,c2.o⟩
     case measure=>simp[intOf];omega
    ·have O:j=X.np:=by omega
     rw[O]at q n;clear O;clear y0 y1 y2 y3 yf yz;have G:Hi (D.ownsRow (w.heap.size+1+1+1) 9 1 (.slice C X.np z) X.np ((List.range X.np).map (fun i=>Value.string (X.pI i)))):=mK q.o (by omega);obtain⟨z1,W⟩:=oE C;obtain⟨d1,d9⟩:=oE z;rw[W,d9]at G n;obtain⟨v1,rfl⟩:∃x:World,x=D:=⟨_,rfl⟩;clear W d9 q f b1 a0;go_wp2;clear x0 x1 x2 x3 x4 x5 xf xz hj hlt;obtain⟨o,J⟩:=oE v1.heap.size;have d:=ar J;have a0:Hi (∀g,Value.ownBlock (.slice z0 X.nn d0)=some g→w.heap.size+1+1<g∧g<o):=fun g l=>by have F:=(eh r.o l);have h2:=d.o;omega
     have c1:Hi (∀g,Value.ownBlock (.slice z1 X.np d1)=some g→w.heap.size+1+1<g∧g<o):=fun g l=>by have F:=(eh G.o l);have h2:=d.o;omega
     have b1:w.heap.size+1+1<o:=by have F:=(av.1 n.o).1;have h2:=d.o;omega
     clear J;go_loopw[6] (fun i wr=>∃(j:Nat) (C:Option Addr) (z:Nat),j≤X.ns∧i= .int .i64 j∧Hi (wr.ownsRow o 9 1 (.slice C j z) j ((List.range j).map (fun i=>Value.string (X.sI i))))∧Hi (wr.heap[w.heap.size+1+1]?=some (.cells #[.slice z0 X.nn d0,.slice z1 X.np d1,.slice C j z,Nat] 89))∧Hi (o≤wr.heap.size)∧aF w wr L∧Hi (wr.ownsRow (w.heap.size+1+1+1) 9 1 (.slice z0 X.nn d0) X.nn ((List.range X.nn).map (fun i=>Value.string (X.nI i))))∧Hi (wr.ownsRow (w.heap.size+1+1+1) 9 1 (.slice z1 X.np d1) X.np ((List.range X.np).map (fun i=>Value.string (X.pI i))))) (fun i _=>X.ns-(intOf i).toNat)
     case atStart=>exact⟨0,none,0,by omega,rfl,World.ownsRow_nil _ _ _ _,n.o,by have:=d.o;show _≤_;omega,t.o,r.o,G.o⟩
     case round=>
      clear n d t r G;obtain⟨D,rfl⟩:=wE wr;obtain⟨j,C,z,hj,rfl,q,n,f,hO,r,G⟩:=hrel;have t:=ar hO;clear hO;obtain⟨x0,x1,x2,x3,x4,x5,xf,xz⟩:=aJ (aF.nth t.o HL.o 1 rfl);obtain⟨y0,y1,y2,y3,yf,yz⟩:=bR n.o;by_cases hlt:j<X.ns
      ·obtain⟨Z,fc,rfl,P,s⟩:=bs.at (h.o.s) (fun _=>rfl) hlt;obtain⟨y,hy⟩:=oE ((X.Q j).id);have c0:D.cell? (Z,fc+j*6)=some y:=bI t.o.1 P (by have:=s j hlt 0 _ rfl;rw[←hy];exact this);have a6:Hi (((List.range (j+1)).map (fun i=>Value.string (X.sI i)))=((List.range j).map (fun i=>Value.string (X.sI i)))++ [.string y]):=by
        show _=_;rw[List.range_succ,List.map_append,←hy];rfl
       have c8:Z<D.heap.size:=aM P t.o.1.size;have c9:w.heap.size<D.heap.size:=by have:=t.o.1.size;have:=f.o;omega
       have b5:w.heap.size+1+1<D.heap.size:=(av.1 n.o).1;have d5:o≤D.heap.size:=f.o;clear s hy;go_wp2_with fail
       refine gx 11 9 [0,1,2,3,4,5,6,7,8] (by kernel_rfl) (by kernel_rfl) (by kernel_rfl) (by decide) (by kernel_rfl) ?_;simp only[ac,aj,aK,aC,aa,ae,af];refine ej ?_;refine ej ?_;refine ej ?_;refine ej ?_;refine ej ?_;refine ej ?_;refine ej ?_;refine ej ?_;refine kk (ay.built 1 #[.string y] 9) (by decide) (by decide) ?_ ?_
       ·intro u E m hd;have hz:=dx m;have U:w.heap.size<E.heap.size:=by omega
        have W:w.heap.size+1+1<E.heap.size:=by omega
        have Y:Z<E.heap.size:=by omega
        obtain⟨hc,hf⟩:=br m;have a3:=ar m;clear m hz;simp[aU,ai,aR,ay.is,ay.any]at hd;go_simp;exact⟨(ah _ _).alloc (aB _) _,ki _ _ _ _⟩
       refine iV (o) (.tmp 52) (.tmp 59) 67 rfl rfl 9 i0 (.string ⟨#[]⟩) 1 16 (j) (1) ((List.range j).map (fun i=>Value.string (X.sI i))) [.string y] c4 c3 b6 b8 b9 rfl (by decide) (.slice C j z) (by decide) (q.o) (by omega) (by unfold maxLen;omega) (by omega) rfl (by intro u hu;simp only[List.mem_singleton]at hu;subst hu;rfl) ?_ ?_
       ·intro u E m hd;have hz:=dx m;have U:w.heap.size<E.heap.size:=by omega
        have W:w.heap.size+1+1<E.heap.size:=by omega
        have Y:Z<E.heap.size:=by omega
        obtain⟨hc,hf⟩:=br m;have a3:=ar m;clear m hz;simp[aU,ai,aR,ay.is,ay.any]at hd;obtain⟨F,h2⟩:=hd;obtain⟨g,N,a9⟩:=h2;refine⟨by first|exact F|simpa [Act.eval]using F,some ⟨g,0,none⟩,1,by first|exact N|simpa [Act.eval]using N,fun h=>(by cases h),fun ad a8 j u hj=> ?_⟩;cases a8;exact ie a9 j u hj
       refine vO ?_;intro u T B k;replace B:(ay.app _ _ _ _ _ _ _).p (u 9) T:=B;have e0:u 0=_:=k 0 (by decide) (by decide) (dp.is _);have e1:u 1=_:=k 1 (by decide) (by decide) (dp.is _);have e2:u 2=_:=k 2 (by decide) (by decide) (dp.is _);have e3:u 3=_:=k 3 (by decide) (by decide) (dp.is _);have e4:u 4=_:=k 4 (by decide) (by decide) (dp.is _);have e5:u 5=_:=k 5 (by decide) (by decide) (dp.is _);have e6:u 6=_:=k 6 (by decide) (by decide) (dp.is _);have e7:u 7=_:=k 7 (by decide) (by decide) (dp.is _);have I:u 10=_:=k 10 (by decide) (by decide) (dp.is _);obtain⟨a,b,R,Q⟩:=B;(try simp only[aw,aT]at R Q);simp only[am,ax,ac,aj,aK,aC,aa,ae,af,e0,e1,e2,e3,e4,e5,e6,e7,I];clear e0 e1 e2 e3 e4 e5 e6 e7 I k;generalize u 9=vw5 at*
       replace a:=ar a;obtain⟨o5,c5,b0⟩:=cj a.o;subst b0;have A:T.heap[w.heap.size+1+1]?=some (.cells #[.slice z0 X.nn d0,.slice z1 X.np d1,.slice C j z,Nat] 89):=(b.block _ b5 (fun e=>by have:=bU q.o _ e.symm;omega)).trans n.o;have H:=ar A;have d4:w.heap.size+1+1<T.heap.size:=(av.1 A).1;clear A y0 y1 y2 y3 yf yz x0 x1 x2 x3 x4 x5 xf xz c0;obtain⟨y0,y1,y2,y3,yf,yz⟩:=bR H.o;go_wp2;generalize K:T.setCell (w.heap.size+1+1,2) (.slice o5 (j+1) c5)=w7;have c:=ar K;clear K;have a2:Hi (w7.heap[w.heap.size+1+1]?=some (.cells #[.slice z0 X.nn d0,.slice z1 X.np d1,.slice o5 (j+1) c5,Nat] 89)):=by
        show _=_;rw[←c.o,heap_setCell_same T (w.heap.size+1+1) 2 _ _ _ H.o];rfl
       have a4:Hi (w7.ownsRow o 9 1 (.slice o5 (j+1) c5) (j+1) ((List.range (j+1)).map (fun i=>Value.string (X.sI i)))):=by
        show World.ownsRow _ _ _ _ _ _ _;rw[a6.o,←c.o];exact cZ a.o fun g l=>da _ _ _ _ _ (by show g≠_;have:=bU a.o g l;omega)
       have H7:Hi (aF w w7 L):=by
        show aF _ _ _;rw[←c.o];exact(aF.grown t.o b fun g l=>⟨by have:=bU q.o g l;omega,fun x hx e=>by have:=a1.o x hx;have:=bU q.o g l;omega⟩).setO (by omega) (fun x hx e=>by have:=a1.o x hx;omega)
       have a5:Hi (o≤w7.heap.size):=by
        show _≤_;rw[←c.o];simp;have:=b.size;omega
       have c2:Hi (w7.ownsRow (w.heap.size+1+1+1) 9 1 (.slice z0 X.nn d0) X.nn ((List.range X.nn).map (fun i=>Value.string (X.nI i)))):=cZ r.o fun g l=>by
        have F:=a0.o g l;rw[←c.o];exact(da _ _ _ _ _ (by show g≠_;omega)).trans (b.block g (by have:=f.o;omega) (fun e=>by have:=bU q.o g e.symm;omega))
       have c7:Hi (w7.ownsRow (w.heap.size+1+1+1) 9 1 (.slice z1 X.np d1) X.np ((List.range X.np).map (fun i=>Value.string (X.pI i)))):=cZ G.o fun g l=>by
        have F:=c1.o g l;rw[←c.o];exact(da _ _ _ _ _ (by show g≠_;omega)).trans (b.block g (by have:=f.o;omega) (fun e=>by have:=bU q.o g e.symm;omega))
       go_roundw
       case rel=>exact⟨j+1,o5,c5,by omega,by go_num,a4.o,a2.o,a5.o,H7.o,c2.o,c7.o⟩
       case measure=>simp[intOf];omega
      ·have O:j=X.ns:=by omega
       rw[O]at q n;clear O;clear y0 y1 y2 y3 yf yz;have a7:Hi (D.ownsRow (w.heap.size+1+1+1) 9 1 (.slice C X.ns z) X.ns ((List.range X.ns).map (fun i=>Value.string (X.sI i)))):=mK q.o (by omega);obtain⟨z2,Y⟩:=oE C;obtain⟨d2,e8⟩:=oE z;rw[Y,e8]at a7 n;obtain⟨v2,rfl⟩:∃x:World,x=D:=⟨_,rfl⟩;clear Y e8 q f b1 a0 c1;go_wp2;clear x0 x1 x2 x3 x4 x5 xf xz hj hlt;obtain⟨o,J⟩:=oE v2.heap.size;have d:=ar J;have a0:Hi (∀g,Value.ownBlock (.slice z0 X.nn d0)=some g→w.heap.size+1+1<g∧g<o):=fun g l=>by have F:=(eh r.o l);have h2:=d.o;omega
       have c1:Hi (∀g,Value.ownBlock (.slice z1 X.np d1)=some g→w.heap.size+1+1<g∧g<o):=fun g l=>by have F:=(eh G.o l);have h2:=d.o;omega
       have d6:Hi (∀g,Value.ownBlock (.slice z2 X.ns d2)=some g→w.heap.size+1+1<g∧g<o):=fun g l=>by have F:=(eh a7.o l);have h2:=d.o;omega
       have b1:w.heap.size+1+1<o:=by have F:=(av.1 n.o).1;have h2:=d.o;omega
       clear J;go_loopw[7] (fun i wr=>∃(j:Nat) (C:Option Addr) (z:Nat),j≤X.nk∧i= .int .i64 j∧Hi (wr.ownsRow o 9 1 (.slice C j z) j ((List.range j).map (fun i=>Value.string (X.kI i))))∧Hi (wr.heap[w.heap.size+1+1]?=some (.cells #[.slice z0 X.nn d0,.slice z1 X.np d1,.slice z2 X.ns d2,.slice C j z] 89))∧Hi (o≤wr.heap.size)∧aF w wr L∧Hi (wr.ownsRow (w.heap.size+1+1+1) 9 1 (.slice z0 X.nn d0) X.nn ((List.range X.nn).map (fun i=>Value.string (X.nI i))))∧Hi (wr.ownsRow (w.heap.size+1+1+1) 9 1 (.slice z1 X.np d1) X.np ((List.range X.np).map (fun i=>Value.string (X.pI i))))∧Hi (wr.ownsRow (w.heap.size+1+1+1) 9 1 (.slice z2 X.ns d2) X.ns ((List.range X.ns).map (fun i=>Value.string (X.sI i))))) (fun i _=>X.nk-(intOf i).toNat)
       case atStart=>exact⟨0,none,0,by omega,rfl,World.ownsRow_nil _ _ _ _,n.o,by have:=d.o;show _≤_;omega,t.o,r.o,G.o,a7.o⟩
       case round=>
        clear n d t r G a7;obtain⟨D,rfl⟩:=wE wr;obtain⟨j,C,z,hj,rfl,q,n,f,hO,r,G,a7⟩:=hrel;have t:=ar hO;clear hO;obtain⟨x0,x1,x2,x3,x4,x5,xf,xz⟩:=aJ (aF.nth t.o HL.o 1 rfl);obtain⟨y0,y1,y2,y3,yf,yz⟩:=bR n.o;by_cases hlt:j<X.nk
        ·obtain⟨Z,fc,rfl,P,s⟩:=bs.at (h.o.k) (fun _=>rfl) hlt;obtain⟨y,hy⟩:=oE ((X.K j).id);have c0:D.cell? (Z,fc+j*5)=some y:=bI t.o.1 P (by have:=s j hlt 0 _ rfl;rw[←hy];exact this);have a6:Hi (((List.range (j+1)).map (fun i=>Value.string (X.kI i)))=((List.range j).map (fun i=>Value.string (X.kI i)))++ [.string y]):=by
          show _=_;rw[List.range_succ,List.map_append,←hy];rfl
         have c8:Z<D.heap.size:=aM P t.o.1.size;have c9:w.heap.size<D.heap.size:=by have:=t.o.1.size;have:=f.o;omega
         have b5:w.heap.size+1+1<D.heap.size:=(av.1 n.o).1;have d5:o≤D.heap.size:=f.o;clear s hy;go_wp2_with fail
         refine gx 11 9 [0,1,2,3,4,5,6,7,8] (by kernel_rfl) (by kernel_rfl) (by kernel_rfl) (by decide) (by kernel_rfl) ?_;simp only[ac,aj,aK,aC,aa,ae,af];refine ej ?_;refine ej ?_;refine ej ?_;refine ej ?_;refine ej ?_;refine ej ?_;refine ej ?_;refine ej ?_;refine kk (ay.built 1 #[.string y] 9) (by decide) (by decide) ?_ ?_
         ·intro u E m hd;have hz:=dx m;have U:w.heap.size<E.heap.size:=by omega
          have W:w.heap.size+1+1<E.heap.size:=by omega
          have Y:Z<E.heap.size:=by omega
          obtain⟨hc,hf⟩:=br m;have a3:=ar m;clear m hz;simp[aU,ai,aR,ay.is,ay.any]at hd;go_simp;exact⟨(ah _ _).alloc (aB _) _,ki _ _ _ _⟩
         refine iV (o) (.tmp 70) (.tmp 77) 67 rfl rfl 9 i0 (.string ⟨#[]⟩) 1 16 (j) (1) ((List.range j).map (fun i=>Value.string (X.kI i))) [.string y] c4 c3 b6 b8 b9 rfl (by decide) (.slice C j z) (by decide) (q.o) (by omega) (by unfold maxLen;omega) (by omega) rfl (by intro u hu;simp only[List.mem_singleton]at hu;subst hu;rfl) ?_ ?_
         ·intro u E m hd;have hz:=dx m;have U:w.heap.size<E.heap.size:=by omega
          have W:w.heap.size+1+1<E.heap.size:=by omega
          have Y:Z<E.heap.size:=by omega
          obtain⟨hc,hf⟩:=br m;have a3:=ar m;clear m hz;simp[aU,ai,aR,ay.is,ay.any]at hd;obtain⟨F,h2⟩:=hd;obtain⟨g,N,a9⟩:=h2;refine⟨by first|exact F|simpa [Act.eval]using F,some ⟨g,0,none⟩,1,by first|exact N|simpa [Act.eval]using N,fun h=>(by cases h),fun ad a8 j u hj=> ?_⟩;cases a8;exact ie a9 j u hj
         refine vO ?_;intro u T B k;replace B:(ay.app _ _ _ _ _ _ _).p (u 9) T:=B;have e0:u 0=_:=k 0 (by decide) (by decide) (dp.is _);have e1:u 1=_:=k 1 (by decide) (by decide) (dp.is _);have e2:u 2=_:=k 2 (by decide) (by decide) (dp.is _);have e3:u 3=_:=k 3 (by decide) (by decide) (dp.is _);have e4:u 4=_:=k 4 (by decide) (by decide) (dp.is _);have e5:u 5=_:=k 5 (by decide) (by decide) (dp.is _);have e6:u 6=_:=k 6 (by decide) (by decide) (dp.is _);have e7:u 7=_:=k 7 (by decide) (by decide) (dp.is _);have I:u 10=_:=k 10 (by decide) (by decide) (dp.is _);obtain⟨a,b,R,Q⟩:=B;(try simp only[aw,aT]at R Q);simp only[am,ax,ac,aj,aK,aC,aa,ae,af,e0,e1,e2,e3,e4,e5,e6,e7,I];clear e0 e1 e2 e3 e4 e5 e6 e7 I k;generalize u 9=vw5 at*
         replace a:=ar a;obtain⟨o5,c5,b0⟩:=cj a.o;subst b0;have A:T.heap[w.heap.size+1+1]?=some (.cells #[.slice z0 X.nn d0,.slice z1 X.np d1,.slice z2 X.ns d2,.slice C j z] 89):=(b.block _ b5 (fun e=>by have:=bU q.o _ e.symm;omega)).trans n.o;have H:=ar A;have d4:w.heap.size+1+1<T.heap.size:=(av.1 A).1;clear A y0 y1 y2 y3 yf yz x0 x1 x2 x3 x4 x5 xf xz c0;obtain⟨y0,y1,y2,y3,yf,yz⟩:=bR H.o;go_wp2;generalize K:T.setCell (w.heap.size+1+1,3) (.slice o5 (j+1) c5)=w7;have c:=ar K;clear K;have a2:Hi (w7.heap[w.heap.size+1+1]?=some (.cells #[.slice z0 X.nn d0,.slice z1 X.np d1,.slice z2 X.ns d2,.slice o5 (j+1) c5] 89)):=by
          show _=_;rw[←c.o,heap_setCell_same T (w.heap.size+1+1) 3 _ _ _ H.o];rfl
         have a4:Hi (w7.ownsRow o 9 1 (.slice o5 (j+1) c5) (j+1) ((List.range (j+1)).map (fun i=>Value.string (X.kI i)))):=by
          show World.ownsRow _ _ _ _ _ _ _;rw[a6.o,←c.o];exact cZ a.o fun g l=>da _ _ _ _ _ (by show g≠_;have:=bU a.o g l;omega)
         have H7:Hi (aF w w7 L):=by
          show aF _ _ _;rw[←c.o];exact(aF.grown t.o b fun g l=>⟨by have:=bU q.o g l;omega,fun x hx e=>by have:=a1.o x hx;have:=bU q.o g l;omega⟩).setO (by omega) (fun x hx e=>by have:=a1.o x hx;omega)
         have a5:Hi (o≤w7.heap.size):=by
          show _≤_;rw[←c.o];simp;have:=b.size;omega
         have c2:Hi (w7.ownsRow (w.heap.size+1+1+1) 9 1 (.slice z0 X.nn d0) X.nn ((List.range X.nn).map (fun i=>Value.string (X.nI i)))):=cZ r.o fun g l=>by
          have F:=a0.o g l;rw[←c.o];exact(da _ _ _ _ _ (by show g≠_;omega)).trans (b.block g (by have:=f.o;omega) (fun e=>by have:=bU q.o g e.symm;omega))
         have c7:Hi (w7.ownsRow (w.heap.size+1+1+1) 9 1 (.slice z1 X.np d1) X.np ((List.range X.np).map (fun i=>Value.string (X.pI i)))):=cZ G.o fun g l=>by
          have F:=c1.o g l;rw[←c.o];exact(da _ _ _ _ _ (by show g≠_;omega)).trans (b.block g (by have:=f.o;omega) (fun e=>by have:=bU q.o g e.symm;omega))
         have f1:Hi (w7.ownsRow (w.heap.size+1+1+1) 9 1 (.slice z2 X.ns d2) X.ns ((List.range X.ns).map (fun i=>Value.string (X.sI i)))):=cZ a7.o fun g l=>by
          have F:=d6.o g l;rw[←c.o];exact(da _ _ _ _ _ (by show g≠_;omega)).trans (b.block g (by have:=f.o;omega) (fun e=>by have:=bU q.o g e.symm;omega))
         go_roundw
         case rel=>exact⟨j+1,o5,c5,by omega,by go_num,a4.o,a2.o,a5.o,H7.o,c2.o,c7.o,f1.o⟩
         case measure=>simp[intOf];omega
        ·have O:j=X.nk:=by omega
         rw[O]at q n;clear O;clear y0 y1 y2 y3 yf yz;have d7:Hi (D.ownsRow (w.heap.size+1+1+1) 9 1 (.slice C X.nk z) X.nk ((List.range X.nk).map (fun i=>Value.string (X.kI i)))):=mK q.o (by omega);obtain⟨z3,f0⟩:=oE C;obtain⟨d3,e9⟩:=oE z;rw[f0,e9]at d7 n;obtain⟨v3,rfl⟩:∃x:World,x=D:=⟨_,rfl⟩;clear f0 e9 q f b1 a0 c1 d6;obtain⟨y0,y1,y2,y3,yf,yz⟩:=bR n.o;obtain⟨r0,r1,r2,r3,rf,rz⟩:=bR (aF.nth t.o HL.o 0 rfl);have f2:w.heap.size+1<v3.heap.size:=by have:=(av.1 n.o).1;omega
         go_wp2
         all_goals (refine bodyPost_ret (v:= .agg #[.slice z0 X.nn d0,.slice z1 X.np d1,.slice z2 X.ns d2,.slice z3 X.nk d3]) (by simp[results,results28,go_sem, *]) rfl ?_)
         unfold mL;exact⟨_,_,_,_,rfl,qU (eF (eF (eF (eF r.o (by omega)) (by omega)) (by omega)) (by omega)),qU (eF (eF (eF (eF G.o (by omega)) (by omega)) (by omega)) (by omega)),qU (eF (eF (eF (eF a7.o (by omega)) (by omega)) (by omega)) (by omega)),qU (eF (eF (eF (eF d7.o (by omega)) (by omega)) (by omega)) (by omega)),by have:=t.o.1;go_grown⟩
def GJ (D:bX):Bool:=
 if(D.kd==1)=true then(!(D.s.toList==([]:List UInt8))|| !(D.ln==0))||(!(D.ma==0)|| !decide ((D.e1,D.e2,D.e3)=((0:Int),(0:Int),(0:Int))))
 else if(D.kd==4)=true then((!(D.th==0)|| !decide (D.no=0∧D.nh=0))||(!(D.s.toList==([]:List UInt8))|| !(D.ln==0)))|| !(D.g.toList==([]:List UInt8))
 else(!(D.th==0)|| !decide (D.no=0∧D.nh=0))||(!(D.ma==0)|| !decide ((D.e1,D.e2,D.e3)=((0:Int),(0:Int),(0:Int))))
theorem DA (s:ByteArray):(s.toList==([]:List UInt8))=true↔s=⟨#[]⟩:=⟨qR,fun h=>by rw[h];kernel_rfl⟩
theorem zL (D:bX):GJ D=false↔(D.kd≠1→D.th=0∧D.no=0∧D.nh=0)∧(D.kd≠4→D.ma=0∧D.e1=0∧D.e2=0∧D.e3=0)∧(D.kd=1∨D.kd=4→D.s=⟨#[]⟩∧D.ln=0)∧(D.kd=4→D.g=⟨#[]⟩):=by
 unfold GJ;by_cases h1:D.kd=1
 ·simp[h1,←DA];constructor
  ·rintro ⟨⟨a,b⟩,c,d⟩;exact⟨⟨c,d⟩,a,b⟩
  ·rintro ⟨⟨c,d⟩,a,b⟩;exact⟨⟨a,b⟩,c,d⟩
 ·by_cases h4:D.kd=4
  ·simp[h4,←DA];constructor
   ·rintro ⟨⟨⟨a,b⟩,c,d⟩,e⟩;exact⟨⟨a,b⟩,⟨c,d⟩,e⟩
   ·rintro ⟨⟨a,b⟩,⟨c,d⟩,e⟩;exact⟨⟨⟨a,b⟩,c,d⟩,e⟩
  ·simp[h1,h4]
theorem DC (a b c x y z:Int) (W:World):(binOp .neq 58 (.agg #[a,b,c]) (.agg #[x,y,z])).run prog W= .ok (.bool (!decide ((a,b,c)=(x,y,z)))) W:=by
 simp only[binOp];simp[go_sem,Op.equal,Op.maxDepth];split
 ·split
  ·split<;>simp[*]
  ·simp[*]
 ·simp[*]
theorem DF (e f:Option Addr) (a b nh c:Nat) (w:World):Gv 129 #[.agg #[.slice e a b,.slice f nh c]] (.bool (decide (a=0∧nh=0))) w:=by
 by_cases h0:a=0
 ·subst h0;by_cases h1:nh=0
  ·subst h1;go_enter func129,ntmps129;go_wp2;go_returns;exact⟨rfl,by go_grown⟩
  ·have d:((nh:Int)==0)=false:=by simpa using h1
   rw[decide_eq_false (fun h=>h1 h.2)];go_enter func129,ntmps129;go_wp2;go_returns;exact⟨rfl,by go_grown⟩
 ·have d:((a:Int)==0)=false:=by simpa using h0
  rw[decide_eq_false (fun h=>h0 h.1)];go_enter func129,ntmps129;go_wp2;go_returns;exact⟨rfl,by go_grown⟩
theorem FJ (a b c:Int) (w:World):Gv 76 #[.agg #[a,b,c]] (.bool (!decide (dR 524288 (a,b,c)))) w:=by
 by_cases h00:a< -524288
 ·rw[decide_eq_false (fun h:dR 524288 (a,b,c)=>by unfold dR at h;dsimp only at h;omega)];go_enter func76,ntmps76;go_wp2;go_returns;exact⟨rfl,by go_grown⟩
 by_cases h01:524288<a
 ·rw[decide_eq_false (fun h:dR 524288 (a,b,c)=>by unfold dR at h;dsimp only at h;omega)];go_enter func76,ntmps76;go_wp2;go_returns;exact⟨rfl,by go_grown⟩
 by_cases h10:b< -524288
 ·rw[decide_eq_false (fun h:dR 524288 (a,b,c)=>by unfold dR at h;dsimp only at h;omega)];go_enter func76,ntmps76;go_wp2;go_returns;exact⟨rfl,by go_grown⟩
 by_cases h11:524288<b
 ·rw[decide_eq_false (fun h:dR 524288 (a,b,c)=>by unfold dR at h;dsimp only at h;omega)];go_enter func76,ntmps76;go_wp2;go_returns;exact⟨rfl,by go_grown⟩
 by_cases h20:c< -524288
 ·rw[decide_eq_false (fun h:dR 524288 (a,b,c)=>by unfold dR at h;dsimp only at h;omega)];go_enter func76,ntmps76;go_wp2;go_returns;exact⟨rfl,by go_grown⟩
 by_cases h21:524288<c
 ·rw[decide_eq_false (fun h:dR 524288 (a,b,c)=>by unfold dR at h;dsimp only at h;omega)];go_enter func76,ntmps76;go_wp2;go_returns;exact⟨rfl,by go_grown⟩
 rw[decide_eq_true (show dR 524288 (a,b,c)from by unfold dR;dsimp only;omega)];go_enter func76,ntmps76;go_wp2;go_returns;exact⟨rfl,by go_grown⟩
theorem ys (D:bX) (S:cN) (w:World):Gv 74 #[.agg (aH D S)] (.bool (GJ D)) w:=by
 generalize c:GJ D=R;unfold GJ at c;obtain⟨Z,v⟩:=oE (decide (D.no=0∧D.nh=0));have z:=ar v;have b:Hi (∀W,Gv 129 #[.agg #[.slice S.oo D.no S.co,.slice S.oq D.nh S.cq]] (.bool Z) W):=fun W=>by rw[←v];exact DF _ _ _ _ _ _ W
 clear v;obtain⟨T,o⟩:=oE ((D.th==0));obtain⟨m,C⟩:=oE ((D.s.toList==([]:List UInt8)));obtain⟨n,s⟩:=oE ((D.ln==0));obtain⟨l,t⟩:=oE ((D.ma==0));obtain⟨F,r⟩:=oE ((D.g.toList==([]:List UInt8)));obtain⟨B,u⟩:=oE (decide ((D.e1,D.e2,D.e3)=((0:Int),(0:Int),(0:Int))));have I:∀W,(binOp .neq 58 (.agg #[D.e1,D.e2,D.e3]) (.agg #[(),(),()])).run prog W= .ok (.bool (!B)) W:=fun W=>by rw[DC,u]
 rw[o,C,s,t,r,u,z.o]at c;have y:(D.th !=0)= !T:=by rw[←o];rfl
 have G:(D.ln !=0)= !n:=by rw[←s];rfl
 have H:(D.ma !=0)= !l:=by rw[←t];rfl
 clear u s t z;rcases(by omega:D.kd=1∨D.kd=4∨(D.kd≠1∧D.kd≠4))with hk|hk|hk
 ·have p:(D.kd==1)=true:=by simp[hk]
  rw[if_pos p]at c;have e:=ar c;clear hk r c;obtain rfl|rfl:T=false∨T=true:=by cases T<;>simp
  ·unfold aH;cases m<;>cases n<;>cases l
   all_goals
    go_enter func74,ntmps74;go_wp2;go_returns;exact⟨by rw[←e.o];rfl,by go_grown⟩
  unfold aH;go_enter func74,ntmps74;go_wp2_with fail
  (go_at_call 129;refine mz (b.o _) fun A a=> ?_);have d:=ar (aF.step ((aF.nil (ah w.heap.size w)).alloc (w.heap.size) rfl _ _) a);clear a o y b;obtain⟨-,-,i,-,-,-,-,-,q,j,k,f,g,h,-,-,-,-⟩:=tb (D:=D) (S:=S) (d.o.get 0 rfl);cases m<;>cases n<;>cases l
  all_goals
   go_wp2;go_returns;exact⟨by rw[←e.o];rfl,d.o.1⟩
 ·have p:(D.kd==1)=false:=by simp[hk]
  have x:(D.kd==4)=true:=by simp[hk]
  rw[if_neg (by rw[p];decide),if_pos x]at c;have e:=ar c;clear hk c;obtain rfl|rfl:T=false∨T=true:=by cases T<;>simp
  ·unfold aH;cases m<;>cases n<;>cases l
   all_goals
    go_enter func74,ntmps74;go_wp2;go_returns;exact⟨by rw[←e.o];rfl,by go_grown⟩
  unfold aH;go_enter func74,ntmps74;go_wp2_with fail
  (go_at_call 129;refine mz (b.o _) fun A a=> ?_);have d:=ar (aF.step ((aF.nil (ah w.heap.size w)).alloc (w.heap.size) rfl _ _) a);clear a o y b;obtain⟨-,-,i,-,E,-,-,-,q,j,k,f,g,h,-,-,-,-⟩:=tb (D:=D) (S:=S) (d.o.get 0 rfl);cases Z<;>cases m<;>cases n<;>cases l
  all_goals
   go_wp2;go_returns;exact⟨by rw[←e.o];rfl,d.o.1⟩
 ·have p:(D.kd==1)=false:=by simpa using hk.1
  have x:(D.kd==4)=false:=by simpa using hk.2
  rw[if_neg (by rw[p];decide),if_neg (by rw[x];decide)]at c;have e:=ar c;clear hk c r;obtain rfl|rfl:T=false∨T=true:=by cases T<;>simp
  ·unfold aH;cases m<;>cases l
   all_goals
    go_enter func74,ntmps74;go_wp2;go_returns;exact⟨by rw[←e.o];rfl,by go_grown⟩
  unfold aH;go_enter func74,ntmps74;go_wp2_with fail
  (go_at_call 129;refine mz (b.o _) fun A a=> ?_);have d:=ar (aF.step ((aF.nil (ah w.heap.size w)).alloc (w.heap.size) rfl _ _) a);clear a o y b;obtain⟨-,-,i,-,-,-,-,-,q,j,k,f,g,h,-,-,-,-⟩:=tb (D:=D) (S:=S) (d.o.get 0 rfl);cases Z<;>cases m<;>cases l
  all_goals
   go_wp2;go_returns;exact⟨by rw[←e.o];rfl,d.o.1⟩
def GK (m:fZ) (D:bX):Bool:=
 if(D.kd==4)=true then true else(m.hasG D.g&&(decide (1000≤m.de (m.gi D.g))&&decide (m.de (m.gi D.g)≤20000)))&&
  (if(D.kd==1)=true then(decide (1≤D.th)&&decide (D.th≤120))&&m.rolled D.g D.th
  else m.hasS D.s&&((decide (1≤m.sa (m.si D.s))&&decide (m.sa (m.si D.s)≤1000000))&&(decide (1≤m.sh (m.si D.s))&&decide (m.sh (m.si D.s)≤2000))))
theorem zM (m:fZ) (D:bX):GK m D=true↔(D.kd≠4→m.hasG D.g=true∧1000≤m.de (m.gi D.g)∧m.de (m.gi D.g)≤20000)∧(D.kd=1→1≤D.th∧D.th≤120∧m.rolled D.g D.th=true)∧
 (D.kd≠1→D.kd≠4→m.hasS D.s=true∧(1≤m.sa (m.si D.s)∧m.sa (m.si D.s)≤1000000)∧(1≤m.sh (m.si D.s)∧m.sh (m.si D.s)≤2000)):=by
 unfold GK;by_cases h4:D.kd=4
 ·simp[h4]
 ·by_cases h1:D.kd=1
  ·simp[h1,and_assoc]
  ·simp[h1,h4,and_assoc]
theorem yt (D:bX) (S:cN) (v:Value) (m:fZ) (gv:Nat→Value) (w:World) (hm:fE w v m gv):Gv 75 #[.agg (aH D S),v] (.bool (GK m D)) w:=by
 generalize l:GK m D=R;unfold GK at l;obtain⟨G,hG⟩:=oE (m.hasG D.g);obtain⟨DE,A⟩:=oE (m.de (m.gi D.g));obtain⟨RO,B⟩:=oE (m.rolled D.g D.th);obtain⟨O,E⟩:=oE (m.hasS D.s);obtain⟨SA,C⟩:=oE (m.sa (m.si D.s));obtain⟨SH,F⟩:=oE (m.sh (m.si D.s));have N:Hi (∀W,Below w.heap.size w W→Calls prog 78 #[v,.string D.g] W (fun e w'=>∃K d y o1 n1 Z,e= .returned (.tuple #[.agg #[.string K,.int .i64 d,.int .i64 y,.slice o1 n1 Z],.bool G])∧(G=true→d=DE)∧Below W.heap.size W w')):=fun W U=>(nE v m gv D.g W (hm.below U)).mono fun e w' hp=>by
  obtain⟨K,d,y,g1,s,h2,h3,h4⟩:=hp;obtain⟨o1,Z,rfl,-,-⟩:=h3.form;rw[hG]at s h2;rw[A]at h2;exact⟨K,d,y,_,_,_,s,h2,h4⟩
 have a0:Hi (∀W,Below w.heap.size w W→Gv 130 #[v,.string D.g,D.th] (.bool RO) W):=fun W U=>by rw[←B];exact vT v m gv _ _ W (hm.below U)
 have a1:Hi (∀W,Below w.heap.size w W→Calls prog 79 #[v,.string D.s] W (fun e w'=>∃K a h k,e= .returned (.tuple #[.agg #[.string K,.int .i64 a,.int .i64 h,.int .i64 k],.bool O])∧(O=true→a=SA∧h=SH)∧Below W.heap.size W w')):=fun W U=>by
  have:=oy v m gv D.s W (hm.below U);rw[E,C,F]at this;exact this
 rw[hG,A,B,E,C,F]at l;obtain⟨vg,vs,rfl,P,T,-,-,-⟩:=hm;obtain⟨og,cg,rfl,-,-⟩:=P.form;obtain⟨a9,a8,rfl,-,-⟩:=T.form;clear P T hG A B E C F;by_cases hk4:D.kd=4
 ·have k4:(D.kd==4)=true:=by simp[hk4]
  rw[if_pos k4]at l;have i:=ar l;clear l hk4;unfold aH;go_enter func75,ntmps75;go_wp2;go_returns;exact⟨by rw[←i.o];rfl,by go_grown⟩
 have k4:(D.kd==4)=false:=by simpa using hk4
 rw[if_neg (by rw[k4];decide)]at l;by_cases hk1:D.kd=1
 ·have k1:(D.kd==1)=true:=by simp[hk1]
  rw[if_pos k1]at l;have i:=ar l;clear l hk1 hk4;unfold aH;go_enter func75,ntmps75;go_wp2_with fail
  (go_at_call 78;refine(N.o _ (by go_grown)).mono ?_;rintro e_ Y ⟨K,d,y,o1,n1,Z,rfl,hd,o⟩);obtain⟨L,Q,s⟩:=aF.ex (aF.step (((aF.nil (ah w.heap.size w)).alloc (w.heap.size) rfl _ _).alloc (w.heap.size+1) (by simp) _ _) o);have t:=ar Q;have f:=ar s;have a6:=f.o.len t.o 0 rfl;have a5:w.heap.size<Y.heap.size:=by omega
  clear Q s o;have u:Hi (Y.heap[w.heap.size]?=some (.cells (aH D S) 62)):=aF.nth f.o t.o 1 rfl;obtain⟨-,-,X,-,b0,a7,-,-,-,-,-,-,-,-,-,-,-,-⟩:=tb u.o;obtain⟨m0,m1,-,-⟩:=al (aF.nth f.o t.o 0 rfl);obtain rfl|rfl:G=false∨G=true:=by cases G<;>simp
  ·go_wp2;go_returns;exact⟨by rw[←i.o];rfl,by have:=f.o.1;go_grown⟩
  have H:d=DE:=hd (by trivial);subst H;by_cases hd0:d<1000
  ·have I:decide (d<1000)=true:=decide_eq_true hd0;have b:decide (1000≤d)=false:=df;clear hd0;go_wp2;go_returns;exact⟨by rw[←i.o,b];rfl,by have:=f.o.1;go_grown⟩
  have I:decide (d<1000)=false:=decide_eq_false hd0;have b:decide (1000≤d)=true:=dt;by_cases hd1:20000<d
  ·have J:decide (20000<d)=true:=decide_eq_true hd1;have c:decide (d≤20000)=false:=df;clear hd1;go_wp2;go_returns;exact⟨by rw[←i.o,b,c];rfl,by have:=f.o.1;go_grown⟩
  have J:decide (20000<d)=false:=decide_eq_false hd1;have c:decide (d≤20000)=true:=dt;by_cases ht0:D.th<1
  ·have r:decide (1≤D.th)=false:=df;clear ht0;go_wp2;go_returns;exact⟨by rw[←i.o,b,c,r];rfl,by have:=f.o.1;go_grown⟩
  have r:decide (1≤D.th)=true:=dt;by_cases ht1:120<D.th
  ·have z:decide (D.th≤120)=false:=df;clear ht1;go_wp2;go_returns;exact⟨by rw[←i.o,b,c,r,z];rfl,by have:=f.o.1;go_grown⟩
  have z:decide (D.th≤120)=true:=dt;go_wp2_with fail
  (go_at_call 130;refine mz (a0.o _ (by have:=f.o.1;go_grown)) fun w2 p=> ?_);have g:Hi (Below w.heap.size w w2):=ag (w:=w) (by have:=f.o.1;go_grown) p;clear p;go_wp2;go_returns;exact⟨by rw[←i.o,b,c,r,z];simp,g.o⟩
 ·have k1:(D.kd==1)=false:=by simpa using hk1
  rw[if_neg (by rw[k1];decide)]at l;have i:=ar l;clear l hk1 hk4;unfold aH;go_enter func75,ntmps75;go_wp2_with fail
  (go_at_call 78;refine(N.o _ (by go_grown)).mono ?_;rintro e_ Y ⟨K,d,y,o1,n1,Z,rfl,hd,o⟩);obtain⟨L,Q,s⟩:=aF.ex (aF.step (((aF.nil (ah w.heap.size w)).alloc (w.heap.size) rfl _ _).alloc (w.heap.size+1) (by simp) _ _) o);have t:=ar Q;have f:=ar s;have a6:=f.o.len t.o 0 rfl;have a5:w.heap.size<Y.heap.size:=by omega
  clear Q s o;have u:Hi (Y.heap[w.heap.size]?=some (.cells (aH D S) 62)):=aF.nth f.o t.o 1 rfl;obtain⟨-,-,X,-,-,-,-,-,b1,-,-,-,-,-,-,-,-,-⟩:=tb u.o;obtain⟨m0,m1,-,-⟩:=al (aF.nth f.o t.o 0 rfl);obtain rfl|rfl:G=false∨G=true:=by cases G<;>simp
  ·go_wp2;go_returns;exact⟨by rw[←i.o];rfl,by have:=f.o.1;go_grown⟩
  have H:d=DE:=hd (by trivial);subst H;by_cases hd0:d<1000
  ·have I:decide (d<1000)=true:=decide_eq_true hd0;have b:decide (1000≤d)=false:=df;clear hd0;go_wp2;go_returns;exact⟨by rw[←i.o,b];rfl,by have:=f.o.1;go_grown⟩
  have I:decide (d<1000)=false:=decide_eq_false hd0;have b:decide (1000≤d)=true:=dt;by_cases hd1:20000<d
  ·have J:decide (20000<d)=true:=decide_eq_true hd1;have c:decide (d≤20000)=false:=df;clear hd1;go_wp2;go_returns;exact⟨by rw[←i.o,b,c];rfl,by have:=f.o.1;go_grown⟩
  have J:decide (20000<d)=false:=decide_eq_false hd1;have c:decide (d≤20000)=true:=dt;go_wp2_with fail
  (go_at_call 79;refine(a1.o _ (by have:=f.o.1;go_grown)).mono ?_;rintro e_ w2 ⟨s2,a,h,k,rfl,a3,p⟩);have g:Hi (Below w.heap.size w w2):=ag (w:=w) (by have:=f.o.1;go_grown) p;have b5:=g.o.size;clear p;obtain rfl|rfl:O=false∨O=true:=by cases O<;>simp
  ·go_wp2;go_returns;exact⟨by rw[←i.o,b,c];rfl,by have:=g.o;go_grown⟩
  obtain⟨a2,a4⟩:=a3 (by trivial);subst a2 a4;by_cases ha0:a<1
  ·have j:decide (1≤a)=false:=df;clear ha0;go_wp2;go_returns;exact⟨by rw[←i.o,b,c,j];rfl,by have:=g.o;go_grown⟩
  have j:decide (1≤a)=true:=dt;by_cases ha1:1000000<a
  ·have n:decide (a≤1000000)=false:=df;clear ha1;go_wp2;go_returns;exact⟨by rw[←i.o,b,c,j,n];rfl,by have:=g.o;go_grown⟩
  have n:decide (a≤1000000)=true:=dt;by_cases hh0:h<1
  ·have q:decide (1≤h)=false:=df;clear hh0;go_wp2;go_returns;exact⟨by rw[←i.o,b,c,j,n,q];rfl,by have:=g.o;go_grown⟩
  have q:decide (1≤h)=true:=dt;by_cases hh1:2000<h
  ·have x:decide (h≤2000)=false:=df;clear hh1;go_wp2;go_returns;exact⟨by rw[←i.o,b,c,j,n,q,x];rfl,by have:=g.o;go_grown⟩
  have x:decide (h≤2000)=true:=dt;go_wp2;go_returns;exact⟨by rw[←i.o,b,c,j,n,q,x];rfl,by have:=g.o;go_grown⟩
theorem tq (v u:Value) (d m:Nat) (P:Nat→Pt) (y:Nat→Option Addr) (q hn:Nat→Nat) (H:Nat→Nat→Pt) (w:World) (h:bO w v d P) (E:en w u m y q hn H) (a0:m≤8):
 Calls prog 131 #[.agg #[v,u]] w fun e w'=>∃(o:Option Addr) (c:Nat) (O:Nat→Option Addr) (B:Nat→Nat),e= .returned (.slice o (m+1) c)∧en w' (.slice o (m+1) c) (m+1) O B (cM d hn) (cM P H)∧Below w.heap.size w w':=by
 have z:prog.underlying 54=some (.slice 53):=underlying54;obtain⟨i0,F,J,K,L⟩:=qf ww;obtain⟨l,g,rfl,-,-,-⟩:=h.form;obtain⟨Q,C,rfl,-,-,s⟩:=E.form;have p:=ar s;have W:=ar h;have A:=ar E.2;clear h s E;go_enter func131,ntmps131;go_wp2_with (at_builtin;refine iB rfl _ _ 54 rfl w.heap.size 53 i0 _ 1 24 z F J K L rfl (by decide) (.slice (some ⟨w.heap.size+1,0,none⟩) 1 1) 1 [.slice l d g] rfl ?c0 Q m C (ge (fun i=> .slice (y i) (hn i) (q i)) m) rfl ?c1 ?c2 ?c3 ?c4 ?c5 ?c6 ?c7 ?_)
 case c0=>
  have t:=World.ownsRow_lit (base:=w.heap.size) (e:=53) (size:=1) (w.alloc (.cells #[.slice l d g,.slice Q m C] 56)) #[.slice l d g] 1 (by simp) (by unfold maxLen;omega) rfl;rw[aw]at t;exact t
 case c1=>rw[gu];omega
 case c2=>
  intro e;rcases Nat.eq_zero_or_pos m with h0|h0
  ·exact h0
  ·obtain⟨b,N,r,-⟩:=p.o 0 h0;rw[e]at r;cases r
 case c3=>
  intro ad D j u G;have x:j<m:=by rw[←gu (fun i=>Value.slice (y i) (hn i) (q i)) m];exact(List.getElem?_eq_some_iff.1 G).1
  obtain⟨b,N,r,I,Z⟩:=p.o 0 (by omega);rw[D]at r;cases r;rw[iz _ _ _ x]at G;cases G;rw[zI];have n:Below w.heap.size w ((w.alloc (.cells #[.slice l d g,.slice Q m C] 56)).alloc (.cells #[.slice l d g] 53)):=by go_grown
  exact bI n I (Z j x)
 case c4=>
  intro u z;unfold ge at z;obtain⟨i,-,rfl⟩:=List.mem_map.1 z;rfl
 case c5=>unfold maxLen;omega
 case c6=>omega
 case c7=>simp<;>omega
 intro U R f a;have n:Below w.heap.size w R:=by
  refine Below.grown (by go_grown) a (by simp<;>omega) (fun k hk=> ?_);simp[Value.ownBlock]at hk;omega
 have X:=ar n;have T:Hi (en R U (m+1) (cM l y) (cM g q) (cM d hn) (cM P H)):=by
  have Y:R.ownsRow w.heap.size 53 1 U (m+1) ([.slice l d g]++ge (fun i=> .slice (y i) (hn i) (q i)) m):=by rw[Nat.add_comm m 1];exact f
  refine rT Y (fun i F=> ?_) (fun i F=> ?_)
  ·cases i with
   |zero=>rfl
   |succ k=>
    show(ge _ m)[k]?=_;exact iz _ _ _ (by omega)
  ·cases i with
   |zero=>exact W.o.below n
   |succ k=>exact(A.o k (by omega)).below n
 obtain⟨o',c',rfl,-,-,-⟩:=T.o.form;clear f a n;go_wp2;go_returns;exact⟨_,_,_,_,rfl,T.o,X.o⟩
theorem yu (v u:Value) (b m:Nat) (P:Nat→Pt) (oh:Nat→Option Addr) (ch hn:Nat→Nat) (H:Nat→Nat→Pt) (w:World) (h:bO w v b P) (hh:en w u m oh ch hn H) (g:Hi (fP b P m hn H)):
 Gv 80 #[.agg #[v,u]] (.int .i64 (fx b P m hn H)) w:=by
 have p:Hi (GH b P m hn H):=g.o.reg;have b6:=p.o.m8;have a2:Hi (∀i,i<m+1→Hi (dT (cM b hn i) (cM P H i))):=fun i O=>by
  cases i with
  |zero=>exact g.o.po
  |succ k=>exact g.o.hp k (by omega)
 have a1:Hi (∀i,i<m+1→Hi (lK 32768 (cM b hn i) (cM P H i))∧cM b hn i≤32∧bP (cM b hn i) (cM P H i)≠0):=fun i O=>by
  cases i with
  |zero=>exact⟨p.o.po,p.o.no32,by have:=p.o.pos;exact show bP b P≠0 by omega⟩
  |succ k=>exact⟨p.o.hp k (by omega),p.o.h32 k (by omega),by have:=p.o.neg k (by omega);exact show bP (hn k) (H k)≠0 by omega⟩
 have E:Hi (∀i,i<m+1→ -(32*34359738368)≤bP (cM b hn i) (cM P H i)∧bP (cM b hn i) (cM P H i)≤32*34359738368):=fun i O=>by
  obtain⟨h1,h2,-⟩:=a1.o i O;have:=uM h1.o.near;omega
 generalize hR:fx b P m hn H=R;have a4:=ar hR;clear hR;have HH:=ar hh;obtain⟨oo,co,rfl,-,-,-⟩:=h.form;obtain⟨oq,cq,rfl,-,-,-⟩:=hh.form;have H0:=ar h;clear h hh;go_enter func80,ntmps80;go_wp2_with fail
 generalize l:(w.alloc (.cells #[.slice oo b co,.slice oq m cq] 56))=w0;have a6:Hi (w0.heap[w.heap.size]?=some (.cells #[.slice oo b co,.slice oq m cq] 56)):=by
  show _=_;rw[←l];exact bf _ _ _ rfl
 have q:Hi (Below w.heap.size w w0):=by
  show Below _ _ _;rw[←l];exact(ah w.heap.size w).alloc (aB _) _
 have b0:w.heap.size<w0.heap.size:=by rw[←l];simp
 clear l;(go_at_call 23;refine(lP _ _ b m P oh ch hn H _ (H0.o.below q.o) (HH.o.below q.o)).mono ?_;rintro e_ w3 ⟨c,rfl,hc,C⟩);obtain rfl:=hc.o.2 g.o;clear hc;have x:=ar (ag q.o C);have a7:Hi (w3.heap[w.heap.size]?=some (.cells #[.slice oo b co,.slice oq m cq] 56)):=(C.block w.heap.size b0).trans a6.o;clear C;obtain⟨L,N,-,-⟩:=al a7.o;go_wp2_with fail
 (go_at_call 131;refine(tq _ _ b m P oh ch hn H _ (H0.o.below x.o) (HH.o.below x.o) p.o.m8).mono ?_;rintro e_ w4 ⟨o4,c4,D,y,rfl,hO,F⟩);have U:=ar (ag x.o F);obtain⟨b8,b1,e4,-,b5,o⟩:=hO.form;simp only[Value.slice.injEq,true_and]at e4;obtain⟨rfl,rfl⟩:=e4;have a0:=ar o;have a3:=ar hO.2;clear F hO o L N;go_wp2;go_loopw[3,5] (fun t i wr=>∃(j:Nat) (s:Int),j≤m+1∧i= .int .i64 j∧t= .int .i64 s∧Hi (s=cB (fun i=>bP (cM b hn i) (cM P H i)) j)∧Below w4.heap.size w4 wr) (fun t i _=>m+1-(intOf i).toNat)
 case atStart=>exact⟨0,0,by omega,rfl,rfl,rfl,ah _ _⟩
 case round=>
  obtain⟨w1,rfl⟩:=wE wr;obtain⟨j,s,hj,rfl,rfl,hs,z⟩:=hrel;have r:=ar z;have Y:=ar (oH (f:=fun i=>bP (cM b hn i) (cM P H i)) (K:=32*34359738368) (n:=j) (fun i O=>E.o i (by omega)));by_cases hlt:j<m+1
  ·obtain⟨a8,fo,rfl,a9,J⟩:=a0.o j hlt;have y0:w1.cell? (a8,fo+j)=some (.slice (D j) (cM b hn j) (y j)):=bI z a9 (J j hlt);have k0:=dS j;have k1:(j:Int)<(m:Int)+1:=by omega
   obtain⟨Q,d⟩:=oE (bP (cM b hn j) (cM P H j));have T:Hi (∀W,bO W (.slice (D j) (cM b hn j) (y j)) (cM b hn j) (cM P H j)→Gv 64 #[.slice (D j) (cM b hn j) (y j)] (.int .i64 Q) W):=fun W a=>by rw[←d];exact mA _ _ _ W a (a2.o j hlt)
   have I:=Y.o;rw[←hs.o]at I;have B:=E.o j hlt;(try dsimp only at B);rw[d]at B;obtain⟨S',A⟩:=oE (s+Q);have v1:IntKind.i64.wrap (s+Q)=S':=by rw[A];exact iw
   have a5:Hi (S'=cB (fun i=>bP (cM b hn i) (cM P H i)) (j+1)):=by
    show _=_;rw[cB,←hs.o,d,A]
   clear d I B A J z;go_wp2_with fail
   (go_at_call 64;refine mz (T.o _ ((a3.o j hlt).below r.o)) fun w5 G=> ?_);have X:=ar (ag r.o G);clear G;go_wp2;go_roundw
   case rel=>exact⟨j+1,S',by omega,by go_num,rfl,a5,X.o⟩
   case measure=>simp[intOf];omega
  ·have HE:Hi (s=R):=by
    show _=_;have e:j=m+1:=by omega
    rw[hs.o,e,tV];exact a4.o
   have Z:=ar (ag U.o r.o);have k2:¬(j:Int)<(m:Int)+1:=by omega
   go_wp2;go_returns;rw[HE.o];exact⟨rfl,Z.o⟩
def uV (P:Prop) (w:World) (e:Ending) (w':World):Prop:=∃c:Int,e= .returned (.int .i64 c)∧(c=0↔P)∧Below w.heap.size w w'
theorem gA {P:Prop} {w w':World} {c:Int} (b:c≠0) (hn:¬P) (a:Below w.heap.size w w'):uV P w (.returned (.int .i64 c)) w':=⟨c,rfl,⟨fun h=>absurd h b,fun h=>absurd h hn⟩,a⟩
theorem DG {P:Prop} {w w':World} (b:P) (a:Below w.heap.size w w'):uV P w (.returned (.int .i64 0)) w':=⟨0,rfl,⟨fun _=>b,fun _=>rfl⟩,a⟩
def dj (w:World) (D:bX) (S:cN):Prop:=bO w (.slice S.oo D.no S.co) D.no D.P∧en w (.slice S.oq D.nh S.cq) D.nh S.oh S.ch D.hn D.H
theorem dj.below {w w':World} {D:bX} {S:cN} (h:dj w D S) (a:Below w.heap.size w w'):dj w' D S:=⟨h.1.below a,h.2.below a⟩
theorem em.sp {m:fZ} {D:bX} (h:em m D):GJ D=false:=(zL D).2 ⟨h.no1,h.no4,h.noB,fun e=>(h.p4 e).1⟩
theorem em.kn {m:fZ} {D:bX} (h:em m D):GK m D=true:=(zM m D).2 ⟨h.gr,h.p1,fun a b=>by
 have:=h.kd;have:=h.p2 (by omega);exact⟨this.1,this.2.1,this.2.2.1⟩⟩
theorem pC {m:fZ} {D:bX} (c:jZ D.id=true) (d:jZ D.nd=true) (rv:1≤D.rv∧D.rv≤1000) (kd:1≤D.kd∧D.kd≤4) (o:GJ D=false) (g:GK m D=true) (sh:D.kd=1→fP D.no D.P D.nh D.hn D.H) (b:D.kd=4→1≤D.ma∧D.ma≤1099511627776∧dR 524288 (D.e1,D.e2,D.e3))
 (i:D.kd≠1→D.kd≠4→1≤D.ln∧D.ln≤32768) (va:eL (D.a1,D.a2,D.a3) D.t=true):em m D:=by
 obtain⟨j,k,l,n⟩:=(zL D).1 o;obtain⟨e,f,a⟩:=(zM m D).1 g;exact{ok1:=c,ok2:=d,rev:=rv,kd:=kd,gr:=e,no1:=j,no4:=k,noB:=l,p1:=f,sh:=sh,p2:=fun h=>⟨(a (by omega) (by omega)).1,(a (by omega) (by omega)).2.1,(a (by omega) (by omega)).2.2,i (by omega) (by omega)⟩,p4:=fun h=>⟨n h,b h⟩,va:=va}
theorem lS (D:bX) (S:cN) (v:Value) (m:fZ) (gv:Nat→Value) (w:World) (hm:fE w v m gv) (hd:dj w D S) (h1:D.id.size≤2147483648) (h2:D.nd.size≤2147483648):
 Calls prog 36 #[.agg (aH D S),v] w (uV (em m D) w):=by
 obtain⟨I1,J⟩:=oE (jZ D.id);obtain⟨I2,K⟩:=oE (jZ D.nd);obtain⟨SP,O⟩:=oE (GJ D);obtain⟨KN,N⟩:=oE (GK m D);obtain⟨FA,I⟩:=oE (decide (dR 524288 (D.e1,D.e2,D.e3)));obtain⟨z,P⟩:=oE (eL (D.a1,D.a2,D.a3) D.t);have a6:Hi (∀W,Gv 33 #[.string D.id] (.bool I1) W):=fun W=>by rw[←J];exact iA _ W h1
 have a7:Hi (∀W,Gv 33 #[.string D.nd] (.bool I2) W):=fun W=>by rw[←K];exact iA _ W h2
 have b0:Hi (∀W,Gv 74 #[.agg (aH D S)] (.bool SP) W):=fun W=>by rw[←O];exact ys D S W
 have a9:Hi (∀W,Below w.heap.size w W→Gv 75 #[.agg (aH D S),v] (.bool KN) W):=fun W hb=>by rw[←N];exact yt D S v m gv W (hm.below hb)
 have a8:Hi (∀W,Gv 76 #[.agg #[D.e1,D.e2,D.e3]] (.bool (!FA)) W):=fun W=>by rw[←I];exact FJ _ _ _ W
 have H:Hi (∀W,Gv 77 #[.agg #[D.a1,D.a2,D.a3,D.t]] (.bool z) W):=fun W=>by rw[←P];exact nt _ _ _ _ W
 have T:Hi (∀W,Below w.heap.size w W→Calls prog 23 #[.agg #[.slice S.oo D.no S.co,.slice S.oq D.nh S.cq]] W (fun e w'=>∃c:Int,e= .returned (.int .i64 c)∧Hi ((c=0→fP D.no D.P D.nh D.hn D.H)∧(fP D.no D.P D.nh D.hn D.H→c=0))∧Below W.heap.size W w')):=fun W hb=>lP _ _ _ _ _ _ _ _ _ W (hd.1.below hb) (hd.2.below hb);have A:=ar J;have B:=ar K;have E:=ar O;have C:=ar N;have X:=ar I;have l:=ar P;obtain⟨vg,vs,rfl,Y,Z,-,-,-⟩:=hm;obtain⟨og,cg,rfl,-,-⟩:=Y.form;obtain⟨c3,b1,rfl,-,-⟩:=Z.form;clear Y Z J K O N I P hd;unfold aH;go_enter func36,ntmps36;go_wp2_with fail
 (go_at_call 33;refine mz (a6.o _) fun w1 a1=> ?_);obtain⟨L,hL,h1⟩:=aF.ex (aF.step (((aF.nil (ah w.heap.size w)).alloc (w.heap.size) rfl _ _).alloc (w.heap.size+1) (by simp) _ _) a1);have y:=ar hL;have H1:=ar h1;clear hL h1 a1;have a:Hi (w1.heap[w.heap.size]?=some (.cells (aH D S) 62)):=aF.nth H1.o y.o 1 rfl;have a4:w1.cell? (w.heap.size,3)=some D.nd:=aX a.o rfl;obtain rfl|rfl:I1=false∨I1=true:=by cases I1<;>simp
 ·go_wp2;go_returns;exact gA (by decide) (fun b=>absurd (A.o.symm.trans b.ok1) (by decide)) H1.o.1
 go_wp2_with fail
 (go_at_call 33;refine cy (a7.o _) H1 fun w2 F=> ?_);clear a4;clear a;have a:Hi (w2.heap[w.heap.size]?=some (.cells (aH D S) 62)):=aF.nth F.o y.o 1 rfl;obtain⟨-,a5,i,-,-,-,-,-,-,-,-,-,-,-,-,-,-,-⟩:=tb a.o;obtain rfl|rfl:I2=false∨I2=true:=by cases I2<;>simp
 ·go_wp2;go_returns;exact gA (by decide) (fun b=>absurd (B.o.symm.trans b.ok2) (by decide)) F.o.1
 by_cases r0:D.rv<1
 ·go_wp2;go_returns;exact gA (by decide) (fun b=>by have:=b.rev;omega) F.o.1
 have c1:decide (D.rv<1)=false:=decide_eq_false r0;by_cases r1:1000<D.rv
 ·go_wp2;go_returns;exact gA (by decide) (fun b=>by have:=b.rev;omega) F.o.1
 have c2:decide (1000<D.rv)=false:=decide_eq_false r1;by_cases q0:D.kd<1
 ·go_wp2;go_returns;exact gA (by decide) (fun b=>by have:=b.kd;omega) F.o.1
 have b9:decide (D.kd<1)=false:=decide_eq_false q0;by_cases q1:4<D.kd
 ·go_wp2;go_returns;exact gA (by decide) (fun b=>by have:=b.kd;omega) F.o.1
 have c0:decide (4<D.kd)=false:=decide_eq_false q1;go_wp2_with (first|(with_reducible refine bA 62 w.heap.size 18 (aH D S) 62 _ bF bv rfl rfl a.o ?_)|fail)
 (go_at_call 74;refine cy (b0.o _) F fun w3 Q=> ?_);clear a5 i;clear a;have a:Hi (w3.heap[w.heap.size]?=some (.cells (aH D S) 62)):=aF.nth Q.o y.o 1 rfl;obtain⟨m0,m1,-,-⟩:=al (aF.nth Q.o y.o 0 rfl);obtain rfl|rfl:SP=true∨SP=false:=by cases SP<;>simp
 ·go_wp2;go_returns;exact gA (by decide) (fun b=>absurd (E.o.symm.trans b.sp) (by decide)) Q.o.1
 go_wp2_with (first|(with_reducible refine bA 62 w.heap.size 18 (aH D S) 62 _ bF bv rfl rfl a.o ?_)|fail)
 (go_at_call 75;refine cy (a9.o _ Q.o.1) Q fun w4 x=> ?_);clear m0 m1 a;have a:Hi (w4.heap[w.heap.size]?=some (.cells (aH D S) 62)):=aF.nth x.o y.o 1 rfl;obtain⟨-,-,i,-,-,-,t,u,-,r,s,o,p,q,d,f,g,k⟩:=tb a.o;obtain rfl|rfl:KN=false∨KN=true:=by cases KN<;>simp
 ·go_wp2;go_returns;exact gA (by decide) (fun b=>absurd (C.o.symm.trans b.kn) (by decide)) x.o.1
 rcases(by omega:D.kd=1∨D.kd=4∨(D.kd≠1∧D.kd≠4))with hk|hk|hk
 ·have k1:(D.kd==1)=true:=by simp[hk]
  have j:=ar hk;clear hk;go_wp2_with fail
  (go_at_call 23;refine(T.o _ x.o.1).mono ?_;rintro e_ w5 ⟨c,rfl,hc,a2⟩);have n:=ar (aF.step x.o a2);clear a2;clear i t u r s o p q d f g k;clear a;have a:Hi (w5.heap[w.heap.size]?=some (.cells (aH D S) 62)):=aF.nth n.o y.o 1 rfl;obtain⟨-,-,-,-,-,-,-,-,-,-,-,-,-,-,d,f,g,k⟩:=tb a.o;have U:=ar hc.o;clear hc;by_cases hc0:c=0;rotate_left
  ·have kc:(c !=0)=true:=by simpa using hc0
   have R:=ar hc0;clear hc0;go_wp2;go_returns;exact gA R.o (fun b=>R.o (U.o.2 (b.sh j.o))) n.o.1
  subst hc0;go_wp2_with fail
  (go_at_call 77;refine cy (H.o _) n fun w6 G=> ?_);clear d f g k;clear a;have a:Hi (w6.heap[w.heap.size]?=some (.cells (aH D S) 62)):=aF.nth G.o y.o 1 rfl;obtain rfl|rfl:z=false∨z=true:=by cases z<;>simp
  ·go_wp2;go_returns;exact gA (by decide) (fun b=>absurd (l.o.symm.trans b.va) (by decide)) G.o.1
  go_wp2;go_returns;exact DG (pC A.o B.o (by omega) (by omega) E.o C.o (fun _=>U.o.1 (by trivial)) (fun h=>absurd (j.o.symm.trans h) (by decide)) (fun h=>absurd j.o h) l.o) G.o.1
 ·have k1:(D.kd==1)=false:=by simp[hk]
  have k4:(D.kd==4)=true:=by simp[hk]
  have j:=ar hk;clear hk;by_cases a0:D.ma<1
  ·go_wp2;go_returns;exact gA (by decide) (fun b=>by have:=(b.p4 j.o).2.1;have:=(b.p4 j.o).2.2.1;omega) x.o.1
  have b5:decide (D.ma<1)=false:=decide_eq_false a0;by_cases a1':1099511627776<D.ma
  ·have a3:decide (1099511627776<D.ma)=true:=decide_eq_true a1';go_wp2;go_returns;exact gA (by decide) (fun b=>by have:=(b.p4 j.o).2.1;have:=(b.p4 j.o).2.2.1;omega) x.o.1
  have a3:decide (1099511627776<D.ma)=false:=decide_eq_false a1';go_wp2_with fail
  (go_at_call 76;refine cy (a8.o _) x fun w5 n=> ?_);clear i t u r s o p q d f g k;clear a;have a:Hi (w5.heap[w.heap.size]?=some (.cells (aH D S) 62)):=aF.nth n.o y.o 1 rfl;obtain⟨-,-,-,-,-,-,-,-,-,-,-,-,-,-,d,f,g,k⟩:=tb a.o;obtain rfl|rfl:FA=false∨FA=true:=by cases FA<;>simp
  ·go_wp2;go_returns;exact gA (by decide) (fun b=>absurd (b.p4 j.o).2.2.2 (of_decide_eq_false X.o)) n.o.1
  go_wp2_with fail
  (go_at_call 77;refine cy (H.o _) n fun w6 G=> ?_);clear d f g k;clear a;have a:Hi (w6.heap[w.heap.size]?=some (.cells (aH D S) 62)):=aF.nth G.o y.o 1 rfl;obtain rfl|rfl:z=false∨z=true:=by cases z<;>simp
  ·go_wp2;go_returns;exact gA (by decide) (fun b=>absurd (l.o.symm.trans b.va) (by decide)) G.o.1
  go_wp2;go_returns;exact DG (pC A.o B.o (by omega) (by omega) E.o C.o (fun h=>absurd (j.o.symm.trans h) (by decide)) (fun _=>⟨by omega,by omega,of_decide_eq_true X.o⟩) (fun _ h=>absurd j.o h) l.o) G.o.1
 ·have k1:(D.kd==1)=false:=by simpa using hk.1
  have k4:(D.kd==4)=false:=by simpa using hk.2
  have j:=ar hk;clear hk;by_cases l0:D.ln<1
  ·go_wp2;go_returns;exact gA (by decide) (fun b=>by have:=(b.p2 (by have:=j.o;have:=b.kd;omega)).2.2.2;omega) x.o.1
  have b6:decide (D.ln<1)=false:=decide_eq_false l0;by_cases l1:32768<D.ln
  ·go_wp2;go_returns;exact gA (by decide) (fun b=>by have:=(b.p2 (by have:=j.o;have:=b.kd;omega)).2.2.2;omega) x.o.1
  have b8:decide (32768<D.ln)=false:=decide_eq_false l1;go_wp2_with fail
  (go_at_call 77;refine cy (H.o _) x fun w5 n=> ?_);clear i t u r s o p q d f g k;clear a;have a:Hi (w5.heap[w.heap.size]?=some (.cells (aH D S) 62)):=aF.nth n.o y.o 1 rfl;obtain rfl|rfl:z=false∨z=true:=by cases z<;>simp
  ·go_wp2;go_returns;exact gA (by decide) (fun b=>absurd (l.o.symm.trans b.va) (by decide)) n.o.1
  go_wp2;go_returns;exact DG (pC A.o B.o (by omega) (by omega) E.o C.o (fun h=>absurd h j.o.1) (fun h=>absurd h j.o.2) (fun _ _=>by omega) l.o) n.o.1
end
end Go.Proofs.YtencnijahlkbaaaGreatDoor
