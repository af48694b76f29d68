/-
  Lemmas of this claim, joined. Conditions: as stated. By an AI agent.
-/
import Derived.Test.YtencnijahlkbaaaGreatDoorJ1
import Derived.Test.YtencnijahlkbaaaGreatDoorJ2
import Derived.Test.YtencnijahlkbaaaGreatDoorJ4
import Derived.Test.YtencnijahlkbaaaGreatDoorJ5
import Derived.Test.YtencnijahlkbaaaGreatDoorJ6
import Derived.Maps.RangeWalk
import Derived.Maps.Views
import Derived.StringKeys
import Derived.Maps.OwnSet
import Derived.Carry
import Derived.OwnWalk
import Derived.WalkMore
open Go.Act renaming put → aC
open Array renaming getElem?_eq_some_iff → av
open Go.RowKit.Below renaming refl → ah
open Bool renaming false_and → aI, true_and → aN, and_false → aL, false_or → aP, true_or → aW, or_false → aQ, eq_false_iff → cG
open Classical renaming byContradiction → aG
open Int renaming mul_nonneg → bE
open List renaming take_succ_cons → ac, take_zero → aj, drop_succ_cons → am, drop_zero → ax, setIfInBounds_toArray → aa, set_cons_zero → ae, set_cons_succ → af, mem_cons_self → bw, getElem?_eq_getElem → aS, getD_eq_getElem?_getD → aO, getElem?_append_left → cV, getElem?_append_right → cD, length_append → aZ, mem_cons → bj
open Nat renaming le_refl → aB, lt_of_lt_of_le → aM, le_trans → bW, reduceAdd → aE, reduceEqDiff → aA
open Go.Region renaming binds → ai, wanted → au
open Go.World renaming size_setCell → aT, size_alloc → aw
namespace Go.Proofs.YtencnijahlkbaaaGreatDoor
set_option maxHeartbeats 8000000
set_option maxRecDepth 100000
set_option linter.unusedVariables false
set_option linter.unusedSimpArgs false
open Go.Proofs.Tryz
section
open Go Go.RowKit Go.Maps Go.WideMaps
theorem iI:Maps.Keyed prog 9:=Maps.string_keyed underlying9
theorem vd {s:ByteArray} (h:s.size≤2147483648):keyOf prog 9 (.string s)=some (.string s.data.toList):=keyOf_string_mk underlying9 (by unfold maxLen;omega)
theorem ve {H:Type} {P:Program} {e:TypeId} (b:P.underlying e=some .bool) {v:Value} {z:DataW H×List MemPlace} (h:plainElem P e v=some z):∃a,v= .bool a∧z=(.lit (.bool a),[]):=by
 unfold plainElem at h;rw[b]at h;cases v<;>simp at h;exact⟨_,rfl,h.symm⟩
theorem qr {H:Type} {P:Program} {w:World} {t k e:TypeId} {b n:Nat} {D:DataW H} (h:w.ownsMap P k (plainElem P e) b n D) (K:Maps.Keyed P k) (l:P.underlying t=some (.map k e)) (i:P.underlying e=some .bool) (o:(zeroValue e).run P w= .ok (.bool false) w)
 {f:Value} {j:Lit} (a:keyOf P k f=some j):∃c:Bool,(Instr.lookup t (.map (some b)) f false).run P w= .ok (.bool c) w∧D.atKey j (.lit (.bool false))= .lit (.bool c):=by
 obtain⟨v,ps,d,m⟩:=h.lookup K l o (plainElem_bool i false) a;obtain⟨c,rfl,g⟩:=ve i m;simp only[Prod.mk.injEq]at g;exact⟨c,d,g.1⟩
theorem ua (w:World):(zeroValue 4).run prog w= .ok (.bool false) w:=by kernel_rfl
theorem Below.grow {W b:World} (h:Below W.heap.size W b) (a:Option Nat):W.grownBy b a:=⟨h.os,h.tape,h.output,h.size,fun i c _=>h.block i c⟩
def lw (w:World) (b n:Nat) (D:DataW Unit):Prop:=w.ownsMap prog 9 (plainElem prog 4) b n D
theorem lw.below {w w':World} {b n:Nat} {D:DataW Unit} (h:lw w b n D) (a:Below w.heap.size w w'):lw w' b n D:=World.ownsMap.kept h (Below.grow a none) (by simp)
def li (D:DataW Unit) (L:List (List UInt8)):Prop:=
 Maps.IsMap D∧∀s:ByteArray,s.size≤2147483648→D.atKey (.string s.data.toList) (.lit (.bool false))= .lit (.bool (decide (s.data.toList∈L)))
theorem li.nil:li (.map []) []:=⟨Maps.isMap_empty,fun s a=>by
 have h:Maps.has (.map []:DataW Unit) (.string s.data.toList)=false:=rfl;rw[Maps.atKey_of_not_has h];simp⟩
theorem li.put {D:DataW Unit} {L:List (List UInt8)} {s:ByteArray} (h:li D L) (b:s.size≤2147483648):li (D.put (.string s.data.toList) (.lit (.bool true))) (L++ [s.data.toList]):=by
 have e:=iI.key (vd b);refine⟨h.1.put _ _,fun f c=> ?_⟩;by_cases hfe:f.data.toList=s.data.toList
 ·rw[hfe,Maps.atKey_put_same h.1 e];simp
 ·have a:(Lit.string f.data.toList)≠ .string s.data.toList:=fun d=>hfe (by simpa using d);rw[Maps.atKey_put_other a,h.2 f c];simp[hfe]
theorem lw.look {w:World} {b n:Nat} {D:DataW Unit} {L:List (List UInt8)} (h:lw w b n D) (g:li D L) {s:ByteArray} (e:s.size≤2147483648):
 (Instr.lookup 200 (.map (some b)) (.string s) false).run prog w= .ok (.bool (decide (s.data.toList∈L))) w:=by
 obtain⟨c,a,f⟩:=qr (t:=200) h iI underlying200 underlying4 (ua w) (vd e);have d:=g.2 s e;rw[f]at d;have:c=decide (s.data.toList∈L):=by simpa using d
 rw[←this];exact a
theorem Bq (w:World):(zeroValue 3).run prog w= .ok (.int .i64 0) w:=by kernel_rfl
theorem kD {s t:ByteArray} (h:s.data.toList=t.data.toList):s=t:=by
 cases s;cases t;congr;exact Array.toList_inj.1 h
def mY (D:DataW Unit) (f:Nat→ByteArray) (n:Nat):Prop:=Maps.IsMap D∧(∀s:ByteArray,s.size≤2147483648→Maps.has D (.string s.data.toList)=bZ f n s∧(bZ f n s=true→D.atKey (.string s.data.toList) (.lit (.int .i64 0))= .lit (.int .i64 (el f n s))))∧∀kl,Maps.has D kl=true→∃i,i<n∧kl= .string (f i).data.toList
def gW (w:World) (b n:Nat) (f:Nat→ByteArray):Prop:=∃(m:Nat) (D:DataW Unit),m≤n∧w.ownsMap prog 9 (plainElem prog 3) b m D∧mY D f n
theorem gW.below {w w':World} {b n:Nat} {f:Nat→ByteArray} (h:gW w b n f) (e:Below w.heap.size w w'):gW w' b n f:=by
 obtain⟨m,D,a,c,d⟩:=h;exact⟨m,D,a,World.ownsMap.kept c (Below.grow e none) (by simp),d⟩
theorem mY.nil (f:Nat→ByteArray):mY (.map []) f 0:=⟨Maps.isMap_empty,fun s _=>⟨by unfold bZ;exact(df).symm,fun h=>absurd (of_decide_eq_true h) (by omega)⟩,fun a h=>by cases h⟩
theorem DL {f:Nat→ByteArray} {n:Nat} {s:ByteArray} (h:f n≠s):bZ f (n+1) s=bZ f n s∧(bZ f n s=true→el f (n+1) s=el f n s):=by
 cases e:bZ f n s with
 |true=>
  have d:=of_decide_eq_true e;have g:=dH (fun i=>(f i).toList==s.toList) n 0;have b:=ke (f:=f) (n:=n+1) (s:=s) (j:=el f n s) (by omega) (fun i c=>g.2.2.2 i (by omega) c) (by rw[le d];simp);exact⟨b.2,fun _=>b.1⟩
 |false=>
  refine⟨?_,fun h=>by cases h⟩;cases e2:bZ f (n+1) s with
  |false=>rfl
  |true=>
   obtain⟨i,c,a⟩:=jh.1 e2;by_cases hin:i=n
   ·rw[hin]at a;exact absurd a h
   ·rw[jh.2 ⟨i,by omega,a⟩]at e;cases e
theorem mY.put {D:DataW Unit} {f:Nat→ByteArray} {n:Nat} (h:mY D f n) (r:(f n).size≤2147483648) (hn:bZ f n (f n)=false):mY (D.put (.string (f n).data.toList) (.lit (.int .i64 n))) f (n+1):=by
 have m:=iI.key (vd r);refine⟨h.1.put _ _,fun s c=> ?_,fun o a=> ?_⟩;rotate_left
 ·by_cases e:o= .string (f n).data.toList
  ·exact⟨n,by omega,e⟩
  ·rw[Maps.has_put_other e]at a;obtain⟨i,l,k⟩:=h.2.2 o a;exact⟨i,by omega,k⟩
 by_cases e:s.data.toList=(f n).data.toList
 ·obtain rfl:=kD e;rw[Maps.has_put_same h.1 m];have p:bZ f (n+1) (f n)=true:=jh.2 ⟨n,by omega,rfl⟩;refine⟨p.symm,fun _=> ?_⟩;rw[Maps.atKey_put_same h.1 m];have g:=ke (f:=f) (n:=n+1) (s:=f n) (j:=n) (by omega) (fun i l=>by
   cases d:((f i).toList==(f n).toList)with
   |false=>rfl
   |true=>
    rw[jh.2 ⟨i,l,ee (by simpa using d)⟩]at hn;cases hn) (by simp)
  rw[g.1]
 ·have b:(Lit.string s.data.toList)≠ .string (f n).data.toList:=fun q=>e (by simpa using q);have g:=DL (f:=f) (n:=n) (s:=s) (fun k=>e (by rw[k]));rw[Maps.has_put_other b,Maps.atKey_put_other b,g.1];refine⟨(h.2.1 s c).1,fun d=> ?_⟩;rw[(h.2.1 s c).2 d,g.2 d]
theorem gW.look {w:World} {b n:Nat} {f:Nat→ByteArray} (h:gW w b n f) {s:ByteArray} (i:s.size≤2147483648):
 ∃c:Int,(Instr.lookup 194 (.map (some b)) (.string s) true).run prog w= .ok (.tuple #[c,.bool (bZ f n s)]) w∧(bZ f n s=true→c=(el f n s:Int)):=by
 obtain⟨m,D,-,j,k⟩:=h;obtain⟨v,ps,a,p⟩:=j.look_ok iI (t:=194) (e:=3) underlying194 (Bq w) (plainElem_int underlying3 (by decide)) (vd i);obtain⟨c,rfl,o,-⟩:=plainElem_int_inv underlying3 p;have g:=k.2.1 s i;rw[g.1]at a;refine⟨c,a,fun e=> ?_⟩;have l:=g.2 e;have d:=congrArg Prod.fst o;dsimp only at d;rw[l]at d;simpa using d.symm
end
section
open Go Go.Maps Go.WideMaps Go.ChangeShapes Go.WideShapes Go.RowKit Go.ChangeAt
def lT (W:World) (CB DB:Nat) (X:bK) (S:dq):Prop:=W.heap[CB]?=some (.cells #[.pointer (some DB)] 172)∧W.heap[DB]?=some (.cells (bH X S) 28)∧cJ W X S
theorem eB {w:World} {b:Nat} {o:Obj} (h:w.heap[b]?=some o):b<w.heap.size:=(av.1 h).1
theorem lT.below {W d:World} {a b:Nat} {X:bK} {S:dq} (h:lT W a b X S) (c:Below W.heap.size W d):lT d a b X S:=
 ⟨(c.block a (eB h.1)).trans h.1,(c.block b (eB h.2.1)).trans h.2.1,h.2.2.below c⟩
theorem vf (n:Int) (w:World):(Instr.makeMap 194 (some (.int .i64 n))).run prog w= .ok (.map (some w.heap.size)) (w.alloc (.map #[] 0)):=by kernel_rfl
def Hd (g:FuncId) (cap:Array Value) (f:Nat→ByteArray) (n:Nat) (w:World):Prop:=∀W i,Below w.heap.size w W→i<n→Calls prog g (#[.int .i64 (i:Int)]++cap) W (fun e w'=>e= .returned (.string (f i))∧Below W.heap.size W w')
theorem wI (X:bK) (S:dq) (c d i:Nat) (w:World) (h:lT w c d X S) (j:i<X.nn):
 Gv 150 #[.int .i64 (i:Int),.pointer (some c)] (.string (X.nI i)) w:=by
 have hn:=(h.2.2.n).lim;obtain⟨r,cn,s,n,A,t,cs,q,m,z,p,l⟩:=S;dsimp only at hn;obtain⟨e,f,g⟩:=h;obtain⟨y,-,-⟩:=dG e;have b:w.heap[d]?=some (.cells #[.string X.hull,.slice r X.nn cn,.slice s X.np n,.slice t X.ns cs,.slice q X.nk m,.slice p X.nd l] 28):=f;obtain⟨-,B,-,-,-,-,-,-⟩:=aJ b;obtain⟨k,o,rfl,-,a⟩:=bs.at (g.n) (fun _=>rfl) j;have u:w.cell? (k,o+i*3)=some (X.nI i):=a i j 0 _ rfl;have v:=dS i;have x:(i:Int)<(X.nn:Int):=by omega
 clear a e f b g;go_enter func150,ntmps150;go_wp2;go_returns;exact⟨rfl,by go_grown⟩
theorem Br (X:bK) (S:dq) (c d i:Nat) (w:World) (h:lT w c d X S) (j:i<X.nn):
 Gv 155 #[.int .i64 (i:Int),.pointer (some c)] (.string (X.nI i)) w:=by
 have hn:=(h.2.2.n).lim;obtain⟨r,cn,s,n,A,t,cs,q,m,z,p,l⟩:=S;dsimp only at hn;obtain⟨e,f,g⟩:=h;obtain⟨y,-,-⟩:=dG e;have b:w.heap[d]?=some (.cells #[.string X.hull,.slice r X.nn cn,.slice s X.np n,.slice t X.ns cs,.slice q X.nk m,.slice p X.nd l] 28):=f;obtain⟨-,B,-,-,-,-,-,-⟩:=aJ b;obtain⟨k,o,rfl,-,a⟩:=bs.at (g.n) (fun _=>rfl) j;have u:w.cell? (k,o+i*3)=some (X.nI i):=a i j 0 _ rfl;have v:=dS i;have x:(i:Int)<(X.nn:Int):=by omega
 clear a e f b g;go_enter func155,ntmps155;go_wp2;go_returns;exact⟨rfl,by go_grown⟩
theorem wJ (X:bK) (S:dq) (c d i:Nat) (w:World) (h:lT w c d X S) (j:i<X.np):
 Gv 151 #[.int .i64 (i:Int),.pointer (some c)] (.string (X.pI i)) w:=by
 have hn:=(h.2.2.p).lim;obtain⟨r,cn,s,n,A,t,cs,q,m,z,p,l⟩:=S;dsimp only at hn;obtain⟨e,f,g⟩:=h;obtain⟨y,-,-⟩:=dG e;have b:w.heap[d]?=some (.cells #[.string X.hull,.slice r X.nn cn,.slice s X.np n,.slice t X.ns cs,.slice q X.nk m,.slice p X.nd l] 28):=f;obtain⟨-,-,B,-,-,-,-,-⟩:=aJ b;obtain⟨k,o,rfl,-,a⟩:=bs.at (g.p) (fun _=>rfl) j;have u:w.cell? (k,o+i*18)=some (X.pI i):=a i j 0 _ rfl;have v:=dS i;have x:(i:Int)<(X.np:Int):=by omega
 clear a e f b g;go_enter func151,ntmps151;go_wp2;go_returns;exact⟨rfl,by go_grown⟩
theorem Bs (X:bK) (S:dq) (c d i:Nat) (w:World) (h:lT w c d X S) (j:i<X.np):
 Gv 156 #[.int .i64 (i:Int),.pointer (some c)] (.string (X.pI i)) w:=by
 have hn:=(h.2.2.p).lim;obtain⟨r,cn,s,n,A,t,cs,q,m,z,p,l⟩:=S;dsimp only at hn;obtain⟨e,f,g⟩:=h;obtain⟨y,-,-⟩:=dG e;have b:w.heap[d]?=some (.cells #[.string X.hull,.slice r X.nn cn,.slice s X.np n,.slice t X.ns cs,.slice q X.nk m,.slice p X.nd l] 28):=f;obtain⟨-,-,B,-,-,-,-,-⟩:=aJ b;obtain⟨k,o,rfl,-,a⟩:=bs.at (g.p) (fun _=>rfl) j;have u:w.cell? (k,o+i*18)=some (X.pI i):=a i j 0 _ rfl;have v:=dS i;have x:(i:Int)<(X.np:Int):=by omega
 clear a e f b g;go_enter func156,ntmps156;go_wp2;go_returns;exact⟨rfl,by go_grown⟩
theorem wK (X:bK) (S:dq) (c d i:Nat) (w:World) (h:lT w c d X S) (j:i<X.ns):
 Gv 152 #[.int .i64 (i:Int),.pointer (some c)] (.string (X.sI i)) w:=by
 have hn:=(h.2.2.s).lim;obtain⟨r,cn,s,n,A,t,cs,q,m,z,p,l⟩:=S;dsimp only at hn;obtain⟨e,f,g⟩:=h;obtain⟨y,-,-⟩:=dG e;have b:w.heap[d]?=some (.cells #[.string X.hull,.slice r X.nn cn,.slice s X.np n,.slice t X.ns cs,.slice q X.nk m,.slice p X.nd l] 28):=f;obtain⟨-,-,-,B,-,-,-,-⟩:=aJ b;obtain⟨k,o,rfl,-,a⟩:=bs.at (g.s) (fun _=>rfl) j;have u:w.cell? (k,o+i*6)=some (X.sI i):=a i j 0 _ rfl;have v:=dS i;have x:(i:Int)<(X.ns:Int):=by omega
 clear a e f b g;go_enter func152,ntmps152;go_wp2;go_returns;exact⟨rfl,by go_grown⟩
theorem Bt (X:bK) (S:dq) (c d i:Nat) (w:World) (h:lT w c d X S) (j:i<X.ns):
 Gv 157 #[.int .i64 (i:Int),.pointer (some c)] (.string (X.sI i)) w:=by
 have hn:=(h.2.2.s).lim;obtain⟨r,cn,s,n,A,t,cs,q,m,z,p,l⟩:=S;dsimp only at hn;obtain⟨e,f,g⟩:=h;obtain⟨y,-,-⟩:=dG e;have b:w.heap[d]?=some (.cells #[.string X.hull,.slice r X.nn cn,.slice s X.np n,.slice t X.ns cs,.slice q X.nk m,.slice p X.nd l] 28):=f;obtain⟨-,-,-,B,-,-,-,-⟩:=aJ b;obtain⟨k,o,rfl,-,a⟩:=bs.at (g.s) (fun _=>rfl) j;have u:w.cell? (k,o+i*6)=some (X.sI i):=a i j 0 _ rfl;have v:=dS i;have x:(i:Int)<(X.ns:Int):=by omega
 clear a e f b g;go_enter func157,ntmps157;go_wp2;go_returns;exact⟨rfl,by go_grown⟩
theorem wL (X:bK) (S:dq) (c d i:Nat) (w:World) (h:lT w c d X S) (j:i<X.nk):
 Gv 153 #[.int .i64 (i:Int),.pointer (some c)] (.string (X.kI i)) w:=by
 have hn:=(h.2.2.k).lim;obtain⟨r,cn,s,n,A,t,cs,q,m,z,p,l⟩:=S;dsimp only at hn;obtain⟨e,f,g⟩:=h;obtain⟨y,-,-⟩:=dG e;have b:w.heap[d]?=some (.cells #[.string X.hull,.slice r X.nn cn,.slice s X.np n,.slice t X.ns cs,.slice q X.nk m,.slice p X.nd l] 28):=f;obtain⟨-,-,-,-,B,-,-,-⟩:=aJ b;obtain⟨k,o,rfl,-,a⟩:=bs.at (g.k) (fun _=>rfl) j;have u:w.cell? (k,o+i*5)=some (X.kI i):=a i j 0 _ rfl;have v:=dS i;have x:(i:Int)<(X.nk:Int):=by omega
 clear a e f b g;go_enter func153,ntmps153;go_wp2;go_returns;exact⟨rfl,by go_grown⟩
theorem Bu (X:bK) (S:dq) (c d i:Nat) (w:World) (h:lT w c d X S) (j:i<X.nk):
 Gv 158 #[.int .i64 (i:Int),.pointer (some c)] (.string (X.kI i)) w:=by
 have hn:=(h.2.2.k).lim;obtain⟨r,cn,s,n,A,t,cs,q,m,z,p,l⟩:=S;dsimp only at hn;obtain⟨e,f,g⟩:=h;obtain⟨y,-,-⟩:=dG e;have b:w.heap[d]?=some (.cells #[.string X.hull,.slice r X.nn cn,.slice s X.np n,.slice t X.ns cs,.slice q X.nk m,.slice p X.nd l] 28):=f;obtain⟨-,-,-,-,B,-,-,-⟩:=aJ b;obtain⟨k,o,rfl,-,a⟩:=bs.at (g.k) (fun _=>rfl) j;have u:w.cell? (k,o+i*5)=some (X.kI i):=a i j 0 _ rfl;have v:=dS i;have x:(i:Int)<(X.nk:Int):=by omega
 clear a e f b g;go_enter func158,ntmps158;go_wp2;go_returns;exact⟨rfl,by go_grown⟩
theorem jV (g:FuncId) (cap:Value) (f:Nat→ByteArray) (n:Nat) (w:World) (eg:∀d w,(callFunc g d).run prog w= .ok (.enter g d) w) (h:Hi (Hd g #[cap] f n w)) (hn:n≤256) (X:Hi (∀i,i<n→(f i).size≤2147483648)) (T:Hi (∀i,i<n→bZ f i (f i)=false)):
 Calls prog 149 #[.int .i64 (n:Int),.func (.func g) #[] #[cap]] w fun e w'=>∃b,e= .returned (.map (some b))∧gW w' b n f∧Below w.heap.size w w':=by
 have L:=vf;go_enter func149,ntmps149;go_wp2;clear L;go_loopw[12] (fun i wr=>∃(j:Nat) (D:DataW Unit),j≤n∧i= .int .i64 j∧Hi (wr.ownsMap prog 9 (plainElem prog 3) w.heap.size j D)∧Hi (mY D f j)∧Below w.heap.size w wr) (fun i _=>n-(intOf i).toNat)
 case atStart=>exact⟨0,.map [],by omega,rfl,World.ownsMap_made _ _ _ _,mY.nil f,by go_grown⟩
 case round=>
  obtain⟨Y,rfl⟩:=wE wr;obtain⟨j,D,hj,rfl,N,F,P⟩:=hrel;have C:=ar P;clear P;by_cases hlt:j<n
  ·obtain⟨s,a⟩:=oE (f j);have l:=ar a;have u:Hi (∀W,Below w.heap.size w W→Calls prog g #[.int .i64 (j:Int),cap] W (fun e w'=>e= .returned (.string s)∧Below W.heap.size W w')):=fun W R=>by rw[←a];exact h.o W j R hlt
   have B:s.size≤2147483648:=by rw[←a];exact X.o j hlt
   have z:bZ f j s=false:=by rw[←a];exact T.o j hlt
   have v:=ar z;have m:=ar B;clear a B z;go_wp2_with fail
   (go_at_fn g;refine(u.o _ C.o).mono ?_;rintro Q w2 ⟨rfl,o⟩);have r:=ar (ag C.o o);have x:=ar (World.ownsMap.kept N.o (Below.grow o none) (by simp));clear o;obtain⟨c,k,-⟩:=gW.look (b:=w.heap.size) (n:=j) (f:=f) ⟨_,D,aB _,x.o,F.o⟩ m.o;rw[v.o]at k;go_wp2_with fail
   (go_at_fn g;refine(u.o _ r.o).mono ?_;rintro Q w3 ⟨rfl,p⟩);have t:=ar (ag r.o p);have I:=ar (World.ownsMap.kept x.o (Below.grow p none) (by simp));clear p k;go_wp2_with (first
    |(at_mapUpdate;refine wpList_mapUpdate_own _ rfl _ _ _ 194 rfl 9 3 iI underlying194 _ w.heap.size j _ rfl I.o (by unfold maxLen;omega) (.string s) _ _ rfl rfl (vd m.o) _ [] (plainElem_int underlying3 (by simp[Lit.wf,IntKind.min,IntKind.max,IntKind.signed,IntKind.bits];omega)) ?_;intro Z y A;go_frame)
    |fail)
   have E:Hi (Below w.heap.size w Z):=Below.grown t.o A t.o.size (fun q U=>by have:=Option.some.inj U;omega);have G:Hi (mY (D.put (.string s.data.toList) (.lit (.int .i64 (j:Int)))) f (j+1)):=by
    have O:=mY.put F.o (by rw[l.o];exact m.o) (by rw[l.o];exact v.o);rw[l.o]at O;exact O
   have J:=ar y;clear y A;go_wp2;go_roundw
   case rel=>exact⟨j+1,_,by omega,by go_num,J.o,G.o,E.o⟩
   case measure=>simp[intOf];omega
  ·have K:j=n:=by omega
   have H:Hi (gW Y w.heap.size n f):=⟨_,D,by omega,N.o,by rw[←K];exact F.o⟩;go_wp2;go_returns;exact⟨_,rfl,H.o,C.o⟩
def ff (W:World) (TB DB:Nat) (X:bK) (S:dq):Prop:=∃b1 b2 b3 b4,W.heap[TB]?=some (.cells #[.pointer (some DB),.map (some b1),.map (some b2),.map (some b3),.map (some b4)] 198)∧gW W b1 X.nn X.nI∧gW W b2 X.np X.pI∧gW W b3 X.ns X.sI∧gW W b4 X.nk X.kI∧W.heap[DB]?=some (.cells (bH X S) 28)∧cJ W X S
theorem ff.below {W d:World} {c b:Nat} {X:bK} {S:dq} (h:ff W c b X S) (a:Below W.heap.size W d):ff d c b X S:=by
 obtain⟨g,b2,b3,b4,e,i,j,k,l,f,m⟩:=h;exact⟨g,b2,b3,b4,(a.block c (eB e)).trans e,i.below a,j.below a,k.below a,l.below a,(a.block b (eB f)).trans f,m.below a⟩
def ay.imap (n:Nat) (f:Nat→ByteArray):ay:=⟨fun v w=>∃b,v= .map (some b)∧gW w b n f,fun v w w' hb h=>by obtain⟨b,h1,h2⟩:=h;exact⟨b,h1,h2.below hb⟩⟩
theorem qX {f:Nat→ByteArray} {n i:Nat} (h:fG f n) (b:i<n):bZ f i (f i)=false:=by
 cases e:bZ f i (f i)with
 |false=>rfl
 |true=>
  obtain⟨j,c,a⟩:=jh.1 e;have:=mF h (by omega) b a;omega
theorem yA (X:bK) (S:dq) (c:Nat) (w:World) (h:Hi (cJ w X S)) (B:w.heap[c]?=some (.cells (bH X S) 28)) (l:Hi (eY X)) (C:Hi (fG X.nI X.nn∧fG X.pI X.np∧fG X.sI X.ns∧fG X.kI X.nk)):
 Calls prog 118 #[.pointer (some c)] w fun e w'=>∃Y,e= .returned (.pointer (some ⟨Y,0,none⟩))∧ff w' Y c X S∧Below w.heap.size w w':=by
 have x:c<w.heap.size:=eB B;have U:=ar B;have n:Hi (lT (w.alloc (.cells #[.pointer (some c)] 172)) w.heap.size c X S):=⟨bf _ _ _ rfl,(aV _ _ _ x).trans B,h.o.below ((ah _ _).alloc (aB _) _)⟩;have K:Hi (∀W,Below (w.alloc (.cells #[.pointer (some c)] 172)).heap.size (w.alloc (.cells #[.pointer (some c)] 172)) W→Calls prog 149 #[.int .i64 (X.nn:Int),.func (.func 150) #[] #[.pointer (some w.heap.size)]] W (fun e w'=>∃b,e= .returned (.map (some b))∧gW w' b X.nn X.nI∧Below W.heap.size W w')):=fun W k=>
  jV 150 (.pointer (some w.heap.size)) X.nI X.nn W (enters_of func150 (by kernel_rfl) rfl) (fun o j f r=>wI X S w.heap.size c j o (n.o.below (ag k f)) r) (by have:=l.o.few;omega) (fun i a=>by have:=(l.o.n i a).1;show(X.N i).id.size≤_;omega) (fun i a=>qX C.o.1 a)
 have L:Hi (∀W,Below (w.alloc (.cells #[.pointer (some c)] 172)).heap.size (w.alloc (.cells #[.pointer (some c)] 172)) W→Calls prog 149 #[.int .i64 (X.np:Int),.func (.func 151) #[] #[.pointer (some w.heap.size)]] W (fun e w'=>∃b,e= .returned (.map (some b))∧gW w' b X.np X.pI∧Below W.heap.size W w')):=fun W k=>
  jV 151 (.pointer (some w.heap.size)) X.pI X.np W (enters_of func151 (by kernel_rfl) rfl) (fun o j f r=>wJ X S w.heap.size c j o (n.o.below (ag k f)) r) (by have:=l.o.few;omega) (fun i a=>by have:=(l.o.p i a).1;show(X.D i).id.size≤_;omega) (fun i a=>qX C.o.2.1 a)
 have N:Hi (∀W,Below (w.alloc (.cells #[.pointer (some c)] 172)).heap.size (w.alloc (.cells #[.pointer (some c)] 172)) W→Calls prog 149 #[.int .i64 (X.ns:Int),.func (.func 152) #[] #[.pointer (some w.heap.size)]] W (fun e w'=>∃b,e= .returned (.map (some b))∧gW w' b X.ns X.sI∧Below W.heap.size W w')):=fun W k=>
  jV 152 (.pointer (some w.heap.size)) X.sI X.ns W (enters_of func152 (by kernel_rfl) rfl) (fun o j f r=>wK X S w.heap.size c j o (n.o.below (ag k f)) r) (by have:=l.o.few;omega) (fun i a=>by have:=(l.o.s i a).1;show(X.Q i).id.size≤_;omega) (fun i a=>qX C.o.2.2.1 a)
 have O:Hi (∀W,Below (w.alloc (.cells #[.pointer (some c)] 172)).heap.size (w.alloc (.cells #[.pointer (some c)] 172)) W→Calls prog 149 #[.int .i64 (X.nk:Int),.func (.func 153) #[] #[.pointer (some w.heap.size)]] W (fun e w'=>∃b,e= .returned (.map (some b))∧gW w' b X.nk X.kI∧Below W.heap.size W w')):=fun W k=>
  jV 153 (.pointer (some w.heap.size)) X.kI X.nk W (enters_of func153 (by kernel_rfl) rfl) (fun o j f r=>wL X S w.heap.size c j o (n.o.below (ag k f)) r) (by have:=l.o.few;omega) (fun i a=>by have:=(l.o.k i a).1;show(X.K i).id.size≤_;omega) (fun i a=>qX C.o.2.2.2 a)
 clear B;have HG:Hi (∀W,Below w.heap.size w W→W.heap[c]?=some (.cells (bH X S) 28)∧cJ W X S):=fun W k=>⟨(k.block c x).trans U.o,h.o.below k⟩;have F:Hi (w.heap[c]?=some (.cells #[.string X.hull,.slice S.on X.nn S.cn,.slice S.op X.np S.cp,.slice S.os X.ns S.cs,.slice S.ok X.nk S.ck,.slice S.od X.nd S.cd] 28)):=U.o;obtain⟨-,x1,x2,x3,x4,-,-,-⟩:=aJ F.o;go_enter func118,ntmps118;go_wp2_with fail
 refine aD 29 ?_;simp only[ac,aj,aK,aC,aa,ae,af];iterate 7 refine bJ ?_
 refine bG (ay.imap X.nn X.nI) ?_ ?_
 ·intro u T l P Q d q;simp[aU,ai,aR,ay.is,ay.any]at q;refine⟨by simp[au],?_⟩;go_simp
  go_at_call 149;refine(K.o _ d.o).mono ?_;rintro e R ⟨b,rfl,a,g⟩;exact⟨_,rfl,g,b,rfl,a⟩
 iterate 6 refine bJ ?_
 refine bG (ay.imap X.np X.pI) ?_ ?_
 ·intro u T l P Q d q;simp[aU,ai,aR,ay.is,ay.any]at q;refine⟨by simp[au],?_⟩;go_simp
  go_at_call 149;refine(L.o _ d.o).mono ?_;rintro e R ⟨b,rfl,a,g⟩;exact⟨_,rfl,g,b,rfl,a⟩
 iterate 6 refine bJ ?_
 refine bG (ay.imap X.ns X.sI) ?_ ?_
 ·intro u T l P Q d q;simp[aU,ai,aR,ay.is,ay.any]at q;refine⟨by simp[au],?_⟩;go_simp
  go_at_call 149;refine(N.o _ d.o).mono ?_;rintro e R ⟨b,rfl,a,g⟩;exact⟨_,rfl,g,b,rfl,a⟩
 iterate 6 refine bJ ?_
 refine bG (ay.imap X.nk X.kI) ?_ ?_
 ·intro u T l P Q d q;simp[aU,ai,aR,ay.is,ay.any]at q;refine⟨by simp[au],?_⟩;go_simp
  go_at_call 149;refine(O.o _ d.o).mono ?_;rintro e R ⟨b,rfl,a,g⟩;exact⟨_,rfl,g,b,rfl,a⟩
 intro u D k p;obtain⟨b0,Z,G⟩:∃b,u 7= .map (some b)∧gW D b X.nn X.nI:=eS p 7;obtain⟨b1,s,H⟩:∃b,u 14= .map (some b)∧gW D b X.np X.pI:=eS p 14;obtain⟨b2,t,I⟩:∃b,u 21= .map (some b)∧gW D b X.ns X.sI:=eS p 21;obtain⟨b3,v,J⟩:∃b,u 28= .map (some b)∧gW D b X.nk X.kI:=eS p 28;simp only[cF,aR,ay.is,aE,aA,reduceIte]at p;simp only[am,ax,ac,aj,aK,aC,aa,ae,af,Z,s,t,v,p];clear Z s t v p;have m:=ar (ag (w:=w) (by first|assumption|go_grown) k);obtain⟨a1,a0,y,z,E⟩:=pr k;clear k;clear x1 x2 x3 x4 y z;go_wp2;go_returns;have A:=m.o.size;refine⟨_,rfl,⟨b0,b1,b2,b3,bf _ _ _ rfl,G.below ((ah _ _).alloc (aB _) _),H.below ((ah _ _).alloc (aB _) _),I.below ((ah _ _).alloc (aB _) _),J.below ((ah _ _).alloc (aB _) _),HG.o _ (m.o.alloc A _)⟩,m.o.alloc A _⟩
theorem iJ (g:FuncId) (cap:Value) (f:Nat→ByteArray) (n:Nat) (w:World) (x:∀a w,(callFunc g a).run prog w= .ok (.enter g a) w) (h:Hi (Hd g #[cap] f n w)) (hn:n≤1000) (t:Hi (fG f n)):
 Gv 154 #[(n:Int),.func (.func g) #[] #[cap]] (.bool true) w:=by
 go_enter func154,ntmps154;go_wp2;go_loopw[5] (fun i wr=>∃j:Nat,1≤j∧(j≤n∨j=1)∧i= .int .i64 j∧Hi (Below w.heap.size w wr)) (fun i _=>n-(intOf i).toNat)
 case atStart=>exact⟨1,by omega,.inr rfl,rfl,ah _ _⟩
 case round=>
  obtain⟨z,rfl⟩:=wE wr;obtain⟨j,u,-,rfl,l⟩:=hrel;by_cases hlt:j<n
  ·obtain⟨k,v⟩:∃k:Nat,k+1=j:=⟨j-1,by omega⟩;have o:Hi (∀W,Below w.heap.size w W→Calls prog g #[(j:Int),cap] W (fun e w'=>e= .returned (.string (f j))∧Below W.heap.size W w')):=fun W r=>h.o W j r hlt;have p:Hi (∀W,Below w.heap.size w W→Calls prog g #[.int .i64 ((j:Int)-1),cap] W (fun e w'=>e= .returned (.string (f k))∧Below W.heap.size W w')):=fun W r=>by rw[show(j:Int)-1=(k:Int)by omega];exact h.o W k r (by omega)
   have y:(Op.bytesLess (f j).toList (f k).toList||(f j).toList==(f k).toList)=false:=by
    have q:=t.o j (by omega) hlt;rw[show j-1=k by omega]at q;rw[sq];unfold tj at q;rw[q];rfl
   clear v;go_wp2_with fail
   (go_at_fn g;refine(o.o _ l.o).mono ?_;rintro s A ⟨rfl,c⟩);have b:=ar (ag l.o c);clear c;go_wp2_with fail
   (go_at_fn g;refine(p.o _ b.o).mono ?_;rintro s B ⟨rfl,d⟩);have m:=ar (ag b.o d);clear d;go_wp2;go_roundw
   case rel=>exact⟨j+1,by omega,by omega,by go_num,m.o⟩
   case measure=>simp[intOf];omega
  ·go_wp2;go_returns;exact⟨rfl,l.o⟩
theorem qs (o:Option Addr) (n c:Nat) (w:World):Calls prog 163 #[.slice o n c] w (fun e w'=>e= .returned (.func (.func 206) #[] #[.pointer (some w.heap.size)])∧w'.heap[w.heap.size]?=some (.cells #[.slice o n c] 67)∧Below w.heap.size w w'):=by
 go_enter func163,ntmps163;go_wp2;go_returns;exact⟨rfl,bf _ _ _ rfl,by go_grown⟩
theorem vh (o:Option Addr) (n c:Nat) (f:Nat→ByteArray) (b i:Nat) (w:World) (h:w.heap[b]?=some (.cells #[.slice o n c] 67)) (e:bs w (.slice o n c) n 1 (fun j=>#[.string (f j)])) (d:i<n):
 Gv 206 #[(i:Int),.pointer (some b)] (.string (f i)) w:=by
 obtain⟨q,-,-⟩:=dG h;obtain⟨g,k,rfl,-,a⟩:=bs.at e (fun _=>rfl) d;have l:w.cell? (g,k+i)=some (f i):=by have:=a i d 0 _ rfl;rwa [Nat.mul_one,Nat.add_zero]at this
 have m:=dS i;have p:(i:Int)<(n:Int):=by omega
 clear a h e;go_enter func206,ntmps206;go_wp2;go_returns;exact⟨rfl,by go_grown⟩
theorem oM (o:Option Addr) (n c:Nat) (f:Nat→ByteArray) (b:Nat) (w:World) (h:w.heap[b]?=some (.cells #[.slice o n c] 67)) (e:bs w (.slice o n c) n 1 (fun j=>#[.string (f j)])):Hd 206 #[.pointer (some b)] f n w:=
 fun W i a d=>vh o n c f b i W ((a.block b (eB h)).trans h) (e.below a) d
theorem Bv (X:bK) (S:dq) (l g:Nat) (s:ByteArray) (w:World) (h:Hi (ff w l g X S)) (G:s.size≤2147483648) (R:X.nn≤40):
 Gv 197 #[.pointer (some l),.string s] (.tuple #[.agg (eM X s).c,.bool (bZ X.nI X.nn s)]) w:=by
 obtain⟨N,b2,b3,b4,t,u,-,-,-,x,y⟩:=h.o;have p:=ar t;have q:=ar x;have r:=ar y;have z:=ar u;clear t u x y;have E:l<w.heap.size:=eB p.o;have D:g<w.heap.size:=eB q.o;obtain⟨J,cn,K,C,Y,L,cs,I,B,W,H,A⟩:=S;have hn:=(r.o.n).lim;dsimp only at hn;have i:Hi (w.heap[g]?=some (.cells #[.string X.hull,.slice J X.nn cn,.slice K X.np C,.slice L X.ns cs,.slice I X.nk B,.slice H X.nd A] 28)):=q.o;obtain⟨y0,y1,-,-,-,-,-⟩:=bM p.o;obtain⟨-,Z,-,-,-,-,-,-⟩:=aJ i.o;obtain⟨c,b,o⟩:=gW.look (z.o.below (w':=w.alloc (.cells #["",(), ""] 64)) ((ah _ _).alloc (aB _) _)) G;cases e:bZ X.nI X.nn s with
 |false=>
  rw[e]at b;have k:Hi (eM X s=⟨⟨#[]⟩,0,⟨#[]⟩⟩):=by
   show _=_;unfold eM;rw[if_neg (by rw[e];decide)]
  clear o e;go_enter func197,ntmps197;go_wp2
  all_goals (refine bodyPost_ret (v:= .tuple #[.agg #["",(), ""],.bool false]) (by simp[results,results197,go_sem, *]) rfl ?_)
  rw[k.o];exact⟨rfl,by go_grown⟩
 |true=>
  rw[e]at b;obtain rfl:=o e;obtain⟨j,f⟩:=oE (el X.nI X.nn s);have d:j<X.nn:=by rw[←f];exact of_decide_eq_true e
  have k:Hi (eM X s=X.N j):=by
   show _=_;unfold eM;rw[if_pos e,f]
  rw[f]at b;clear o e f;obtain⟨m,n,rfl,F,a⟩:=bs.at (r.o.n) (fun _=>rfl) d;have O:w.cell? (m,n+j*3)=some (.string (X.N j).id):=a j d 0 _ rfl;have P:w.cell? (m,n+j*3+1)=some (.int .i64 (X.N j).kd):=a j d 1 _ rfl;have Q:w.cell? (m,n+j*3+2)=some (.string (X.N j).up):=a j d 2 _ rfl;have T:=dS j;have U:(j:Int)<(X.nn:Int):=by omega
  clear a;go_enter func197,ntmps197;go_wp2
  all_goals (refine bodyPost_ret (v:= .tuple #[.agg (X.N j).c,.bool true]) (by simp[results,results197,go_sem,mW.c, *]) rfl ?_)
  rw[k.o];exact⟨rfl,by go_grown⟩
theorem qu (X:bK) (S:dq) (o m:Nat) (s:ByteArray) (w:World) (h:Hi (ff w o m X S)) (D:s.size≤2147483648) (N:X.nn≤40):
 Gv 162 #[.pointer (some o),.string s] (.bool (dU X s)) w:=by
 obtain⟨J,b2,b3,b4,p,q,-,-,-,r,t⟩:=h.o;have u:=ar p;have x:=ar r;have n:=ar t;have v:=ar q;clear p q r t;obtain⟨G,cn,H,B,T,I,cs,F,A,R,E,z⟩:=S;have hn:=(n.o.n).lim;dsimp only at hn;have g:Hi (w.heap[m]?=some (.cells #[.string X.hull,.slice G X.nn cn,.slice H X.np B,.slice I X.ns cs,.slice F X.nk A,.slice E X.nd z] 28)):=x.o;obtain⟨W,Y,-,-,-,-,-⟩:=bM u.o;obtain⟨-,U,-,-,-,-,-,-⟩:=aJ g.o;obtain⟨c,a,l⟩:=gW.look v.o D;cases e:bZ X.nI X.nn s with
 |false=>
  rw[e]at a;have i:Hi (dU X s=false):=by
   show _=_;unfold dU;rw[e];rfl
  clear l e;go_enter func162,ntmps162;go_wp2;go_returns;rw[i.o];exact⟨rfl,by go_grown⟩
 |true=>
  rw[e]at a;obtain rfl:=l e;obtain⟨j,f⟩:=oE (el X.nI X.nn s);have d:j<X.nn:=by rw[←f];exact of_decide_eq_true e
  obtain⟨K,k⟩:=oE (decide ((X.N j).kd=1));have i:Hi (dU X s=K):=by
   show _=_;unfold dU;rw[e,f,k];rfl
  rw[f]at a;clear l e f;obtain⟨y,C,rfl,-,b⟩:=bs.at (n.o.n) (fun _=>rfl) d;have L:w.cell? (y,C+j*3+1)=some (.int .i64 (X.N j).kd):=b j d 1 _ rfl;have O:=dS j;have P:(j:Int)<(X.nn:Int):=by omega
  have Q:((X.N j).kd==1)=K:=by rw[←k];rfl
  clear b k;go_enter func162,ntmps162;go_wp2;go_returns;rw[i.o];exact⟨rfl,by go_grown⟩
theorem Bw (X:bK) (S:dq) (r G:Nat) (s:ByteArray) (w:World) (h:Hi (ff w r G X S)) (hs:s.size≤1048576) (hz:Hi (eY X)):
 Calls prog 196 #[.func (.func 197) #[.pointer (some r)] #[],.string s] w (gj X s w):=by
 obtain⟨i0,hi,R,T,U⟩:=info_parts iQ;have h0:ff w r G X S:=h.o;have HN:Hi (∀W q,Below w.heap.size w W→q.size≤1048576→Gv 197 #[.pointer (some r),.string q] (.tuple #[.agg (eM X q).c,.bool (bZ X.nI X.nn q)]) W):=fun W q N A=>Bv X S r G q W (h0.below N) (by omega) hz.o.few.1;clear h h0;go_enter func196,ntmps196;go_wp2;go_loopw[1,6,9] (fun b v i wr=>∃(k:Nat) (q:ByteArray) (l:List ByteArray),k≤65∧b= .string q∧i= .int .i64 k∧Hi (q.size≤1048576)∧Hi (l.length=k)∧Hi (gV X (65-k) q l=jr X s)∧Hi (wr.ownsRow w.heap.size 9 1 v l.length (l.map Value.string))∧Below w.heap.size w wr) (fun _ _ i _=>65-(intOf i).toNat)
 case atStart=>exact⟨0,s,[],by omega,rfl,rfl,hs,rfl,by show gV X 65 s []=jr X s;unfold gV jr;cases gU X 65 s<;>simp,World.ownsRow_nil _ _ _ _,ah _ _⟩
 case round=>
  obtain⟨w2,rfl⟩:=wE wr;obtain⟨k,b,l,o,rfl,rfl,P,p,A,hR,hB⟩:=hrel;have H:=ar hB;clear hB;by_cases hlt:k≤64
  ·have O:(k:Int)<65:=by omega
   obtain⟨V,K⟩:=oE (eM X b);obtain⟨E,J⟩:=oE (bZ X.nI X.nn b);have HV:=ar K;have t:=ar J;have HC:Hi (∀W,Below w.heap.size w W→Gv 197 #[.pointer (some r),.string b] (.tuple #[.agg #[.string V.id,V.kd,.string V.up],.bool E]) W):=fun W N=>by
    have:=HN.o W b N P.o;rw[K,J]at this;exact this
   clear K J;go_wp2_with fail
   (go_at_call 197;refine mz (HC.o _ H.o) fun Y n=> ?_);have f:=ar (ag H.o n);have g:=ar (bD hR.o n);have z3:=f.o.size;clear n;cases E with
   |false=>
    have m:Hi (jr X s=none):=by
     show _=_;rw[←A.o,show 65-k=(64-k)+1 by omega];exact qh t.o
    go_wp2;go_returns;unfold gj;rw[m.o];exact⟨_,rfl,oI _,by have:=f.o;go_grown⟩
   |true=>
    have z:el X.nI X.nn b<X.nn:=of_decide_eq_true t.o;have C:Hi (X.N (el X.nI X.nn b)=V):=by
     show _=_;rw[←HV.o];unfold eM;rw[if_pos t.o]
    have I:Hi (V.up.size≤1048576):=by rw[←C.o];exact(hz.o.n _ z).2
    clear z;go_wp2_with (first|(at_builtin;refine wpList_append_own _ rfl _ _ 67 rfl (w.heap.size) 9 i0 (.string ⟨#[]⟩) 1 16 underlying67 hi R T U rfl (by decide) _ _ _ rfl ((g.o.alloc _).alloc _) ⟨Y.heap.size+1,0,none⟩ 1 1 [(.string b)] rfl rfl ?c1 ?c2 ?c3 ?c4 ?c5 ?_)|go_in)
    case c1=>
     intro j u D
     match j,D with
     |0,D=>
      simp at D;subst D;simp[Addr.add]
      first|done|rfl|(simp[go_sem];done)
    case c2=>intro u Q;simp at Q;(first|(subst Q;rfl)|(rcases Q with rfl<;>rfl))
    case c3=>unfold maxLen;have:=p.o;omega
    case c4=>have:=p.o;omega
    case c5=>have:=f.o.size;simp;omega
    intro v' F d a _;have Z:Hi (Below w.heap.size w F):=(aF.row (B:=w.heap.size) (aF.step (aF.nil f.o) (by go_grown)) (fun x hx=>by cases hx) (aB _) g.o a).1;have L:Hi (F.heap[Y.heap.size]?=some (.cells #[.string V.id,V.kd,.string V.up] 64)):=(a.block Y.heap.size (by first|(simp;done)|(simp;omega)) (fun e=>by have:=(eh g.o e.symm).2;omega)).trans ((aV _ _ _ (by first|(simp;done)|(simp;omega))).trans (bf _ _ _ rfl));have y:Hi (F.ownsRow w.heap.size 9 1 v' (l++ [b]).length ((l++ [b]).map Value.string)):=by
     show F.ownsRow _ _ _ _ _ _;rw[aZ,List.map_append];exact d
    clear d a;obtain⟨-,y1,y2,-,-⟩:=bV L.o;by_cases o:V.kd=1
    ·have k1:(V.kd==1)=true:=by rw[o];rfl
     have m:Hi (jr X s=some (l++ [b])):=by
      show _=_;rw[←A.o,show 65-k=(64-k)+1 by omega];exact rV t.o (by rw[C.o];exact o)
     clear o;go_wp2;go_returns;unfold gj;rw[m.o];exact⟨_,rfl,rZ y.o,Z.o⟩
    ·have k1:(V.kd==1)=false:=by simpa using o
     have m:Hi (gV X (65-(k+1)) V.up (l++ [b])=jr X s):=by
      show _=_;rw[←A.o,show 65-k=(64-k)+1 by omega,qi t.o (by rw[C.o];exact o),C.o,show 65-(k+1)=64-k by omega]
     clear o;go_wp2;go_roundw
     case rel=>exact⟨k+1,V.up,l++ [b],by omega,rfl,by go_num,I.o,(by show _=_;rw[aZ,p.o];rfl),m,y,Z.o⟩
     case measure=>simp[intOf];omega
  ·have m:Hi (jr X s=none):=by
    show _=_;rw[←A.o,show 65-k=0 by omega];rfl
   have O:¬(k:Int)<65:=by omega
   go_wp2;go_returns;unfold gj;rw[m.o];exact⟨_,rfl,oI _,H.o⟩
theorem sD (X:bK) (S:dq) (a c:Nat) (s:ByteArray) (w:World) (h:Hi (ff w a c X S)) (g:s.size≤1048576) (i:Hi (eY X)):
 Calls prog 159 #[.pointer (some a),.string s] w (gj X s w):=by
 have d:=ar (Bw X S a c s w h g i);clear h;go_enter func159,ntmps159;go_wp2_with fail
 (go_at_call 196;refine d.o.mono ?_;rintro j k ⟨v,rfl,f,b⟩);have e:=ar f;go_wp2;go_returns;exact⟨v,rfl,e.o,b⟩
theorem sE (X:bK) (S:dq) (Y DB:Nat) (w:World) (h:Hi (ff w Y DB X S)) (t:Hi (eY X)) (a4:dN w)
 (hr:Hi ((∀i,i<X.nn→jZ (X.nI i)=true∧((X.N i).kd=1∧(X.N i).up=⟨#[]⟩∨(X.N i).kd=2∧bZ X.nI X.nn (X.N i).up=true))∧∀i,i<X.nn→∃l,jr X (X.nI i)=some l∧l.length≤8)):
 Gv 120 #[.pointer (some Y)] (.int .i64 0) w:=by
 have b6:=t.o.few.1;have a7:Hi (∀W q,Below w.heap.size w W→q.size≤1048576→Calls prog 159 #[.pointer (some Y),.string q] W (gj X q W)):=fun W q p hq=>sD X S Y DB q W (h.o.below p) hq t;obtain⟨b1,b2,b3,b4,h0,h1,h2,h3,h4,h5,h6⟩:=h.o;have a5:=ar h1;have HR:=ar h6;have a6:=ar a4;obtain⟨on,cn,op,cp,sp,os,cs,ok,ck,sk,od,cd⟩:=S;obtain⟨L,hL⟩:∃L:List (Nat×Array Value×TypeId),L= [(Y,#[.pointer (some DB),.map (some b1),.map (some b2),.map (some b3),.map (some b4)],198),(DB,#[.string X.hull,.slice on X.nn cn,.slice op X.np cp,.slice os X.ns cs,.slice ok X.nk ck,.slice od X.nd cd],28)]:=⟨_,rfl⟩;have Q:=ar hL;have H0:Hi (aF w w L):=⟨ah _ _,fun x N=>by
  rw[hL]at N;simp only[bj,List.not_mem_nil,or_false]at N;rcases N with rfl|rfl
  ·exact h0
  ·exact h5⟩
 clear h0 h1 h2 h3 h4 h5 h6 a4 hL;have hn:=(HR.o.n).lim;dsimp only at hn;obtain⟨y0,-,-,-,-,-,-⟩:=bM (aF.nth H0.o Q.o 0 rfl);obtain⟨-,x1,-,-,-,-,-,-⟩:=aJ (aF.nth H0.o Q.o 1 rfl);go_enter func120,ntmps120;go_wp2;clear y0;clear x1;go_loopw[20] (fun i wr=>∃j:Nat,j≤X.nn∧i= .int .i64 j∧aF w wr L) (fun i _=>X.nn-(intOf i).toNat)
 case atStart=>exact⟨0,by omega,rfl,H0.o⟩
 case round=>
  obtain⟨y,rfl⟩:=wE wr;obtain⟨j,-,rfl,hO⟩:=hrel;have b:=ar hO;clear hO;by_cases hlt:j<X.nn
  ·obtain⟨a2,hk⟩:=hr.o.1 j hlt;have R:jZ (X.N j).id=true:=a2;have P:Hi (∀W,Below w.heap.size w W→Gv 67 #[.string (X.N j).id] (.bool true) W):=fun W p=>by rw[←R];exact iP _ W (by have:=(t.o.n j hlt).1;omega) (a6.o.below p)
   obtain⟨E,D⟩:=oE (bZ X.nI X.nn (X.N j).up);have U:Hi (∀W,Below w.heap.size w W→∃c:Int,(Instr.lookup 194 (.map (some b1)) (.string (X.N j).up) true).run prog W= .ok (.tuple #[c,.bool E]) W):=fun W p=>by
    obtain⟨c,z,-⟩:=gW.look (a5.o.below p) (s:=(X.N j).up) (by have:=(t.o.n j hlt).2;omega);rw[D]at z;exact⟨c,z⟩
   have HE:=ar D;clear a2 R D;obtain⟨m,A⟩|⟨m,A⟩:=hk
   ·rw[A]at U;obtain⟨-,y1,-,-,-,-,yz⟩:=bM (aF.nth b.o Q.o 0 rfl);obtain⟨-,x1,-,-,-,-,-,-⟩:=aJ (aF.nth b.o Q.o 1 rfl);obtain⟨B,C,rfl,k,a⟩:=bs.at (HR.o.n) (fun _=>rfl) hlt;have c0:y.cell? (B,C+j*3)=some (.string (X.N j).id):=bI b.o.1 k (a j hlt 0 _ rfl);have c1:y.cell? (B,C+j*3+1)=some (.int .i64 (X.N j).kd):=bI b.o.1 k (a j hlt 1 _ rfl);have c2:y.cell? (B,C+j*3+2)=some (.string ⟨#[]⟩):=by rw[←A];exact bI b.o.1 k (a j hlt 2 _ rfl)
    clear A;have k1:((X.N j).kd==1)=true:=by rw[m];rfl
    have k2:((X.N j).kd==2)=false:=by rw[m];rfl
    have k3:((X.N j).kd !=1)=false:=by rw[m];rfl
    clear m;clear a;have hB:=b.o.1;have Z:=hB.size;go_wp2_with fail
    refine aD 12 ?_;simp only[ac,aj,aK,aC,aa,ae,af];iterate 6 refine bJ ?_
    refine bG (ay.val (fun v=>∃c:Int,v= .tuple #[c,.bool E])) ?_ ?_
    ·intro u O t J K g f;simp[aU,ai,aR,ay.is,ay.any]at f;refine⟨by simp[au],?_⟩;obtain⟨c,z⟩:=U.o _ (ag (w:=w) (by have:=b.o.1;go_grown) g.o);go_simp;exact⟨ah _ _,c,rfl⟩
    refine bG (ay.val (fun v=>∃c:Int,v= .tuple #[c,.bool E])) ?_ ?_
    ·intro u O t J K g f;simp[aU,ai,aR,ay.is,ay.any]at f;refine⟨by simp[au],?_⟩;obtain⟨c,N⟩:=f;go_simp
     first|done|exact⟨ah _ _,c,rfl⟩|exact⟨ah _ _,rfl⟩|exact⟨ah _ _,trivial⟩|exact ah _ _|rfl
    refine bG (ay.val (fun v=>True)) ?_ ?_
    ·intro u O t J K g f;simp[aU,ai,aR,ay.is,ay.any]at f;refine⟨by simp[au],?_⟩;obtain⟨c,N⟩:=f;go_simp
     first|done|exact⟨ah _ _,c,rfl⟩|exact⟨ah _ _,rfl⟩|exact⟨ah _ _,trivial⟩|exact ah _ _|rfl
    apply bg (x:= .bool E)
    ·intro u O t J K g f;simp[aU,ai,aR,ay.is,ay.any]at f;obtain⟨c,N⟩:=f;go_simp
     first|done|exact⟨ah _ _,c,rfl⟩|exact⟨ah _ _,rfl⟩|exact⟨ah _ _,trivial⟩|exact ah _ _|rfl
    refine bG (ay.val (fun v=>True)) ?_ ?_
    ·intro u O t J K g f;simp[aU,ai,aR,ay.is,ay.any]at f;refine⟨by simp[au],?_⟩;go_simp
     first|done|exact⟨ah _ _,c,rfl⟩|exact⟨ah _ _,rfl⟩|exact⟨ah _ _,trivial⟩|exact ah _ _|rfl
    refine bJ ?_;intro u w5 p D;simp only[cF,aR,ay.is,aE,aA,reduceIte]at D;simp only[am,ax,ac,aj,aK,aC,aa,ae,af,D];clear D;have b5:=ar (ag (w:=w) (by first|assumption|go_grown) p);have r:=ar p;have T:=dx p;have a9:Y<w5.heap.size:=by omega
    have b0:y.heap.size<w5.heap.size:=by omega
    obtain⟨G,H⟩:=br p;clear p T;clear hB Z;have I:=ar (aF.step (b.o.alloc y.heap.size rfl _ _) r.o);clear G H c0 c1 c2;clear x1;obtain⟨y0,-,-,-,-⟩:=bV (I.o.get 0 rfl);go_wp2_with fail
    (go_at_call 67;refine((P.o _ I.o.1).mono ?_);rintro e_ w6 ⟨rfl,F⟩);have H6:=ar (aF.step I.o F);clear F;clear y0;obtain⟨-,y1,y2,-,-⟩:=bV (H6.o.get 0 rfl);go_wp2;go_roundw
    case rel=>exact⟨j+1,by omega,by go_num,H6.o.tail⟩
    case measure=>simp[intOf];omega
   ·have e1:E=true:=HE.o.symm.trans A;subst e1;clear A;obtain⟨-,y1,-,-,-,-,yz⟩:=bM (aF.nth b.o Q.o 0 rfl);obtain⟨-,x1,-,-,-,-,-,-⟩:=aJ (aF.nth b.o Q.o 1 rfl);obtain⟨B,C,rfl,k,a⟩:=bs.at (HR.o.n) (fun _=>rfl) hlt;have c0:y.cell? (B,C+j*3)=some (.string (X.N j).id):=bI b.o.1 k (a j hlt 0 _ rfl);have c1:y.cell? (B,C+j*3+1)=some (.int .i64 (X.N j).kd):=bI b.o.1 k (a j hlt 1 _ rfl);have c2:y.cell? (B,C+j*3+2)=some (.string (X.N j).up):=bI b.o.1 k (a j hlt 2 _ rfl);have k1:((X.N j).kd==1)=false:=by rw[m];rfl
    have k2:((X.N j).kd==2)=true:=by rw[m];rfl
    have k3:((X.N j).kd !=1)=true:=by rw[m];rfl
    have k4:((X.N j).kd !=2)=false:=by rw[m];rfl
    clear m;clear a;have hB:=b.o.1;have Z:=hB.size;go_wp2_with fail
    refine aD 12 ?_;simp only[ac,aj,aK,aC,aa,ae,af];iterate 6 refine bJ ?_
    refine bG (ay.val (fun v=>∃c:Int,v= .tuple #[c,.bool true])) ?_ ?_
    ·intro u O t J K g f;simp[aU,ai,aR,ay.is,ay.any]at f;refine⟨by simp[au],?_⟩;obtain⟨c,z⟩:=U.o _ (ag (w:=w) (by have:=b.o.1;go_grown) g.o);go_simp;exact⟨ah _ _,c,rfl⟩
    refine bG (ay.val (fun v=>∃c:Int,v= .tuple #[c,.bool true])) ?_ ?_
    ·intro u O t J K g f;simp[aU,ai,aR,ay.is,ay.any]at f;refine⟨by simp[au],?_⟩;obtain⟨c,N⟩:=f;go_simp
     first|done|exact⟨ah _ _,c,rfl⟩|exact⟨ah _ _,rfl⟩|exact⟨ah _ _,trivial⟩|exact ah _ _|rfl
    refine bG (ay.val (fun v=>True)) ?_ ?_
    ·intro u O t J K g f;simp[aU,ai,aR,ay.is,ay.any]at f;refine⟨by simp[au],?_⟩;obtain⟨c,N⟩:=f;go_simp
     first|done|exact⟨ah _ _,c,rfl⟩|exact⟨ah _ _,rfl⟩|exact⟨ah _ _,trivial⟩|exact ah _ _|rfl
    apply bg (x:= .bool true)
    ·intro u O t J K g f;simp[aU,ai,aR,ay.is,ay.any]at f;obtain⟨c,N⟩:=f;go_simp
     first|done|exact⟨ah _ _,c,rfl⟩|exact⟨ah _ _,rfl⟩|exact⟨ah _ _,trivial⟩|exact ah _ _|rfl
    refine bG (ay.val (fun v=>True)) ?_ ?_
    ·intro u O t J K g f;simp[aU,ai,aR,ay.is,ay.any]at f;refine⟨by simp[au],?_⟩;go_simp
     first|done|exact⟨ah _ _,c,rfl⟩|exact⟨ah _ _,rfl⟩|exact⟨ah _ _,trivial⟩|exact ah _ _|rfl
    refine bJ ?_;intro u w5 p D;simp only[cF,aR,ay.is,aE,aA,reduceIte]at D;simp only[am,ax,ac,aj,aK,aC,aa,ae,af,D];clear D;obtain⟨T,b8,G,H,r⟩:=pr p;clear p;clear hB Z;have I:=ar (aF.step (b.o.alloc y.heap.size rfl _ _) r.o);clear G H c0 c1 c2;clear x1;obtain⟨y0,-,-,-,-⟩:=bV (I.o.get 0 rfl);go_wp2_with fail
    (go_at_call 67;refine((P.o _ I.o.1).mono ?_);rintro e_ w6 ⟨rfl,F⟩);have H6:=ar (aF.step I.o F);clear F;clear y0;obtain⟨-,y1,-,-,-⟩:=bV (H6.o.get 0 rfl);go_wp2;go_roundw
    case rel=>exact⟨j+1,by omega,by go_num,H6.o.tail⟩
    case measure=>simp[intOf];omega
  ·have H1:=b;clear b;obtain⟨y0,-,-,-,-,-,-⟩:=bM (aF.nth H1.o Q.o 0 rfl);obtain⟨-,x1,-,-,-,-,-,-⟩:=aJ (aF.nth H1.o Q.o 1 rfl);go_wp2;clear y0;clear x1;clear hlt;go_loopw[7,74] (fun d i wr=>∃j:Nat,j≤X.nn∧d= .bool false∧i= .int .i64 j∧aF w wr L) (fun _ i _=>X.nn-(intOf i).toNat)
   case atStart=>exact⟨0,by omega,rfl,rfl,H1.o⟩
   case round=>
    clear H1;obtain⟨w9,rfl⟩:∃x:World,x=y:=⟨_,rfl⟩;obtain⟨y,rfl⟩:=wE wr;obtain⟨j,-,rfl,rfl,hO⟩:=hrel;have b:=ar hO;clear hO;by_cases hlt:j<X.nn
    ·obtain⟨l,hl,a3⟩:=hr.o.2 j hlt;obtain⟨n,a0⟩:=oE l.length;rw[a0]at a3;have g1:decide ((8:Int)<(n:Int))=false:=df;have HU:Hi (∀W,Below w.heap.size w W→Calls prog 159 #[.pointer (some Y),.string (X.N j).id] W (fun e w'=>∃o c,e= .returned (.tuple #[.slice o n c,.bool true])∧Below W.heap.size W w')):=fun W p=>(a7.o W (X.N j).id p (t.o.n j hlt).1).mono fun e w' hp=>by
      have a8:jr X (X.N j).id=some l:=hl;unfold gj at hp;rw[a8]at hp;obtain⟨v,h1,h2,h3⟩:=hp;obtain⟨o,c,h4,-⟩:=bs.form h2 (fun _=>rfl);subst h4;rw[←a0];exact⟨o,c,h1,h3⟩
     clear hl a0 a3;obtain⟨B,C,rfl,k,a⟩:=bs.at (HR.o.n) (fun _=>rfl) hlt;have c0:y.cell? (B,C+j*3)=some (.string (X.N j).id):=bI b.o.1 k (a j hlt 0 _ rfl);have c1:y.cell? (B,C+j*3+1)=some (.int .i64 (X.N j).kd):=bI b.o.1 k (a j hlt 1 _ rfl);have c2:y.cell? (B,C+j*3+2)=some (.string (X.N j).up):=bI b.o.1 k (a j hlt 2 _ rfl);clear a;go_wp2_with fail
     (go_at_call 159;refine(HU.o _ (by have:=b.o.1;have:=b.o.1.size;go_grown)).mono ?_;rintro e_ w5 ⟨o,cq,rfl,a1⟩);have I:=ar (aF.tail (aF.step (b.o.alloc y.heap.size rfl _ _) a1));clear a1 c0 c1 c2;go_wp2;go_roundw
     case rel=>exact⟨j+1,by omega,rfl,by go_num,I.o⟩
     case measure=>simp[intOf];omega
    ·go_wp2;go_returns;exact⟨rfl,b.o.1⟩
theorem sF (X:bK) (S:dq) (TB DB:Nat) (w:World) (h:Hi (ff w TB DB X S)) (m:Hi (eY X)) (d0:dN w)
 (hr:Hi (∀i,i<X.ns→(jZ (X.Q i).id=true∧jZ (X.Q i).a=true∧jZ (X.Q i).b=true)∧(X.Q i).a≠(X.Q i).b∧((X.Q i).kd=1∨(X.Q i).kd=2)∧(1≤(X.Q i).ln∧(X.Q i).ln≤32768∧1≤(X.Q i).cl∧(X.Q i).cl≤3)∧bZ X.pI X.np (X.Q i).a=true∧bZ X.pI X.np (X.Q i).b=true)):
 Gv 122 #[.pointer (some TB)] (.int .i64 0) w:=by
 have e0:=m.o.few.2.2.1;obtain⟨b1,b2,b3,b4,h0,h1,h2,h3,h4,h5,h6⟩:=h.o;have e5:=ar h1;have a7:=ar h2;have e6:=ar h3;have e7:=ar h4;have HR:=ar h6;have a2:=ar d0;have e9:TB<w.heap.size:=eB h0;have e8:DB<w.heap.size:=eB h5;obtain⟨on,cn,op,cp,sp,os,cs,ok,ck,sk,od,cd⟩:=S;obtain⟨L,hL⟩:∃L:List (Nat×Array Value×TypeId),L= [(TB,#[.pointer (some DB),.map (some b1),.map (some b2),.map (some b3),.map (some b4)],198),(DB,#[.string X.hull,.slice on X.nn cn,.slice op X.np cp,.slice os X.ns cs,.slice ok X.nk ck,.slice od X.nd cd],28)]:=⟨_,rfl⟩;have l:=ar hL;have H0:Hi (aF w w L):=⟨ah _ _,fun x O=>by
  rw[hL]at O;simp only[bj,List.not_mem_nil,or_false]at O;rcases O with rfl|rfl
  ·exact h0
  ·exact h5⟩
 clear h0 h1 h2 h3 h4 h5 h6 d0 hL;have hn:=(HR.o.s).lim;dsimp only at hn;obtain⟨D,E,F,G,H,I,J⟩:=bM (aF.nth H0.o l.o 0 rfl);obtain⟨q,r,t,y,z,A,B,C⟩:=aJ (aF.nth H0.o l.o 1 rfl);go_enter func122,ntmps122;go_wp2;clear D E F G H I J;clear q r t y z A B C;go_loopw[17] (fun i wr=>∃j:Nat,j≤X.ns∧i= .int .i64 j∧aF w wr L) (fun i _=>X.ns-(intOf i).toNat)
 case atStart=>exact⟨0,by omega,rfl,H0.o⟩
 case round=>
  obtain⟨w2,rfl⟩:=wE wr;obtain⟨j,hj,rfl,hO⟩:=hrel;have n:=ar hO;clear hO;by_cases hlt:j<X.ns
  ·obtain⟨⟨c6,c7,c8⟩,d1,c9,⟨d6,d7,d8,d9⟩,ha,d2⟩:=hr.o j hlt;have a6:Hi (∀W,Below w.heap.size w W→Gv 67 #[.string (X.Q j).id] (.bool true) W):=fun W o=>by rw[←c6];exact iP _ W (by have:=(m.o.s j hlt).1;omega) (a2.o.below o)
   have a4:Hi (∀W,Below w.heap.size w W→Gv 67 #[.string (X.Q j).a] (.bool true) W):=fun W o=>by rw[←c7];exact iP _ W (by have:=(m.o.s j hlt).2.1;omega) (a2.o.below o)
   have a5:Hi (∀W,Below w.heap.size w W→Gv 67 #[.string (X.Q j).b] (.bool true) W):=fun W o=>by rw[←c8];exact iP _ W (by have:=(m.o.s j hlt).2.2;omega) (a2.o.below o)
   have d4:Hi (∀W,Below w.heap.size w W→∃c:Int,(Instr.lookup 194 (.map (some b2)) (.string (X.Q j).a) true).run prog W= .ok (.tuple #[c,.bool true]) W):=fun W o=>by
    obtain⟨c,k,-⟩:=gW.look (a7.o.below o) (s:=(X.Q j).a) (by have:=(m.o.s j hlt).2.1;omega);rw[ha]at k;exact⟨c,k⟩
   have d5:Hi (∀W,Below w.heap.size w W→∃c:Int,(Instr.lookup 194 (.map (some b2)) (.string (X.Q j).b) true).run prog W= .ok (.tuple #[c,.bool true]) W):=fun W o=>by
    obtain⟨c,k,-⟩:=gW.look (a7.o.below o) (s:=(X.Q j).b) (by have:=(m.o.s j hlt).2.2;omega);rw[d2]at k;exact⟨c,k⟩
   have g0:((X.Q j).a.toList==(X.Q j).b.toList)=false:=by
    rw[cG];intro he;exact d1 (ee (by simpa using he))
   have g1:decide ((X.Q j).ln<1)=false:=df;have g2:decide (32768<(X.Q j).ln)=false:=df;have g3:decide ((X.Q j).cl<1)=false:=df;have g4:decide (3<(X.Q j).cl)=false:=df;have d3:Hi ((X.Q j).kd=1∧((X.Q j).kd !=1)=false∨((X.Q j).kd !=1)=true∧((X.Q j).kd !=2)=false):=by
    rcases c9 with e|e
    ·exact .inl ⟨e,by rw[e];rfl⟩
    ·exact .inr ⟨by rw[e];rfl,by rw[e];rfl⟩
   clear c6 c7 c8 d1 c9 d6 d7 d8 d9 ha d2;obtain⟨D,E,F,G,H,I,J⟩:=bM (aF.nth n.o l.o 0 rfl);obtain⟨q,r,t,y,z,A,B,C⟩:=aJ (aF.nth n.o l.o 1 rfl);obtain⟨bc,fc,rfl,p,g⟩:=bs.at (HR.o.s) (fun _=>rfl) hlt;have c0:w2.cell? (bc,fc+j*6)=some (.string (X.Q j).id):=bI n.o.1 p (g j hlt 0 _ rfl);have c1:w2.cell? (bc,fc+j*6+1)=some (.string (X.Q j).a):=bI n.o.1 p (g j hlt 1 _ rfl);have c2:w2.cell? (bc,fc+j*6+2)=some (.string (X.Q j).b):=bI n.o.1 p (g j hlt 2 _ rfl);have c3:w2.cell? (bc,fc+j*6+3)=some (.int .i64 (X.Q j).kd):=bI n.o.1 p (g j hlt 3 _ rfl);have c4:w2.cell? (bc,fc+j*6+4)=some (.int .i64 (X.Q j).ln):=bI n.o.1 p (g j hlt 4 _ rfl);have c5:w2.cell? (bc,fc+j*6+5)=some (.int .i64 (X.Q j).cl):=bI n.o.1 p (g j hlt 5 _ rfl);have f0:bc<w2.heap.size:=aM p n.o.1.size;clear g;have hB:=n.o.1;have a3:=hB.size;go_wp2_with fail
   refine aD 12 ?_;simp only[ac,aj,aK,aC,aa,ae,af];iterate 6 refine bJ ?_
   refine bG (ay.val (fun v=>∃c:Int,v= .tuple #[c,.bool true])) ?_ ?_
   ·intro u P m K N f d;simp[aU,ai,aR,ay.is,ay.any]at d;refine⟨by simp[au],?_⟩;obtain⟨c,k⟩:=d4.o _ (ag (w:=w) (by have:=n.o.1;go_grown) f.o);go_simp;exact⟨ah _ _,c,rfl⟩
   refine bG (ay.val (fun v=>∃c:Int,v= .tuple #[c,.bool true])) ?_ ?_
   ·intro u P m K N f d;simp[aU,ai,aR,ay.is,ay.any]at d;refine⟨by simp[au],?_⟩;obtain⟨c,O⟩:=d;go_simp
    first|done|exact⟨ah _ _,c,rfl⟩|exact⟨ah _ _,rfl⟩|exact⟨ah _ _,trivial⟩|exact ah _ _|rfl
   refine bG (ay.val (fun v=>True)) ?_ ?_
   ·intro u P m K N f d;simp[aU,ai,aR,ay.is,ay.any]at d;refine⟨by simp[au],?_⟩;obtain⟨c,O⟩:=d;go_simp
    first|done|exact⟨ah _ _,c,rfl⟩|exact⟨ah _ _,rfl⟩|exact⟨ah _ _,trivial⟩|exact ah _ _|rfl
   apply bg (x:= .bool true)
   ·intro u P m K N f d;simp[aU,ai,aR,ay.is,ay.any]at d;obtain⟨c,O⟩:=d;go_simp
    first|done|exact⟨ah _ _,c,rfl⟩|exact⟨ah _ _,rfl⟩|exact⟨ah _ _,trivial⟩|exact ah _ _|rfl
   refine bG (ay.val (fun v=>True)) ?_ ?_
   ·intro u P m K N f d;simp[aU,ai,aR,ay.is,ay.any]at d;refine⟨by simp[au],?_⟩;go_simp
    first|done|exact⟨ah _ _,c,rfl⟩|exact⟨ah _ _,rfl⟩|exact⟨ah _ _,trivial⟩|exact ah _ _|rfl
   refine bJ ?_;intro u w5 o hE;simp only[cF,aR,ay.is,aE,aA,reduceIte]at hE;simp only[am,ax,ac,aj,aK,aC,aa,ae,af,hE];clear hE;obtain⟨e3,e1,b5,b8,a0⟩:=pr o;clear o;clear hB a3;have H5:=ar (aF.step (n.o.alloc w2.heap.size rfl _ _) a0.o);clear b5 b8 c0 c1 c2 c3 c4 c5;clear D E F G H I J;clear q r t y z A B C;obtain⟨D,E,F,G,H,I,J⟩:=bM (aF.nth H5.o.tail l.o 0 rfl);obtain⟨q,r,t,y,z,A,B,C⟩:=aJ (aF.nth H5.o.tail l.o 1 rfl);obtain⟨Q,R,T,U,Y,Z,sf,sz⟩:=aJ (H5.o.get 0 rfl);have hB:=H5.o.1;have a3:=hB.size;go_wp2_with fail
   refine aD 12 ?_;simp only[ac,aj,aK,aC,aa,ae,af];iterate 6 refine bJ ?_
   refine bG (ay.val (fun v=>∃c:Int,v= .tuple #[c,.bool true])) ?_ ?_
   ·intro u P m K N f d;simp[aU,ai,aR,ay.is,ay.any]at d;refine⟨by simp[au],?_⟩;obtain⟨c,k⟩:=d5.o _ (ag (w:=w) (by have:=H5.o.1;go_grown) f.o);go_simp;exact⟨ah _ _,c,rfl⟩
   refine bG (ay.val (fun v=>∃c:Int,v= .tuple #[c,.bool true])) ?_ ?_
   ·intro u P m K N f d;simp[aU,ai,aR,ay.is,ay.any]at d;refine⟨by simp[au],?_⟩;obtain⟨c,O⟩:=d;go_simp
    first|done|exact⟨ah _ _,c,rfl⟩|exact⟨ah _ _,rfl⟩|exact⟨ah _ _,trivial⟩|exact ah _ _|rfl
   refine bG (ay.val (fun v=>True)) ?_ ?_
   ·intro u P m K N f d;simp[aU,ai,aR,ay.is,ay.any]at d;refine⟨by simp[au],?_⟩;obtain⟨c,O⟩:=d;go_simp
    first|done|exact⟨ah _ _,c,rfl⟩|exact⟨ah _ _,rfl⟩|exact⟨ah _ _,trivial⟩|exact ah _ _|rfl
   apply bg (x:= .bool true)
   ·intro u P m K N f d;simp[aU,ai,aR,ay.is,ay.any]at d;obtain⟨c,O⟩:=d;go_simp
    first|done|exact⟨ah _ _,c,rfl⟩|exact⟨ah _ _,rfl⟩|exact⟨ah _ _,trivial⟩|exact ah _ _|rfl
   refine bG (ay.val (fun v=>True)) ?_ ?_
   ·intro u P m K N f d;simp[aU,ai,aR,ay.is,ay.any]at d;refine⟨by simp[au],?_⟩;go_simp
    first|done|exact⟨ah _ _,c,rfl⟩|exact⟨ah _ _,rfl⟩|exact⟨ah _ _,trivial⟩|exact ah _ _|rfl
   refine bJ ?_;intro u w6 o hE;simp only[cF,aR,ay.is,aE,aA,reduceIte]at hE;simp only[am,ax,ac,aj,aK,aC,aa,ae,af,hE];clear hE;obtain⟨e4,e2,b6,b9,a1⟩:=pr o;clear o;clear hB a3;have H6:=ar (aF.step H5.o a1.o);clear b6 b9;clear D E F G H I J q r t y z A B C Q R T U Y Z sf sz;obtain⟨D,E,F,G,H,I,J⟩:=bM (aF.nth H6.o.tail l.o 0 rfl);obtain⟨q,r,t,y,z,A,B,C⟩:=aJ (aF.nth H6.o.tail l.o 1 rfl);obtain⟨Q,R,T,U,Y,Z,sf,sz⟩:=aJ (H6.o.get 0 rfl);go_wp2_with fail
   (go_at_call 67;refine((a6.o _ H6.o.1).mono ?_);rintro e_ w7 ⟨rfl,a8⟩);have H7:=ar (aF.step H6.o a8);clear a8;clear D E F G H I J q r t y z A B C Q R T U Y Z sf sz;obtain⟨D,E,F,G,H,I,J⟩:=bM (aF.nth H7.o.tail l.o 0 rfl);obtain⟨q,r,t,y,z,A,B,C⟩:=aJ (aF.nth H7.o.tail l.o 1 rfl);obtain⟨Q,R,T,U,Y,Z,sf,sz⟩:=aJ (H7.o.get 0 rfl);go_wp2_with fail
   (go_at_call 67;refine((a4.o _ H7.o.1).mono ?_);rintro e_ w8 ⟨rfl,a9⟩);have H8:=ar (aF.step H7.o a9);clear a9;clear D E F G H I J q r t y z A B C Q R T U Y Z sf sz;obtain⟨D,E,F,G,H,I,J⟩:=bM (aF.nth H8.o.tail l.o 0 rfl);obtain⟨q,r,t,y,z,A,B,C⟩:=aJ (aF.nth H8.o.tail l.o 1 rfl);obtain⟨Q,R,T,U,Y,Z,sf,sz⟩:=aJ (H8.o.get 0 rfl);go_wp2_with fail
   (go_at_call 67;refine((a5.o _ H8.o.1).mono ?_);rintro e_ w9 ⟨rfl,b0⟩);have H9:=ar (aF.step H8.o b0);clear b0;clear D E F G H I J q r t y z A B C Q R T U Y Z sf sz;obtain⟨D,E,F,G,H,I,J⟩:=bM (aF.nth H9.o.tail l.o 0 rfl);obtain⟨q,r,t,y,z,A,B,C⟩:=aJ (aF.nth H9.o.tail l.o 1 rfl);obtain⟨Q,R,T,U,Y,Z,sf,sz⟩:=aJ (H9.o.get 0 rfl);obtain⟨-,k1⟩|⟨k1,k2⟩:=d3.o
   all_goals
    go_wp2;go_roundw
    case rel=>exact⟨j+1,by omega,by go_num,H9.o.tail⟩
    case measure=>simp[intOf];omega
  ·obtain⟨D,E,F,G,H,I,J⟩:=bM (aF.nth n.o l.o 0 rfl);obtain⟨q,r,t,y,z,A,B,C⟩:=aJ (aF.nth n.o l.o 1 rfl);go_wp2;go_returns;exact⟨rfl,n.o.1⟩
theorem sG (X:bK) (S:dq) (TB DB:Nat) (w:World) (h:Hi (ff w TB DB X S)) (n:Hi (eY X)) (a8:dN w)
 (hr:Hi (∀i,i<X.nd→(1≤(X.R i).kd∧(X.R i).kd≤3)∧(X.R i).on≠(X.R i).bl∧dU X (X.R i).bl=true∧((X.R i).kd=1∧((X.R i).on=⟨#[]⟩∨dU X (X.R i).on=true)∨(X.R i).kd=2∧dU X (X.R i).on=true∨(X.R i).kd=3∧bZ X.kI X.nk (X.R i).on=true))):
 Gv 124 #[.pointer (some TB)] (.int .i64 0) w:=by
 have a9:=n.o.few.2.2.2.2.1;have a4:Hi (∀W q,Below w.heap.size w W→q.size≤2147483648→Gv 162 #[.pointer (some TB),.string q] (.bool (dU X q)) W):=fun W q m hq=>qu X S TB DB q W (h.o.below m) hq n.o.few.1;obtain⟨b1,b2,b3,b4,h0,h1,h2,h3,h4,h5,h6⟩:=h.o;have a7:=ar h4;have HR:=ar h6;obtain⟨on,cn,op,cp,sp,os,cs,ok,ck,sk,od,cd⟩:=S;obtain⟨L,hL⟩:∃L:List (Nat×Array Value×TypeId),L= [(TB,#[.pointer (some DB),.map (some b1),.map (some b2),.map (some b3),.map (some b4)],198),(DB,#[.string X.hull,.slice on X.nn cn,.slice op X.np cp,.slice os X.ns cs,.slice ok X.nk ck,.slice od X.nd cd],28)]:=⟨_,rfl⟩;have z:=ar hL;have H0:Hi (aF w w L):=⟨ah _ _,fun x Q=>by
  rw[hL]at Q;simp only[bj,List.not_mem_nil,or_false]at Q;rcases Q with rfl|rfl
  ·exact h0
  ·exact h5⟩
 clear h0 h1 h2 h3 h4 h5 h6 a8 hL;have hn:=(HR.o.d).lim;dsimp only at hn;obtain⟨y0,-,-,-,-,-,-⟩:=bM (aF.nth H0.o z.o 0 rfl);obtain⟨-,-,-,-,-,o,-,-⟩:=aJ (aF.nth H0.o z.o 1 rfl);go_enter func124,ntmps124;go_wp2;clear y0;clear o;go_loopw[15] (fun i wr=>∃j:Nat,j≤X.nd∧i= .int .i64 j∧aF w wr L) (fun i _=>X.nd-(intOf i).toNat)
 case atStart=>exact⟨0,by omega,rfl,H0.o⟩
 case round=>
  obtain⟨I,rfl⟩:=wE wr;obtain⟨j,-,rfl,hO⟩:=hrel;have g:=ar hO;clear hO;by_cases hlt:j<X.nd
  ·obtain⟨-,a6,a5,hk⟩:=hr.o j hlt;have g0:((X.R j).on.toList==(X.R j).bl.toList)=false:=by
    rw[cG];intro he;exact a6 (ee (by simpa using he))
   have T:Hi (∀W,Below w.heap.size w W→Gv 162 #[.pointer (some TB),.string (X.R j).bl] (.bool true) W):=fun W m=>by
    have:=a4.o W (X.R j).bl m (by have:=(n.o.d j hlt).1;omega);rw[a5]at this;exact this
   obtain⟨E,A⟩:=oE (bZ X.kI X.nk (X.R j).on);have Z:Hi (∀W,Below w.heap.size w W→∃c:Int,(Instr.lookup 194 (.map (some b4)) (.string (X.R j).on) true).run prog W= .ok (.tuple #[c,.bool E]) W):=fun W m=>by
    obtain⟨c,C,-⟩:=gW.look (a7.o.below m) (s:=(X.R j).on) (by have:=(n.o.d j hlt).2;omega);rw[A]at C;exact⟨c,C⟩
   clear a6 a5;by_cases p:(X.R j).on=⟨#[]⟩∧(X.R j).kd=1
   ·obtain⟨p,f⟩:=p;clear hk A;rw[p]at Z g0;have g5:(([]:List UInt8)==(X.R j).bl.toList)=false:=by
     rw[show([]:List UInt8)=(⟨#[]⟩:ByteArray).toList by kernel_rfl];exact g0
    obtain⟨-,-,-,-,y4,-,yz⟩:=bM (aF.nth g.o z.o 0 rfl);obtain⟨-,-,-,-,-,o,-,-⟩:=aJ (aF.nth g.o z.o 1 rfl);obtain⟨N,O,rfl,l,a⟩:=bs.at (HR.o.d) (fun _=>rfl) hlt;have c0:I.cell? (N,O+j*3)=some (.int .i64 (X.R j).kd):=bI g.o.1 l (a j hlt 0 _ rfl);have c1:I.cell? (N,O+j*3+1)=some (.string (X.R j).bl):=bI g.o.1 l (a j hlt 1 _ rfl);have c2:I.cell? (N,O+j*3+2)=some (.string ⟨#[]⟩):=by rw[←p];exact bI g.o.1 l (a j hlt 2 _ rfl)
    have k1:((X.R j).kd==1)=true:=by rw[f];rfl
    have k2:((X.R j).kd==2)=false:=by rw[f];rfl
    have k3:((X.R j).kd==3)=false:=by rw[f];rfl
    have g1:decide ((X.R j).kd<1)=false:=df;have g2:decide (3<(X.R j).kd)=false:=df;clear a f
    try clear p
    have hB:=g.o.1;have P:=hB.size;go_wp2_with fail
    refine aD 12 ?_;simp only[ac,aj,aK,aC,aa,ae,af];iterate 6 refine bJ ?_
    refine bG (ay.val (fun v=>∃c:Int,v= .tuple #[c,.bool E])) ?_ ?_
    ·intro u J n G H d b;simp[aU,ai,aR,ay.is,ay.any]at b;refine⟨by simp[au],?_⟩;obtain⟨c,C⟩:=Z.o _ (ag (w:=w) (by have:=g.o.1;go_grown) d.o);go_simp;exact⟨ah _ _,c,rfl⟩
    refine bG (ay.val (fun v=>∃c:Int,v= .tuple #[c,.bool E])) ?_ ?_
    ·intro u J n G H d b;simp[aU,ai,aR,ay.is,ay.any]at b;refine⟨by simp[au],?_⟩;obtain⟨c,Q⟩:=b;go_simp
     first|done|exact⟨ah _ _,c,rfl⟩|exact⟨ah _ _,rfl⟩|exact⟨ah _ _,trivial⟩|exact ah _ _|rfl
    refine bG (ay.val (fun v=>True)) ?_ ?_
    ·intro u J n G H d b;simp[aU,ai,aR,ay.is,ay.any]at b;refine⟨by simp[au],?_⟩;obtain⟨c,Q⟩:=b;go_simp
     first|done|exact⟨ah _ _,c,rfl⟩|exact⟨ah _ _,rfl⟩|exact⟨ah _ _,trivial⟩|exact ah _ _|rfl
    apply bg (x:= .bool E)
    ·intro u J n G H d b;simp[aU,ai,aR,ay.is,ay.any]at b;obtain⟨c,Q⟩:=b;go_simp
     first|done|exact⟨ah _ _,c,rfl⟩|exact⟨ah _ _,rfl⟩|exact⟨ah _ _,trivial⟩|exact ah _ _|rfl
    refine bG (ay.val (fun v=>True)) ?_ ?_
    ·intro u J n G H d b;simp[aU,ai,aR,ay.is,ay.any]at b;refine⟨by simp[au],?_⟩;go_simp
     first|done|exact⟨ah _ _,c,rfl⟩|exact⟨ah _ _,rfl⟩|exact⟨ah _ _,trivial⟩|exact ah _ _|rfl
    refine bJ ?_;intro u w5 m A;simp only[cF,aR,ay.is,aE,aA,reduceIte]at A;simp only[am,ax,ac,aj,aK,aC,aa,ae,af,A];clear A;have a3:=ar (ag (w:=w) (by first|assumption|go_grown) m);have k:=ar m;have D:=dx m;have a1:TB<w5.heap.size:=by omega
    have a2:I.heap.size<w5.heap.size:=by omega
    obtain⟨t,y⟩:=br m;clear m D;clear hB P;have F:=ar (aF.step (g.o.alloc I.heap.size rfl _ _) k.o);clear t y c0 c1 c2;clear o;obtain⟨-,-,-,-,-,o,-,-⟩:=aJ (aF.nth F.o.tail z.o 1 rfl);obtain⟨R,s1,U,-,-⟩:=bV (F.o.get 0 rfl);go_wp2_with fail
    (go_at_call 162;refine((T.o _ F.o.1).mono ?_);rintro e_ w6 ⟨rfl,r⟩);have K:=ar (aF.step F.o r);clear r;clear o R s1 U;obtain⟨-,-,-,-,-,o,-,-⟩:=aJ (aF.nth K.o.tail z.o 1 rfl);obtain⟨R,-,U,-,-⟩:=bV (K.o.get 0 rfl);go_wp2;go_roundw
    case rel=>exact⟨j+1,by omega,by go_num,K.o.tail⟩
    case measure=>simp[intOf];omega
   ·obtain⟨f,B⟩|⟨f,B⟩|⟨f,B⟩:=hk
    ·have p:(X.R j).on≠⟨#[]⟩:=fun e=>p ⟨e,f⟩;have B:dU X (X.R j).on=true:=B.resolve_left p;clear A;have Y:Hi (∀W,Below w.heap.size w W→Gv 162 #[.pointer (some TB),.string (X.R j).on] (.bool true) W):=fun W m=>by
      have:=a4.o W (X.R j).on m (by have:=(n.o.d j hlt).2;omega);rw[B]at this;exact this
     clear B;have m0:((X.R j).on.toList==([]:List UInt8))=false:=by
      rw[cG];intro he;exact p (qR he)
     clear p;obtain⟨-,-,-,-,y4,-,yz⟩:=bM (aF.nth g.o z.o 0 rfl);obtain⟨-,-,-,-,-,o,-,-⟩:=aJ (aF.nth g.o z.o 1 rfl);obtain⟨N,O,rfl,l,a⟩:=bs.at (HR.o.d) (fun _=>rfl) hlt;have c0:I.cell? (N,O+j*3)=some (.int .i64 (X.R j).kd):=bI g.o.1 l (a j hlt 0 _ rfl);have c1:I.cell? (N,O+j*3+1)=some (.string (X.R j).bl):=bI g.o.1 l (a j hlt 1 _ rfl);have c2:I.cell? (N,O+j*3+2)=some (.string (X.R j).on):=bI g.o.1 l (a j hlt 2 _ rfl);have k1:((X.R j).kd==1)=true:=by rw[f];rfl
     have k2:((X.R j).kd==2)=false:=by rw[f];rfl
     have k3:((X.R j).kd==3)=false:=by rw[f];rfl
     have g1:decide ((X.R j).kd<1)=false:=df;have g2:decide (3<(X.R j).kd)=false:=df;clear a f;have hB:=g.o.1;have P:=hB.size;go_wp2_with fail
     refine aD 12 ?_;simp only[ac,aj,aK,aC,aa,ae,af];iterate 6 refine bJ ?_
     refine bG (ay.val (fun v=>∃c:Int,v= .tuple #[c,.bool E])) ?_ ?_
     ·intro u J n G H d b;simp[aU,ai,aR,ay.is,ay.any]at b;refine⟨by simp[au],?_⟩;obtain⟨c,C⟩:=Z.o _ (ag (w:=w) (by have:=g.o.1;go_grown) d.o);go_simp;exact⟨ah _ _,c,rfl⟩
     refine bG (ay.val (fun v=>∃c:Int,v= .tuple #[c,.bool E])) ?_ ?_
     ·intro u J n G H d b;simp[aU,ai,aR,ay.is,ay.any]at b;refine⟨by simp[au],?_⟩;obtain⟨c,Q⟩:=b;go_simp
      first|done|exact⟨ah _ _,c,rfl⟩|exact⟨ah _ _,rfl⟩|exact⟨ah _ _,trivial⟩|exact ah _ _|rfl
     refine bG (ay.val (fun v=>True)) ?_ ?_
     ·intro u J n G H d b;simp[aU,ai,aR,ay.is,ay.any]at b;refine⟨by simp[au],?_⟩;obtain⟨c,Q⟩:=b;go_simp
      first|done|exact⟨ah _ _,c,rfl⟩|exact⟨ah _ _,rfl⟩|exact⟨ah _ _,trivial⟩|exact ah _ _|rfl
     apply bg (x:= .bool E)
     ·intro u J n G H d b;simp[aU,ai,aR,ay.is,ay.any]at b;obtain⟨c,Q⟩:=b;go_simp
      first|done|exact⟨ah _ _,c,rfl⟩|exact⟨ah _ _,rfl⟩|exact⟨ah _ _,trivial⟩|exact ah _ _|rfl
     refine bG (ay.val (fun v=>True)) ?_ ?_
     ·intro u J n G H d b;simp[aU,ai,aR,ay.is,ay.any]at b;refine⟨by simp[au],?_⟩;go_simp
      first|done|exact⟨ah _ _,c,rfl⟩|exact⟨ah _ _,rfl⟩|exact⟨ah _ _,trivial⟩|exact ah _ _|rfl
     refine bJ ?_;intro u w5 m A;simp only[cF,aR,ay.is,aE,aA,reduceIte]at A;simp only[am,ax,ac,aj,aK,aC,aa,ae,af,A];clear A;have a3:=ar (ag (w:=w) (by first|assumption|go_grown) m);have k:=ar m;have D:=dx m;have a1:TB<w5.heap.size:=by omega
     have a2:I.heap.size<w5.heap.size:=by omega
     obtain⟨t,y⟩:=br m;clear m D;clear hB P;have F:=ar (aF.step (g.o.alloc I.heap.size rfl _ _) k.o);clear t y c0 c1 c2;clear o;obtain⟨-,-,-,-,-,o,-,-⟩:=aJ (aF.nth F.o.tail z.o 1 rfl);obtain⟨R,s1,U,-,-⟩:=bV (F.o.get 0 rfl);go_wp2_with fail
     (go_at_call 162;refine((T.o _ F.o.1).mono ?_);rintro e_ w6 ⟨rfl,r⟩);have K:=ar (aF.step F.o r);clear r;clear o R s1 U;obtain⟨-,-,-,-,-,o,-,-⟩:=aJ (aF.nth K.o.tail z.o 1 rfl);obtain⟨R,-,U,-,-⟩:=bV (K.o.get 0 rfl);go_wp2_with fail
     (go_at_call 162;refine((Y.o _ K.o.1).mono ?_);rintro e_ w7 ⟨rfl,a0⟩);have H7:=ar (aF.step K.o a0);clear a0;clear o R U;obtain⟨-,-,-,-,-,o,-,-⟩:=aJ (aF.nth H7.o.tail z.o 1 rfl);obtain⟨R,-,-,-,-⟩:=bV (H7.o.get 0 rfl);go_wp2;go_roundw
     case rel=>exact⟨j+1,by omega,by go_num,H7.o.tail⟩
     case measure=>simp[intOf];omega
    ·clear p A;have Y:Hi (∀W,Below w.heap.size w W→Gv 162 #[.pointer (some TB),.string (X.R j).on] (.bool true) W):=fun W m=>by
      have:=a4.o W (X.R j).on m (by have:=(n.o.d j hlt).2;omega);rw[B]at this;exact this
     clear B;obtain⟨-,-,-,-,y4,-,yz⟩:=bM (aF.nth g.o z.o 0 rfl);obtain⟨-,-,-,-,-,o,-,-⟩:=aJ (aF.nth g.o z.o 1 rfl);obtain⟨N,O,rfl,l,a⟩:=bs.at (HR.o.d) (fun _=>rfl) hlt;have c0:I.cell? (N,O+j*3)=some (.int .i64 (X.R j).kd):=bI g.o.1 l (a j hlt 0 _ rfl);have c1:I.cell? (N,O+j*3+1)=some (.string (X.R j).bl):=bI g.o.1 l (a j hlt 1 _ rfl);have c2:I.cell? (N,O+j*3+2)=some (.string (X.R j).on):=bI g.o.1 l (a j hlt 2 _ rfl);have k1:((X.R j).kd==1)=false:=by rw[f];rfl
     have k2:((X.R j).kd==2)=true:=by rw[f];rfl
     have k3:((X.R j).kd==3)=false:=by rw[f];rfl
     have g1:decide ((X.R j).kd<1)=false:=df;have g2:decide (3<(X.R j).kd)=false:=df;clear a f;have hB:=g.o.1;have P:=hB.size;go_wp2_with fail
     refine aD 12 ?_;simp only[ac,aj,aK,aC,aa,ae,af];iterate 6 refine bJ ?_
     refine bG (ay.val (fun v=>∃c:Int,v= .tuple #[c,.bool E])) ?_ ?_
     ·intro u J n G H d b;simp[aU,ai,aR,ay.is,ay.any]at b;refine⟨by simp[au],?_⟩;obtain⟨c,C⟩:=Z.o _ (ag (w:=w) (by have:=g.o.1;go_grown) d.o);go_simp;exact⟨ah _ _,c,rfl⟩
     refine bG (ay.val (fun v=>∃c:Int,v= .tuple #[c,.bool E])) ?_ ?_
     ·intro u J n G H d b;simp[aU,ai,aR,ay.is,ay.any]at b;refine⟨by simp[au],?_⟩;obtain⟨c,Q⟩:=b;go_simp
      first|done|exact⟨ah _ _,c,rfl⟩|exact⟨ah _ _,rfl⟩|exact⟨ah _ _,trivial⟩|exact ah _ _|rfl
     refine bG (ay.val (fun v=>True)) ?_ ?_
     ·intro u J n G H d b;simp[aU,ai,aR,ay.is,ay.any]at b;refine⟨by simp[au],?_⟩;obtain⟨c,Q⟩:=b;go_simp
      first|done|exact⟨ah _ _,c,rfl⟩|exact⟨ah _ _,rfl⟩|exact⟨ah _ _,trivial⟩|exact ah _ _|rfl
     apply bg (x:= .bool E)
     ·intro u J n G H d b;simp[aU,ai,aR,ay.is,ay.any]at b;obtain⟨c,Q⟩:=b;go_simp
      first|done|exact⟨ah _ _,c,rfl⟩|exact⟨ah _ _,rfl⟩|exact⟨ah _ _,trivial⟩|exact ah _ _|rfl
     refine bG (ay.val (fun v=>True)) ?_ ?_
     ·intro u J n G H d b;simp[aU,ai,aR,ay.is,ay.any]at b;refine⟨by simp[au],?_⟩;go_simp
      first|done|exact⟨ah _ _,c,rfl⟩|exact⟨ah _ _,rfl⟩|exact⟨ah _ _,trivial⟩|exact ah _ _|rfl
     refine bJ ?_;intro u w5 m A;simp only[cF,aR,ay.is,aE,aA,reduceIte]at A;simp only[am,ax,ac,aj,aK,aC,aa,ae,af,A];clear A;have a3:=ar (ag (w:=w) (by first|assumption|go_grown) m);have k:=ar m;have D:=dx m;have a1:TB<w5.heap.size:=by omega
     have a2:I.heap.size<w5.heap.size:=by omega
     obtain⟨t,y⟩:=br m;clear m D;clear hB P;have F:=ar (aF.step (g.o.alloc I.heap.size rfl _ _) k.o);clear t y c0 c1 c2;clear o;obtain⟨-,-,-,-,-,o,-,-⟩:=aJ (aF.nth F.o.tail z.o 1 rfl);obtain⟨R,s1,U,-,-⟩:=bV (F.o.get 0 rfl);go_wp2_with fail
     (go_at_call 162;refine((T.o _ F.o.1).mono ?_);rintro e_ w6 ⟨rfl,r⟩);have K:=ar (aF.step F.o r);clear r;clear o R s1 U;obtain⟨-,-,-,-,-,o,-,-⟩:=aJ (aF.nth K.o.tail z.o 1 rfl);obtain⟨R,-,U,-,-⟩:=bV (K.o.get 0 rfl);go_wp2_with fail
     (go_at_call 162;refine((Y.o _ K.o.1).mono ?_);rintro e_ w7 ⟨rfl,a0⟩);have H7:=ar (aF.step K.o a0);clear a0;clear o R U;obtain⟨-,-,-,-,-,o,-,-⟩:=aJ (aF.nth H7.o.tail z.o 1 rfl);obtain⟨R,-,-,-,-⟩:=bV (H7.o.get 0 rfl);go_wp2;go_roundw
     case rel=>exact⟨j+1,by omega,by go_num,H7.o.tail⟩
     case measure=>simp[intOf];omega
    ·clear p;have e1:E=true:=A.symm.trans B;subst e1;clear B A;obtain⟨-,-,-,-,y4,-,yz⟩:=bM (aF.nth g.o z.o 0 rfl);obtain⟨-,-,-,-,-,o,-,-⟩:=aJ (aF.nth g.o z.o 1 rfl);obtain⟨N,O,rfl,l,a⟩:=bs.at (HR.o.d) (fun _=>rfl) hlt;have c0:I.cell? (N,O+j*3)=some (.int .i64 (X.R j).kd):=bI g.o.1 l (a j hlt 0 _ rfl);have c1:I.cell? (N,O+j*3+1)=some (.string (X.R j).bl):=bI g.o.1 l (a j hlt 1 _ rfl);have c2:I.cell? (N,O+j*3+2)=some (.string (X.R j).on):=bI g.o.1 l (a j hlt 2 _ rfl);have k1:((X.R j).kd==1)=false:=by rw[f];rfl
     have k2:((X.R j).kd==2)=false:=by rw[f];rfl
     have k3:((X.R j).kd==3)=true:=by rw[f];rfl
     have g1:decide ((X.R j).kd<1)=false:=df;have g2:decide (3<(X.R j).kd)=false:=df;clear a f;have hB:=g.o.1;have P:=hB.size;go_wp2_with fail
     refine aD 12 ?_;simp only[ac,aj,aK,aC,aa,ae,af];iterate 6 refine bJ ?_
     refine bG (ay.val (fun v=>∃c:Int,v= .tuple #[c,.bool true])) ?_ ?_
     ·intro u J n G H d b;simp[aU,ai,aR,ay.is,ay.any]at b;refine⟨by simp[au],?_⟩;obtain⟨c,C⟩:=Z.o _ (ag (w:=w) (by have:=g.o.1;go_grown) d.o);go_simp;exact⟨ah _ _,c,rfl⟩
     refine bG (ay.val (fun v=>∃c:Int,v= .tuple #[c,.bool true])) ?_ ?_
     ·intro u J n G H d b;simp[aU,ai,aR,ay.is,ay.any]at b;refine⟨by simp[au],?_⟩;obtain⟨c,Q⟩:=b;go_simp
      first|done|exact⟨ah _ _,c,rfl⟩|exact⟨ah _ _,rfl⟩|exact⟨ah _ _,trivial⟩|exact ah _ _|rfl
     refine bG (ay.val (fun v=>True)) ?_ ?_
     ·intro u J n G H d b;simp[aU,ai,aR,ay.is,ay.any]at b;refine⟨by simp[au],?_⟩;obtain⟨c,Q⟩:=b;go_simp
      first|done|exact⟨ah _ _,c,rfl⟩|exact⟨ah _ _,rfl⟩|exact⟨ah _ _,trivial⟩|exact ah _ _|rfl
     apply bg (x:= .bool true)
     ·intro u J n G H d b;simp[aU,ai,aR,ay.is,ay.any]at b;obtain⟨c,Q⟩:=b;go_simp
      first|done|exact⟨ah _ _,c,rfl⟩|exact⟨ah _ _,rfl⟩|exact⟨ah _ _,trivial⟩|exact ah _ _|rfl
     refine bG (ay.val (fun v=>True)) ?_ ?_
     ·intro u J n G H d b;simp[aU,ai,aR,ay.is,ay.any]at b;refine⟨by simp[au],?_⟩;go_simp
      first|done|exact⟨ah _ _,c,rfl⟩|exact⟨ah _ _,rfl⟩|exact⟨ah _ _,trivial⟩|exact ah _ _|rfl
     refine bJ ?_;intro u w5 m A;simp only[cF,aR,ay.is,aE,aA,reduceIte]at A;simp only[am,ax,ac,aj,aK,aC,aa,ae,af,A];clear A;obtain⟨D,b0,t,y,k⟩:=pr m;clear m;clear hB P;have F:=ar (aF.step (g.o.alloc I.heap.size rfl _ _) k.o);clear t y c0 c1 c2;clear o;obtain⟨-,-,-,-,-,o,-,-⟩:=aJ (aF.nth F.o.tail z.o 1 rfl);obtain⟨R,s1,U,-,-⟩:=bV (F.o.get 0 rfl);go_wp2_with fail
     (go_at_call 162;refine((T.o _ F.o.1).mono ?_);rintro e_ w6 ⟨rfl,r⟩);have K:=ar (aF.step F.o r);clear r;clear o R s1 U;obtain⟨-,-,-,-,-,o,-,-⟩:=aJ (aF.nth K.o.tail z.o 1 rfl);obtain⟨R,-,-,-,-⟩:=bV (K.o.get 0 rfl);go_wp2;go_roundw
     case rel=>exact⟨j+1,by omega,by go_num,K.o.tail⟩
     case measure=>simp[intOf];omega
  ·obtain⟨-,-,-,-,-,-,-⟩:=bM (aF.nth g.o z.o 0 rfl);obtain⟨-,-,-,-,-,o,-,-⟩:=aJ (aF.nth g.o z.o 1 rfl);go_wp2;go_returns;exact⟨rfl,g.o.1⟩
end
section
open Go Go.ChangeShapes Go.WideShapes Go.RowKit Go.ChangeAt
theorem FK (v:Value) (n:Nat) (El:List (Nat×Nat)) (w:World) (h:Cj w v El) (u:Hi (jU n El)):
 Gv 207 #[(n:Int),v] (.int .i64 0) w:=by
 obtain⟨oa,cap,rfl,hn,C,-⟩:=bs.form h (fun _=>rfl);have s:=ar h;obtain⟨q,g⟩:=oE El.length;have k:=ar g;rw[g]at hn⊢
 clear h g;go_enter func207,ntmps207;go_wp2;go_loopw[9] (fun i wr=>∃j:Nat,j≤q∧i= .int .i64 j∧Below w.heap.size w wr) (fun i _=>q-(intOf i).toNat)
 case atStart=>exact⟨0,by omega,rfl,ah _ _⟩
 case round=>
  obtain⟨r,rfl⟩:=wE wr;obtain⟨j,-,rfl,d⟩:=hrel;by_cases hlt:j<q
  ·have t:Hi (bs w (.slice oa q cap) q 2 (fun i=>#[((El.getD i (0,0)).1:Int),((El.getD i (0,0)).2:Int)])):=by
    have:=s.o;unfold Cj at this;rw[k.o]at this;exact this
   obtain⟨l,m,rfl,o,c⟩:=bs.at t.o (fun _=>rfl) hlt;have p:=u.o.2 j (by have:=k.o;omega);obtain⟨a,e⟩:=oE ((El.getD j (0,0)).1);obtain⟨b,f⟩:=oE ((El.getD j (0,0)).2);have A:r.cell? (l,m+j*2)=some (a:Int):=bI d o (by have:=c j hlt 0 _ rfl;rw[e]at this;exact this);have B:r.cell? (l,m+j*2+1)=some (b:Int):=bI d o (by have:=c j hlt 1 _ rfl;rw[f]at this;exact this);rw[e,f]at p;have D:decide ((a:Int)<0)=false:=df;have x:decide (n≤a)=false:=df;have E:decide ((b:Int)<0)=false:=df;have y:decide (n≤b)=false:=df;have F:((a:Int)==(b:Int))=false:=by simp;omega
   have z:(a==b)=false:=by simp;omega
   clear e f c p;go_wp2;go_roundw
   case rel=>exact⟨j+1,by omega,by go_num,by have:=d.size;go_grown⟩
   case measure=>simp[intOf];omega
  ·go_wp2;go_returns;exact⟨rfl,d⟩
def oN (El:List (Nat×Nat)) (i v:Nat):Nat:=((El.take i).filter (fun x=>x.2==v)).length
def lU (El:List (Nat×Nat)) (u i v:Nat):Nat:=((El.take i).filter (fun x=>x.1==u&&x.2==v)).length
theorem lV {El:List (Nat×Nat)} {i:Nat} (a:i<El.length):El.take (i+1)=El.take i++ [El.getD i (0,0)]:=by
 rw[List.take_add_one,aS a,Option.toList_some,aO,aS a];rfl
theorem DN {El:List (Nat×Nat)} {i:Nat} (a:i<El.length) (v:Nat):oN El (i+1) v=oN El i v+(if v=(El.getD i (0,0)).2 then 1 else 0):=by
 unfold oN;rw[lV a,List.filter_append,aZ];by_cases e:v=(El.getD i (0,0)).2
 ·simp[List.filter_cons,e]
 ·rw[if_neg e];have:((El.getD i (0,0)).2==v)=false:=by simpa using fun h=>e h.symm
  simp only[List.filter_cons,this];rfl
theorem DO {El:List (Nat×Nat)} {i:Nat} (a:i<El.length) (u v:Nat):lU El u (i+1) v=lU El u i v+(if(El.getD i (0,0)).1=u∧v=(El.getD i (0,0)).2 then 1 else 0):=by
 unfold lU;rw[lV a,List.filter_append,aZ];by_cases e1:(El.getD i (0,0)).1=u
 ·by_cases e:v=(El.getD i (0,0)).2
  ·rw[if_pos ⟨e1,e⟩];simp only[List.filter_cons,e1,e];simp
  ·rw[if_neg (fun h=>e h.2)];have:((El.getD i (0,0)).2==v)=false:=by simpa using fun h=>e h.symm
   simp only[List.filter_cons,this,aL];rfl
 ·rw[if_neg (fun h=>e1 h.1)];have:((El.getD i (0,0)).1==u)=false:=by simpa using e1
  simp only[List.filter_cons,this,aI];rfl
theorem FL (El:List (Nat×Nat)) (v:Nat):oN El El.length v=fF El (fun _=>false) v:=by
 unfold oN fF;rw[List.take_length];simp
theorem FM (El:List (Nat×Nat)) (u v:Nat):lU El u El.length v=FF El u v:=by
 unfold lU FF;rw[List.take_length]
theorem He (El:List (Nat×Nat)) (i v:Nat):oN El i v≤El.length:=by
 unfold oN;exact bW (List.length_filter_le _ _) (by rw[List.length_take];omega)
theorem DP (El:List (Nat×Nat)) (T:Nat→Bool) (v:Nat):fF El T v≤El.length:=List.length_filter_le _ _
theorem Hf (El:List (Nat×Nat)) (u i v:Nat):lU El u i v≤El.length:=by
 unfold lU;exact bW (List.length_filter_le _ _) (by rw[List.length_take];omega)
theorem DQ (v:Value) (n:Nat) (El:List (Nat×Nat)) (w:World) (h:Cj w v El) (hE:Hi (jU n El)) (f1:n≤40) (ho:Hi (pq n El)):
 Calls prog 164 #[(n:Int),v] w (fun e w'=>∃v,e= .returned (.tuple #[v,()])∧Below w.heap.size w w'):=by
 obtain⟨ib,e5,e8,e7,e3⟩:=dC sy;obtain⟨i0,I,d4,a5,d5⟩:=dC tX;have H:=ar h;have b8:Hi (∀W,Below w.heap.size w W→Gv 207 #[(n:Int),v] (.int .i64 0) W):=fun W z=>FK v n El W (bs.below H.o z) hE;obtain⟨q,hq⟩:=oE El.length;have HQ:=ar hq;have h2:bs w v q 2 (fun i=>#[((El.getD i (0,0)).1:Int),((El.getD i (0,0)).2:Int)]):=by rw[←hq];exact h
 obtain⟨oa,cap,rfl,f4,f3,-⟩:=bs.form h2 (fun _=>rfl);have c2:=ar h2;have L:Hi (q≤1600∧∀i,i<q→(El.getD i (0,0)).1<n∧(El.getD i (0,0)).2<n):=by
  have:=hE.o;unfold jU at this;rw[hq]at this;exact⟨this.1,fun i I=>⟨(this.2 i I).1,(this.2 i I).2.1⟩⟩
 clear hq h2;have k1:decide ((n:Int)<0)=false:=df;have k2:decide ((256:Int)<(n:Int))=false:=df;have e9:decide (256<n)=false:=df;clear h;go_enter func164,ntmps164;go_wp2_with fail
 go_step3
 go_wp2_with fail
 (go_at_call 207;refine mz (b8.o _ (by go_grown)) fun w1 c9=> ?_);have a6:Hi (Below w.heap.size w w1):=ag (w:=w) (by go_grown) c9;clear c9 k1 k2 e9;obtain⟨d,c7⟩:=oE w1.heap.size;have b5:=ar c7;have z1:w.heap.size≤d:=by have:=a6.o.size;omega
 clear c7;go_wp2_with (refine wpList_make_row _ rfl _ _ 109 rfl 3 i0 _ underlying109 I d4 a5 rfl _ _ n rfl rfl (by rw[d5];omega) (by omega) ?_;rw[Ii])
 rw[b5.o];clear H b8 hE;go_wp2;go_loopw[31] (fun x wr=>∃i:Nat,i≤q∧x= .int .i64 i∧Hi (wr.heap[d]?=some (.cells (ji n (fun v=>(oN El i v:Int))) 3))∧Below w.heap.size w wr) (fun x _=>q-(intOf x).toNat)
 case atStart=>
  have h1:=a6.o;have h2:=h1.size;refine⟨0,by omega,rfl,?_,by go_grown⟩;show _=_;rw[show(fun v=>(oN El 0 v:Int))=(fun _=>0)from funext fun v=>by simp[oN]];exact bf _ _ _ b5.o.symm
 case round=>
  obtain⟨Z,rfl⟩:=wE wr;obtain⟨i,e6,rfl,m,hB⟩:=hrel;have J:=ar hB;have z2:d<Z.heap.size:=(av.1 m.o).1;have f0:=hB.size;clear hB;by_cases hlq:i<q
  ·obtain⟨bc,fc,rfl,hl,r⟩:=bs.at c2.o (fun _=>rfl) hlq;have t:=J.o;obtain⟨a,G⟩:=oE ((El.getD i (0,0)).1);obtain⟨b,z⟩:=oE ((El.getD i (0,0)).2);have Y:=L.o.2 i hlq;have c0:Z.cell? (bc,fc+i*2)=some (a:Int):=bI t hl (by have:=r i hlq 0 _ rfl;rw[G]at this;exact this);have c1:Z.cell? (bc,fc+i*2+1)=some (b:Int):=bI t hl (by have:=r i hlq 1 _ rfl;rw[z]at this;exact this);rw[G,z]at Y;have b0:=dS b;have b1:(b:Int)<(n:Int):=by omega
   clear r t;obtain⟨c,X⟩:=oE (oN El i b);have HC:=ar X;have r:=He El i b;rw[HQ.o,X]at r;have F:=L.o.1;have u1:IntKind.i64.wrap ((c:Int)+1)=(c:Int)+1:=iw;have wc:Z.cell? (d,b)=some (c:Int):=by rw[sw m.o Y.2,X]
   have wf:Z.frozen? (d,b)=false:=frozen_of_row Z d b _ _ m.o;have B:Hi (∀W:World,W.heap[d]?=some (.cells (ji n (fun v=>(oN El i v:Int))) 3)→(W.setCell (d,b) (.int .i64 ((c:Int)+1))).heap[d]?=some (.cells (ji n (fun v=>(oN El (i+1) v:Int))) 3)):=fun W hW=>by
    rw[Dx hW];congr 2;refine sr fun v _=> ?_;rw[DN (by have:=HQ.o;omega),z];unfold wG;by_cases e:v=b
    ·rw[if_pos e,if_pos e,e,X];push_cast;rfl
    ·rw[if_neg e,if_neg e];rfl
   clear G z X r Y F;go_wp2;go_roundw
   case rel=>exact⟨i+1,by omega,by go_num,(aV _ _ _ (by simp;omega)).trans (B.o _ m.o),(J.o.setCell (p:=⟨d,b,none⟩) z1 _).alloc (by simp;omega) _⟩
   case measure=>simp[intOf];omega
  ·obtain rfl:q=i:=by omega
   have b6:Hi (Z.heap[d]?=some (.cells (ji n (fun v=>(fF El (fun _=>false) v:Int))) 3)):=by
    show _=_;rw[show(fun v=>(fF El (fun _=>false) v:Int))=(fun v=>(oN El q v:Int))from funext fun v=>by rw[←HQ.o,FL]];exact m.o
   obtain⟨f,Q⟩:=oE Z.heap.size;have f2:=ar Q;clear m;go_wp2_with (first|(refine wpList_make_own _ rfl _ _ 109 rfl f 3 i0 (.int .i64 0) 1 underlying109 I d4 a5 _ _ _ n rfl rfl rfl (by rw[d5];omega) (by unfold maxLen;omega) (by omega) ?_;intro w4 P a2;obtain⟨s,a1⟩:∃b,w4.heap.size=b:=⟨_,rfl⟩)|(refine wpList_make_row _ rfl _ _ 150 rfl 4 ib _ underlying150 e5 e8 e7 rfl _ _ n rfl rfl (by rw[e3];omega) (by omega) ?_;rw[Dz])|fail)
   try rw[Q]at P
   try rw[Q]
   try rw[a1]
   have zO:f<w4.heap.size:=by
    have:=(eh P (b:=f) rfl).2;omega
   have a7:Hi (Below w.heap.size w w4):=Below.grown J.o a2 f0 (fun q hq=>by cases hq);have U:Hi (w4.heap[d]?=some (.cells (ji n (fun v=>(fF El (fun _=>false) v:Int))) 3)):=(a2.block d z2 (fun e=>by cases e)).trans b6.o;have c3:=ar P;have f5:d<f:=by omega
   have g2:w.heap.size≤f:=by omega
   clear P a2 Q b6 J;have d9:=ar a1;have f6:f<s:=by omega
   have z4:w.heap.size≤w4.heap.size:=by omega
   clear zO a1
   go_step3
   go_wp2;go_loopw[10] (fun o wr=>∃(k:Nat) (xs:List Value),k≤n∧o= .slice (some ⟨f,0,none⟩) k n∧Hi (wr.ownsRow f 3 1 (.slice (some ⟨f,0,none⟩) k n) k xs)∧Hi (wr.heap[d]?=some (.cells (ji n (fun v=>(fF El (fQ n El k) v:Int))) 3))∧Hi (wr.heap[s]?=some (.cells (iH n (fQ n El k)) 4))∧Below w.heap.size w wr) (fun o _=>match o with| .slice _ l _=>n-l|_=>0)
   case atStart=>
    have hd:=d9.o;exact⟨0,[],by omega,rfl,bD c3.o ((ah _ _).alloc (aB _) _),(aV _ _ _ (by omega)).trans U.o,bf _ _ _ hd.symm,a7.o.alloc z4 _⟩
   case round=>
    clear c3 U a7;obtain⟨w5,rfl⟩:=wE wr;obtain⟨k,xs,-,rfl,HO,m,E,hB⟩:=hrel;have a8:=ar hB;have z5:=hB.size;have f9:s<w5.heap.size:=(av.1 E.o).1;clear hB;by_cases hlt:k<n
    ·have a3:=ho.o k hlt;obtain⟨T,hT⟩:=oE (fQ n El k);have e2:=ar hT;rw[hT]at m E a3;have e0:=ar a3;clear hT a3;have f7:d<w5.heap.size:=by omega
     have g1:f<w5.heap.size:=by omega
     go_wp2;go_loopw[10,52] (fun o x wr=>∃p:Nat,p≤n∧o= .slice (some ⟨f,0,none⟩) k n∧x= .int .i64 p∧Hi (∀i,i<p→jB El T i=false)∧Hi (wr=w5)) (fun _ x _=>n-(intOf x).toNat)
     case atStart=>exact⟨0,by omega,rfl,rfl,fun i I=>absurd I (by omega),rfl⟩
     case round=>
      obtain⟨p,hp,rfl,rfl,hm,a4⟩:=hrel;have a4:=a4.o;subst a4;obtain⟨w6,rfl⟩:=wE wr;by_cases hpn:p<n
      ·have c0:w6.cell? (s,p)=some (.bool (T p)):=jt E.o hpn;have c1:w6.cell? (d,p)=some (fF El T p:Int):=sw m.o hpn;have p0:=dS p;have p1:(p:Int)<(n:Int):=by omega
       obtain⟨D,hD⟩:=oE (T p);obtain⟨C,hC⟩:=oE (fF El T p);rw[hD]at c0;rw[hC]at c1;have HF:Hi (jB El T p=(!D&&decide (C=0))):=by
        show _=_;rw[Dm,hD,hC]
       have HD:=ar hD;have HC:=ar hC;clear hD hC;by_cases hf:D=false∧C=0
       ·obtain⟨rfl,rfl⟩:=hf;have e1:Hi (jd n El T=p):=by
         show bq _ _ _=_;exact kP (by omega) (fun i I=>hm.o i I) (fun _=>by rw[HF.o];rfl)
        have HW:Hi (∀W:World,W.heap[f]?=w6.heap[f]?→W.ownsRow f 3 1 (.slice (some ⟨f,0,none⟩) k n) k xs):=fun W h=>cZ HO.o (fun g hg=>by cases hg;exact h);have d1:w6.frozen? (s,p)=false:=frozen_of_row w6 s p _ _ E.o;clear HF hm;go_wp2_with (first|(at_builtin;refine wpList_append_fits _ rfl _ _ 109 rfl f 3 i0 1 underlying109 I a5 f k n xs rfl (HW.o _ ((aV _ _ _ (by simp;omega)).trans (da _ _ _ _ _ (by show f≠s;omega)))) ⟨w6.heap.size,0,none⟩ 1 1 [.int .i64 (p:Int)] rfl rfl (fun j u hj=>by match j,hj with|0,hj=>(simp at hj;subst hj;simp[Addr.add];first|done|rfl|(simp[go_sem];done))) (fun u hu=>by simp at hu;subst hu;rfl) (by omega) ?_;intro w7 c8 R)|fail)
        have a9:Hi (w7.heap[d]?=some (.cells (ji n (fun v=>(fF El T v:Int)-(lU El p 0 v:Int))) 3)):=by
         show _=_;rw[show(fun v=>(fF El T v:Int)-(lU El p 0 v:Int))=(fun v=>(fF El T v:Int))from funext fun v=>by simp[lU]];exact(R.block d (by simp;omega) (fun e=>by cases e;omega)).trans ((aV _ _ _ (by simp;omega)).trans ((da _ _ _ _ _ (by show d≠s;omega)).trans m.o))
        have b9:Hi (w7.heap[s]?=some (.cells (iH n (lO T p)) 4)):=by
         refine(R.block s (by simp;omega) (fun e=>by cases e;omega)).trans ((aV _ _ _ (by simp;omega)).trans ((uU E.o).trans ?_));congr 2
        have c6:Hi (Below w.heap.size w w7):=Below.grown ((a8.o.setCell (p:=⟨s,p,none⟩) (by show w.heap.size≤s;omega) _).alloc (by simp;omega) _) R (by simp;omega) (fun g hg=>by cases hg;omega);have c4:Hi (w7.ownsRow f 3 1 (.slice (some ⟨f,0,none⟩) (k+1) n) (k+1) (xs++ [.int .i64 (p:Int)])):=c8;clear c8 R HW d1 c0 c1;go_wp2;go_loopw[75] (fun x ws=>∃i:Nat,i≤q∧x= .int .i64 i∧Hi (ws.heap[d]?=some (.cells (ji n (fun v=>(fF El T v:Int)-(lU El p i v:Int))) 3))∧Hi (ws.heap[s]?=some (.cells (iH n (lO T p)) 4))∧Hi (ws.ownsRow f 3 1 (.slice (some ⟨f,0,none⟩) (k+1) n) (k+1) (xs++ [.int .i64 (p:Int)]))∧Below w.heap.size w ws) (fun x _=>q-(intOf x).toNat)
        case atStart=>exact⟨0,by omega,rfl,a9.o,b9.o,c4.o,c6.o⟩
        case round=>
         clear a9 b9 c4 c6;obtain⟨A,rfl⟩:=wE wr;obtain⟨i,e6,rfl,y,K,a0,hX⟩:=hrel;have O:=ar hX;have z8:=hX.size;have f8:d<A.heap.size:=(av.1 y.o).1;have g0:s<A.heap.size:=(av.1 K.o).1;clear hX;by_cases hlq:i<q
         ·obtain⟨bc,fc,rfl,hl,r⟩:=bs.at c2.o (fun _=>rfl) hlq;have t:=O.o;obtain⟨a,G⟩:=oE ((El.getD i (0,0)).1);obtain⟨b,z⟩:=oE ((El.getD i (0,0)).2);have Y:=L.o.2 i hlq;have c0:A.cell? (bc,fc+i*2)=some (a:Int):=bI t hl (by have:=r i hlq 0 _ rfl;rw[G]at this;exact this);have c1:A.cell? (bc,fc+i*2+1)=some (b:Int):=bI t hl (by have:=r i hlq 1 _ rfl;rw[z]at this;exact this);rw[G,z]at Y;have b0:=dS b;have b1:(b:Int)<(n:Int):=by omega
          clear r t;have N:=ar (DO (El:=El) (i:=i) (by have:=HQ.o;omega) p);by_cases hap:a=p
          ·obtain⟨c,X⟩:=oE ((fF El T b:Int)-(lU El p i b:Int):Int);have d2:=DP El T b;have d3:=Hf El p i b;rw[HQ.o]at d2 d3;have F:=L.o.1;have u1:IntKind.i64.wrap (c-1)=c-1:=iw;have wc:A.cell? (d,b)=some c:=by rw[sw y.o Y.2,X]
           have wf:A.frozen? (d,b)=false:=frozen_of_row A d b _ _ y.o;have B:Hi ((A.setCell (d,b) (.int .i64 (c-1))).heap[d]?=some (.cells (ji n (fun v=>(fF El T v:Int)-(lU El p (i+1) v:Int))) 3)):=by
            show _=_;rw[Dx y.o];congr 2;refine sr fun v _=> ?_;rw[N.o,G,z];unfold wG;by_cases e:v=b
            ·rw[if_pos e,if_pos ⟨hap,e⟩,e];push_cast;omega
            ·rw[if_neg e,if_neg (fun h=>e h.2)];rfl
           have k9:((a:Int)==(p:Int))=true:=by rw[hap];simp
           have d6:(a==p)=true:=by rw[hap];simp
           clear G z X d2 d3 F Y N hap;go_wp2;go_roundw
           case rel=>exact⟨i+1,by omega,by go_num,(aV _ _ _ (by simp;omega)).trans B.o,(aV _ _ _ (by simp;omega)).trans ((da _ _ _ _ _ (by show s≠d;omega)).trans K.o),cZ a0.o (fun g hg=>by cases hg;exact(aV _ _ _ (by simp;omega)).trans (da _ _ _ _ _ (by show f≠d;omega))),(O.o.setCell (p:=⟨d,b,none⟩) z1 _).alloc (by simp;omega) _⟩
           case measure=>simp[intOf];omega
          ·have B:Hi (A.heap[d]?=some (.cells (ji n (fun v=>(fF El T v:Int)-(lU El p (i+1) v:Int))) 3)):=by
            show _=_;rw[show(fun v=>(fF El T v:Int)-(lU El p (i+1) v:Int))=(fun v=>(fF El T v:Int)-(lU El p i v:Int))from funext fun v=>by rw[N.o,G,if_neg (fun h=>hap h.1)];rfl];exact y.o
           have k9:((a:Int)==(p:Int))=false:=by simp;omega
           have d6:(a==p)=false:=by simp;omega
           clear G z Y N hap;go_wp2;go_roundw
           case rel=>exact⟨i+1,by omega,by go_num,(aV _ _ _ (by omega)).trans B.o,(aV _ _ _ (by omega)).trans K.o,cZ a0.o (fun g hg=>by cases hg;exact aV _ _ _ (show f<A.heap.size by omega)),O.o.alloc z8 _⟩
           case measure=>simp[intOf];omega
         ·obtain rfl:q=i:=by omega
          have c5:Hi (fQ n El (k+1)=lO T p):=by
           show lO (fQ n El k) (jd n El (fQ n El k))=_;rw[e2.o,e1.o]
          have d7:Hi (A.heap[d]?=some (.cells (ji n (fun v=>(fF El (fQ n El (k+1)) v:Int))) 3)):=by
           show _=_;rw[show(fun v=>(fF El (fQ n El (k+1)) v:Int))=(fun v=>(fF El T v:Int)-(lU El p q v:Int))from funext fun v=>by
            rw[c5.o,←HQ.o,FM];have:=xW El T p v HD.o;omega]
           exact y.o
          have d8:Hi (A.heap[s]?=some (.cells (iH n (fQ n El (k+1))) 4)):=by
           show _=_;rw[c5.o];exact K.o
          go_wp2;go_roundw
          case rel=>exact⟨k+1,_,by omega,rfl,a0.o,d7.o,d8.o,O.o⟩
          case measure=>show n-(k+1)<n-k;omega
       ·have d0:Hi (∀i,i<p+1→jB El T i=false):=kB hm.o (by
         rw[HF.o];cases D
         ·have:C≠0:=fun e=>hf ⟨rfl,e⟩;simp[this]
         ·rfl)
        cases D with
        |true=>
         clear hf;go_wp2;go_roundw
         case rel=>exact⟨p+1,by omega,rfl,by go_num,d0,True.intro⟩
         case measure=>simp[intOf];omega
        |false=>
         have e4:0<C:=by
          rcases Nat.eq_zero_or_pos C with e|e
          ·exact absurd ⟨rfl,e⟩ hf
          ·exact e
         have d6:decide (0<C)=true:=decide_eq_true e4;clear hf;go_wp2;go_roundw
         case rel=>exact⟨p+1,by omega,rfl,by go_num,d0,True.intro⟩
         case measure=>simp[intOf];omega
      ·exfalso;have h1:=e0.o;have h2:=(dH (jB El T) n 0).2.2.1 (by unfold jd at h1;omega);have h3:=hm.o (jd n El T) (by omega);unfold jd at h3;rw[h2]at h3;cases h3
    ·go_wp2;rw[Exit.noGoto_ret];go_returns;exact⟨_,rfl,a8.o⟩
theorem ig (n lo a:Int) (w:World) (b:lo≤n) (c:n≤a):Gv 195 #[n,lo,a] (.bool true) w:=by
 go_enter func195,ntmps195;go_wp2;go_returns;exact⟨rfl,by go_grown⟩
theorem Bx (p:ByteArray) (s t:Int) (v:Value) (n:Nat) (f:Nat→Int) (w:World) (h:ew w v n f) (hs:p.size≤1048576) (hn:dM p=true) (D:1000≤s∧s≤20000) (E:100≤t∧t≤1500) (hl:0<n∧n≤16) (Z:Hi (∀i,i<n→(1≤f i∧f i≤120)∧(0<i→f (i-1)<f i))):
 Gv 147 #[.agg #[.string p,s,t,v]] (.int .i64 0) w:=by
 obtain⟨oa,cap,rfl,-,m⟩:=h.form;have A:=ar m;have C:Hi (∀W,Gv 117 #[.string p] (.bool true) W):=fun W=>by rw[←hn];exact jw p W (by omega)
 have u:Hi (∀W,Gv 195 #[s,.int .i64 1000,.int .i64 20000] (.bool true) W):=fun W=>ig _ _ _ W (D).1 (D).2;have x:Hi (∀W,Gv 195 #[t,.int .i64 100,.int .i64 1500] (.bool true) W):=fun W=>ig _ _ _ W (E).1 (E).2;clear h m hs hn D E;have k0:((n:Int)==0)=false:=by simp;omega
 have F:(n==0)=false:=by simp;omega
 have k1:decide ((16:Int)<(n:Int))=false:=df;have G:decide (16<n)=false:=df;go_enter func147,ntmps147;go_wp2_with fail
 (go_at_call 117;refine mz (C.o _) fun w1 g=> ?_);obtain⟨L,Q,P⟩:=aF.ex (aF.step ((aF.nil (ah w.heap.size w)).alloc (w.heap.size) rfl _ _) g);have e:=ar Q;have I:=ar P;clear Q P g;obtain⟨-,x1,-,b,-,-⟩:=bR (aF.nth I.o e.o 0 rfl);go_wp2_with fail
 (go_at_call 195;refine cy (u.o _) I fun w2 J=> ?_);clear x1 b;obtain⟨-,-,x2,b,-,-⟩:=bR (aF.nth J.o e.o 0 rfl);go_wp2_with fail
 (go_at_call 195;refine cy (x.o _) J fun w3 K=> ?_);clear x2 b;obtain⟨-,-,-,b,-,-⟩:=bR (aF.nth K.o e.o 0 rfl);go_wp2;clear b;clear k0 F k1 G;go_loopw[34] (fun i wr=>∃j:Nat,j≤n∧i= .int .i64 j∧aF w wr L) (fun i _=>n-(intOf i).toNat)
 case atStart=>exact⟨0,by omega,rfl,K.o⟩
 case round=>
  obtain⟨w4,rfl⟩:=wE wr;obtain⟨j,-,rfl,R⟩:=hrel;have r:=ar R;clear R;obtain⟨-,-,-,b,-,xz⟩:=bR (aF.nth r.o e.o 0 rfl);by_cases hlt:j<n
  ·obtain⟨N,O,rfl,l,c⟩:=A.o j hlt;have a:=Z.o j hlt;have U:w4.cell? (N,O+j)=some (f j):=bI r.o.1 l (c j hlt);have y:Hi (∀W,Gv 195 #[(f j),.int .i64 1,.int .i64 120] (.bool true) W):=fun W=>ig _ _ _ W (a.1).1 (a.1).2;have z:Hi (0<j→∀W,aF w W L→W.cell? (N,O+(j-1))=some (.int .i64 (f (j-1)))):=fun d W Y=>bI Y.1 l (c (j-1) (by omega));have B:=ar a.2;clear a c;go_wp2_with fail
   (go_at_call 195;refine cy (y.o _) r fun w5 q=> ?_);clear U;clear b;obtain⟨-,-,-,b,-,-⟩:=bR (aF.nth q.o e.o 0 rfl);by_cases d:0<j
   ·obtain⟨k,hk⟩:∃k:Nat,k+1=j:=⟨j-1,by omega⟩;have o:j-1=k:=by omega
    have T:=B.o d;have X:=z.o d w5 q.o;rw[o]at T X;have m1:(j:Int)-1=(k:Int):=by omega
    have H:decide (0<j)=true:=decide_eq_true d;have m3:decide (f j≤f k)=false:=df;have m4:=dS k;have m5:(k:Int)<(n:Int):=by omega
    have m6:IntKind.i64.wrap ((j:Int)-1)=(k:Int):=by rw[m1];exact iw
    clear hk o T;go_wp2;go_roundw
    case rel=>exact⟨j+1,by omega,by go_num,q.o⟩
    case measure=>simp[intOf];omega
   ·have H:decide (0<j)=false:=decide_eq_false d;clear d;go_wp2;go_roundw
    case rel=>exact⟨j+1,by omega,by go_num,q.o⟩
    case measure=>simp[intOf];omega
  ·go_wp2;go_returns;exact⟨rfl,r.o.1⟩
theorem wM (c:ByteArray) (a d e:Int) (w:World) (t:c.size≤1048576) (hn:dM c=true) (m:1≤a∧a≤1000000) (k:1≤d∧d≤2000) (l:100≤e∧e≤32768):
 Gv 148 #[.agg #[.string c,a,d,e]] (.int .i64 0) w:=by
 have j:Hi (∀W,Gv 117 #[.string c] (.bool true) W):=fun W=>by rw[←hn];exact jw c W (by omega)
 have f:Hi (∀W,Gv 195 #[a,.int .i64 1,.int .i64 1000000] (.bool true) W):=fun W=>ig _ _ _ W (m).1 (m).2;have g:Hi (∀W,Gv 195 #[d,.int .i64 1,.int .i64 2000] (.bool true) W):=fun W=>ig _ _ _ W (k).1 (k).2;have h:Hi (∀W,Gv 195 #[e,.int .i64 100,.int .i64 32768] (.bool true) W):=fun W=>ig _ _ _ W (l).1 (l).2;clear t hn m k l;go_enter func148,ntmps148;go_wp2_with fail
 (go_at_call 117;refine mz (j.o _) fun y b=> ?_);obtain⟨L,r,q⟩:=aF.ex (aF.step ((aF.nil (ah w.heap.size w)).alloc (w.heap.size) rfl _ _) b);have i:=ar r;have n:=ar q;clear r q b;obtain⟨-,u,-,-,-,-⟩:=bR (aF.nth n.o i.o 0 rfl);go_wp2_with fail
 (go_at_call 195;refine cy (f.o _) n fun z o=> ?_);clear u;obtain⟨-,-,v,-,-,-⟩:=bR (aF.nth o.o i.o 0 rfl);go_wp2_with fail
 (go_at_call 195;refine cy (g.o _) o fun A p=> ?_);clear v;obtain⟨-,-,-,x,-,-⟩:=bR (aF.nth p.o i.o 0 rfl);go_wp2_with fail
 (go_at_call 195;refine cy (h.o _) p fun B s=> ?_);clear x;go_wp2;go_returns;exact⟨rfl,s.o.1⟩
theorem FN (v:Value) (m:fZ) (gv:Nat→Value) (w:World) (h:fE w v m gv) (Q:Hi (kC m)) (a6:Hi (∀i,i<m.ng→(m.nm i).size≤1048576)) (a7:Hi (∀i,i<m.ns→(m.sn i).size≤1048576)):
 Gv 116 #[v] (.int .i64 0) w:=by
 obtain⟨vg,vs,rfl,hG,hS,N,a5,g⟩:=h;have Y:=ar hG.2;have b5:=Q.o.ng;have b6:=Q.o.ns;obtain⟨oa,ca,rfl,-,a0⟩:=hG.form;obtain⟨ob,cb,rfl,-,a1⟩:=hS.form;have a2:=ar a0;have a3:=ar a1;clear hG hS N a5 g a0 a1;have k1:decide ((16:Int)<(m.ng:Int))=false:=df;have a8:decide (16<m.ng)=false:=df;have k2:decide ((32:Int)<(m.ns:Int))=false:=df;have a9:decide (32<m.ns)=false:=df;go_enter func116,ntmps116;go_wp2;clear k1 a8 k2 a9;obtain⟨L,hL,h0⟩:=aF.ex ((aF.nil (ah w.heap.size w)).alloc (w.heap.size) rfl _ _);have HL:=ar hL;have H0:=ar h0;clear hL h0;go_loopw[22] (fun i wr=>∃j:Nat,j≤m.ng∧i= .int .i64 j∧aF w wr L) (fun i _=>m.ng-(intOf i).toNat)
 case atStart=>exact⟨0,by omega,rfl,H0.o⟩
 case round=>
  clear H0;obtain⟨l,rfl⟩:=wE wr;obtain⟨j,-,rfl,Z⟩:=hrel;have e:=ar Z;clear Z;obtain⟨U,X,-,-⟩:=al (aF.nth e.o HL.o 0 rfl);by_cases hlt:j<m.ng
  ·obtain⟨k,t,rfl,a,b⟩:=a2.o j hlt;have s:Hi (∀W q,Below w.heap.size w W→q<m.ng→W.cell? (k,t+q*4)=some (m.nm q)∧W.cell? (k,t+q*4+1)=some (m.de q)∧W.cell? (k,t+q*4+2)=some (m.yi q)∧W.cell? (k,t+q*4+3)=some (gv q)):=fun W q F G=>⟨bI F a (b q G).1,bI F a (b q G).2.1,bI F a (b q G).2.2.1,bI F a (b q G).2.2.2⟩;obtain⟨oc,cc,O,-,-⟩:=(Y.o j hlt).form;have a4:Hi (ew w (.slice oc (m.gn j) cc) (m.gn j) (m.gf j)):=by
    show ew _ _ _ _;rw[←O];exact Y.o j hlt
   have c0:=(s.o l j e.o.1 hlt).1;have c1:=(s.o l j e.o.1 hlt).2.1;have c2:=(s.o l j e.o.1 hlt).2.2.1;have c3:=(s.o l j e.o.1 hlt).2.2.2;rw[O]at c3;clear O;have N:k<l.heap.size:=aM a e.o.1.size;clear b;have J:Hi (∀W,Below w.heap.size w W→Gv 147 #[.agg #[.string (m.nm j),(m.de j),(m.yi j),.slice oc (m.gn j) cc]] (.int .i64 0) W):=fun W d=>by
    obtain⟨r1,r2,r3,r4,r5⟩:=Q.o.g j hlt;exact Bx _ _ _ _ _ _ W (a4.o.below d) (a6.o j hlt) r1 r2 r3 ⟨r4,r5⟩ (Q.o.gr j hlt)
   go_wp2_with fail
   (go_at_call 147;refine mz (J.o _ (by have:=e.o.1;have:=e.o.1.size;go_grown)) fun E g=> ?_);have r:=ar (aF.step (e.o.alloc l.heap.size rfl _ _) g);clear g U X c0 c1 c2 c3;obtain⟨y0,-,-,-,-,yz⟩:=bR (r.o.get 0 rfl);obtain⟨U,X,-,xz⟩:=al (aF.nth r.o.tail HL.o 0 rfl);have y:=r.o.1;have g:k<E.heap.size:=aM a y.size;by_cases hj0:0<j
   ·obtain⟨p,hp⟩:∃p,p+1=j:=⟨j-1,by omega⟩;have R:p<m.ng:=by omega
    have u1:IntKind.i64.wrap ((j:Int)-1)=(p:Int):=by rw[iw];omega
    have u2:=dS p;have u3:(p:Int)<(m.ng:Int):=by omega
    have d1:E.cell? (k,t+p*4)=some (m.nm p):=(s.o E p y R).1;have T:decide (0<j)=true:=decide_eq_true hj0;have P:(Op.bytesLess (m.nm j).toList (m.nm p).toList||(m.nm j).toList==(m.nm p).toList)=false:=by
     have K:=Q.o.ga j hj0 hlt;rw[show j-1=p by omega]at K;rw[sq];unfold tj at K;rw[K];rfl
    clear hp;go_wp2_with fail
    refine aD 14 ?_;simp only[ac,aj,aK,aC,aa,ae,af];iterate 14 refine bJ ?_
    intro u o d n;simp only[cF,aR,ay.is,aE,aA,reduceIte]at n;simp only[am,ax,ac,aj,aK,aC,aa,ae,af,n];clear n;have H:=ar (ag (w:=E) (by first|assumption|go_grown) d);have c:=ar d;have f:=dx d;have B:w.heap.size<o.heap.size:=by omega
    have C:k<o.heap.size:=by omega
    have D:l.heap.size<o.heap.size:=by omega
    obtain⟨z,A⟩:=br d;clear d f;have I:=ar (aF.tail (aF.step r.o c.o));clear P hj0;go_wp2;go_roundw
    case rel=>exact⟨j+1,by omega,by go_num,I.o⟩
    case measure=>simp[intOf];omega
   ·have T:decide (0<j)=false:=decide_eq_false hj0;go_wp2_with fail
    refine aD 14 ?_;simp only[ac,aj,aK,aC,aa,ae,af];iterate 14 refine bJ ?_
    intro u o d n;simp only[cF,aR,ay.is,aE,aA,reduceIte]at n;simp only[am,ax,ac,aj,aK,aC,aa,ae,af,n];clear n;have H:=ar (ag (w:=E) (by first|assumption|go_grown) d);have c:=ar d;have f:=dx d;have B:w.heap.size<o.heap.size:=by omega
    have C:k<o.heap.size:=by omega
    have D:l.heap.size<o.heap.size:=by omega
    obtain⟨z,A⟩:=br d;clear d f;have I:=ar (aF.tail (aF.step r.o c.o));clear hj0;go_wp2;go_roundw
    case rel=>exact⟨j+1,by omega,by go_num,I.o⟩
    case measure=>simp[intOf];omega
  ·go_wp2;have H1:=e;clear e U X hlt;go_loopw[50] (fun i wr=>∃j:Nat,j≤m.ns∧i= .int .i64 j∧aF w wr L) (fun i _=>m.ns-(intOf i).toNat)
   case atStart=>exact⟨0,by omega,rfl,H1.o⟩
   case round=>
    clear H1;obtain⟨w9,rfl⟩:∃x:World,x=l:=⟨_,rfl⟩;obtain⟨l,rfl⟩:=wE wr;obtain⟨j,-,rfl,Z⟩:=hrel;have e:=ar Z;clear Z;obtain⟨U,X,-,-⟩:=al (aF.nth e.o HL.o 0 rfl);by_cases hlt:j<m.ns
    ·obtain⟨k,t,rfl,a,b⟩:=a3.o j hlt;have s:Hi (∀W q,Below w.heap.size w W→q<m.ns→W.cell? (k,t+q*4)=some (m.sn q)∧W.cell? (k,t+q*4+1)=some (m.sa q)∧W.cell? (k,t+q*4+2)=some (m.sh q)∧W.cell? (k,t+q*4+3)=some (m.ss q)):=fun W q F G=>⟨bI F a (b q G).1,bI F a (b q G).2.1,bI F a (b q G).2.2.1,bI F a (b q G).2.2.2⟩;have c0:=(s.o l j e.o.1 hlt).1;have c1:=(s.o l j e.o.1 hlt).2.1;have c2:=(s.o l j e.o.1 hlt).2.2.1;have c3:=(s.o l j e.o.1 hlt).2.2.2;have N:k<l.heap.size:=aM a e.o.1.size;clear b;have J:Hi (∀W,Below w.heap.size w W→Gv 148 #[.agg #[.string (m.sn j),(m.sa j),(m.sh j),(m.ss j)]] (.int .i64 0) W):=fun W d=>by
      obtain⟨r1,r2,r3,r4⟩:=Q.o.s j hlt;exact wM _ _ _ _ W (a7.o j hlt) r1 r2 r3 r4
     go_wp2_with fail
     (go_at_call 148;refine mz (J.o _ (by have:=e.o.1;have:=e.o.1.size;go_grown)) fun E g=> ?_);have r:=ar (aF.step (e.o.alloc l.heap.size rfl _ _) g);clear g U X c0 c1 c2 c3;obtain⟨y0,-,-,-,-,yz⟩:=bR (r.o.get 0 rfl);obtain⟨U,X,-,xz⟩:=al (aF.nth r.o.tail HL.o 0 rfl);have y:=r.o.1;have g:k<E.heap.size:=aM a y.size;by_cases hj0:0<j
     ·obtain⟨p,hp⟩:∃p,p+1=j:=⟨j-1,by omega⟩;have R:p<m.ns:=by omega
      have u1:IntKind.i64.wrap ((j:Int)-1)=(p:Int):=by rw[iw];omega
      have u2:=dS p;have u3:(p:Int)<(m.ns:Int):=by omega
      have d1:E.cell? (k,t+p*4)=some (m.sn p):=(s.o E p y R).1;have T:decide (0<j)=true:=decide_eq_true hj0;have P:(Op.bytesLess (m.sn j).toList (m.sn p).toList||(m.sn j).toList==(m.sn p).toList)=false:=by
       have K:=Q.o.sa j hj0 hlt;rw[show j-1=p by omega]at K;rw[sq];unfold tj at K;rw[K];rfl
      clear hp;go_wp2_with fail
      refine aD 14 ?_;simp only[ac,aj,aK,aC,aa,ae,af];iterate 14 refine bJ ?_
      intro u o d n;simp only[cF,aR,ay.is,aE,aA,reduceIte]at n;simp only[am,ax,ac,aj,aK,aC,aa,ae,af,n];clear n;have H:=ar (ag (w:=E) (by first|assumption|go_grown) d);have c:=ar d;have f:=dx d;have B:w.heap.size<o.heap.size:=by omega
      have C:k<o.heap.size:=by omega
      have D:l.heap.size<o.heap.size:=by omega
      obtain⟨z,A⟩:=br d;clear d f;have I:=ar (aF.tail (aF.step r.o c.o));clear P hj0;go_wp2;go_roundw
      case rel=>exact⟨j+1,by omega,by go_num,I.o⟩
      case measure=>simp[intOf];omega
     ·have T:decide (0<j)=false:=decide_eq_false hj0;go_wp2_with fail
      refine aD 14 ?_;simp only[ac,aj,aK,aC,aa,ae,af];iterate 14 refine bJ ?_
      intro u o d n;simp only[cF,aR,ay.is,aE,aA,reduceIte]at n;simp only[am,ax,ac,aj,aK,aC,aa,ae,af,n];clear n;obtain⟨f,b0,z,A,c⟩:=pr d;clear d;have I:=ar (aF.tail (aF.step r.o c.o));clear hj0;go_wp2;go_roundw
      case rel=>exact⟨j+1,by omega,by go_num,I.o⟩
      case measure=>simp[intOf];omega
    ·go_wp2;go_returns;exact⟨rfl,e.o.1⟩
theorem iW (n lo a:Int) (w:World) (b:lo≤n) (c:n≤a):Gv 198 #[n,lo,a] (.bool true) w:=by
 go_enter func198,ntmps198;go_wp2;go_returns;exact⟨rfl,by go_grown⟩
def ip (k:Int):Int:=if k=1 then 1 else if k=4 then 3 else 2
theorem eR (k:Int) (w:World) (h:1≤k∧k≤4):Gv 199 #[k] (.int .i64 (ip k)) w:=by
 have a:k=1∨k=2∨k=3∨k=4:=by omega
 clear h;rcases a with rfl|rfl|rfl|rfl
 all_goals
  go_enter func199,ntmps199;go_wp2;go_returns;exact⟨rfl,by go_grown⟩
theorem By (D:bX) (S:cN) (w:World) (m:1≤D.kd∧D.kd≤4) (b:D.kd≠1→D.th=0∧D.no=0∧D.nh=0) (f:D.kd≠4→D.ma=0∧D.e1=0∧D.e2=0∧D.e3=0) (h:D.kd=1∨D.kd=4→D.s=⟨#[]⟩∧D.ln=0) (i:D.kd=4→D.g=⟨#[]⟩) (j:D.kd=1→1≤D.th) (k:D.kd=4→1≤D.ma):
 Gv 200 #[.agg (aH D S)] (.bool false) w:=by
 obtain⟨I,rv,n,J,g,z,K,P,nh,hn,H,s,u,y,E,F,G,A,B,C,t⟩:=D;dsimp only at*
 have r:n=1∨n=2∨n=3∨n=4:=by omega
 rcases r with rfl|rfl|rfl|rfl
 ·obtain⟨rfl,rfl⟩:=h (.inl rfl);obtain⟨rfl,rfl,rfl,rfl⟩:=f (by decide);have x:(z !=0)=true:=by simp;have:=j (by trivial);omega
  clear b f h i j k m;have e:Hi (∀W,Gv 199 #[.int .i64 1] (.int .i64 1) W):=fun W=>eR 1 W (by decide);unfold aH;dsimp only;go_enter func200,ntmps200;go_wp2_with fail
  (go_at_call 199;refine mz (e.o _) fun o a=> ?_);obtain⟨L,c,b⟩:=aF.ex (aF.step ((aF.nil (ah w.heap.size w)).alloc (w.heap.size) rfl _ _) a);have l:=ar c;have d:=ar b;clear c b a;go_wp2;go_returns;exact⟨rfl,d.o.1⟩
 ·obtain⟨rfl,rfl,rfl⟩:=b (by decide);obtain⟨rfl,rfl,rfl,rfl⟩:=f (by decide);obtain⟨q,v⟩:=oE ((s.toList==([]:List UInt8)));obtain⟨p,c⟩:=oE ((u !=0));clear b f h i j k m;have e:Hi (∀W,Gv 199 #[.int .i64 2] (.int .i64 2) W):=fun W=>eR 2 W (by decide);unfold aH;dsimp only;cases q<;>cases p
  all_goals
   go_enter func200,ntmps200;go_wp2_with fail
   (go_at_call 199;refine mz (e.o _) fun o a=> ?_);obtain⟨L,c,b⟩:=aF.ex (aF.step ((aF.nil (ah w.heap.size w)).alloc (w.heap.size) rfl _ _) a);have l:=ar c;have d:=ar b;clear c b a;go_wp2;go_returns;exact⟨rfl,d.o.1⟩
 ·obtain⟨rfl,rfl,rfl⟩:=b (by decide);obtain⟨rfl,rfl,rfl,rfl⟩:=f (by decide);obtain⟨q,v⟩:=oE ((s.toList==([]:List UInt8)));obtain⟨p,c⟩:=oE ((u !=0));clear b f h i j k m;have e:Hi (∀W,Gv 199 #[.int .i64 3] (.int .i64 2) W):=fun W=>eR 3 W (by decide);unfold aH;dsimp only;cases q<;>cases p
  all_goals
   go_enter func200,ntmps200;go_wp2_with fail
   (go_at_call 199;refine mz (e.o _) fun o a=> ?_);obtain⟨L,c,b⟩:=aF.ex (aF.step ((aF.nil (ah w.heap.size w)).alloc (w.heap.size) rfl _ _) a);have l:=ar c;have d:=ar b;clear c b a;go_wp2;go_returns;exact⟨rfl,d.o.1⟩
 ·obtain⟨rfl,rfl⟩:=h (.inr rfl);obtain⟨rfl,rfl,rfl⟩:=b (by decide);obtain rfl:=i rfl;have x:(y !=0)=true:=by simp;have:=k rfl;omega
  clear b f h i j k m;have e:Hi (∀W,Gv 199 #[.int .i64 4] (.int .i64 3) W):=fun W=>eR 4 W (by decide);unfold aH;dsimp only;go_enter func200,ntmps200;go_wp2_with fail
  (go_at_call 199;refine mz (e.o _) fun o a=> ?_);obtain⟨L,c,b⟩:=aF.ex (aF.step ((aF.nil (ah w.heap.size w)).alloc (w.heap.size) rfl _ _) a);have l:=ar c;have d:=ar b;clear c b a;have N:o.cell? (w.heap.size,4)=some (.string ⟨#[]⟩):=aX (aF.nth d.o l.o 0 rfl) rfl;go_wp2;go_returns;exact⟨rfl,d.o.1⟩
theorem Bz (a b c:Int) (w:World) (h:dR 524288 (a,b,c)):Gv 202 #[.agg #[a,b,c]] (.bool true) w:=by
 have g:Hi (∀W,Gv 86 #[.agg #[a,b,c,()]] (.bool true) W):=fun W=>by
  have e:=pb a b c 0 W;rw[show eL (a,b,c) 0=true by unfold eL;rw[decide_eq_true h];decide]at e;exact e
 go_enter func202,ntmps202;go_wp2_with fail
 (go_at_call 86;refine mz (g.o _) fun i d=> ?_);have f:Hi (Below w.heap.size w i):=ag (w:=w) (by go_grown) d;clear d;go_wp2;go_returns;exact⟨rfl,f.o⟩
theorem BD (D:bX) (S:cN) (v:Value) (m:fZ) (gv:Nat→Value) (w:World) (Q:fE w v m gv) (l:em m D):Gv 201 #[.agg (aH D S),v] (.bool true) w:=by
 obtain⟨C,n⟩:=oE (m.de (m.gi D.g));have hk:=l.kd;rcases(by omega:D.kd=1∨D.kd=4∨(D.kd≠1∧D.kd≠4))with hkd|hkd|hkd
 ·have H:Hi (∀W,Gv 199 #[D.kd] (.int .i64 1) W):=fun W=>by
   have c:=eR D.kd W hk;rw[show ip D.kd=1 by unfold ip;simp only[hkd];rfl]at c;exact c
  obtain⟨hG,t,u⟩:=l.gr (by omega);have J:Hi (∀W,Below w.heap.size w W→Calls prog 203 #[v,.string D.g] W (fun e w'=>∃o y Y n1 K,e= .returned (.tuple #[.agg #[.string o,C,.int .i64 y,.slice Y n1 K],.bool true])∧Below W.heap.size W w')):=fun W P=>(mj v m gv D.g W (Q.below P)).mono fun e w' hp=>by
   obtain⟨o,d,y,g1,c,q,h3,h4⟩:=hp;obtain⟨Y,K,rfl,-,-⟩:=h3.form;rw[hG]at c q;rw[n]at q;rw[q rfl]at c;exact⟨o,y,_,_,_,c,h4⟩
  rw[n]at t u;have x:1000≤C∧C≤20000:=⟨t,u⟩;have I:Hi (∀W,Gv 198 #[C,.int .i64 1000,.int .i64 20000] (.bool true) W):=fun W=>iW _ _ _ W (x).1 (x).2;obtain⟨b6,b8,b5⟩:=l.p1 hkd;have b0:Hi (∀W,Below w.heap.size w W→Gv 326 #[v,.string D.g,D.th] (.bool true) W):=fun W P=>by rw[←b5];exact xI v m gv _ _ W (Q.below P)
  have a5:1≤D.th∧D.th≤120:=⟨b6,b8⟩;have a9:Hi (∀W,Gv 198 #[D.th,.int .i64 1,.int .i64 120] (.bool true) W):=fun W=>iW _ _ _ W (a5).1 (a5).2;obtain⟨vg,vs,rfl,g,i,-,-,-⟩:=Q;obtain⟨og,cg,rfl,-,-⟩:=g.form;obtain⟨a6,a0,rfl,-,-⟩:=i.form;clear g i l n hk hkd;unfold aH;go_enter func201,ntmps201;go_wp2_with fail
  (go_at_call 199;refine mz (H.o _) fun Z j=> ?_);obtain⟨L,E,c⟩:=aF.ex (aF.step (((aF.nil (ah w.heap.size w)).alloc (w.heap.size) rfl _ _).alloc (w.heap.size+1) (by simp) _ _) j);have f:=ar E;have p:=ar c;clear E c j;have b:Hi (Z.heap[w.heap.size]?=some (.cells (aH D S) 62)):=aF.nth p.o f.o 1 rfl;have z:Z.cell? (w.heap.size,4)=some D.g:=aX b.o rfl;obtain⟨U,X,-,-⟩:=al (aF.nth p.o f.o 0 rfl);go_wp2_with fail
  (go_at_call 203;refine(J.o _ p.o.1).mono ?_;rintro e_ w2 ⟨o,y,Y,n1,K,rfl,r⟩);have H2:=ar (aF.step p.o r);clear r;clear z;clear U X b;have b:Hi (w2.heap[w.heap.size]?=some (.cells (aH D S) 62)):=aF.nth H2.o f.o 1 rfl;go_wp2_with fail
  (go_at_call 198;refine mz (I.o _) fun w3 s=> ?_);have H3:=ar (aF.tail (aF.step (H2.o.alloc w2.heap.size rfl _ _) s));clear s;clear b;have b:Hi (w3.heap[w.heap.size]?=some (.cells (aH D S) 62)):=aF.nth H3.o f.o 1 rfl;have A:w3.cell? (w.heap.size,2)=some D.kd:=aX b.o rfl;go_wp2_with fail
  (go_at_call 199;refine cy (H.o _) H3 fun w4 F=> ?_);clear A;clear b;have b:Hi (w4.heap[w.heap.size]?=some (.cells (aH D S) 62)):=aF.nth F.o f.o 1 rfl;have B:w4.cell? (w.heap.size,5)=some D.th:=aX b.o rfl;go_wp2_with fail
  (go_at_call 198;refine cy (a9.o _) F fun w5 G=> ?_);clear B;clear b;have b:Hi (w5.heap[w.heap.size]?=some (.cells (aH D S) 62)):=aF.nth G.o f.o 1 rfl;obtain⟨-,-,-,-,z,B,-,-,-,-,-,-,-,-,-,-,-,-⟩:=tb b.o;obtain⟨U,X,-,-⟩:=al (aF.nth G.o f.o 0 rfl);go_wp2_with fail
  (go_at_call 326;refine cy (b0.o _ G.o.1) G fun w6 H6=> ?_);clear z B;clear U X b;have b:Hi (w6.heap[w.heap.size]?=some (.cells (aH D S) 62)):=aF.nth H6.o f.o 1 rfl;go_wp2;go_returns;exact⟨rfl,H6.o.1⟩
 ·have H:Hi (∀W,Gv 199 #[D.kd] (.int .i64 3) W):=fun W=>by
   have c:=eR D.kd W hk;rw[show ip D.kd=3 by unfold ip;simp only[hkd];rfl]at c;exact c
  obtain⟨vg,vs,rfl,g,i,-,-,-⟩:=Q;obtain⟨og,cg,rfl,-,-⟩:=g.form;obtain⟨a6,a0,rfl,-,-⟩:=i.form;clear g i l n hk hkd;unfold aH;go_enter func201,ntmps201;go_wp2_with fail
  (go_at_call 199;refine mz (H.o _) fun Z j=> ?_);obtain⟨L,E,c⟩:=aF.ex (aF.step (((aF.nil (ah w.heap.size w)).alloc (w.heap.size) rfl _ _).alloc (w.heap.size+1) (by simp) _ _) j);have f:=ar E;have p:=ar c;clear E c j;have b:Hi (Z.heap[w.heap.size]?=some (.cells (aH D S) 62)):=aF.nth p.o f.o 1 rfl;go_wp2;go_returns;exact⟨rfl,p.o.1⟩
 ·have H:Hi (∀W,Gv 199 #[D.kd] (.int .i64 2) W):=fun W=>by
   have c:=eR D.kd W hk;rw[show ip D.kd=2 by unfold ip;first|rfl|(rw[if_neg (by omega),if_neg (by omega)])]at c;exact c
  obtain⟨hG,t,u⟩:=l.gr (by omega);have J:Hi (∀W,Below w.heap.size w W→Calls prog 203 #[v,.string D.g] W (fun e w'=>∃o y Y n1 K,e= .returned (.tuple #[.agg #[.string o,C,.int .i64 y,.slice Y n1 K],.bool true])∧Below W.heap.size W w')):=fun W P=>(mj v m gv D.g W (Q.below P)).mono fun e w' hp=>by
   obtain⟨o,d,y,g1,c,q,h3,h4⟩:=hp;obtain⟨Y,K,rfl,-,-⟩:=h3.form;rw[hG]at c q;rw[n]at q;rw[q rfl]at c;exact⟨o,y,_,_,_,c,h4⟩
  rw[n]at t u;have x:1000≤C∧C≤20000:=⟨t,u⟩;have I:Hi (∀W,Gv 198 #[C,.int .i64 1000,.int .i64 20000] (.bool true) W):=fun W=>iW _ _ _ W (x).1 (x).2;obtain⟨a1,R,T,-,-⟩:=l.p2 (by omega);obtain⟨SA,N⟩:=oE (m.sa (m.si D.s));obtain⟨SH,O⟩:=oE (m.sh (m.si D.s));have b1:Hi (∀W,Below w.heap.size w W→Calls prog 204 #[v,.string D.s] W (fun e w'=>∃o k,e= .returned (.tuple #[.agg #[.string o,SA,SH,.int .i64 k],.bool true])∧Below W.heap.size W w')):=fun W P=>(pY v m gv D.s W (Q.below P)).mono fun e w' hp=>by
   obtain⟨o,a,h,k,c,q,h3⟩:=hp;rw[a1,N,O]at q;rw[a1,(q rfl).1,(q rfl).2]at c;exact⟨o,k,c,h3⟩
  rw[N]at R;rw[O]at T;have a7:Hi (∀W,Gv 198 #[SA,.int .i64 1,.int .i64 1000000] (.bool true) W):=fun W=>iW _ _ _ W (R).1 (R).2;have a8:Hi (∀W,Gv 198 #[SH,.int .i64 1,.int .i64 2000] (.bool true) W):=fun W=>iW _ _ _ W (T).1 (T).2;obtain⟨vg,vs,rfl,g,i,-,-,-⟩:=Q;obtain⟨og,cg,rfl,-,-⟩:=g.form;obtain⟨a6,a0,rfl,-,-⟩:=i.form;clear g i l n hk hkd N O;unfold aH;go_enter func201,ntmps201;go_wp2_with fail
  (go_at_call 199;refine mz (H.o _) fun Z j=> ?_);obtain⟨L,E,c⟩:=aF.ex (aF.step (((aF.nil (ah w.heap.size w)).alloc (w.heap.size) rfl _ _).alloc (w.heap.size+1) (by simp) _ _) j);have f:=ar E;have p:=ar c;clear E c j;have b:Hi (Z.heap[w.heap.size]?=some (.cells (aH D S) 62)):=aF.nth p.o f.o 1 rfl;have z:Z.cell? (w.heap.size,4)=some D.g:=aX b.o rfl;obtain⟨U,X,-,-⟩:=al (aF.nth p.o f.o 0 rfl);go_wp2_with fail
  (go_at_call 203;refine(J.o _ p.o.1).mono ?_;rintro e_ w2 ⟨o,y,Y,n1,K,rfl,r⟩);have H2:=ar (aF.step p.o r);clear r;clear z;clear U X b;have b:Hi (w2.heap[w.heap.size]?=some (.cells (aH D S) 62)):=aF.nth H2.o f.o 1 rfl;go_wp2_with fail
  (go_at_call 198;refine mz (I.o _) fun w3 s=> ?_);have H3:=ar (aF.tail (aF.step (H2.o.alloc w2.heap.size rfl _ _) s));clear s;clear b;have b:Hi (w3.heap[w.heap.size]?=some (.cells (aH D S) 62)):=aF.nth H3.o f.o 1 rfl;have A:w3.cell? (w.heap.size,2)=some D.kd:=aX b.o rfl;go_wp2_with fail
  (go_at_call 199;refine cy (H.o _) H3 fun w4 F=> ?_);clear A;clear b;have b:Hi (w4.heap[w.heap.size]?=some (.cells (aH D S) 62)):=aF.nth F.o f.o 1 rfl;have b9:w4.cell? (w.heap.size,8)=some D.s:=aX b.o rfl;obtain⟨U,X,-,-⟩:=al (aF.nth F.o f.o 0 rfl);go_wp2_with fail
  (go_at_call 204;refine(b1.o _ F.o.1).mono ?_;rintro e_ w5 ⟨s2,k,rfl,a2⟩);have G:=ar (aF.step F.o a2);clear a2;clear b9;clear U X b;have b:Hi (w5.heap[w.heap.size]?=some (.cells (aH D S) 62)):=aF.nth G.o f.o 1 rfl;go_wp2_with fail
  (go_at_call 198;refine mz (a7.o _) fun w6 a3=> ?_);have G6:=ar (aF.step (G.o.alloc w5.heap.size rfl _ _) a3);clear a3;have H6:=ar G6.o.tail;obtain⟨-,-,y2,-,-,-⟩:=bR (G6.o.get 0 rfl);clear b;have b:Hi (w6.heap[w.heap.size]?=some (.cells (aH D S) 62)):=aF.nth H6.o f.o 1 rfl;go_wp2_with fail
  (go_at_call 198;refine mz (a8.o _) fun w7 a4=> ?_);clear y2;have H7:=ar (aF.step H6.o a4);clear a4;clear b;have b:Hi (w7.heap[w.heap.size]?=some (.cells (aH D S) 62)):=aF.nth H7.o f.o 1 rfl;go_wp2;go_returns;exact⟨rfl,H7.o.1⟩
theorem mZ (D:bX) (S:cN) (v:Value) (m:fZ) (gv:Nat→Value) (w:World) (hm:fE w v m gv) (Z:dj w D S) (f:D.id.size≤2147483648) (h2:D.nd.size≤2147483648) (Q:dN w) (b:em m D):
 Gv 160 #[.agg (aH D S),v] (.int .i64 0) w:=by
 have I:Hi (∀W,Below w.heap.size w W→Gv 67 #[.string D.id] (.bool true) W):=fun W C=>by rw[←b.ok1];exact iP _ W (by omega) (Q.below C)
 have J:Hi (∀W,Below w.heap.size w W→Gv 67 #[.string D.nd] (.bool true) W):=fun W C=>by rw[←b.ok2];exact iP _ W (by omega) (Q.below C)
 have N:Hi (∀W,Gv 200 #[.agg (aH D S)] (.bool false) W):=fun W=>By D S W b.kd b.no1 b.no4 b.noB (fun e=>(b.p4 e).1) (fun e=>(b.p1 e).1) (fun e=>(b.p4 e).2.1);have K:Hi (∀W,Below w.heap.size w W→Gv 201 #[.agg (aH D S),v] (.bool true) W):=fun W C=>BD D S v m gv W (hm.below C) b;have O:Hi (∀W,Gv 86 #[.agg #[D.a1,D.a2,D.a3,D.t]] (.bool true) W):=fun W=>by
  have h:=pb D.a1 D.a2 D.a3 D.t W;rw[b.va]at h;exact h
 have P:Hi (∀W,Gv 198 #[D.rv,.int .i64 1,.int .i64 1000] (.bool true) W):=fun W=>iW _ _ _ W (b.rev).1 (b.rev).2;obtain⟨vg,vs,rfl,X,Y,-,-,-⟩:=hm;obtain⟨og,cg,rfl,-,-⟩:=X.form;obtain⟨b8,b6,rfl,-,-⟩:=Y.form;clear X Y Q f h2;rcases(by omega:D.kd=1∨D.kd=4∨(D.kd≠1∧D.kd≠4))with hkd|hkd|hkd
 ·have A:Hi (∀W,Gv 199 #[D.kd] (.int .i64 1) W):=fun W=>by
   have f:=eR D.kd W b.kd;rw[show ip D.kd=1 by unfold ip;simp only[hkd];rfl]at f;exact f
  have U:Hi (∀W,Below w.heap.size w W→Gv 87 #[.agg #[.slice S.oo D.no S.co,.slice S.oq D.nh S.cq]] (.int .i64 0) W):=fun W C=>ky _ _ _ _ _ _ _ _ _ W (Z.1.below C) (Z.2.below C) (b.sh hkd).reg;clear b hkd Z;unfold aH;go_enter func160,ntmps160;go_wp2_with fail
  (go_at_call 67;refine mz (I.o _ (by go_grown)) fun E g=> ?_);obtain⟨L,B,f⟩:=aF.ex (aF.step (((aF.nil (ah w.heap.size w)).alloc (w.heap.size) rfl _ _).alloc (w.heap.size+1) (by simp) _ _) g);have d:=ar B;have p:=ar f;clear B f g;have a:Hi (E.heap[w.heap.size]?=some (.cells (aH D S) 62)):=aF.nth p.o d.o 1 rfl;have l:E.cell? (w.heap.size,3)=some D.nd:=aX a.o rfl;go_wp2_with fail
  (go_at_call 67;refine cy (J.o _ p.o.1) p fun F s=> ?_);clear l;clear a;have a:Hi (F.heap[w.heap.size]?=some (.cells (aH D S) 62)):=aF.nth s.o d.o 1 rfl;have n:F.cell? (w.heap.size,1)=some D.rv:=aX a.o rfl;go_wp2_with fail
  (go_at_call 198;refine cy (P.o _) s fun G t=> ?_);clear n;clear a;have a:Hi (G.heap[w.heap.size]?=some (.cells (aH D S) 62)):=aF.nth t.o d.o 1 rfl;have c:G.cell? (w.heap.size,2)=some D.kd:=aX a.o rfl;go_wp2_with fail
  (go_at_call 199;refine cy (A.o _) t fun w4 u=> ?_);clear c;clear a;have a:Hi (w4.heap[w.heap.size]?=some (.cells (aH D S) 62)):=aF.nth u.o d.o 1 rfl;go_wp2_with (first|(with_reducible refine bA 62 w.heap.size 18 (aH D S) 62 _ bF bv rfl rfl a.o ?_)|fail)
  (go_at_call 200;refine cy (N.o _) u fun w5 o=> ?_);clear a;have a:Hi (w5.heap[w.heap.size]?=some (.cells (aH D S) 62)):=aF.nth o.o d.o 1 rfl;obtain⟨m0,m1,-,-⟩:=al (aF.nth o.o d.o 0 rfl);go_wp2_with (first|(with_reducible refine bA 62 w.heap.size 18 (aH D S) 62 _ bF bv rfl rfl a.o ?_)|fail)
  (go_at_call 201;refine cy (K.o _ o.o.1) o fun H x=> ?_);clear m0 m1 a;have a:Hi (H.heap[w.heap.size]?=some (.cells (aH D S) 62)):=aF.nth x.o d.o 1 rfl;have c:H.cell? (w.heap.size,2)=some D.kd:=aX a.o rfl;go_wp2_with fail
  (go_at_call 199;refine cy (A.o _) x fun R r=> ?_);clear c;clear a;have a:Hi (R.heap[w.heap.size]?=some (.cells (aH D S) 62)):=aF.nth r.o d.o 1 rfl;obtain⟨-,-,-,-,-,-,a7,a8,-,-,-,-,-,-,-,-,-,-⟩:=tb a.o;go_wp2_with fail
  (go_at_call 87;refine cy (U.o _ r.o.1) r fun w8 y=> ?_);clear a7 a8;clear a;have a:Hi (w8.heap[w.heap.size]?=some (.cells (aH D S) 62)):=aF.nth y.o d.o 1 rfl;obtain⟨-,-,-,-,-,-,-,-,-,-,-,-,-,-,i,j,k,q⟩:=tb a.o;go_wp2_with fail
  (go_at_call 86;refine cy (O.o _) y fun w9 z=> ?_);clear i j k q;clear a;have a:Hi (w9.heap[w.heap.size]?=some (.cells (aH D S) 62)):=aF.nth z.o d.o 1 rfl;go_wp2;go_returns;exact⟨rfl,z.o.1⟩
 ·have A:Hi (∀W,Gv 199 #[D.kd] (.int .i64 3) W):=fun W=>by
   have f:=eR D.kd W b.kd;rw[show ip D.kd=3 by unfold ip;simp only[hkd];rfl]at f;exact f
  obtain⟨-,b0,b1,a9⟩:=b.p4 hkd;have a1:1≤D.ma∧D.ma≤1099511627776:=⟨b0,b1⟩;have U:Hi (∀W,Gv 198 #[D.ma,.int .i64 1,.int .i64 1099511627776] (.bool true) W):=fun W=>iW _ _ _ W (a1).1 (a1).2;have HY:Hi (∀W,Gv 202 #[.agg #[D.e1,D.e2,D.e3]] (.bool true) W):=fun W=>Bz _ _ _ W a9;clear b hkd Z;unfold aH;go_enter func160,ntmps160;go_wp2_with fail
  (go_at_call 67;refine mz (I.o _ (by go_grown)) fun E g=> ?_);obtain⟨L,B,f⟩:=aF.ex (aF.step (((aF.nil (ah w.heap.size w)).alloc (w.heap.size) rfl _ _).alloc (w.heap.size+1) (by simp) _ _) g);have d:=ar B;have p:=ar f;clear B f g;have a:Hi (E.heap[w.heap.size]?=some (.cells (aH D S) 62)):=aF.nth p.o d.o 1 rfl;have l:E.cell? (w.heap.size,3)=some D.nd:=aX a.o rfl;go_wp2_with fail
  (go_at_call 67;refine cy (J.o _ p.o.1) p fun F s=> ?_);clear l;clear a;have a:Hi (F.heap[w.heap.size]?=some (.cells (aH D S) 62)):=aF.nth s.o d.o 1 rfl;have n:F.cell? (w.heap.size,1)=some D.rv:=aX a.o rfl;go_wp2_with fail
  (go_at_call 198;refine cy (P.o _) s fun G t=> ?_);clear n;clear a;have a:Hi (G.heap[w.heap.size]?=some (.cells (aH D S) 62)):=aF.nth t.o d.o 1 rfl;have c:G.cell? (w.heap.size,2)=some D.kd:=aX a.o rfl;go_wp2_with fail
  (go_at_call 199;refine cy (A.o _) t fun w4 u=> ?_);clear c;clear a;have a:Hi (w4.heap[w.heap.size]?=some (.cells (aH D S) 62)):=aF.nth u.o d.o 1 rfl;go_wp2_with (first|(with_reducible refine bA 62 w.heap.size 18 (aH D S) 62 _ bF bv rfl rfl a.o ?_)|fail)
  (go_at_call 200;refine cy (N.o _) u fun w5 o=> ?_);clear a;have a:Hi (w5.heap[w.heap.size]?=some (.cells (aH D S) 62)):=aF.nth o.o d.o 1 rfl;obtain⟨m0,m1,-,-⟩:=al (aF.nth o.o d.o 0 rfl);go_wp2_with (first|(with_reducible refine bA 62 w.heap.size 18 (aH D S) 62 _ bF bv rfl rfl a.o ?_)|fail)
  (go_at_call 201;refine cy (K.o _ o.o.1) o fun H x=> ?_);clear m0 m1 a;have a:Hi (H.heap[w.heap.size]?=some (.cells (aH D S) 62)):=aF.nth x.o d.o 1 rfl;have c:H.cell? (w.heap.size,2)=some D.kd:=aX a.o rfl;go_wp2_with fail
  (go_at_call 199;refine cy (A.o _) x fun R r=> ?_);clear c;clear a;have a:Hi (R.heap[w.heap.size]?=some (.cells (aH D S) 62)):=aF.nth r.o d.o 1 rfl;have a6:R.cell? (w.heap.size,10)=some D.ma:=aX a.o rfl;go_wp2_with fail
  (go_at_call 198;refine cy (U.o _) r fun w8 y=> ?_);clear a6;clear a;have a:Hi (w8.heap[w.heap.size]?=some (.cells (aH D S) 62)):=aF.nth y.o d.o 1 rfl;obtain⟨-,-,-,-,-,-,-,-,-,-,-,a2,a3,a4,-,-,-,-⟩:=tb a.o;go_wp2_with fail
  (go_at_call 202;refine cy (HY.o _) y fun w9 z=> ?_);clear a2 a3 a4;clear a;have a:Hi (w9.heap[w.heap.size]?=some (.cells (aH D S) 62)):=aF.nth z.o d.o 1 rfl;obtain⟨-,-,-,-,-,-,-,-,-,-,-,-,-,-,i,j,k,q⟩:=tb a.o;go_wp2_with fail
  (go_at_call 86;refine cy (O.o _) z fun b5 T=> ?_);clear i j k q;clear a;have a:Hi (b5.heap[w.heap.size]?=some (.cells (aH D S) 62)):=aF.nth T.o d.o 1 rfl;go_wp2;go_returns;exact⟨rfl,T.o.1⟩
 ·have A:Hi (∀W,Gv 199 #[D.kd] (.int .i64 2) W):=fun W=>by
   have f:=eR D.kd W b.kd;rw[show ip D.kd=2 by unfold ip;first|rfl|(rw[if_neg (by omega),if_neg (by omega)])]at f;exact f
  have a0:=(b.p2 (by have:=b.kd;omega)).2.2.2;have U:Hi (∀W,Gv 198 #[D.ln,.int .i64 1,.int .i64 32768] (.bool true) W):=fun W=>iW _ _ _ W (a0).1 (a0).2;clear b hkd Z;unfold aH;go_enter func160,ntmps160;go_wp2_with fail
  (go_at_call 67;refine mz (I.o _ (by go_grown)) fun E g=> ?_);obtain⟨L,B,f⟩:=aF.ex (aF.step (((aF.nil (ah w.heap.size w)).alloc (w.heap.size) rfl _ _).alloc (w.heap.size+1) (by simp) _ _) g);have d:=ar B;have p:=ar f;clear B f g;have a:Hi (E.heap[w.heap.size]?=some (.cells (aH D S) 62)):=aF.nth p.o d.o 1 rfl;have l:E.cell? (w.heap.size,3)=some D.nd:=aX a.o rfl;go_wp2_with fail
  (go_at_call 67;refine cy (J.o _ p.o.1) p fun F s=> ?_);clear l;clear a;have a:Hi (F.heap[w.heap.size]?=some (.cells (aH D S) 62)):=aF.nth s.o d.o 1 rfl;have n:F.cell? (w.heap.size,1)=some D.rv:=aX a.o rfl;go_wp2_with fail
  (go_at_call 198;refine cy (P.o _) s fun G t=> ?_);clear n;clear a;have a:Hi (G.heap[w.heap.size]?=some (.cells (aH D S) 62)):=aF.nth t.o d.o 1 rfl;have c:G.cell? (w.heap.size,2)=some D.kd:=aX a.o rfl;go_wp2_with fail
  (go_at_call 199;refine cy (A.o _) t fun w4 u=> ?_);clear c;clear a;have a:Hi (w4.heap[w.heap.size]?=some (.cells (aH D S) 62)):=aF.nth u.o d.o 1 rfl;go_wp2_with (first|(with_reducible refine bA 62 w.heap.size 18 (aH D S) 62 _ bF bv rfl rfl a.o ?_)|fail)
  (go_at_call 200;refine cy (N.o _) u fun w5 o=> ?_);clear a;have a:Hi (w5.heap[w.heap.size]?=some (.cells (aH D S) 62)):=aF.nth o.o d.o 1 rfl;obtain⟨m0,m1,-,-⟩:=al (aF.nth o.o d.o 0 rfl);go_wp2_with (first|(with_reducible refine bA 62 w.heap.size 18 (aH D S) 62 _ bF bv rfl rfl a.o ?_)|fail)
  (go_at_call 201;refine cy (K.o _ o.o.1) o fun H x=> ?_);clear m0 m1 a;have a:Hi (H.heap[w.heap.size]?=some (.cells (aH D S) 62)):=aF.nth x.o d.o 1 rfl;have c:H.cell? (w.heap.size,2)=some D.kd:=aX a.o rfl;go_wp2_with fail
  (go_at_call 199;refine cy (A.o _) x fun R r=> ?_);clear c;clear a;have a:Hi (R.heap[w.heap.size]?=some (.cells (aH D S) 62)):=aF.nth r.o d.o 1 rfl;have a5:R.cell? (w.heap.size,9)=some D.ln:=aX a.o rfl;go_wp2_with fail
  (go_at_call 198;refine cy (U.o _) r fun w8 y=> ?_);clear a5;clear a;have a:Hi (w8.heap[w.heap.size]?=some (.cells (aH D S) 62)):=aF.nth y.o d.o 1 rfl;obtain⟨-,-,-,-,-,-,-,-,-,-,-,-,-,-,i,j,k,q⟩:=tb a.o;go_wp2_with fail
  (go_at_call 86;refine cy (O.o _) y fun w9 z=> ?_);clear i j k q;clear a;have a:Hi (w9.heap[w.heap.size]?=some (.cells (aH D S) 62)):=aF.nth z.o d.o 1 rfl;go_wp2;go_returns;exact⟨rfl,z.o.1⟩
end
end Go.Proofs.YtencnijahlkbaaaGreatDoor
