/-
  Lemmas of this claim, joined. Conditions: as stated. By an AI agent.
-/
import Derived.Test.YtencnijahlkbaaaGreatDoorJ1
import Derived.Test.YtencnijahlkbaaaGreatDoorJ2
import Derived.Test.YtencnijahlkbaaaGreatDoorJ3
import Derived.Test.YtencnijahlkbaaaGreatDoorJ5
import Derived.Test.YtencnijahlkbaaaGreatDoorJ6
import Derived.Test.YtencnijahlkbaaaGreatDoorJ7
open Go.Act renaming put → aC
open Array renaming getElem?_eq_some_iff → av
open Go.RowKit.Below renaming refl → ah
open Classical renaming byContradiction → aG
open List renaming take_succ_cons → ac, take_zero → aj, drop_succ_cons → am, drop_zero → ax, setIfInBounds_toArray → aa, set_cons_zero → ae, set_cons_succ → af, mem_cons_self → bw, getElem?_eq_getElem → aS, getD_eq_getElem?_getD → aO, getElem?_append_left → cV, getElem?_append_right → cD, length_append → aZ, mem_cons → bj
open Nat renaming le_refl → aB, le_trans → bW, reduceAdd → aE, reduceEqDiff → aA
open Go.Region renaming binds → ai, wanted → au
open Go.World renaming size_setCell → aT, size_alloc → aw
namespace Go.Proofs.YtencnijahlkbaaaGreatDoor
set_option maxHeartbeats 8000000
set_option maxRecDepth 100000
set_option linter.unusedVariables false
set_option linter.unusedSimpArgs false
open Go.Proofs.Tryz
section
theorem FO {n:Nat} {P:Nat→Pt} (h:lK 32768 n P) (b:n≤32):dT n P where
 n3:=h.n3
 n32:=b
 nr:=h.nr
 ds:=fun i k d a e=>by
  by_cases h1:nx n k=i
  ·exact h.ne k (by omega) (by rw[h1];exact e.symm)
  ·by_cases h2:nx n i=k
   ·exact h.ne i a (by rw[h2];exact e)
   ·refine h.nm i k a (by omega) (by omega) h2 h1 (.inl ?_);rw[←e];refine⟨by simp only[bQ];grind,?_,?_⟩<;> · unfold bt;omega
 nf:=fun i a=>⟨(h.nf i a).2,(h.nf i a).1⟩
 nm:=fun i k a f d c=>h.nm i k a d (by omega) (by unfold nx;rw[Nat.mod_eq_of_lt (by omega)];omega) c
theorem dT.rv {n:Nat} {P:Nat→Pt} (h:dT n P):dT n (rv n P):=FO h.pol.rv h.n32
theorem ub {n:Nat} {P:Nat→Pt} {q:Pt} (f:lK 32768 n P) (j:¬(-32768≤q.1∧q.1≤32768∧ -32768≤q.2∧q.2≤32768)):db n P q= -1:=by
 have c:uA n P q:=fun i h g=>by
  have a:=f.nr i h;have b:=f.nr (nx n i) (dW (by omega));obtain⟨-,c,d⟩:=g;unfold bt at c d;omega
 have d:gh n P q=false:=by
  cases e:gh n P q with
  |false=>rfl
  |true=>
   have:=Ft e f.nr;exact absurd (by omega) j
 unfold db;rw[if_pos c,d];rfl
def tw (k:Nat) (d:V):Int:=match k with
 |0=>d.1
 |1=>d.2.1
 |_=>d.2.2
def lj (d:V):Nat→Nat
 |0=>0
 |k+1=>lj d k+(if tw k d=0 then 0 else 1)
def jk (d:V):Nat:=lj d 3
def fS (n:Nat) (K:Nat→V) (sz:Int):Prop:=2≤n∧n≤32∧1≤sz∧sz≤10000∧(∀i,i<n→dR 524288 (K i))∧∀i,i<n→0<i→jk (gq (K i) (K (i-1)))=1
instance (B:Int) (v:V):Decidable (dR B v):=by unfold dR;infer_instance
instance (n:Nat) (K:Nat→V) (sz:Int):Decidable (fS n K sz):=by unfold fS;infer_instance
def fT (D:bX) (v:V):V:=ft (dD (D.a1,D.a2,D.a3) D.t).1 (dD (D.a1,D.a2,D.a3) D.t).2 v
def cU (D:bX) (K:Nat→V) (k:Nat):List Pt:=mB (db D.no D.P) (fun i=>(fT D (K i)).1) (fun i=>(fT D (K i)).2.1) (fun i=>(fT D (K i)).2.2) k
def dJ (D:bX) (n:Nat) (K:Nat→V) (sz:Int):List Pt:=if fS n K sz∧D.kd=1 then cU D K (n-1)else []
def gB (D:bX) (n:Nat) (K:Nat→V) (sz:Int):List Pt:=jC D.nh D.hn D.H sz (dJ D n K sz)
def gI (X:bK) (n:Nat) (K:Nat→V) (sz:Int):Nat→List (ByteArray×Pt)
 |0=> []
 |i+1=>gI X n K sz i++(gB (X.D i) n K sz).map (fun q=>(X.pI i,q))
theorem nR (D:bX) (n:Nat) (K:Nat→V) (sz:Int):(dJ D n K sz).length≤31:=by
 unfold dJ;split
 ·rename_i h;have:=mC (W:=db D.no D.P) (x:=fun i=>(fT D (K i)).1) (y:=fun i=>(fT D (K i)).2.1) (z:=fun i=>(fT D (K i)).2.2) (n-1);have a:=h.1.2.1;unfold cU;omega
 ·exact Nat.zero_le _
theorem lW {D:bX} {n:Nat} {K:Nat→V} {sz:Int} (c:D.kd=1→lK 32768 D.no D.P) {q:Pt} (a:q∈dJ D n K sz):(-32768≤q.1∧q.1≤32768)∧ -32768≤q.2∧q.2≤32768:=by
 unfold dJ at a;split at a
 ·rename_i h;have b:=rS a;apply aG;intro hn;rw[ub (c h.2) (by omega)]at b;omega
 ·cases a
theorem jl {D:bX} {n:Nat} {K:Nat→V} {sz:Int} {q:Pt} (a:q∈dJ D n K sz):fS n K sz∧D.kd=1:=by
 unfold dJ at a;split at a
 ·assumption
 ·cases a
theorem pE {D:bX} {n:Nat} {K:Nat→V} {sz:Int} {q:Pt} (a:q∈gB D n K sz):q∈dJ D n K sz:=(List.mem_filter.1 a).1
theorem wN {D:bX} {n:Nat} {K:Nat→V} {sz:Int} (h:gB D n K sz≠ []):fS n K sz∧D.kd=1:=by
 cases e:gB D n K sz with
 |nil=>exact absurd e h
 |cons q l=>exact jl (pE (q:=q) (by rw[e];exact bw ..))
theorem mN (X:bK) (n:Nat) (K:Nat→V) (sz:Int):∀i,(gI X n K sz i).length≤31*i
 |0=>aB _
 |i+1=>by
  have c:=mN X n K sz i;have a:=nR (X.D i) n K sz;have b:(gB (X.D i) n K sz).length≤(dJ (X.D i) n K sz).length:=List.length_filter_le _ _;unfold gI;rw[aZ,List.length_map];omega
theorem qw {X:bK} {n:Nat} {K:Nat→V} {sz:Int}:∀{i:Nat} {x:ByteArray×Pt},x∈gI X n K sz i→fS n K sz
 |0,x,h=>by cases h
 |i+1,x,h=>by
  unfold gI at h;rcases List.mem_append.1 h with h|h
  ·exact qw h
  ·obtain⟨q,a,rfl⟩:=List.mem_map.1 h;exact(jl (pE a)).1
theorem wO {X:bK} {n:Nat} {K:Nat→V} {sz:Int} (b:fG X.pI X.np) {j:Nat} (d:j<X.np):∀{i:Nat},i≤X.np→((gI X n K sz i).filter (fun x=>decide (x.1=X.pI j))).map (fun x=>x.2)=if j<i then gB (X.D j) n K sz else []
 |0,_=>by rw[if_neg (by omega)];rfl
 |i+1,hi=>by
  have h:=wO (n:=n) (K:=K) (sz:=sz) b d (i:=i) (by omega);unfold gI;rw[List.filter_append,List.map_append,h];by_cases e:j=i
  ·subst e;rw[if_neg (by omega),if_pos (by omega),List.filter_map,List.map_map,List.nil_append];have a:(gB (X.D j) n K sz).filter ((fun x:ByteArray×Pt=>decide (x.1=X.pI j))∘fun q=>(X.pI j,q))=gB (X.D j) n K sz:=List.filter_eq_self.2 fun q _=>by simp
   rw[a];exact List.map_id _
  ·have a:((gB (X.D i) n K sz).map (fun q=>(X.pI i,q))).filter (fun x=>decide (x.1=X.pI j))= []:=by
    rw[List.filter_eq_nil_iff];intro x g;obtain⟨q,-,rfl⟩:=List.mem_map.1 g;simp only[decide_eq_true_eq];intro f;exact e (mF b (by omega) d f).symm
   rw[a];by_cases c:j<i
   ·rw[if_pos c,if_pos (by omega)];simp
   ·rw[if_neg c,if_neg (by omega)];rfl
theorem yB {X:bK} {n:Nat} {K:Nat→V} {sz:Int} (i:Nat):gB (ia X (fun i=>gB (X.D i) n K sz) sz i) n K sz= []:=by
 have e:dJ (ia X (fun i=>gB (X.D i) n K sz) sz i) n K sz=dJ (X.D i) n K sz:=rfl;show jC _ _ _ sz (dJ (ia X (fun i=>gB (X.D i) n K sz) sz i) n K sz)= [];rw[e];by_cases h:fS n K sz
 ·exact uK h.2.2.1
 ·have a:dJ (X.D i) n K sz= []:=by
   unfold dJ;rw[if_neg (fun c=>h c.1)]
  rw[a];rfl
theorem sH {X:bK} {n:Nat} {K:Nat→V} {sz:Int} {k:Nat}:∀{i:Nat},i≤k→gI (ek X (fun i=>gB (X.D i) n K sz) sz k) n K sz i= []
 |0,_=>rfl
 |i+1,hi=>by
  unfold gI;rw[sH (by omega)];have:gB ((ek X (fun i=>gB (X.D i) n K sz) sz k).D i) n K sz= []:=by
   show gB (if i<k∧gB (X.D i) n K sz≠ []then ia X (fun i=>gB (X.D i) n K sz) sz i else X.D i) n K sz= [];by_cases e:gB (X.D i) n K sz= []
   ·rw[if_neg (fun c=>c.2 e)];exact e
   ·rw[if_pos ⟨by omega,e⟩];exact yB i
  rw[this];rfl
def fI (M:Nat→List Pt):Nat→List Nat
 |0=> []
 |i+1=>fI M i++(if M i= []then []else [i])
theorem zU (M:Nat→List Pt):∀i,(fI M i).length≤i
 |0=>aB _
 |i+1=>by
  have:=zU M i;unfold fI;rw[aZ];split<;>simp<;>omega
theorem mO {M:Nat→List Pt}:∀{i j:Nat},j∈fI M i↔j<i∧M j≠ []
 |0,j=>by simp[fI]
 |i+1,j=>by
  unfold fI;rw[List.mem_append,mO];by_cases e:M i= []
  ·rw[if_pos e];constructor
   ·rintro (h|h)
    ·exact⟨by omega,h.2⟩
    ·cases h
   ·rintro ⟨d,a⟩;refine .inl ⟨?_,a⟩;have:j≠i:=fun b=>a (by rw[b];exact e);omega
  ·rw[if_neg e];constructor
   ·rintro (h|h)
    ·exact⟨by omega,h.2⟩
    ·rw[List.mem_singleton]at h;subst h;exact⟨by omega,e⟩
   ·rintro ⟨d,a⟩;by_cases c:j=i
    ·exact .inr (by rw[c];exact List.mem_singleton.2 rfl)
    ·exact .inl ⟨by omega,a⟩
theorem FP {l m:List Nat} {i d:Nat} (h:i<l.length):(l++m).getD i d=l.getD i d:=by rw[aO,aO,cV h]
theorem Ij {l m:List Nat} {i d:Nat} (h:l.length≤i):(l++m).getD i d=m.getD (i-l.length) d:=by rw[aO,aO,cD h]
theorem jG {M:Nat→List Pt}:∀{i:Nat} {a b:Nat},a<b→b<(fI M i).length→(fI M i).getD a 0<(fI M i).getD b 0
 |0,a,b,_,h=>by simp[fI]at h
 |i+1,a,b,hab,hb=>by
  unfold fI at hb⊢
  rw[aZ]at hb;by_cases e:M i= []
  ·rw[if_pos e]at hb⊢
   rw[List.append_nil];exact jG hab (by simpa using hb)
  ·rw[if_neg e]at hb⊢
   rw[List.length_singleton]at hb;by_cases c:b=(fI M i).length
   ·have d:a<(fI M i).length:=by omega
    rw[FP d,Ij (by omega),c,Nat.sub_self];show(fI M i).getD a 0<i;have f:(fI M i).getD a 0∈fI M i:=by
     rw[aO,aS d];exact List.getElem_mem d
    exact(mO.1 f).1
   ·rw[FP (by omega),FP (by omega)];exact jG hab (by omega)
theorem pF {M:Nat→List Pt} {i k:Nat} (a:k<(fI M i).length):(fI M i).getD k 0<i∧M ((fI M i).getD k 0)≠ []:=by
 refine mO.1 ?_;rw[aO,aS a];exact List.getElem_mem a
theorem zV {M:Nat→List Pt} {n k:Nat} {i:Nat} (g:k<(fI M n).length) (d:∀q,q<k→(fI M n).getD q 0<i) (j:i<(fI M n).getD k 0):M i= []:=by
 apply aG;intro a;have hn:=(pF g).1;have h:i∈fI M n:=mO.2 ⟨by omega,a⟩;obtain⟨q,b,f⟩:=List.mem_iff_getElem.1 h;have e:(fI M n).getD q 0=i:=by rw[aO,aS b];exact f
 rcases Nat.lt_trichotomy q k with c|c|c
 ·have:=d q c;omega
 ·rw[c]at e;omega
 ·have:=jG (M:=M) (i:=n) c b;omega
def sJ (l:List Nat) (i:Nat):Nat→Nat
 |0=>0
 |k+1=>sJ l i k+(if l.getD k 0=i then 1 else 0)
theorem zW (l:List Nat) (i:Nat):∀k,sJ l i k≤k
 |0=>aB _
 |k+1=>by
  have:=zW l i k;unfold sJ;split<;>omega
theorem zX {M:Nat→List Pt} {n i:Nat}:∀{k:Nat},k≤(fI M n).length→sJ (fI M n) i k=if ∃q,q<k∧(fI M n).getD q 0=i then 1 else 0
 |0,_=>by rw[if_neg (by rintro ⟨q,h,-⟩;omega)];rfl
 |k+1,hk=>by
  have f:=zX (M:=M) (n:=n) (i:=i) (k:=k) (by omega);unfold sJ;rw[f];by_cases e:(fI M n).getD k 0=i
  ·have A:∃q,q<k+1∧(fI M n).getD q 0=i:=⟨k,by omega,e⟩;have B:¬ ∃q,q<k∧(fI M n).getD q 0=i:=by
    rintro ⟨q,b,a⟩;have:=jG (M:=M) (i:=n) b (by omega);omega
   rw[if_pos e,if_pos A,if_neg B]
  ·rw[if_neg e,Nat.add_zero];by_cases c:∃q,q<k∧(fI M n).getD q 0=i
   ·have A:∃q,q<k+1∧(fI M n).getD q 0=i:=by
     obtain⟨q,b,a⟩:=c;exact⟨q,by omega,a⟩
    rw[if_pos c,if_pos A]
   ·have B:¬ ∃q,q<k+1∧(fI M n).getD q 0=i:=by
     rintro ⟨q,b,a⟩;refine c ⟨q,?_,a⟩;have:q≠k:=fun d=>e (by rw[←d];exact a);omega
    rw[if_neg c,if_neg B]
theorem DR {M:Nat→List Pt} {n i:Nat} (c:i<n):sJ (fI M n) i (fI M n).length=if M i= []then 0 else 1:=by
 rw[zX (aB _)];by_cases e:M i= []
 ·have B:¬ ∃q,q<(fI M n).length∧(fI M n).getD q 0=i:=by
   rintro ⟨q,a,b⟩;exact(pF a).2 (by rw[b];exact e)
  rw[if_pos e,if_neg B]
 ·have A:∃q,q<(fI M n).length∧(fI M n).getD q 0=i:=by
   obtain⟨q,a,b⟩:=List.mem_iff_getElem.1 (mO.2 ⟨c,e⟩);exact⟨q,a,by rw[aO,aS a];exact b⟩
  rw[if_neg e,if_pos A]
end
section
open Go Go.ChangeShapes Go.WideShapes Go.RowKit Go.ChangeAt
def It (x y z:Int):Int:=if z>(if y>x then y else x)then z else(if y>x then y else x)
def Iu (x y z:Int):Int:=if z<(if y<x then y else x)then z else(if y<x then y else x)
theorem FQ (a:Array TypeId) (t:TypeId) (x y z:Int) (w:World):(Builtin.max_ a t #[x,y,z]).run prog w= .ok (.int .i64 (It x y z)) w:=run_max_int3 w a t .i64 .i64 .i64 x y z
theorem FR (a:Array TypeId) (t:TypeId) (x y z:Int) (w:World):(Builtin.min_ a t #[x,y,z]).run prog w= .ok (.int .i64 (Iu x y z)) w:=run_min_int3 w a t .i64 .i64 .i64 x y z
theorem FS {x y z k:Int}:k<It x y z↔k<x∨k<y∨k<z:=by unfold It;split<;>split<;>omega
theorem FT {x y z k:Int}:Iu x y z<k↔x<k∨y<k∨z<k:=by unfold Iu;split<;>split<;>omega
def vC (q:V):Array Value:=#[q.1,q.2.1,q.2.2]
def gL (w:World) (v:Value) (n:Nat) (K:Nat→V):Prop:=bs w v n 3 (fun i=>vC (K i))
theorem gL.below {w w':World} {v:Value} {n:Nat} {K:Nat→V} (h:gL w v n K) (a:Below w.heap.size w w'):gL w' v n K:=bs.below h a
theorem gL.form {w:World} {v:Value} {n:Nat} {K:Nat→V} (h:gL w v n K):∃(oa:Option Addr) (cap:Nat),v= .slice oa n cap∧n≤cap∧cap≤9223372036854775807∧
 ∀i,i<n→∃b a,oa=some ⟨b,a,none⟩∧b<w.heap.size∧∀q,q<n→∀j u,(vC (K q))[j]?=some u→w.cell? ⟨b,a+q*3+j,none⟩=some u:=bs.form h (fun _=>rfl)
def vi (v:V):Bool:=decide (dR 524288 v)
theorem eK {n:Nat} {K:Nat→V} {sz:Int} (h:¬fS n K sz):decide (fS n K sz)=false:=decide_eq_false h
theorem DS (c d e:Int) (w:World):Gv 84 #[.agg #[c,d,e]] (.bool (!vi (c,d,e))) w:=by
 obtain⟨n,g⟩:=oE (It c d e);obtain⟨i,f⟩:=oE (Iu c d e);have s:=FQ (x:=c) (y:=d) (z:=e);have t:=FR (x:=c) (y:=d) (z:=e);rw[g]at s;rw[f]at t;have j:=FS (x:=c) (y:=d) (z:=e) (k:=524288);have l:=FT (x:=c) (y:=d) (z:=e) (k:= -524288);rw[g]at j;rw[f]at l;have h:dR 524288 (c,d,e)↔(¬524288<n∧¬i< -524288):=by
  unfold dR;dsimp only;constructor
  ·rintro ⟨A,B,C,D,E,F⟩;exact⟨fun p=>by have:=j.1 p;omega,fun p=>by have:=l.1 p;omega⟩
  ·rintro ⟨a,b⟩;have u:=mt j.2 a;have v:=mt l.2 b;omega
 have q:Hi (vi (c,d,e)=decide (¬524288<n∧¬i< -524288)):=decide_eq_decide.2 h;clear h;clear j l g f;by_cases hx:524288<n
 ·have m:Hi ((!vi (c,d,e))=true):=by show _=_;rw[q.o,df];rfl
  go_enter func84,ntmps84;go_wp2;go_returns;rw[m.o];exact⟨rfl,by go_grown⟩
 ·obtain⟨r,o⟩:=oE (decide (i< -524288));have m:Hi ((!vi (c,d,e))=r):=by
   show _=_;rw[q.o,←o];by_cases hn:i< -524288
   ·rw[decide_eq_true hn,df];rfl
   ·rw[decide_eq_false hn,decide_eq_true ⟨hx,hn⟩];rfl
  go_enter func84,ntmps84;go_wp2;go_returns;rw[m.o];exact⟨rfl,by go_grown⟩
theorem BE (v:Value) (n:Nat) (P:Nat→V) (w:World) (h:gL w v n P):
 Gv 132 #[v,.func (.func 84) #[] #[]] (.int .i64 (if bq (fun i=> !vi (P i)) n 0<n then(bq (fun i=> !vi (P i)) n 0:Int)else -1)) w:=by
 obtain⟨oa,cap,rfl,hn,H,m⟩:=h.form;have o:=ar m;clear h m;generalize x:bq (fun i=> !vi (P i)) n 0=F;have A:=ar x;generalize y:(if F<n then(F:Int)else -1)=R;have t:=ar y;clear x y;go_enter func132,ntmps132;go_wp2;go_loopw[8] (fun i wr=>∃j:Nat,j≤n∧i= .int .i64 j∧Hi (bq (fun i=> !vi (P i)) (n-j) j=F)∧Below w.heap.size w wr) (fun i _=>n-(intOf i).toNat)
 case atStart=>exact⟨0,by omega,rfl,A.o,ah _ _⟩
 case round=>
  obtain⟨j,B,rfl,r,k⟩:=hrel;have g:=ar k;by_cases hlt:j<n
  ·obtain⟨p,q,rfl,b,a⟩:=o.o j hlt;have D:wr.cell? (p,q+j*3)=some (.int .i64 (P j).1):=bI k b (a j hlt 0 _ rfl);have E:wr.cell? (p,q+j*3+1)=some (.int .i64 (P j).2.1):=bI k b (a j hlt 1 _ rfl);have G:wr.cell? (p,q+j*3+2)=some (.int .i64 (P j).2.2):=bI k b (a j hlt 2 _ rfl);have I:=dS j;have J:(j:Int)<(n:Int):=by omega
   clear a k;obtain⟨u,e⟩:=oE (vi (P j));have f:=ar e;go_wp2_with fail
   (go_at_call 84;refine mz (DS (P j).1 (P j).2.1 (P j).2.2 _) fun C z=> ?_);rw[show vi ((P j).1,(P j).2.1,(P j).2.2)=u from e];have l:Below w.heap.size w C:=ag g.o z;clear e z;cases u with
   |false=>
    have c:Hi (R=(j:Int)):=by
     show _=_;have d:F=j:=r.o.symm.trans (dI hlt (by simp[f.o]));rw[←t.o,d,if_pos hlt]
    go_wp2;go_returns;rw[c.o];exact⟨rfl,l⟩
   |true=>
    have s:Hi (bq (fun i=> !vi (P i)) (n-(j+1)) (j+1)=F):=(dB hlt (by simp[f.o])).symm.trans r.o;go_wp2;go_roundw
    case rel=>exact⟨j+1,by omega,by go_num,s,l⟩
    case measure=>simp[intOf];omega
  ·have c:Hi (R= -1):=by
    show _=_;have d:F=n:=r.o.symm.trans (dX B hlt);rw[←t.o,d,if_neg (by omega)]
   go_wp2;go_returns;rw[c.o];exact⟨rfl,g.o⟩
theorem vj (v:Value) (n:Nat) (P:Nat→V) (w:World) (h:gL w v n P):
 Gv 83 #[v,.func (.func 84) #[] #[]] (.bool (!gH (fun i=>vi (P i)) n)) w:=by
 obtain⟨oa,cap,rfl,-,-,-⟩:=h.form;have H:=ar h;clear h;obtain⟨R,a⟩:=oE ((if bq (fun i=> !vi (P i)) n 0<n then(bq (fun i=> !vi (P i)) n 0:Int)else -1));have d:=ar a;have c:Hi (decide (0≤R)= !gH (fun i=>vi (P i)) n):=by
  show _=_;obtain⟨k,l,f,g⟩:=dH (fun i=> !vi (P i)) n 0;rw[←a];by_cases hlt:bq (fun i=> !vi (P i)) n 0<n
  ·rw[if_pos hlt,dt];have b:=f (by omega);simp only[Bool.not_eq_true']at b;rw[lE hlt b];rfl
  ·rw[if_neg hlt,show decide ((0:Int)≤ -1)=false by decide,eQ.2 (fun i j=>by have:=g i (by omega) (by omega);simpa using this)];rfl
 clear a;go_enter func83,ntmps83;go_wp2_with fail
 (go_at_call 132;refine mz (BE _ n P _ H.o) fun m e=> ?_);rw[d.o];go_wp2;go_returns;rw[←c.o];exact⟨rfl,e⟩
theorem yC (v:Value) (n:Nat) (K:Nat→V) (sz:Int) (w:World) (h:gL w v n K):
 Gv 44 #[v,sz] (.bool (decide (fS n K sz))) w:=by
 obtain⟨oa,cap,rfl,-,hc,a8⟩:=h.form;have a7:=ar a8;have H:=ar h;clear h a8;generalize hR:decide (fS n K sz)=R;have N:=ar hR;clear hR;by_cases a0:(n:Int)<2
 ·go_enter func44,ntmps44;have a:Hi (R=false):=by
   show _=_;rw[←N.o];exact eK (fun B=>by have:=B.1;omega)
  go_wp2;go_returns;rw[a.o];exact⟨rfl,by go_grown⟩
 by_cases a1:(32:Int)<(n:Int)
 ·go_enter func44,ntmps44;have a:Hi (R=false):=by
   show _=_;rw[←N.o];exact eK (fun B=>by have:=B.2.1;omega)
  go_wp2;go_returns;rw[a.o];exact⟨rfl,by go_grown⟩
 obtain⟨F,hF⟩:=oE (gH (fun i=>vi (K i)) n);have HF:=ar hF;have a5:Hi (Gv 83 #[.slice oa n cap,.func (.func 84) #[] #[]] (.bool (!F)) w):=by rw[←hF];exact vj _ n K w H.o
 clear hF;go_enter func44,ntmps44;go_wp2_with fail
 (go_at_call 83;refine mz (a5.o) fun D A=> ?_);have p:=ar A;clear A a5;obtain rfl|rfl:F=false∨F=true:=by cases F<;>simp
 ·have a:Hi (R=false):=by
   show _=_;rw[←N.o];exact eK (fun B=>by have h2:=HF.o;have h3:gH (fun i=>vi (K i)) n=true:=eQ.2 (fun i hi=>decide_eq_true (B.2.2.2.2.1 i hi));rw[h3]at h2;cases h2)
  go_wp2;go_returns;rw[a.o];exact⟨rfl,p.o⟩
 by_cases a2:sz<1
 ·have a:Hi (R=false):=by
   show _=_;rw[←N.o];exact eK (fun B=>by have:=B.2.2.1;omega)
  go_wp2;go_returns;rw[a.o];exact⟨rfl,p.o⟩
 have c4:decide (sz<1)=false:=decide_eq_false a2;by_cases a3:10000<sz
 ·have a:Hi (R=false):=by
   show _=_;rw[←N.o];exact eK (fun B=>by have:=B.2.2.2.1;omega)
  go_wp2;go_returns;rw[a.o];exact⟨rfl,p.o⟩
 have f5:2≤n:=by omega
 clear c4;go_wp2;go_loopw[5] (fun i wr=>∃j:Nat,1≤j∧j≤n∧i= .int .i64 j∧Hi (∀q,q<j→0<q→jk (gq (K q) (K (q-1)))=1)∧Below w.heap.size w wr) (fun i _=>n-(intOf i).toNat)
 case atStart=>exact⟨1,by omega,by omega,rfl,fun q h1 h2=>absurd h1 (by omega),p.o⟩
 case round=>
  clear p;obtain⟨D,rfl⟩:=wE wr;obtain⟨j,f3,hj,rfl,HQ,hB⟩:=hrel;have E:=ar hB;clear hB;by_cases hlt:j<n
  ·obtain⟨k,hk⟩:∃k:Nat,k+1=j:=⟨j-1,by omega⟩;have U:k<n:=by omega
   have HK:=ar hk;obtain⟨s,Z,rfl,l,f⟩:=a7.o j hlt;have c0:D.cell? (s,Z+j*3)=some (.int .i64 (K j).1):=bI E.o l (f j hlt 0 _ rfl);have c1:D.cell? (s,Z+j*3+1)=some (.int .i64 (K j).2.1):=bI E.o l (f j hlt 1 _ rfl);have c2:D.cell? (s,Z+j*3+2)=some (.int .i64 (K j).2.2):=bI E.o l (f j hlt 2 _ rfl);have e0:D.cell? (s,Z+k*3)=some (.int .i64 (K k).1):=bI E.o l (f k U 0 _ rfl);have e1:D.cell? (s,Z+k*3+1)=some (.int .i64 (K k).2.1):=bI E.o l (f k U 1 _ rfl);have e2:D.cell? (s,Z+k*3+2)=some (.int .i64 (K k).2.2):=bI E.o l (f k U 2 _ rfl);have f2:s<D.heap.size:=by have:=E.o.size;omega
   have j0:=dS j;have j1:(j:Int)<(n:Int):=by omega
   have j2:=dS k;have j3:(k:Int)<(n:Int):=by omega
   have j4:IntKind.i64.wrap ((j:Int)-1)=(k:Int):=by rw[show(j:Int)-1=(k:Int)by omega];exact iw
   have j5:(j:Int)-1=(k:Int):=by omega
   have j6:IntKind.i64.wrap (k:Int)=(k:Int):=iw;clear f hk;obtain⟨t,P⟩:=oE ((gq (K j) (K k)).1);obtain⟨y,Q⟩:=oE ((gq (K j) (K k)).2.1);obtain⟨z,T⟩:=oE ((gq (K j) (K k)).2.2);have b8:Hi (gq (K j) (K k)=(t,y,z)):=by show _=_;rw[←P,←Q,←T]
   have HS:Hi (∀W,Gv 85 #[.agg #[(K j).1,(K j).2.1,(K j).2.2],.agg #[(K k).1,(K k).2.1,(K k).2.2]] (.agg #[t,y,z]) W):=fun W=>by
    have:=Fm (K j).1 (K j).2.1 (K j).2.2 (K k).1 (K k).2.1 (K k).2.2 W;rw[show(((K j).1,(K j).2.1,(K j).2.2):V)=K j from rfl,show(((K k).1,(K k).2.1,(K k).2.2):V)=K k from rfl,P,Q,T]at this;exact this
   clear P Q T;go_wp2_with fail
   refine dd 12 [⟨10,11,#[(),(),()],58⟩] [] (by kernel_rfl) (by kernel_rfl) (by kernel_rfl) (by kernel_rfl) (by kernel_rfl) ?_ ?_ ?_
   ·intro r hr;cases hr
   ·intro r hr;cases hr
   simp only[ac,aj,aK,aC,aa,ae,af];iterate 9
    apply dE (by kernel_rfl)
    ·intro u Y b hd;replace b:=b.nil;have hz:=dx b;have b0:s<Y.heap.size:=by omega
     obtain⟨hc,hf⟩:=br b;clear b hz;simp[cL,ai,dK,bN,dm.is,dm.any]at hd;go_simp
     first|exact⟨ah _ _,rfl⟩|rfl
   apply dE (by kernel_rfl)
   ·intro u Y b hd;replace b:=b.nil;have hz:=dx b;have b0:s<Y.heap.size:=by omega
    obtain⟨hc,hf⟩:=br b;clear b hz;simp[cL,ai,dK,bN,dm.is,dm.any]at hd;go_simp
    first|rfl|(go_at_call 85;refine(HS.o _).mono ?_;rintro e D ⟨rfl,A⟩;first|exact⟨rfl,A⟩|exact⟨_,rfl,A,rfl⟩)
   refine dZ ⟨10,11,#[(),(),()],58⟩ (by simp) rfl ?_ ?_
   ·intro u Y b;refine⟨by simp[au],?_⟩;go_simp
    first|done|rfl|exact⟨rfl,rfl⟩
   apply cC ⟨10,11,#[(),(),()],58⟩ (by simp) rfl (by kernel_rfl) rfl (by kernel_rfl)
   ·intro u Y b hd;replace b:=b.nil;have hz:=dx b;have b0:s<Y.heap.size:=by omega
    obtain⟨hc,hf⟩:=br b;clear b hz;simp[cL,ai,dK,bN,dm.is,dm.any]at hd;refine⟨by simp[au],fun b' a9 f4 g=> ?_⟩;have d0:u 10= .pointer (some b'):=a9;have d:Y.heap[b']?=some (.cells #[(),(),()] 58):=g;have f1:=bV d;have b6:=ar d;clear g d a9;go_simp;exact bL.c3 b6.o _ _ _
   intro u w5 b o hV hP;replace b:=b.nil;clear hP;have e0:u 0=_:=eE o 0;have e1:u 1=_:=eE o 1;have e2:u 2=_:=eE o 2;have e3:u 3=_:=eE o 3;have e4:u 4=_:=eE o 4;have e5:u 5=_:=eE o 5;have e6:u 6=_:=eE o 6;have e7:u 7=_:=eE o 7;have e8:u 8=_:=eE o 8;have e9:u 9=_:=eE o 9;have O:u 11=_:=eE o 11;obtain⟨⟨V0,G,b5,m⟩,-,-⟩:=hV;replace m:w5.heap[V0]?=some (.cells (u 11).cells 58):=m;rw[O]at m;replace G:u 10= .pointer (some V0):=G;obtain⟨d5,d6,d7,d8,d9⟩:=bV m;have c7:=ar m;clear m;(try simp only[aw,aT]at b5);(try have d4:D.heap.size≤V0:=by omega);clear b5;simp only[am,ax,ac,aj,aK,aC,aa,ae,af,e0,e1,e2,e3,e4,e5,e6,e7,e8,e9,O,G];clear e0 e1 e2 e3 e4 e5 e6 e7 e8 e9 O G o;have J:=ar b;have f6:=ag (w:=D) (by first|assumption|go_grown) b;have b1:=dx b;have c3:s<w5.heap.size:=by omega
   have c6:=ar b.block;obtain⟨c8,c9⟩:=br b;clear b b1;have I:Hi (Below w.heap.size w w5):=ag E.o J.o;have f7:=I.o.size;clear a7 c0 c1 c2 e0 e1 e2;go_wp2;go_loopw[6,53] (fun c x wr=>∃q:Nat,q≤3∧x= .int .i64 q∧c= .int .i64 (lj (t,y,z) q:Int)∧Hi (wr=w5)) (fun c x _=>3-(intOf x).toNat)
   case atStart=>exact⟨0,by omega,rfl,rfl,rfl⟩
   case round=>
    obtain⟨q,hq,rfl,rfl,X⟩:=hrel;have X:=X.o;subst X;by_cases hq3:q<3
    ·obtain⟨x,hx⟩:=oE (tw q (t,y,z));have ix:∀W,(Instr.index 153 (.agg #[t,y,z]) (.int .i64 (q:Int))).run prog W= .ok (.int .i64 x) W:=by
      rw[←hx];rcases(by omega:q=0∨q=1∨q=2)with rfl|rfl|rfl
      ·intro W;kernel_rfl
      ·intro W;kernel_rfl
      ·intro W;kernel_rfl
     generalize hC:lj (t,y,z) q=C;have f0:C≤q:=by
      rw[←hC];clear hx ix;rcases(by omega:q=0∨q=1∨q=2)with rfl|rfl|rfl
      ·exact aB _
      ·simp only[lj];split<;>omega
      ·simp only[lj];split<;>split<;>omega
     have a4:Hi (lj (t,y,z) (q+1)=C+(if x=0 then 0 else 1)):=by
      show lj (t,y,z) q+_=_;rw[hC,hx]
     have hw:IntKind.i64.wrap ((C:Int)+1)=(C:Int)+1:=iw;clear hC hx;by_cases hx0:x=0
     ·have k0:(x !=0)=false:=by simpa using hx0
      have L:Hi (lj (t,y,z) (q+1)=C):=by show _=_;rw[a4.o,if_pos hx0];rfl
      clear hx0;go_wp2;go_roundw
      case rel=>exact⟨q+1,by omega,by go_num,by rw[L.o],True.intro⟩
      case measure=>simp[intOf];omega
     ·have k0:(x !=0)=true:=by simpa using hx0
      have L:Hi (lj (t,y,z) (q+1)=C+1):=by show _=_;rw[a4.o,if_neg hx0]
      clear hx0;go_wp2;go_roundw
      case rel=>exact⟨q+1,by omega,by go_num,by rw[L.o];go_num,True.intro⟩
      case measure=>simp[intOf];omega
    ·obtain rfl:q=3:=by omega
     generalize hC:lj (t,y,z) 3=C;have a6:Hi (jk (gq (K j) (K k))=C):=by show _=_;rw[b8.o];exact hC
     clear hC hq hq3;by_cases hc1:C=1
     ·have kc:((C:Int) !=1)=false:=by rw[hc1];rfl
      have c5:(C !=1)=false:=by rw[hc1];rfl
      have b9:Hi (∀q,q<j+1→0<q→jk (gq (K q) (K (q-1)))=1):=fun q h1 h2=>by
       by_cases e:q=j
       ·rw[e,show j-1=k by have:=HK.o;omega,a6.o,hc1]
       ·exact HQ.o q (by omega) h2
      clear hc1;go_wp2;go_roundw
      case rel=>exact⟨j+1,by omega,by omega,by go_num,b9,I.o⟩
      case measure=>simp[intOf];omega
     ·have kc:((C:Int) !=1)=true:=by simp;omega
      have c5:(C !=1)=true:=by simp;omega
      have HN:=ar hc1;clear hc1;have a:Hi (R=false):=by
       show _=_;rw[←N.o];exact eK (fun B=>HN.o (by rw[←a6.o,show k=j-1 by have:=HK.o;omega];exact B.2.2.2.2.2 j (by omega) (by omega)))
      go_wp2;go_returns;rw[a.o];exact⟨rfl,I.o⟩
  ·have a:Hi (R=true):=by
    show _=_;rw[←N.o];exact decide_eq_true ⟨by omega,by omega,by omega,by omega,fun i hi=>of_decide_eq_true (eQ.1 HF.o i hi),fun i hi h0=>HQ.o i (by omega) h0⟩
   go_wp2;go_returns;rw[a.o];exact⟨rfl,E.o⟩
theorem yD (v:Value) (n:Nat) (K:Nat→V) (sz:Int) (w:World) (h:gL w v n K):
 Gv 56 #[v,sz] (.bool (decide (fS n K sz))) w:=by
 obtain⟨oa,cap,rfl,-,hc,a8⟩:=h.form;have P:=ar a8;clear h a8;generalize hR:decide (fS n K sz)=R;have E:=ar hR;clear hR;by_cases a0:(n:Int)<2
 ·go_enter func56,ntmps56;have a:Hi (R=false):=by
   show _=_;rw[←E.o];exact eK (fun l=>by have:=l.1;omega)
  go_wp2;go_returns;rw[a.o];exact⟨rfl,by go_grown⟩
 by_cases a1:(32:Int)<(n:Int)
 ·go_enter func56,ntmps56;have a:Hi (R=false):=by
   show _=_;rw[←E.o];exact eK (fun l=>by have:=l.2.1;omega)
  go_wp2;go_returns;rw[a.o];exact⟨rfl,by go_grown⟩
 by_cases a2:sz<1
 ·go_enter func56,ntmps56;have a:Hi (R=false):=by
   show _=_;rw[←E.o];exact eK (fun l=>by have:=l.2.2.1;omega)
  go_wp2;go_returns;rw[a.o];exact⟨rfl,by go_grown⟩
 by_cases a3:10000<sz
 ·go_enter func56,ntmps56;have a:Hi (R=false):=by
   show _=_;rw[←E.o];exact eK (fun l=>by have:=l.2.2.2.1;omega)
  go_wp2;go_returns;rw[a.o];exact⟨rfl,by go_grown⟩
 have d7:2≤n:=by omega
 go_enter func56,ntmps56;go_wp2;go_loopw[5] (fun i wr=>∃j:Nat,j≤n∧i= .int .i64 j∧Hi (∀q,q<j→dR 524288 (K q))∧Below w.heap.size w wr) (fun i _=>n-(intOf i).toNat)
 case atStart=>exact⟨0,by omega,rfl,fun q N=>absurd N (by omega),by go_grown⟩
 case round=>
  obtain⟨A,rfl⟩:=wE wr;obtain⟨j,hj,rfl,HI,hB⟩:=hrel;have p:=ar hB;clear hB;by_cases hlt:j<n
  ·obtain⟨s,I,rfl,g,b⟩:=P.o j hlt;have c0:A.cell? (s,I+j*3)=some (.int .i64 (K j).1):=bI p.o g (b j hlt 0 _ rfl);have c1:A.cell? (s,I+j*3+1)=some (.int .i64 (K j).2.1):=bI p.o g (b j hlt 1 _ rfl);have c2:A.cell? (s,I+j*3+2)=some (.int .i64 (K j).2.2):=bI p.o g (b j hlt 2 _ rfl);have j0:=dS j;have j1:(j:Int)<(n:Int):=by omega
   clear b;obtain⟨F,hF⟩:=oE (decide (dR 524288 (K j)));have HF:=ar hF;have HV:Hi (∀W,Gv 77 #[.agg #[(K j).1,(K j).2.1,(K j).2.2,()]] (.bool F) W):=fun W=>by
    have:=nt (K j).1 (K j).2.1 (K j).2.2 0 W;rw[show eL ((K j).1,(K j).2.1,(K j).2.2) 0=F by unfold eL;rw[show(((K j).1,(K j).2.1,(K j).2.2):V)=K j from rfl,hF];cases F<;>rfl]at this;exact this
   clear hF;go_wp2_with fail
   (go_at_call 77;refine mz (HV.o _) fun w2 a7=> ?_);have a5:Hi (Below w.heap.size w w2):=ag p.o a7;clear a7 c0 c1 c2;obtain rfl|rfl:F=false∨F=true:=by cases F<;>simp
   ·have a:Hi (R=false):=by
     show _=_;rw[←E.o];exact eK (fun l=>absurd (l.2.2.2.2.1 j (by omega)) (of_decide_eq_false HF.o))
    go_wp2;go_returns;rw[a.o];exact⟨rfl,a5.o⟩
   have Q:Hi (∀q,q<j+1→dR 524288 (K q)):=fun q N=>by
    by_cases e:q=j
    ·rw[e];exact of_decide_eq_true HF.o
    ·exact HI.o q (by omega)
   go_wp2;go_roundw
   case rel=>exact⟨j+1,by omega,by go_num,Q,a5.o⟩
   case measure=>simp[intOf];omega
  ·have Q:Hi (∀q,q<n→dR 524288 (K q)):=fun q N=>HI.o q (by omega);have a4:=p;clear HI p;go_wp2;clear hj hlt;go_loopw[6] (fun i wr=>∃j:Nat,1≤j∧j≤n∧i= .int .i64 j∧Hi (∀q,q<j→0<q→jk (gq (K q) (K (q-1)))=1)∧Below w.heap.size w wr) (fun i _=>n-(intOf i).toNat)
   case atStart=>exact⟨1,by omega,by omega,rfl,fun q N h2=>absurd N (by omega),a4.o⟩
   case round=>
    clear a4;obtain⟨w9,rfl⟩:∃x:World,x=A:=⟨_,rfl⟩;obtain⟨A,rfl⟩:=wE wr;obtain⟨j,d5,hj,rfl,HQ,hB⟩:=hrel;have p:=ar hB;clear hB;by_cases hlt:j<n
    ·obtain⟨k,hk⟩:∃k:Nat,k+1=j:=⟨j-1,by omega⟩;have Z:k<n:=by omega
     have L:=ar hk;obtain⟨s,I,rfl,g,b⟩:=P.o j hlt;have c0:A.cell? (s,I+j*3)=some (.int .i64 (K j).1):=bI p.o g (b j hlt 0 _ rfl);have c1:A.cell? (s,I+j*3+1)=some (.int .i64 (K j).2.1):=bI p.o g (b j hlt 1 _ rfl);have c2:A.cell? (s,I+j*3+2)=some (.int .i64 (K j).2.2):=bI p.o g (b j hlt 2 _ rfl);have e0:A.cell? (s,I+k*3)=some (.int .i64 (K k).1):=bI p.o g (b k Z 0 _ rfl);have e1:A.cell? (s,I+k*3+1)=some (.int .i64 (K k).2.1):=bI p.o g (b k Z 1 _ rfl);have e2:A.cell? (s,I+k*3+2)=some (.int .i64 (K k).2.2):=bI p.o g (b k Z 2 _ rfl);have d4:s<A.heap.size:=by have:=p.o.size;omega
     have j0:=dS j;have j1:(j:Int)<(n:Int):=by omega
     have j2:=dS k;have j3:(k:Int)<(n:Int):=by omega
     have j4:IntKind.i64.wrap ((j:Int)-1)=(k:Int):=by rw[show(j:Int)-1=(k:Int)by omega];exact iw
     have j5:(j:Int)-1=(k:Int):=by omega
     have j6:IntKind.i64.wrap (k:Int)=(k:Int):=iw;clear b hk;obtain⟨G,U⟩:=oE ((gq (K j) (K k)).1);obtain⟨B,X⟩:=oE ((gq (K j) (K k)).2.1);obtain⟨t,Y⟩:=oE ((gq (K j) (K k)).2.2);have o:Hi (gq (K j) (K k)=(G,B,t)):=by show _=_;rw[←U,←X,←Y]
     have HS:Hi (∀W,Gv 100 #[.agg #[(K j).1,(K j).2.1,(K j).2.2],.agg #[(K k).1,(K k).2.1,(K k).2.2]] (.agg #[G,B,t]) W):=fun W=>by
      have:=CH (K j).1 (K j).2.1 (K j).2.2 (K k).1 (K k).2.1 (K k).2.2 W;rw[show(((K j).1,(K j).2.1,(K j).2.2):V)=K j from rfl,show(((K k).1,(K k).2.1,(K k).2.2):V)=K k from rfl,U,X,Y]at this;exact this
     clear U X Y;go_wp2_with fail
     refine dd 12 [⟨10,11,#[(),(),()],58⟩] [] (by kernel_rfl) (by kernel_rfl) (by kernel_rfl) (by kernel_rfl) (by kernel_rfl) ?_ ?_ ?_
     ·intro r hr;cases hr
     ·intro r hr;cases hr
     simp only[ac,aj,aK,aC,aa,ae,af];iterate 9
      apply dE (by kernel_rfl)
      ·intro u wx d hd;replace d:=d.nil;have hz:=dx d;have b0:s<wx.heap.size:=by omega
       obtain⟨hc,hf⟩:=br d;clear d hz;simp[cL,ai,dK,bN,dm.is,dm.any]at hd;go_simp
       first|exact⟨ah _ _,rfl⟩|rfl
     apply dE (by kernel_rfl)
     ·intro u wx d hd;replace d:=d.nil;have hz:=dx d;have b0:s<wx.heap.size:=by omega
      obtain⟨hc,hf⟩:=br d;clear d hz;simp[cL,ai,dK,bN,dm.is,dm.any]at hd;go_simp
      first|rfl|(go_at_call 100;refine(HS.o _).mono ?_;rintro e A ⟨rfl,a6⟩;first|exact⟨rfl,a6⟩|exact⟨_,rfl,a6,rfl⟩)
     refine dZ ⟨10,11,#[(),(),()],58⟩ (by simp) rfl ?_ ?_
     ·intro u wx d;refine⟨by simp[au],?_⟩;go_simp
      first|done|rfl|exact⟨rfl,rfl⟩
     apply cC ⟨10,11,#[(),(),()],58⟩ (by simp) rfl (by kernel_rfl) rfl (by kernel_rfl)
     ·intro u wx d hd;replace d:=d.nil;have hz:=dx d;have b0:s<wx.heap.size:=by omega
      obtain⟨hc,hf⟩:=br d;clear d hz;simp[cL,ai,dK,bN,dm.is,dm.any]at hd;refine⟨by simp[au],fun b' a9 d6 z=> ?_⟩;have c4:u 10= .pointer (some b'):=a9;have f:wx.heap[b']?=some (.cells #[(),(),()] 58):=z;have d0:=bV f;have b6:=ar f;clear z f a9;go_simp;exact bL.c3 b6.o _ _ _
     intro u w5 d C hV hP;replace d:=d.nil;clear hP;have e0:u 0=_:=eE C 0;have e1:u 1=_:=eE C 1;have e2:u 2=_:=eE C 2;have e3:u 3=_:=eE C 3;have e4:u 4=_:=eE C 4;have e5:u 5=_:=eE C 5;have e6:u 6=_:=eE C 6;have e7:u 7=_:=eE C 7;have e8:u 8=_:=eE C 8;have e9:u 9=_:=eE C 9;have T:u 11=_:=eE C 11;obtain⟨⟨V0,J,b1,H⟩,-,-⟩:=hV;replace H:w5.heap[V0]?=some (.cells (u 11).cells 58):=H;rw[T]at H;replace J:u 10= .pointer (some V0):=J;obtain⟨c7,c8,c9,-,-⟩:=bV H;clear H;(try simp only[aw,aT]at b1);(try have c6:A.heap.size≤V0:=by omega);clear b1;simp only[am,ax,ac,aj,aK,aC,aa,ae,af,e0,e1,e2,e3,e4,e5,e6,e7,e8,e9,T,J];clear e0 e1 e2 e3 e4 e5 e6 e7 e8 e9 T J C;have O:=ar d;obtain⟨c5,c3,b8,b9,b5⟩:=pr d;clear d;have m:Hi (Below w.heap.size w w5):=ag p.o O.o;clear P c0 c1 c2 e0 e1 e2;by_cases x0:G=0
     ·by_cases x1:B=0
      ·by_cases x2:t=0
       ·have k0:(G !=0)=false:=by simpa using x0
        have k1:(B !=0)=false:=by simpa using x1
        have k2:(t !=0)=false:=by simpa using x2
        have c:Hi (jk (gq (K j) (K k))=0):=by
         show _=_;rw[o.o];unfold jk;simp only[lj,tw];rw[if_pos x0,if_pos x1,if_pos x2]
        clear x0 x1 x2;have a:Hi (R=false):=by
         show _=_;rw[←E.o];exact eK (fun l=>by have y:=l.2.2.2.2.2 j (by omega) (by omega);rw[show j-1=k by have:=L.o;omega,c.o]at y;exact absurd y (by decide))
        go_wp2;go_returns;rw[a.o];exact⟨rfl,m.o⟩
       ·have k0:(G !=0)=false:=by simpa using x0
        have k1:(B !=0)=false:=by simpa using x1
        have k2:(t !=0)=true:=by simpa using x2
        have c:Hi (jk (gq (K j) (K k))=1):=by
         show _=_;rw[o.o];unfold jk;simp only[lj,tw];rw[if_pos x0,if_pos x1,if_neg x2]
        clear x0 x1 x2;have D:Hi (∀q,q<j+1→0<q→jk (gq (K q) (K (q-1)))=1):=fun q N h2=>by
         by_cases e:q=j
         ·rw[e,show j-1=k by have:=L.o;omega];exact c.o
         ·exact HQ.o q (by omega) h2
        go_wp2;go_roundw
        case rel=>exact⟨j+1,by omega,by omega,by go_num,D,m.o⟩
        case measure=>simp[intOf];omega
      ·by_cases x2:t=0
       ·have k0:(G !=0)=false:=by simpa using x0
        have k1:(B !=0)=true:=by simpa using x1
        have k2:(t !=0)=false:=by simpa using x2
        have c:Hi (jk (gq (K j) (K k))=1):=by
         show _=_;rw[o.o];unfold jk;simp only[lj,tw];rw[if_pos x0,if_neg x1,if_pos x2]
        clear x0 x1 x2;have D:Hi (∀q,q<j+1→0<q→jk (gq (K q) (K (q-1)))=1):=fun q N h2=>by
         by_cases e:q=j
         ·rw[e,show j-1=k by have:=L.o;omega];exact c.o
         ·exact HQ.o q (by omega) h2
        go_wp2;go_roundw
        case rel=>exact⟨j+1,by omega,by omega,by go_num,D,m.o⟩
        case measure=>simp[intOf];omega
       ·have k0:(G !=0)=false:=by simpa using x0
        have k1:(B !=0)=true:=by simpa using x1
        have k2:(t !=0)=true:=by simpa using x2
        have c:Hi (jk (gq (K j) (K k))=2):=by
         show _=_;rw[o.o];unfold jk;simp only[lj,tw];rw[if_pos x0,if_neg x1,if_neg x2]
        clear x0 x1 x2;have a:Hi (R=false):=by
         show _=_;rw[←E.o];exact eK (fun l=>by have y:=l.2.2.2.2.2 j (by omega) (by omega);rw[show j-1=k by have:=L.o;omega,c.o]at y;exact absurd y (by decide))
        go_wp2;go_returns;rw[a.o];exact⟨rfl,m.o⟩
     ·by_cases x1:B=0
      ·by_cases x2:t=0
       ·have k0:(G !=0)=true:=by simpa using x0
        have k1:(B !=0)=false:=by simpa using x1
        have k2:(t !=0)=false:=by simpa using x2
        have c:Hi (jk (gq (K j) (K k))=1):=by
         show _=_;rw[o.o];unfold jk;simp only[lj,tw];rw[if_neg x0,if_pos x1,if_pos x2]
        clear x0 x1 x2;have D:Hi (∀q,q<j+1→0<q→jk (gq (K q) (K (q-1)))=1):=fun q N h2=>by
         by_cases e:q=j
         ·rw[e,show j-1=k by have:=L.o;omega];exact c.o
         ·exact HQ.o q (by omega) h2
        go_wp2;go_roundw
        case rel=>exact⟨j+1,by omega,by omega,by go_num,D,m.o⟩
        case measure=>simp[intOf];omega
       ·have k0:(G !=0)=true:=by simpa using x0
        have k1:(B !=0)=false:=by simpa using x1
        have k2:(t !=0)=true:=by simpa using x2
        have c:Hi (jk (gq (K j) (K k))=2):=by
         show _=_;rw[o.o];unfold jk;simp only[lj,tw];rw[if_neg x0,if_pos x1,if_neg x2]
        clear x0 x1 x2;have a:Hi (R=false):=by
         show _=_;rw[←E.o];exact eK (fun l=>by have y:=l.2.2.2.2.2 j (by omega) (by omega);rw[show j-1=k by have:=L.o;omega,c.o]at y;exact absurd y (by decide))
        go_wp2;go_returns;rw[a.o];exact⟨rfl,m.o⟩
      ·by_cases x2:t=0
       ·have k0:(G !=0)=true:=by simpa using x0
        have k1:(B !=0)=true:=by simpa using x1
        have k2:(t !=0)=false:=by simpa using x2
        have c:Hi (jk (gq (K j) (K k))=2):=by
         show _=_;rw[o.o];unfold jk;simp only[lj,tw];rw[if_neg x0,if_neg x1,if_pos x2]
        clear x0 x1 x2;have a:Hi (R=false):=by
         show _=_;rw[←E.o];exact eK (fun l=>by have y:=l.2.2.2.2.2 j (by omega) (by omega);rw[show j-1=k by have:=L.o;omega,c.o]at y;exact absurd y (by decide))
        go_wp2;go_returns;rw[a.o];exact⟨rfl,m.o⟩
       ·have k0:(G !=0)=true:=by simpa using x0
        have k1:(B !=0)=true:=by simpa using x1
        have k2:(t !=0)=true:=by simpa using x2
        have c:Hi (jk (gq (K j) (K k))=3):=by
         show _=_;rw[o.o];unfold jk;simp only[lj,tw];rw[if_neg x0,if_neg x1,if_neg x2]
        clear x0 x1 x2;have a:Hi (R=false):=by
         show _=_;rw[←E.o];exact eK (fun l=>by have y:=l.2.2.2.2.2 j (by omega) (by omega);rw[show j-1=k by have:=L.o;omega,c.o]at y;exact absurd y (by decide))
        go_wp2;go_returns;rw[a.o];exact⟨rfl,m.o⟩
    ·have a:Hi (R=true):=by
      show _=_;rw[←E.o];exact decide_eq_true ⟨by omega,by omega,by omega,by omega,fun i hi=>Q.o i hi,fun i hi h0=>HQ.o i (by omega) h0⟩
     go_wp2;go_returns;rw[a.o];exact⟨rfl,p.o⟩
def vk (id:ByteArray) (sz:Int) (q:Pt):List Value:= [.string id,.int .i64 q.1,.int .i64 q.2,.int .i64 sz]
def lX (w:World) (v:Value) (id:ByteArray) (sz:Int) (l:List Pt):Prop:=bs w v l.length 4 (fun i=>(vk id sz (l.getD i (0,0))).toArray)
theorem lX.below {w w':World} {v:Value} {a:ByteArray} {sz:Int} {l:List Pt} (h:lX w v a sz l) (b:Below w.heap.size w w'):lX w' v a sz l:=bs.below h b
theorem qY {w:World} {B:Nat} {t:TypeId} {v:Value} {b:ByteArray} {sz:Int} {l:List Pt} (h:w.ownsRow B t 4 v l.length (eo (vk b sz) l)):lX w v b sz l:=
 fv h _ (by decide) fun i j c a=>by
  rw[rD (k:=4) (fun _=>rfl) l i j (l.getD i (0,0)) (by rw[aO,aS c];rfl) a]
  match j,a with
  |0,_=>rfl
  |1,_=>rfl
  |2,_=>rfl
  |3,_=>rfl
theorem zY {w:World} {B C:Nat} {t:TypeId} {k n:Nat} {v:Value} {c:List Value} (h:w.ownsRow C t k v n c) (l:B≤C):w.ownsRow B t k v n c:=by
 obtain⟨b,⟨d,f⟩|⟨g,cap,a,e,m,i,j⟩⟩:=h
 ·exact⟨b,.inl ⟨d,f⟩⟩
 ·exact⟨b,.inr ⟨g,cap,a,e,by omega,i,j⟩⟩
theorem zZ (a:ByteArray) (sz:Int) (l:List Pt) (q:Pt):eo (vk a sz) (l++ [q])=eo (vk a sz) l++ [.string a,.int .i64 q.1,.int .i64 q.2,.int .i64 sz]:=by
 rw[ow];rfl
theorem jm:(prog.info? 45).map (fun i=>(i.zero,i.size,i.bytes))=some (some (.agg #["",(),(),()]),4,40):=by kernel_rfl
theorem wP (c:ByteArray) (sz a b x y:Int) (W:World):(binOp .eql 45 (.agg #[.string c,a,b,sz]) (.agg #[.string c,x,y,sz])).run prog W= .ok (.bool (decide ((a,b)=(x,y)))) W:=by
 simp only[binOp];simp[go_sem,Op.equal,Op.maxDepth];split
 ·split
  ·simp[*]
  ·simp[*]
 ·simp[*]
theorem qy (D:bX) (S:cN) (w:World):Gv 50 #[.agg (aH D S)] (.agg #[.slice S.oo D.no S.co,Nat]) w:=by
 unfold aH;go_enter func50,ntmps50;go_wp2
 all_goals (refine bodyPost_ret (v:= .agg #[.slice S.oo D.no S.co,Nat]) (by simp[results,results50,go_sem, *]) rfl ⟨rfl,by go_grown⟩)
theorem uc (D:bX) (S:cN) (w:World):Gv 60 #[.agg (aH D S)] (.agg #[.slice S.oo D.no S.co,Nat]) w:=by
 unfold aH;go_enter func60,ntmps60;go_wp2
 all_goals (refine bodyPost_ret (v:= .agg #[.slice S.oo D.no S.co,Nat]) (by simp[results,results60,go_sem, *]) rfl ⟨rfl,by go_grown⟩)
theorem yE (D:bX) (S:cN) (w:World) (e:bO w (.slice S.oo D.no S.co) D.no D.P) (b:eL (D.a1,D.a2,D.a3) D.t=true) (a:Hi (D.kd=1→dT D.no D.P∧0<bP D.no D.P)):
 Gv 45 #[.agg (aH D S)] (.bool (decide (D.kd=1))) w:=by
 by_cases hk:D.kd=1
 ·have n:Hi (∀W,Gv 86 #[.agg #[D.a1,D.a2,D.a3,D.t]] (.bool true) W):=fun W=>by rw[←b];exact pb _ _ _ _ W
  have m:Hi (∀W,Gv 50 #[.agg (aH D S)] (.agg #[.slice S.oo D.no S.co,Nat]) W):=fun W=>qy D S W;have k:Hi (∀W,Below w.heap.size w W→Gv 87 #[.agg #[.slice S.oo D.no S.co,Nat]] (.int .i64 0) W):=fun W o=>ky _ _ _ 0 D.P (fun _=>none) (fun _=>0) (fun _=>0) (fun _ _=>(0,0)) W (e.below o) (nK _ _ _ _ _) (rU (a.o hk).1.pol (a.o hk).1.n32 (a.o hk).2 _ _);have p:(D.kd==1)=true:=by simp[hk]
  rw[decide_eq_true hk];clear hk b e a;unfold aH;go_enter func45,ntmps45;go_wp2_with fail
  (go_at_call 86;refine mz (n.o _) fun q c=> ?_);obtain⟨L,i,h⟩:=aF.ex (aF.step ((aF.nil (ah w.heap.size w)).alloc (w.heap.size) rfl _ _) c);have l:=ar i;have f:=ar h;clear i h c;have d:Hi (q.heap[w.heap.size]?=some (.cells (aH D S) 62)):=aF.nth f.o l.o 0 rfl;go_wp2_with (first|(with_reducible refine ef 62 w.heap.size 0 18 (aH D S) _ bF bv rfl rfl (eA d.o) (by first|rfl|(simp[au,yielded];done)) ?_)|fail)
  (go_at_call 50;refine cy (m.o _) f fun r g=> ?_);go_wp2_with fail
  (go_at_call 87;refine cy (k.o _ g.o.1) g fun s j=> ?_);go_wp2;go_returns;exact⟨rfl,j.o.1⟩
 ·have p:(D.kd==1)=false:=by simp[hk]
  rw[decide_eq_false hk];clear hk b e a;unfold aH;go_enter func45,ntmps45;go_wp2;go_returns;exact⟨rfl,by go_grown⟩
theorem yF (D:bX) (S:cN) (w:World) (e:bO w (.slice S.oo D.no S.co) D.no D.P) (b:eL (D.a1,D.a2,D.a3) D.t=true) (a:Hi (D.kd=1→dT D.no D.P∧0<bP D.no D.P)):
 Gv 55 #[.agg (aH D S)] (.bool (decide (D.kd=1))) w:=by
 by_cases hk:D.kd=1
 ·have n:Hi (∀W,Gv 77 #[.agg #[D.a1,D.a2,D.a3,D.t]] (.bool true) W):=fun W=>by rw[←b];exact nt _ _ _ _ W
  have m:Hi (∀W,Gv 60 #[.agg (aH D S)] (.agg #[.slice S.oo D.no S.co,Nat]) W):=fun W=>uc D S W;have k:Hi (∀W,Below w.heap.size w W→Gv 23 #[.agg #[.slice S.oo D.no S.co,Nat]] (.int .i64 0) W):=fun W o=>ld _ _ D.P W (e.below o) (a.o hk).1 (a.o hk).2;have p:(D.kd==1)=true:=by simp[hk]
  rw[decide_eq_true hk];clear hk b e a;unfold aH;go_enter func55,ntmps55;go_wp2_with fail
  (go_at_call 77;refine mz (n.o _) fun q c=> ?_);obtain⟨L,i,h⟩:=aF.ex (aF.step ((aF.nil (ah w.heap.size w)).alloc (w.heap.size) rfl _ _) c);have l:=ar i;have f:=ar h;clear i h c;have d:Hi (q.heap[w.heap.size]?=some (.cells (aH D S) 62)):=aF.nth f.o l.o 0 rfl;go_wp2_with (first|(with_reducible refine ef 62 w.heap.size 0 18 (aH D S) _ bF bv rfl rfl (eA d.o) (by first|rfl|(simp[au,yielded];done)) ?_)|fail)
  (go_at_call 60;refine cy (m.o _) f fun r g=> ?_);go_wp2_with fail
  (go_at_call 23;refine cy (k.o _ g.o.1) g fun s j=> ?_);go_wp2;go_returns;exact⟨rfl,j.o.1⟩
 ·have p:(D.kd==1)=false:=by simp[hk]
  rw[decide_eq_false hk];clear hk b e a;unfold aH;go_enter func55,ntmps55;go_wp2;go_returns;exact⟨rfl,by go_grown⟩
theorem DT (oa:Option Addr) (n cap:Nat) (K:Nat→V) (m o p q:Int) (d f i:Nat) (w:World) (hB:w.heap[d]?=some (.cells #[m,o,p,q] 60)) (z:w.heap[f]?=some (.cells #[.slice oa n cap] 33)) (h:gL w (.slice oa n cap) n K) (O:i<n):
 Gv 47 #[(i:Int),.pointer (some d),.pointer (some f)] (.agg #[(ft (m,o,p) q (K i)).1,(ft (m,o,p) q (K i)).2.1,(ft (m,o,p) q (K i)).2.2]) w:=by
 obtain⟨c8,c5,e,hn,hc,E⟩:=h.form;cases e;obtain⟨a1,X⟩:=oE ((ft (m,o,p) q (K i)).1);obtain⟨a2,Y⟩:=oE ((ft (m,o,p) q (K i)).2.1);obtain⟨a3,Z⟩:=oE ((ft (m,o,p) q (K i)).2.2);obtain⟨g,U,rfl,c7,l⟩:=E i O;have P:Hi (∀W,Gv 48 #[.agg #[m,o,p,q],.agg #[(K i).1,(K i).2.1,(K i).2.2]] (.agg #[a1,a2,a3]) W):=fun W=>by
  have:=Ap m o p q (K i).1 (K i).2.1 (K i).2.2 W;rw[show(((K i).1,(K i).2.1,(K i).2.2):V)=K i from rfl,X,Y,Z]at this;exact this
 rw[X,Y,Z];clear X Y Z;have zB:d<w.heap.size:=(av.1 hB).1;have zP:f<w.heap.size:=(av.1 z).1;obtain⟨x0,x1,x2,x3,-,-⟩:=bR hB;obtain⟨y0,-,-⟩:=dG z;have c0:w.cell? (g,U+i*3)=some (.int .i64 (K i).1):=l i O 0 _ rfl;have c1:w.cell? (g,U+i*3+1)=some (.int .i64 (K i).2.1):=l i O 1 _ rfl;have c2:w.cell? (g,U+i*3+2)=some (.int .i64 (K i).2.2):=l i O 2 _ rfl;have i0:(0:Int)≤(i:Int):=by omega
 have i1:(i:Int)<(n:Int):=by omega
 have R:Hi ((w.alloc (.cells #[(),(),()] 58)).heap[w.heap.size]?=some (.cells #[(),(),()] 58)):=bf _ _ _ rfl;clear l hB z h E;go_enter func47,ntmps47;go_wp2_with fail
 refine dd 7 [] [⟨w.heap.size,6,#[(),(),()],58⟩] (by kernel_rfl) (by kernel_rfl) (by kernel_rfl) (by kernel_rfl) (by kernel_rfl) ?_ ?_ ?_
 ·intro r a;simp only[List.mem_singleton]at a;subst a;have x0:=R.o;refine⟨by show w.heap.size<_;first|omega|(simp<;>omega),?_⟩;show _[w.heap.size]?=_
  first|assumption|(simp(disch:=(first|omega|(simp only[aw,aT]<;>omega))) only[x0,bf,aV,rm,da,CI,Option.map_some];done)
 ·intro r a s hs h;simp only[List.mem_singleton]at a hs;subst a hs;exact absurd rfl h
 simp only[ac,aj,aK,aC,aa,ae,af];iterate 5
  apply dE (by kernel_rfl)
  ·intro u j b D;have x:=b.size;(try simp only[aw,aT]at x);have F:d<j.heap.size:=by omega
   have G:f<j.heap.size:=by omega
   have H:g<j.heap.size:=by omega
   have I:w.heap.size<j.heap.size:=by omega
   obtain⟨J,-⟩:=b.cell (d) (by first|omega|(simp<;>omega)) (by intro r a;simp only[List.mem_singleton]at a;subst a;show w.heap.size≠d;omega);obtain⟨L,-⟩:=b.cell (f) (by first|omega|(simp<;>omega)) (by intro r a;simp only[List.mem_singleton]at a;subst a;show w.heap.size≠f;omega);obtain⟨N,-⟩:=b.cell (g) (by first|omega|(simp<;>omega)) (by intro r a;simp only[List.mem_singleton]at a;subst a;show w.heap.size≠g;omega);clear b x;simp[cL,ai,dK,bN,dm.is,dm.any]at D;go_simp
   first|exact⟨ah _ _,rfl⟩|rfl
 apply dE (by kernel_rfl)
 ·intro u j b D;have x:=b.size;(try simp only[aw,aT]at x);have F:d<j.heap.size:=by omega
  have G:f<j.heap.size:=by omega
  have H:g<j.heap.size:=by omega
  have I:w.heap.size<j.heap.size:=by omega
  obtain⟨J,-⟩:=b.cell (d) (by first|omega|(simp<;>omega)) (by intro r a;simp only[List.mem_singleton]at a;subst a;show w.heap.size≠d;omega);obtain⟨L,-⟩:=b.cell (f) (by first|omega|(simp<;>omega)) (by intro r a;simp only[List.mem_singleton]at a;subst a;show w.heap.size≠f;omega);obtain⟨N,-⟩:=b.cell (g) (by first|omega|(simp<;>omega)) (by intro r a;simp only[List.mem_singleton]at a;subst a;show w.heap.size≠g;omega);clear b x;simp[cL,ai,dK,bN,dm.is,dm.any]at D;go_simp
  first|rfl|(go_at_call 48;refine(P.o _).mono ?_;rintro e w1 ⟨rfl,C⟩;first|exact⟨rfl,C⟩|exact⟨_,rfl,C,rfl⟩)
 apply vF ⟨w.heap.size,6,#[(),(),()],58⟩ (by simp) rfl (by kernel_rfl) rfl
 ·intro u j b D;have x:=b.size;(try simp only[aw,aT]at x);have F:d<j.heap.size:=by omega
  have G:f<j.heap.size:=by omega
  have H:g<j.heap.size:=by omega
  have I:w.heap.size<j.heap.size:=by omega
  obtain⟨J,-⟩:=b.cell (d) (by first|omega|(simp<;>omega)) (by intro r a;simp only[List.mem_singleton]at a;subst a;show w.heap.size≠d;omega);obtain⟨L,-⟩:=b.cell (f) (by first|omega|(simp<;>omega)) (by intro r a;simp only[List.mem_singleton]at a;subst a;show w.heap.size≠f;omega);obtain⟨N,-⟩:=b.cell (g) (by first|omega|(simp<;>omega)) (by intro r a;simp only[List.mem_singleton]at a;subst a;show w.heap.size≠g;omega);clear b x;simp[cL,ai,dK,bN,dm.is,dm.any]at D;refine⟨by simp[au],fun k=> ?_⟩;have c:j.heap[w.heap.size]?=some (.cells #[(),(),()] 58):=k;have c6:=bV c;have Q:=ar c;clear k c;go_simp;exact bL.c3 Q.o _ _ _
 intro u A b t hV z;have e0:u 0=_:=eE t 0;have e1:u 1=_:=eE t 1;have e2:u 2=_:=eE t 2;have e3:u 3=_:=eE t 3;have e4:u 4=_:=eE t 4;have e5:u 5=_:=eE t 5;have T:u 6=_:=eE t 6;clear hV;have qp:A.heap[w.heap.size]?=some (.cells (u 6).cells 58):=z.1;rw[T]at qp;obtain⟨b9,c3,c4,-,b8⟩:=bV qp;clear qp z;simp only[am,ax,ac,aj,aK,aC,aa,ae,af,e0,e1,e2,e3,e4,e5,T];clear e0 e1 e2 e3 e4 e5 T t;have a9:Below w.heap.size w A:=Below.trans (by first|assumption|go_grown) (b.below (B:=w.heap.size) (by first|omega|(simp<;>omega)) (by intro r a;simp only[List.mem_singleton]at a;subst a;show w.heap.size≤w.heap.size;omega));have y:=b.size;(try simp only[aw,aT]at y);have b0:d<A.heap.size:=by omega
 have b1:f<A.heap.size:=by omega
 have b5:g<A.heap.size:=by omega
 have b6:w.heap.size<A.heap.size:=by omega
 obtain⟨a0,a6⟩:=b.cell (d) (by first|omega|(simp<;>omega)) (by intro r a;simp only[List.mem_singleton]at a;subst a;show w.heap.size≠d;omega);obtain⟨a4,a7⟩:=b.cell (f) (by first|omega|(simp<;>omega)) (by intro r a;simp only[List.mem_singleton]at a;subst a;show w.heap.size≠f;omega);obtain⟨a5,a8⟩:=b.cell (g) (by first|omega|(simp<;>omega)) (by intro r a;simp only[List.mem_singleton]at a;subst a;show w.heap.size≠g;omega);clear b y;go_wp2
 all_goals (refine bodyPost_ret (v:= .agg #[a1,a2,a3]) (by simp[results,results47,go_sem, *]) rfl ⟨rfl,a9⟩)
theorem Hg (v:Value) (m:ByteArray) (sz:Int) (l:List Pt) (q:Pt) (n:Nat) (w:World) (z:l.length=n) (h:lX w v m sz l):
 Gv 94 #[v,.agg #[.string m,q.1,q.2,sz]] (.int .i64 (if bq (fun i=>decide (q=l.getD i (0,0))) n 0<n then(bq (fun i=>decide (q=l.getD i (0,0))) n 0:Int)else -1)) w:=by
 unfold lX at h;rw[z]at h;obtain⟨oa,cap,rfl,hn,hc,y⟩:=bs.form h (fun _=>rfl);have D:=ar y;clear h y z;generalize N:bq (fun i=>decide (q=l.getD i (0,0))) n 0=F;have Y:=ar N;generalize O:(if F<n then(F:Int)else -1)=R;have K:=ar O;clear N O;go_enter func94,ntmps94;go_wp2;go_loopw[8] (fun i wr=>∃j:Nat,j≤n∧i= .int .i64 j∧Hi (bq (fun i=>decide (q=l.getD i (0,0))) (n-j) j=F)∧w.heap.size<wr.heap.size∧Hi (wr.heap[w.heap.size]?=some (.cells #[.string m,q.1,q.2,sz] 45))∧Below w.heap.size w wr) (fun i _=>n-(intOf i).toNat)
 case atStart=>exact⟨0,by omega,rfl,Y.o,by simp,bf _ _ _ rfl,by go_grown⟩
 case round=>
  obtain⟨A,rfl⟩:=wE wr;obtain⟨j,hj,rfl,H,zw,o,f⟩:=hrel;have r:=ar f;by_cases hlt:j<n
  ·obtain⟨t,B,rfl,c,a⟩:=D.o j hlt;obtain⟨E,d⟩:=oE (l.getD j (0,0));have J:=ar d;have Z:A.cell? (t,B+j*4)=some m:=bI f c (a j hlt 0 _ rfl);have c1:A.cell? (t,B+j*4+1)=some E.1:=by rw[←d];exact bI f c (a j hlt 1 _ rfl)
   have c2:A.cell? (t,B+j*4+2)=some E.2:=by rw[←d];exact bI f c (a j hlt 2 _ rfl)
   have c3:A.cell? (t,B+j*4+3)=some sz:=bI f c (a j hlt 3 _ rfl);obtain⟨m0,m1,m2,m3,-,-⟩:=bR o.o;have a0:t<A.heap.size:=by have:=f.size;omega
   have k0:(0:Int)≤(j:Int):=by omega
   have k1:(j:Int)<(n:Int):=by omega
   obtain⟨L,k⟩:=oE (decide (q=E));have qp:=fun W=>wP m sz q.1 q.2 E.1 E.2 W;rw[show decide ((q.1,q.2)=(E.1,E.2))=L from k]at qp;have p:=ar k;clear a f d k;go_wp2_with fail
   refine aD 6 ?_;simp only[ac,aj,aK,aC,aa,ae,af];iterate 6 refine bJ ?_
   intro u X G d;simp only[cF,aR,ay.is,aE,aA,reduceIte]at d;simp only[am,ax,ac,aj,aK,aC,aa,ae,af,d];clear d;have s:=ar (ag (w:=w) r.o G);obtain⟨U,T,P,Q,b⟩:=pr G;clear G;have C:Hi (X.heap[w.heap.size]?=some (.cells #[.string m,q.1,q.2,sz] 45)):=(b.o.block w.heap.size zw).trans o.o;have x:Below w.heap.size w X:=s.o;clear Z c1 c2 c3 m0 m1 m2 m3;cases L with
   |true=>
    have e:Hi (R=(j:Int)):=by
     show _=_;have g:F=j:=H.o.symm.trans (dI hlt (by rw[J.o];exact p.o));rw[←K.o,g,if_pos hlt]
    go_wp2;go_returns;rw[e.o];exact⟨rfl,x⟩
   |false=>
    have I:Hi (bq (fun i=>decide (q=l.getD i (0,0))) (n-(j+1)) (j+1)=F):=(dB hlt (by rw[J.o];exact p.o)).symm.trans H.o;go_wp2;go_roundw
    case rel=>exact⟨j+1,by omega,by go_num,I,by have:=b.o.size;omega,C,x⟩
    case measure=>simp[intOf];omega
  ·have e:Hi (R= -1):=by
    show _=_;have g:F=n:=H.o.symm.trans (dX hj hlt);rw[←K.o,g,if_neg (by omega)]
   go_wp2;go_returns;rw[e.o];exact⟨rfl,r.o⟩
theorem BF (v:Value) (d:ByteArray) (sz:Int) (l:List Pt) (q:Pt) (w:World) (h:lX w v d sz l):
 Gv 51 #[v,.agg #[.string d,q.1,q.2,sz]] (.bool (decide (q∈l))) w:=by
 obtain⟨n,a⟩:=oE l.length;obtain⟨R,e⟩:=oE ((if bq (fun i=>decide (q=l.getD i (0,0))) n 0<n then(bq (fun i=>decide (q=l.getD i (0,0))) n 0:Int)else -1));have j:Hi (∀W,Below w.heap.size w W→Gv 94 #[v,.agg #[.string d,q.1,q.2,sz]] (.int .i64 R) W):=fun W c=>by rw[←e];exact Hg v d sz l q n W a (h.below c)
 have g:Hi (decide (0≤R)=decide (q∈l)):=by
  show _=_;obtain⟨y,z,s,t⟩:=dH (fun i=>decide (q=l.getD i (0,0))) n 0;rw[←e];by_cases hlt:bq (fun i=>decide (q=l.getD i (0,0))) n 0<n
  ·rw[if_pos hlt,dt];have k:=of_decide_eq_true (s (by omega));refine(decide_eq_true ?_).symm;rw[k,aO,aS (by omega)];exact List.getElem_mem _
  ·rw[if_neg hlt];refine Eq.trans (b:=false) (by decide) (decide_eq_false fun r=> ?_).symm;obtain⟨i,p,o⟩:=List.mem_iff_getElem.1 r;have m:=of_decide_eq_false (t i (by omega) (by omega));exact m (by rw[aO,aS p];exact o.symm)
 unfold lX at h;rw[a]at h;obtain⟨oa,cap,rfl,-,x,-⟩:=bs.form h (fun _=>rfl);clear e h a;go_enter func51,ntmps51;go_wp2_with fail
 (go_at_call 94;refine mz (j.o _ (by go_grown)) fun u c=> ?_);have f:Hi (Below w.heap.size w u):=ag (w:=w) (by go_grown) c;clear c;go_wp2;go_returns;rw[←g.o];exact⟨rfl,f.o⟩
theorem mP {n:Nat} {P:Nat→Pt} {q:Pt} (a:lK 32768 n P):fd n P q=db n P q:=by
 unfold fd;split
 ·rfl
 ·rename_i h;exact(ub a (fun c=>h (cO.2 c))).symm
def jb (D:bX) (K:Nat→V) (k:Nat):Prop:=((fT D (K k)).1=(fT D (K (k+1))).1∧(fT D (K k)).2.1=(fT D (K (k+1))).2.1∧min (fT D (K k)).2.2 (fT D (K (k+1))).2.2≤0∧0≤max (fT D (K k)).2.2 (fT D (K (k+1))).2.2)∧0≤db D.no D.P ((fT D (K k)).1,(fT D (K k)).2.1)∧((fT D (K k)).1,(fT D (K k)).2.1)∉cU D K k
theorem qA {D:bX} {K:Nat→V} {k:Nat} (h:¬jb D K k):cU D K (k+1)=cU D K k:=if_neg h
theorem sK {D:bX} {K:Nat→V} {k:Nat} (h:jb D K k):cU D K (k+1)=cU D K k++ [((fT D (K k)).1,(fT D (K k)).2.1)]:=if_pos h
theorem sL {D:bX} {n:Nat} {K:Nat→V} {sz:Int} (a:fS n K sz) (b:D.kd=1):dJ D n K sz=cU D K (n-1):=if_pos ⟨a,b⟩
theorem mQ {D:bX} {n:Nat} {K:Nat→V} {sz:Int} (h:¬(fS n K sz∧D.kd=1)):dJ D n K sz= []:=if_neg h
def mR (D:bX) (n:Nat) (K:Nat→V) (sz:Int) (w:World) (e:Ending) (w':World):Prop:=∃v,e= .returned v∧w'.ownsRow w.heap.size 45 4 v (dJ D n K sz).length (eo (vk D.id sz) (dJ D n K sz))∧Below w.heap.size w w'
theorem BG (D:bX) (S:cN) (v:Value) (n:Nat) (K:Nat→V) (sz:Int) (w:World) (hg:gD w) (h:gL w v n K) (hp:bO w (.slice S.oo D.no S.co) D.no D.P) (g2:eL (D.a1,D.a2,D.a3) D.t=true) (c7:Hi (D.kd=1→dT D.no D.P∧0<bP D.no D.P)) (j2:n≤8):
 Calls prog 18 #[.agg (aH D S),v,sz] w (mR D n K sz w):=by
 obtain⟨i0,hi,i1,i2,i3⟩:=info_parts jm;obtain⟨RR,d3⟩:=oE (decide (fS n K sz));obtain⟨TT,d4⟩:=oE (decide (D.kd=1));have h5:Hi (∀W,Below w.heap.size w W→Gv 44 #[v,sz] (.bool RR) W):=fun W m=>by rw[←d3];exact yC v n K sz W (h.below m)
 have h6:Hi (∀W,Below w.heap.size w W→Gv 45 #[.agg (aH D S)] (.bool TT) W):=fun W m=>by rw[←d4];exact yE D S W (hp.below m) g2 c7
 have d0:=ar d3;have a7:=ar d4;obtain⟨p1,e0⟩:=oE ((dD (D.a1,D.a2,D.a3) D.t).1.1);obtain⟨p2,e1⟩:=oE ((dD (D.a1,D.a2,D.a3) D.t).1.2.1);obtain⟨p3,e2⟩:=oE ((dD (D.a1,D.a2,D.a3) D.t).1.2.2);obtain⟨pk,e3⟩:=oE ((dD (D.a1,D.a2,D.a3) D.t).2);have f6:Hi (∀v,fT D v=ft (p1,p2,p3) pk v):=fun v=>by
  unfold fT;rw[←e0,←e1,←e2,←e3]
 have g6:Hi (∀W,Below w.heap.size w W→Gv 46 #[.agg #[D.a1,D.a2,D.a3,D.t]] (.agg #[p1,p2,p3,pk]) W):=fun W m=>by
  have:=vw D.a1 D.a2 D.a3 D.t W (hg.below m);rw[e0,e1,e2,e3]at this;exact this
 have HO:Hi (∀W,Gv 50 #[.agg (aH D S)] (.agg #[.slice S.oo D.no S.co,Nat]) W):=fun W=>qy D S W;obtain⟨oa,cap,rfl,hn,hc,-⟩:=h.form;have g9:=ar h;have h0:=ar hp;clear h hp d3 d4 e0 e1 e2 e3 hg g2;unfold aH;go_enter func18,ntmps18;go_wp2_with fail
 (go_at_call 44;refine mz (h5.o _ (by go_grown)) fun w1 a=> ?_);obtain⟨L,hL,h1⟩:=aF.ex (aF.step (((aF.nil (ah w.heap.size w)).alloc (w.heap.size) rfl _ _).alloc (w.heap.size+1) (by simp) _ _) a);have HL:=ar hL;have H1:=ar h1;clear hL h1 a;have F:Hi (w1.heap[w.heap.size]?=some (.cells (aH D S) 62)):=aF.nth H1.o HL.o 1 rfl;obtain⟨T,-,-,-,-,-,-,-,-,-,-,-,-,-,b5,b6,b8,f0⟩:=tb F.o;have N:=H1.o.len HL.o 1 rfl;obtain⟨m0,mf,mz⟩:=dG (aF.nth H1.o HL.o 0 rfl);have O:=H1.o.len HL.o 0 rfl;obtain rfl|rfl:RR=false∨RR=true:=by cases RR<;>simp
 ·have c9:Hi (dJ D n K sz= []):=mQ (fun c=>of_decide_eq_false d0.o c.1);go_wp2;go_returns;refine⟨_,rfl,?_,H1.o.1⟩;rw[c9.o];exact World.ownsRow_nil _ _ _ _
 go_wp2_with (first|(with_reducible refine ef 62 w.heap.size 0 18 (aH D S) _ bF bv rfl rfl (eA F.o) (by first|rfl|(simp[au,yielded];done)) ?_)|fail)
 (go_at_call 45;refine cy (h6.o _ H1.o.1) H1 fun w2 H2=> ?_);clear T b5 b6 b8 f0;clear F N;clear m0 mf mz O;have F:Hi (w2.heap[w.heap.size]?=some (.cells (aH D S) 62)):=aF.nth H2.o HL.o 1 rfl;obtain⟨T,-,-,-,-,-,-,-,-,-,-,-,-,-,b5,b6,b8,f0⟩:=tb F.o;have N:=H2.o.len HL.o 1 rfl;obtain⟨m0,mf,mz⟩:=dG (aF.nth H2.o HL.o 0 rfl);have O:=H2.o.len HL.o 0 rfl;obtain rfl|rfl:TT=false∨TT=true:=by cases TT<;>simp
 ·have c9:Hi (dJ D n K sz= []):=mQ (fun c=>of_decide_eq_false a7.o c.2);go_wp2;go_returns;refine⟨_,rfl,?_,H2.o.1⟩;rw[c9.o];exact World.ownsRow_nil _ _ _ _
 have I:=(c7.o (of_decide_eq_true a7.o)).1.pol;have f7:=ar I;have f8:Hi (dJ D n K sz=cU D K (n-1)):=sL (of_decide_eq_true d0.o) (of_decide_eq_true a7.o);have j1:2≤n:=(of_decide_eq_true d0.o:fS n K sz).1;have h7:Hi (∀W q1 q2,Below w.heap.size w W→Gv 49 #[.agg #[.slice S.oo D.no S.co,Nat],.agg #[.int .i64 q1,.int .i64 q2]] (.int .i64 (fd D.no D.P (q1,q2))) W):=fun W q1 q2 m=>qo _ D.no D.P q1 q2 W (h0.o.below m) f7 (c7.o (of_decide_eq_true a7.o)).1.n32 (c7.o (of_decide_eq_true a7.o)).2;clear I;go_wp2_with fail
 (go_at_call 46;refine cy (g6.o _ H2.o.1) H2 fun w3 H3=> ?_);clear T b5 b6 b8 f0;clear F N;clear m0 mf mz O;obtain⟨A,f9⟩:=oE w3.heap.size;have f1:=ar f9;have j3:w.heap.size+1<A:=by have:=H3.o.len HL.o 0 rfl;omega
 have j7:w.heap.size<A:=by omega
 have g7:Hi (∀x∈L,x.1<A):=fun x hx=>by
  have:=H3.o.lt hx;omega
 clear f9;go_wp2;rw[f1.o];obtain⟨L2,g0,h4⟩:=aF.ex (aF.alloc H3.o A f1.o #[p1,p2,p3,pk] 60);have f:=ar (g0.trans (congrArg _ HL.o));have H4:=ar h4;clear g0 h4;have f4:Hi (∀x∈L2,x.1<A+1):=fun x hx=>by
  rw[f.o]at hx;rcases bj.1 hx with rfl|hx
  ·exact Nat.lt_succ_self _
  ·rw[←HL.o]at hx;have:=g7.o x hx;omega
 have f3:Hi (∀W q,aF w W L2→q<n→Gv 47 #[(q:Int),.pointer (some A),.pointer (some (w.heap.size+1,0))] (.agg #[(fT D (K q)).1,(fT D (K q)).2.1,(fT D (K q)).2.2]) W):=fun W q ho hq=>by
  rw[f6.o];exact DT oa n cap K p1 p2 p3 pk A (w.heap.size+1) q W (aF.nth ho f.o 0 rfl) (aF.nth ho f.o 1 rfl) (g9.o.below ho.1) hq
 go_loopw[9,6] (fun i v wr=>∃(j:Nat) (l:List Pt),1≤j∧j≤n∧i= .int .i64 (j:Int)∧Hi (cU D K (j-1)=l)∧Hi (wr.ownsRow (A+1) 45 4 v l.length (eo (vk D.id sz) l))∧aF w wr L2∧A<wr.heap.size) (fun i _ _=>n-(intOf i).toNat)
 case atStart=>exact⟨1,[],by omega,by omega,rfl,rfl,World.ownsRow_nil _ _ _ _,H4.o,H4.o.len f.o 0 rfl⟩
 case round=>
  clear H4;obtain⟨w4,rfl⟩:=wE wr;obtain⟨j,l,j0,Q,rfl,hl,HR,hO,j8⟩:=hrel;have H4:=ar hO;clear hO;obtain⟨ov,cv,h9⟩:=cj HR.o;subst h9;by_cases hlt:j<n
  ·obtain⟨k,c6⟩:∃k:Nat,k+1=j:=⟨j-1,by omega⟩;have J:=ar c6;have a9:cU D K k=l:=by rw[show k=j-1 by omega];exact hl.o
   have f5:Hi (l.length≤8):=by
    show _≤_;rw[←a9];exact bW (mC k) (by omega)
   obtain⟨o,b9⟩:=oE ((fT D (K k)).1);obtain⟨p,c0⟩:=oE ((fT D (K k)).2.1);obtain⟨a3,d5⟩:=oE ((fT D (K k)).2.2);obtain⟨b1,a⟩:=oE ((fT D (K (k+1))).1);obtain⟨b2,d6⟩:=oE ((fT D (K (k+1))).2.1);obtain⟨b3,d7⟩:=oE ((fT D (K (k+1))).2.2);obtain⟨MN,d1⟩:=oE (mn a3 b3);obtain⟨MX,d2⟩:=oE (mx a3 b3);obtain⟨Z,hZ⟩:=oE (fd D.no D.P (o,p));have I:=f7.o;have U:Hi (jb D K k↔((o=b1∧p=b2∧¬0<MN∧¬MX<0)∧0≤Z∧(o,p)∉l)):=by
    show _↔_;unfold jb;rw[b9,c0,d5,a,d6,d7,←d1,←d2,uZ,vb,a9,←hZ,mP I];constructor
    ·rintro ⟨⟨q1,q2,q3,q4⟩,q5⟩;exact⟨⟨q1,q2,by omega,by omega⟩,q5⟩
    ·rintro ⟨⟨q1,q2,q3,q4⟩,q5⟩;exact⟨⟨q1,q2,by omega,by omega⟩,q5⟩
   have g5:Hi (jb D K k→cU D K (k+1)=l++ [(o,p)]):=fun h=>by rw[sK h,a9,b9,c0]
   have a0:Hi (¬jb D K k→cU D K (k+1)=l):=fun h=>by rw[qA h,a9]
   have HA:Hi (∀W,aF w W L2→Gv 47 #[(k:Int),.pointer (some A),.pointer (some (w.heap.size+1,0))] (.agg #[o,p,a3]) W):=fun W ho=>by
    have:=f3.o W k ho (by omega);rw[b9,c0,d5]at this;exact this
   have HB:Hi (∀W,aF w W L2→Gv 47 #[(j:Int),.pointer (some A),.pointer (some (w.heap.size+1,0))] (.agg #[b1,b2,b3]) W):=fun W ho=>by
    have:=f3.o W j ho hlt;rw[←c6,a,d6,d7]at this;rw[←c6];exact this
   have HW:Hi (∀W,Below w.heap.size w W→Gv 49 #[.agg #[.slice S.oo D.no S.co,Nat],.agg #[o,p]] (.int .i64 Z) W):=fun W m=>by rw[←hZ];exact h7.o W o p m
   have j4:IntKind.i64.wrap ((j:Int)-1)=(k:Int):=by rw[show(j:Int)-1=(k:Int)by omega];exact iw
   have j5:(j:Int)-1=(k:Int):=by omega
   have j6:IntKind.i64.wrap (k:Int)=(k:Int):=iw;obtain⟨u0,uf,uz⟩:=dG (aF.nth H4.o f.o 1 rfl);have O:w.heap.size+1<w4.heap.size:=by omega
   have r1:=jX (x:=a3) (y:=b3);have r2:=jY (x:=a3) (y:=b3);rw[d2]at r1;rw[d1]at r2;clear d1 d2 b9 c0 d5 a d6 d7 I hZ a9 c6;go_wp2_with fail
   (go_at_call 47;refine mz (HA.o _ H4.o) fun w5 d8=> ?_);have H5:=ar (aF.step H4.o d8);have h3:=ar (bD HR.o d8);clear d8;go_wp2_with fail
   (go_at_call 47;refine mz (HB.o _ H5.o) fun s d9=> ?_);have H6:=ar (aF.step H5.o d9);have a6:=ar (bD h3.o d9);clear d9 u0 uf uz O;have j9:=H6.o.len f.o 0 rfl;have O:w.heap.size+1<s.heap.size:=by omega
   have F:Hi (s.heap[w.heap.size]?=some (.cells (aH D S) 62)):=aF.nth H6.o f.o 2 rfl;have T:s.cell? w.heap.size=some D.id:=aX F.o rfl;have N:=H6.o.len f.o 2 rfl;by_cases x0:o=b1;rotate_left
   ·have i4:(o !=b1)=true:=by simpa using x0
    have g:Hi (cU D K (k+1)=l):=a0.o (fun c=>x0 (U.o.1 c).1.1);clear x0;go_wp2;go_roundw
    case rel=>exact⟨j+1,l,by omega,by omega,by go_num,by show cU D K (j+1-1)=_;rw[show j+1-1=k+1 by have:=J.o;omega];exact g.o,(a6.o.alloc _).alloc _,(aF.tail (aF.tail (aF.alloc (aF.alloc H6.o s.heap.size rfl _ _) (s.heap.size+1) (by simp) _ _))),by simp;omega⟩
    case measure=>simp[intOf];omega
   have i4:(o !=b1)=false:=by simpa using x0
   by_cases x1:p=b2;rotate_left
   ·have i5:(p !=b2)=true:=by simpa using x1
    have g:Hi (cU D K (k+1)=l):=a0.o (fun c=>x1 (U.o.1 c).1.2.1);clear x1;go_wp2;go_roundw
    case rel=>exact⟨j+1,l,by omega,by omega,by go_num,by show cU D K (j+1-1)=_;rw[show j+1-1=k+1 by have:=J.o;omega];exact g.o,(a6.o.alloc _).alloc _,(aF.tail (aF.tail (aF.alloc (aF.alloc H6.o s.heap.size rfl _ _) (s.heap.size+1) (by simp) _ _))),by simp;omega⟩
    case measure=>simp[intOf];omega
   have i5:(p !=b2)=false:=by simpa using x1
   by_cases x2:0<MN
   ·have i6:decide (0<MN)=true:=decide_eq_true x2;have g:Hi (cU D K (k+1)=l):=a0.o (fun c=>by have:=(U.o.1 c).1.2.2.1;omega);clear x2;go_wp2;go_roundw
    case rel=>exact⟨j+1,l,by omega,by omega,by go_num,by show cU D K (j+1-1)=_;rw[show j+1-1=k+1 by have:=J.o;omega];exact g.o,(a6.o.alloc _).alloc _,(aF.tail (aF.tail (aF.alloc (aF.alloc H6.o s.heap.size rfl _ _) (s.heap.size+1) (by simp) _ _))),by simp;omega⟩
    case measure=>simp[intOf];omega
   have i6:decide (0<MN)=false:=decide_eq_false x2;by_cases x3:MX<0
   ·have i7:decide (MX<0)=true:=decide_eq_true x3;have g:Hi (cU D K (k+1)=l):=a0.o (fun c=>by have:=(U.o.1 c).1.2.2.2;omega);clear x3;go_wp2;go_roundw
    case rel=>exact⟨j+1,l,by omega,by omega,by go_num,by show cU D K (j+1-1)=_;rw[show j+1-1=k+1 by have:=J.o;omega];exact g.o,(a6.o.alloc _).alloc _,(aF.tail (aF.tail (aF.alloc (aF.alloc H6.o s.heap.size rfl _ _) (s.heap.size+1) (by simp) _ _))),by simp;omega⟩
    case measure=>simp[intOf];omega
   have i7:decide (MX<0)=false:=decide_eq_false x3;have a4:Hi (jb D K k↔(0≤Z∧(o,p)∉l)):=⟨fun c=>(U.o.1 c).2,fun c=>U.o.2 ⟨⟨x0,x1,by omega,by omega⟩,c⟩⟩;clear x0 x1 x2 x3;obtain⟨E,P⟩:=oE (decide ((o,p)∈l));have HE:=ar P;clear P;have HQ:Hi (∀W0 W,W0.ownsRow (A+1) 45 4 (.slice ov l.length cv) l.length (eo (vk D.id sz) l)→Below W0.heap.size W0 W→Gv 51 #[.slice ov l.length cv,.agg #[.string D.id,o,p,sz]] (.bool E) W):=fun W0 W h1 h2=>by
    rw[←HE.o];exact BF _ D.id sz l (o,p) W ((qY h1).below h2)
   have H7:=ar ((aF.alloc (aF.alloc (aF.alloc H6.o s.heap.size rfl #[o,p,a3] 58) (s.heap.size+1) (by simp) #[b1,b2,b3] 58) (s.heap.size+1+1) (by simp) #[.string D.id,o,p,sz] 45));have X:=ar (((a6.o.alloc (.cells #[o,p,a3] 58)).alloc (.cells #[b1,b2,b3] 58)).alloc (.cells #[.string D.id,o,p,sz] 45));have a5:=ar (aF.nth (aF.tail (aF.tail (aF.tail H7.o))) f.o 2 rfl);have a4:=a4;by_cases t:0≤Z;rotate_left
   ·have kz:decide (0≤Z)=false:=decide_eq_false t;have g:Hi (cU D K (k+1)=l):=a0.o (fun c=>t (a4.o.1 c).1);clear t;go_wp2_with fail
    refine aD 12 ?_;simp only[ac,aj,aK,aC,aa,ae,af];apply bg (x:= .agg (aH D S))
    ·intro u wx t hc hf b r;simp[aU,ai,aR,ay.is,ay.any]at r;refine cI 62 w.heap.size 0 18 (aH D S) _ bF bv (by first|rfl|simp[Act.eval]) rfl (eA ((b.o.block w.heap.size (by first|(simp;omega)|exact N|omega)).trans a5.o)) ⟨ah _ _,rfl⟩
    apply bg
    ·intro u wx t hc hf b r;simp[aU,ai,aR,ay.is,ay.any]at r;go_simp
     first|rfl|(go_at_call 50;refine(HO.o _).mono ?_;rintro e w1 ⟨rfl,a⟩;first|exact⟨rfl,a⟩|exact⟨_,rfl,a,rfl⟩)
    iterate 2 refine bJ ?_
    apply bg
    ·intro u wx t hc hf b r;simp[aU,ai,aR,ay.is,ay.any]at r;go_simp
     first|rfl|(go_at_call 49;refine(HW.o _ (ag H7.o.1 b.o)).mono ?_;rintro e w1 ⟨rfl,a⟩;first|exact⟨rfl,a⟩|exact⟨_,rfl,a,rfl⟩)
    iterate 4 refine bJ ?_
    apply bg
    ·intro u wx t hc hf b r;simp[aU,ai,aR,ay.is,ay.any]at r;go_simp
     first|rfl|(go_at_call 51;refine(HQ.o _ _ X.o b.o).mono ?_;rintro e w1 ⟨rfl,a⟩;first|exact⟨rfl,a⟩|exact⟨_,rfl,a,rfl⟩)
    iterate 2 refine bJ ?_
    intro u z m P;simp only[cF,aR,ay.is,aE,aA,reduceIte]at P;simp only[am,ax,ac,aj,aK,aC,aa,ae,af,P];clear P;have f2:=ar (ag (w:=w) H7.o.1 m);have d:=ar m;have R:=dx m;have e4:w.heap.size<z.heap.size:=by omega
    have e5:w.heap.size+1<z.heap.size:=by omega
    have e6:A<z.heap.size:=by omega
    have e7:s.heap.size<z.heap.size:=by omega
    have e8:s.heap.size+1<z.heap.size:=by omega
    have e9:s.heap.size+1+1<z.heap.size:=by omega
    obtain⟨G,H⟩:=br m;clear m R;have H8:=ar (aF.step H7.o d.o);have Y:=ar (bD X.o d.o);have C:=ar (aF.tail (aF.tail (aF.tail H8.o)));have c8:=C.o.len f.o 0 rfl;obtain⟨o0,o1,o2,o3,g3,oz⟩:=bR (H8.o.get 0 rfl);have g4:s.heap.size+1+1<z.heap.size:=H8.o.lt (bw ..);clear G H;go_wp2;go_roundw
    case rel=>exact⟨j+1,l,by omega,by omega,by go_num,by show cU D K (j+1-1)=_;rw[show j+1-1=k+1 by have:=J.o;omega];exact g.o,Y.o,C.o,c8⟩
    case measure=>simp[intOf];omega
   have kz:decide (0≤Z)=true:=decide_eq_true t;cases E with
   |true=>
    have g:Hi (cU D K (k+1)=l):=a0.o (fun c=>(a4.o.1 c).2 (of_decide_eq_true HE.o));clear t;go_wp2_with fail
    refine aD 12 ?_;simp only[ac,aj,aK,aC,aa,ae,af];apply bg (x:= .agg (aH D S))
    ·intro u wx t hc hf b r;simp[aU,ai,aR,ay.is,ay.any]at r;refine cI 62 w.heap.size 0 18 (aH D S) _ bF bv (by first|rfl|simp[Act.eval]) rfl (eA ((b.o.block w.heap.size (by first|(simp;omega)|exact N|omega)).trans a5.o)) ⟨ah _ _,rfl⟩
    apply bg
    ·intro u wx t hc hf b r;simp[aU,ai,aR,ay.is,ay.any]at r;go_simp
     first|rfl|(go_at_call 50;refine(HO.o _).mono ?_;rintro e w1 ⟨rfl,a⟩;first|exact⟨rfl,a⟩|exact⟨_,rfl,a,rfl⟩)
    iterate 2 refine bJ ?_
    apply bg
    ·intro u wx t hc hf b r;simp[aU,ai,aR,ay.is,ay.any]at r;go_simp
     first|rfl|(go_at_call 49;refine(HW.o _ (ag H7.o.1 b.o)).mono ?_;rintro e w1 ⟨rfl,a⟩;first|exact⟨rfl,a⟩|exact⟨_,rfl,a,rfl⟩)
    iterate 4 refine bJ ?_
    apply bg
    ·intro u wx t hc hf b r;simp[aU,ai,aR,ay.is,ay.any]at r;go_simp
     first|rfl|(go_at_call 51;refine(HQ.o _ _ X.o b.o).mono ?_;rintro e w1 ⟨rfl,a⟩;first|exact⟨rfl,a⟩|exact⟨_,rfl,a,rfl⟩)
    iterate 2 refine bJ ?_
    intro u z m P;simp only[cF,aR,ay.is,aE,aA,reduceIte]at P;simp only[am,ax,ac,aj,aK,aC,aa,ae,af,P];clear P;have f2:=ar (ag (w:=w) H7.o.1 m);have d:=ar m;have R:=dx m;have e4:w.heap.size<z.heap.size:=by omega
    have e5:w.heap.size+1<z.heap.size:=by omega
    have e6:A<z.heap.size:=by omega
    have e7:s.heap.size<z.heap.size:=by omega
    have e8:s.heap.size+1<z.heap.size:=by omega
    have e9:s.heap.size+1+1<z.heap.size:=by omega
    obtain⟨G,H⟩:=br m;clear m R;have H8:=ar (aF.step H7.o d.o);have Y:=ar (bD X.o d.o);have C:=ar (aF.tail (aF.tail (aF.tail H8.o)));have c8:=C.o.len f.o 0 rfl;obtain⟨o0,o1,o2,o3,g3,oz⟩:=bR (H8.o.get 0 rfl);have g4:s.heap.size+1+1<z.heap.size:=H8.o.lt (bw ..);clear G H;go_wp2;go_roundw
    case rel=>exact⟨j+1,l,by omega,by omega,by go_num,by show cU D K (j+1-1)=_;rw[show j+1-1=k+1 by have:=J.o;omega];exact g.o,Y.o,C.o,c8⟩
    case measure=>simp[intOf];omega
   |false=>
    have g:Hi (cU D K (k+1)=l++ [(o,p)]):=g5.o (a4.o.2 ⟨t,of_decide_eq_false HE.o⟩);clear t;go_wp2_with fail
    refine aD 12 ?_;simp only[ac,aj,aK,aC,aa,ae,af];apply bg (x:= .agg (aH D S))
    ·intro u wx t hc hf b r;simp[aU,ai,aR,ay.is,ay.any]at r;refine cI 62 w.heap.size 0 18 (aH D S) _ bF bv (by first|rfl|simp[Act.eval]) rfl (eA ((b.o.block w.heap.size (by first|(simp;omega)|exact N|omega)).trans a5.o)) ⟨ah _ _,rfl⟩
    apply bg
    ·intro u wx t hc hf b r;simp[aU,ai,aR,ay.is,ay.any]at r;go_simp
     first|rfl|(go_at_call 50;refine(HO.o _).mono ?_;rintro e w1 ⟨rfl,a⟩;first|exact⟨rfl,a⟩|exact⟨_,rfl,a,rfl⟩)
    iterate 2 refine bJ ?_
    apply bg
    ·intro u wx t hc hf b r;simp[aU,ai,aR,ay.is,ay.any]at r;go_simp
     first|rfl|(go_at_call 49;refine(HW.o _ (ag H7.o.1 b.o)).mono ?_;rintro e w1 ⟨rfl,a⟩;first|exact⟨rfl,a⟩|exact⟨_,rfl,a,rfl⟩)
    iterate 4 refine bJ ?_
    apply bg
    ·intro u wx t hc hf b r;simp[aU,ai,aR,ay.is,ay.any]at r;go_simp
     first|rfl|(go_at_call 51;refine(HQ.o _ _ X.o b.o).mono ?_;rintro e w1 ⟨rfl,a⟩;first|exact⟨rfl,a⟩|exact⟨_,rfl,a,rfl⟩)
    iterate 2 refine bJ ?_
    intro u z m P;simp only[cF,aR,ay.is,aE,aA,reduceIte]at P;simp only[am,ax,ac,aj,aK,aC,aa,ae,af,P];clear P;obtain⟨R,i9,G,H,d⟩:=pr m;clear m;have H8:=ar (aF.step H7.o d.o);have Y:=ar (bD X.o d.o);have C:=ar (aF.tail (aF.tail (aF.tail H8.o)));have c8:=C.o.len f.o 0 rfl;obtain⟨o0,o1,o2,o3,g3,oz⟩:=bR (H8.o.get 0 rfl);have g4:s.heap.size+1+1<z.heap.size:=H8.o.lt (bw ..);clear G H;go_wp2_with (first|(at_builtin;refine wpList_append_own _ rfl _ _ 39 rfl ((A+1)) 45 i0 (.agg #["",(),(),()]) 4 40 underlying39 hi i1 i2 i3 rfl (by decide) _ _ _ rfl (Y.o.alloc _) ⟨z.heap.size,0,none⟩ 1 1 [(.string D.id),(.int .i64 o),(.int .i64 p),(.int .i64 sz)] rfl rfl ?c1 ?c2 ?c3 ?c4 ?c5 ?_)|go_in)
    case c1=>
     intro j u Q
     match j,Q with
     |0,Q=>
      simp at Q;subst Q;simp[Addr.add]
      first|done|rfl|(simp[go_sem];done)
     |1,Q=>
      simp at Q;subst Q;simp[Addr.add]
      first|done|rfl|(simp[go_sem];done)
     |2,Q=>
      simp at Q;subst Q;simp[Addr.add]
      first|done|rfl|(simp[go_sem];done)
     |3,Q=>
      simp at Q;subst Q;simp[Addr.add]
      first|done|rfl|(simp[go_sem];done)
    case c2=>intro u hu;simp at hu;(first|(subst hu;rfl)|(rcases hu with rfl|rfl|rfl|rfl<;>rfl))
    case c3=>unfold maxLen;have:=f5.o;omega
    case c4=>have:=f5.o;omega
    case c5=>simp;omega
    intro v' w9 b0 a8 _;have H9:Hi (aF w w9 L2):=aF.row (B:=A+1) (aF.step C.o (by go_grown)) f4.o (by omega) Y.o a8;have g8:Hi (w9.ownsRow (A+1) 45 4 v' (l++ [(o,p)]).length (eo (vk D.id sz) (l++ [(o,p)]))):=by
     show w9.ownsRow _ _ _ _ _ _;rw[zZ,aZ];exact b0
    have i8:=H9.o.len f.o 0 rfl;clear b0 a8;go_wp2;go_roundw
    case rel=>exact⟨j+1,l++ [(o,p)],by omega,by omega,by go_num,by show cU D K (j+1-1)=_;rw[show j+1-1=k+1 by have:=J.o;omega];exact g.o,g8.o,H9.o,i8⟩
    case measure=>simp[intOf];omega
  ·have g1:j=n:=by omega
   have h8:Hi (dJ D n K sz=l):=by
    show _=_;rw[f8.o,←g1];exact hl.o
   clear g1;obtain⟨u0,uf,uz⟩:=dG (aF.nth H4.o f.o 1 rfl);have O:w.heap.size+1<w4.heap.size:=by omega
   go_wp2;go_returns;refine⟨_,rfl,?_,H4.o.1⟩;rw[h8.o];exact zY HR.o (by omega)
end
end Go.Proofs.YtencnijahlkbaaaGreatDoor
