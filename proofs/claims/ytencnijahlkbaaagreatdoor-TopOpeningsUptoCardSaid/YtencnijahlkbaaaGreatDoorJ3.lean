/-
  Lemmas of this claim, joined. Conditions: as stated. By an AI agent.
-/
import Derived.Test.YtencnijahlkbaaaGreatDoorJ1
import Derived.Test.YtencnijahlkbaaaGreatDoorJ2
open Go.Act renaming put → aC
open Array renaming getElem?_eq_some_iff → av
open Go.RowKit.Below renaming refl → ah
open Bool renaming false_and → aI, true_and → aN, and_false → aL, false_or → aP, true_or → aW, or_false → aQ, eq_false_iff → cG
open Classical renaming byContradiction → aG
open Int renaming mul_nonneg → bE
open List renaming take_succ_cons → ac, take_zero → aj, drop_succ_cons → am, drop_zero → ax, setIfInBounds_toArray → aa, set_cons_zero → ae, set_cons_succ → af, mem_cons_self → bw, getElem?_eq_getElem → aS, getD_eq_getElem?_getD → aO, getElem?_append_left → cV, getElem?_append_right → cD, length_append → aZ, mem_cons → bj
open Nat renaming le_refl → aB, lt_of_lt_of_le → aM, le_trans → bW, reduceAdd → aE, reduceEqDiff → aA
open Go.Region renaming binds → ai, wanted → au
open Go.World renaming size_setCell → aT, size_alloc → aw
namespace Go.Proofs.YtencnijahlkbaaaGreatDoor
set_option maxHeartbeats 8000000
set_option maxRecDepth 100000
set_option linter.unusedVariables false
set_option linter.unusedSimpArgs false
open Go.Proofs.Tryz
section
def fj:List Bool→Bool
 | []=>false
 |a::l=>a !=fj l
theorem lJ:∀l m:List Bool,fj (l++m)=(fj l !=fj m)
 | [],m=>by cases h:fj m<;>simp[fj,h]
 |a::l,m=>by
  show(a !=fj (l++m))=((a !=fj l) !=fj m);rw[lJ l m];generalize fj l=x;generalize fj m=y
  revert a x y
  decide
theorem tO {l m:List Bool} (h:l.Perm m):fj l=fj m:=by
 induction h with
 |nil=>rfl
 |cons x _ ih=>show(x !=_)=(x !=_);rw[ih]
 |swap x y l=>
  show(y !=(x !=fj l))=(x !=(y !=fj l));generalize fj l=z
  revert x y z
  decide
 |trans _ _ h1 h2=>exact h1.trans h2
theorem iD {α:Type} {f g:α→Bool}:∀{l:List α},(∀e∈l,f e=g e)→fj (l.map f)=fj (l.map g)
 | [],_=>rfl
 |a::l,h=>by
  show(f a !=_)=(g a !=_);rw[h a (by simp),iD (fun e b=>h e (by simp[b]))]
theorem vV {α:Type} (f g:α→Bool):∀l:List α,fj (l.map fun e=>f e !=g e)=(fj (l.map f) !=fj (l.map g))
 | []=>rfl
 |a::l=>by
  show((f a !=g a) !=_)=((f a !=_) !=(g a !=_));rw[vV f g l];generalize f a=x;generalize g a=y;generalize fj (l.map f)=z;generalize fj (l.map g)=t
  revert x y z t
  decide
theorem nF (f:Nat→Bool):∀n,fj ((List.range n).map f)=cf f n
 |0=>rfl
 |n+1=>by
  rw[List.range_succ,List.map_append,lJ,nF f n];show(_ !=(f n !=false))=(_ !=f n);cases f n<;>rfl
theorem jR {α:Type} (p f:α→Bool):∀l:List α,fj ((l.filter p).map f)=fj (l.map fun e=>p e&&f e)
 | []=>rfl
 |a::l=>by
  by_cases h:p a=true
  ·rw[List.filter_cons_of_pos h];show(f a !=_)=((p a&&f a) !=_);rw[h,jR p f l];rfl
  ·have b:p a=false:=by simpa using h
   rw[List.filter_cons_of_neg h];show _=((p a&&f a) !=_);rw[b,jR p f l];simp
theorem pj {α:Type}:∀l:List α,fj (l.map fun _=>false)=false
 | []=>rfl
 |a::l=>by show(false !=_)=_;rw[pj l];rfl
theorem b2:∀b x:Bool,(b==(true !=x))=((!b)==x):=by decide
theorem vW {α:Type} (p:α→Prop) [DecidablePred p] (f:α→Bool):∀{l:List α},l.Pairwise (fun e g=>¬(p e∧p g))→∀{e:α},e∈l→p e→fj (l.map fun g=>decide (p g)&&f g)=f e
 |a::l,hp,e,he,hpe=>by
  obtain⟨b,c⟩:=List.pairwise_cons.1 hp;show((decide (p a)&&f a) !=_)=_;rcases bj.1 he with rfl|he
  ·rw[iD (g:=fun _=>false) (fun g i=>by
    have:=b g i;have:¬p g:=fun h=>this ⟨hpe,h⟩;simp[this])]
   rw[pj];simp[hpe]
  ·have d:=b e he;have:¬p a:=fun h=>d ⟨h,hpe⟩;rw[vW p f c he hpe];simp[this]
def S (l:List (Bool×Int)):Int:=(l.map fun e=>if e.1 then e.2 else -e.2).sum
def GF (b:Bool) (l:List (Bool×Int)):Prop:=∀e∈l,e.1=(b==fj (l.map fun g=>decide (e.2<g.2)))
def tm (l:List (Bool×Int)):Bool:=fj (l.map fun _=>true)
theorem CW {l m:List Int} (h:l.Perm m):l.sum=m.sum:=by
 induction h with
 |nil=>rfl
 |cons x _ ih=>simp[ih]
 |swap x y l=>simp only[List.sum_cons];omega
 |trans _ _ h1 h2=>exact h1.trans h2
theorem rJ:∀{l:List (Bool×Int)},l≠ []→∃m∈l,∀e∈l,e.2≤m.2
 | [a],_=>⟨a,by simp,fun e d=>by simp at d;subst d;exact Int.le_refl _⟩
 |a::b::l,_=>by
  obtain⟨m,f,h⟩:=rJ (l:=b::l) (by simp);by_cases c:m.2≤a.2
  ·exact⟨a,by simp,fun e d=>by
    rcases bj.1 d with rfl|d
    ·exact Int.le_refl _
    ·exact Int.le_trans (h e d) c⟩
  ·exact⟨m,List.mem_cons_of_mem _ f,fun e d=>by
    rcases bj.1 d with rfl|d
    ·omega
    ·exact h e d⟩
theorem vX {α:Type} [DecidableEq α] {m:α} {l:List α} (h:m∈l):∃a,l.Perm (m::a):=⟨l.erase m,List.perm_cons_erase h⟩
theorem vZ:∀(n:Nat) (l:List (Bool×Int)),l.length=n→l.Pairwise (fun e g=>e.2≠g.2)→
 (GF false l→tm l=false→0≤S l∧(l≠ []→0<S l))∧(GF true l→tm l=true→∀T:Int,(∀e∈l,e.2<T)→0<T+S l)
 |0,l,hl,hp=>by
  obtain rfl:l= []:=List.length_eq_zero_iff.1 hl;exact⟨fun _ _=>⟨Int.le_refl _,fun h=>absurd rfl h⟩,fun _ h=>by cases h⟩
 |n+1,l,hl,hp=>by
  have u:l≠ []:=by intro h;rw[h]at hl;cases hl
  obtain⟨m,s,p⟩:=rJ u;obtain⟨f,c⟩:=vX s;have o:f.length=n:=by have:=c.length_eq;rw[hl]at this;simpa using this.symm
  have v:(m::f).Pairwise (fun e g=>e.2≠g.2):=(c.pairwise_iff (fun h=>Ne.symm h)).1 hp;obtain⟨C,D⟩:=List.pairwise_cons.1 v;have j:∀e∈f,e.2<m.2:=fun e d=>by
   have a:=p e (c.mem_iff.2 (List.mem_cons_of_mem _ d));have b:=C e d;omega
  obtain⟨w,x⟩:=vZ n f o D;have A:S l=(if m.1 then m.2 else -m.2)+S f:=by
   unfold S;rw[CW (c.map _)];rfl
  have z:tm l= !tm f:=by
   unfold tm;rw[tO (c.map _)];show(true !=_)=_;cases fj (f.map fun _=>true)<;>rfl
  have B:∀e,fj (l.map fun g=>decide (e<g.2))=(decide (e<m.2) !=fj (f.map fun g=>decide (e<g.2))):=fun e=>by
   rw[tO (c.map _)];rfl
  have t:fj (f.map fun g=>decide (m.2<g.2))=false:=by
   rw[iD (g:=fun _=>false) (fun g G=>by have:=j g G;simp;omega)];exact pj f
  have y:∀b,GF b l→GF (!b) f∧m.1= !b:=fun b h=>by
   constructor
   ·intro e d;have k:=h e (c.mem_iff.2 (List.mem_cons_of_mem _ d));rw[B]at k;have E:=j e d;rw[k,decide_eq_true E];exact b2 _ _
   ·have k:=h m s;rw[B,t]at k;rw[k];have:¬m.2<m.2:=by omega
    rw[decide_eq_false this];cases b<;>rfl
  constructor
  ·intro r d;obtain⟨q,i⟩:=y false r;rw[z]at d;have:=x q (by simpa using d) m.2 j;have i:m.1=true:=i;rw[A,i];simp only[if_true];exact⟨by omega,fun _=>this⟩
  ·intro r d T F;obtain⟨q,i⟩:=y true r;rw[z]at d;have:=(w q (by simpa using d)).1;have i:m.1=false:=i;rw[A,i];have:=F m s;simp;omega
theorem zz {l:List (Bool×Int)} (b:l.Pairwise (fun e g=>e.2≠g.2)) (h:GF false l) (a:tm l=false):0≤S l∧(l≠ []→0<S l):=(vZ _ l rfl b).1 h a
theorem Fw {l:List (Bool×Int)} (n:l.Pairwise (fun e g=>e.2≠g.2)) (h:GF true l) (c:tm l=false):S l≤0∧(l≠ []→S l<0):=by
 have i:∀m:List (Bool×Int),S (m.map fun e=>(!e.1,e.2))= -S m:=fun m=>by
  induction m with
  |nil=>rfl
  |cons a m ih=>
   unfold S at ih⊢
   simp only[List.map_cons,List.sum_cons];rw[ih];cases a.1<;>simp<;>omega
 have d:∀(f:Bool×Int→Bool),(∀b x y,f (b,x)=f (y,x))→∀m:List (Bool×Int),fj ((m.map fun e=>(!e.1,e.2)).map f)=fj (m.map f):=fun f j m=>by
  rw[List.map_map];exact iD fun e _=>j _ _ _
 have:=zz (l:=l.map fun e=>(!e.1,e.2)) (by rw[List.pairwise_map];exact n) (by
  intro e c;obtain⟨g,k,rfl⟩:=List.mem_map.1 c;rw[d _ (fun _ _ _=>rfl)];show(!g.1)=_;rw[h g k];exact(by decide:∀x:Bool,(!(true==x))=(false==x)) _) (by unfold tm;rw[d _ (fun _ _ _=>rfl)];exact c)
 rw[i]at this;exact⟨by omega,fun hn=>by have:=this.2 (by simpa using hn);omega⟩
instance (a b:Pt) (h:Int):Decidable (cQ a b h):=by unfold cQ;infer_instance
abbrev qF:=Pt×Pt×Int
def Xe (e:qF) (h:Int):Int:=(xp e.1 e.2.2 h).1
structure wd (e:qF):Prop where
 ea:e.1.2 % 2=0
 eb:e.2.1.2 % 2=0
 ne:e.1.2≠e.2.1.2
 sl:e.2.1.1-e.1.1=e.2.2*(e.2.1.2-e.1.2)
structure GW (E:List qF):Prop where
 ok:∀e∈E,wd e
 dist:E.Pairwise (fun e f=>∀h,¬((cQ e.1 e.2.1 h∧cQ f.1 f.2.1 h)∧Xe e h=Xe f h))
 evn:∀h,h % 2=1→fj (E.map fun e=>decide (cQ e.1 e.2.1 h))=false
def dn (e:qF):Bool:=decide (e.2.1.2<e.1.2)
def zC (E:List qF) (h:Int):List (Bool×Int):=(E.filter (fun e=>decide (cQ e.1 e.2.1 h))).map fun e=>(!dn e,Xe e h)
theorem b3:∀t d g:Bool,(g !=d)=t→(!d)=(t==g):=by decide
theorem GW.alt {E:List qF} (m:GW E) {h:Int} (y:h % 2=1) {t:Bool} (r:∀e∈E,cQ e.1 e.2.1 h→fj (E.map fun f=>dP f.1 f.2.1 (xp e.1 e.2.2 h))=t):GF t (zC E h):=by
 intro x s;obtain⟨e,i,rfl⟩:=List.mem_map.1 s;obtain⟨i,j⟩:=List.mem_filter.1 i;have j:=of_decide_eq_true j;have n:=r e i j;refine b3 _ _ _ (Eq.trans ?_ n);unfold zC;rw[List.map_map];show((fj ((E.filter _).map fun g=>decide (Xe e h<Xe g h))) !=_)=_;rw[jR];have o:=vW (fun g:qF=>cQ g.1 g.2.1 h∧Xe g h=Xe e h) dn (l:=E) (m.dist.imp fun{a b} hab hc=>hab h ⟨⟨hc.1.1,hc.2.1⟩,by rw[hc.1.2,hc.2.2]⟩) i ⟨j,rfl⟩;rw[←o,←vV];refine iD fun f p=> ?_;have c:=m.ok f p;by_cases c1:cQ f.1 f.2.1 h
 ·have w:(xp e.1 e.2.2 h).2=h:=rfl;rcases c1 with c2|c2
  ·rw[uD c.sl (by exact c2)];have d:dn f=false:=by unfold dn;exact df
   rw[d];have:cQ f.1 f.2.1 h:= .inl c2;simp[this];rfl
  ·rw[oB c.sl (by exact c2)];have d:dn f=true:=by unfold dn;exact dt
   rw[d];have:cQ f.1 f.2.1 h:= .inr c2;show _=decide (Xe e h≤Xe f h);by_cases c3:Xe e h<Xe f h
   ·have c4:¬Xe f h=Xe e h:=by omega
    have k:Xe e h≤Xe f h:=by omega
    simp[this,c3,c4,k]
   ·by_cases c4:Xe f h=Xe e h
    ·simp[this,c4]
    ·have k:¬Xe e h≤Xe f h:=by omega
     simp[this,c3,c4,k]
 ·have q:dP f.1 f.2.1 (xp e.1 e.2.2 h)=false:=by
   have u:=c.ea;have v:=c.eb;refine uE c1 ?_ ?_
   ·show h≠f.1.2;omega
   ·show h≠f.2.1.2;omega
  rw[q];simp[c1]
theorem CX {E:List qF} (c:GW E) (h:Int):(zC E h).Pairwise (fun e g=>e.2≠g.2):=by
 unfold zC;rw[List.pairwise_map,List.pairwise_filter];refine c.dist.imp fun{a b} hab ha hb hc=>hab h ⟨⟨of_decide_eq_true ha,of_decide_eq_true hb⟩,hc⟩
theorem we {E:List qF} (a:GW E) {h:Int} (b:h % 2=1):tm (zC E h)=false:=by
 unfold tm zC;rw[List.map_map];show fj ((E.filter _).map fun _=>true)=false;rw[jR,←a.evn h b];exact iD fun e _=>by simp
def cB (f:Nat→Int):Nat→Int
 |0=>0
 |n+1=>cB f n+f n
theorem eJ {f g:Nat→Int}:∀{n:Nat},(∀i,i<n→f i=g i)→cB f n=cB g n
 |0,_=>rfl
 |n+1,h=>by rw[cB,cB,eJ (fun i a=>h i (by omega)),h n (by omega)]
theorem rK (f g:Nat→Int):∀n,cB (fun i=>f i+g i) n=cB f n+cB g n
 |0=>rfl
 |n+1=>by rw[cB,cB,cB,rK f g n];omega
theorem tP:∀n,cB (fun _=>0) n=0
 |0=>rfl
 |n+1=>by rw[cB,tP n];rfl
theorem pZ {f:Nat→Int}:∀{n:Nat},(∀i,i<n→0≤f i)→0≤cB f n
 |0,_=>Int.le_refl _
 |n+1,h=>by
  have:=pZ (f:=f) (n:=n) (fun i a=>h i (by omega));have:=h n (by omega);rw[cB];omega
theorem rL {f:Nat→Int}:∀{n:Nat},(∀i,i<n→0≤f i)→∀k,k<n→0<f k→0<cB f n
 |n+1,h,k,hk,hp=>by
  rw[cB];by_cases e:k=n
  ·subst e;have:=pZ (f:=f) (n:=k) (fun i a=>h i (by omega));omega
  ·have:=rL (f:=f) (n:=n) (fun i a=>h i (by omega)) k (by omega) hp;have:=h n (by omega);omega
theorem ku (c:Int) (f:Nat→Int):∀n,cB (fun i=>c*f i) n=c*cB f n
 |0=>by simp[cB]
 |n+1=>by rw[cB,cB,ku c f n,Int.mul_add]
theorem tQ (f:Nat→Int):∀n,((List.range n).map f).sum=cB f n
 |0=>rfl
 |n+1=>by rw[List.range_succ,List.map_append,List.sum_append,tQ f n];simp[cB]
theorem wg {α:Type} (f:α→Nat→Int) (J:Nat):∀l:List α,(l.map fun e=>cB (f e) J).sum=cB (fun j=>(l.map fun e=>f e j).sum) J
 | []=>by simp[tP]
 |a::l=>by
  rw[List.map_cons,List.sum_cons,wg f J l,←rK];rfl
def AL (e:qF) (h:Int):Int:=if cQ e.1 e.2.1 h then(if dn e then -Xe e h else Xe e h)else 0
theorem GG (h:Int):∀E:List qF,S (zC E h)=(E.map fun e=>AL e h).sum
 | []=>rfl
 |e::E=>by
  have a:=GG h E;unfold S zC at a⊢
  rw[List.map_cons,List.sum_cons];by_cases c:cQ e.1 e.2.1 h
  ·rw[List.filter_cons_of_pos (by simpa using c),List.map_cons,List.map_cons,List.sum_cons,a];congr 1;unfold AL;rw[if_pos c];cases dn e<;>simp
  ·rw[List.filter_cons_of_neg (by simpa using c),a];unfold AL;rw[if_neg c];simp
def AM (e:qF):Int:=(e.1.1+e.2.1.1)*(e.2.1.2-e.1.2)
theorem CY {e:qF} (c:wd e) (m:e.1.2<e.2.1.2) {lo:Int} (l:lo % 2=0) (g:lo≤e.1.2):∀j:Nat,
 4*cB (fun k=>AL e (lo+2*k+1)) j=(2*e.1.1+e.2.2*((if lo+2*j≤e.1.2 then e.1.2 else if lo+2*j≤e.2.1.2 then lo+2*j else e.2.1.2)-e.1.2))*((if lo+2*j≤e.1.2 then e.1.2 else if lo+2*j≤e.2.1.2 then lo+2*j else e.2.1.2)-e.1.2)
 |0=>by
  have:lo+2*((0:Nat):Int)≤e.1.2:=by omega
  rw[if_pos this,Int.sub_self,Int.mul_zero];rfl
 |j+1=>by
  have n:=CY c m l g j;have o:=c.ea;have p:=c.eb;have i:dn e=false:=df;rw[cB,Int.mul_add,n];unfold AL;rw[i];have b:((j+1:Nat):Int)=(j:Int)+1:=by omega
  rw[b];by_cases c1:lo+2*((j:Int)+1)≤e.1.2
  ·have a:¬cQ e.1 e.2.1 (lo+2*j+1):=by unfold cQ;omega
   rw[if_pos c1,if_pos (show lo+2*(j:Int)≤e.1.2 by omega),if_neg a];omega
  ·by_cases c2:lo+2*(j:Int)+1<e.2.1.2
   ·have a:cQ e.1 e.2.1 (lo+2*j+1):=by unfold cQ;omega
    have d:lo+2*((j:Int)+1)≤e.2.1.2:=by omega
    have h:Xe e (lo+2*j+1)=e.1.1+e.2.2*(lo+2*j+1-e.1.2):=rfl;rw[if_neg c1,if_pos d,if_pos a,if_neg (show ¬(false=true)by decide),h];by_cases c4:lo+2*(j:Int)≤e.1.2
    ·have f:lo+2*(j:Int)=e.1.2:=by omega
     rw[if_pos c4];rw[show lo+2*((j:Int)+1)=e.1.2+2 by omega,f]
     grind
    ·rw[if_neg c4,if_pos (show lo+2*(j:Int)≤e.2.1.2 by omega)]
     grind
   ·have a:¬cQ e.1 e.2.1 (lo+2*j+1):=by unfold cQ;omega
    rw[if_neg a,if_neg c1,if_neg (show ¬lo+2*((j:Int)+1)≤e.2.1.2 by omega),if_neg (show ¬lo+2*(j:Int)≤e.1.2 by omega)];by_cases c4:lo+2*(j:Int)≤e.2.1.2
    ·rw[if_pos c4,show lo+2*(j:Int)=e.2.1.2 by omega];omega
    ·rw[if_neg c4];omega
theorem CZ {e:qF} (a:wd e) (h:Int):AL (e.2.1,e.1,e.2.2) h= -AL e h:=by
 have f:Xe (e.2.1,e.1,e.2.2) h=Xe e h:=by
  have:=a.sl;simp only[Xe,xp]
  grind
 unfold AL;rw[f];show(if cQ e.2.1 e.1 h then(if dn _ then _ else _)else 0)=_;by_cases c:cQ e.1 e.2.1 h
 ·rw[if_pos (iC.2 c),if_pos c];have g:=a.ne;by_cases d:e.2.1.2<e.1.2
  ·rw[show dn e=true from decide_eq_true d,show dn (e.2.1,e.1,e.2.2)=false from decide_eq_false (by dsimp only;omega)];simp
  ·rw[show dn e=false from decide_eq_false d,show dn (e.2.1,e.1,e.2.2)=true from decide_eq_true (by dsimp only;omega)];simp
 ·rw[if_neg (fun b=>c (iC.1 b)),if_neg c];rfl
theorem Fx {e:qF} (a:wd e) {lo:Int} (m:lo % 2=0) (d:lo≤e.1.2∧lo≤e.2.1.2) {J:Nat} (f:e.1.2≤lo+2*J∧e.2.1.2≤lo+2*J):4*cB (fun k=>AL e (lo+2*k+1)) J=AM e:=by
 have n:=a.ne;have b:∀{e:qF},wd e→lo≤e.1.2→e.2.1.2≤lo+2*J→e.1.2<e.2.1.2→4*cB (fun k=>AL e (lo+2*k+1)) J=AM e:=by
  intro e a d f i;rw[CY a i m d J,if_neg (by omega)];have o:=a.sl;unfold AM;by_cases c:lo+2*(J:Int)≤e.2.1.2
  ·rw[if_pos c,show lo+2*(J:Int)=e.2.1.2 by omega]
   grind
  ·rw[if_neg c]
   grind
 by_cases i:e.1.2<e.2.1.2
 ·exact b a d.1 f.2 i
 ·have h:wd (e.2.1,e.1,e.2.2):=⟨a.eb,a.ea,a.ne.symm,by have:=a.sl;dsimp only;grind⟩;have j:=b h d.2 f.1 (by dsimp only;omega);rw[eJ (g:=fun k=> -1*AL e (lo+2*k+1)) (fun k _=>by rw[CZ a];omega),ku]at j;have l:AM (e.2.1,e.1,e.2.2)= -AM e:=by unfold AM;dsimp only;grind
  rw[l]at j;omega
theorem Da:∀E:List qF,∃M:Nat,∀e∈E,(-(2*(M:Int))≤e.1.2∧e.1.2≤2*M)∧ -(2*(M:Int))≤e.2.1.2∧e.2.1.2≤2*M
 | []=>⟨0,fun e h=>by cases h⟩
 |e::E=>by
  obtain⟨M,b⟩:=Da E;refine⟨M+e.1.2.natAbs+e.2.1.2.natAbs,fun f a=> ?_⟩;rcases bj.1 a with rfl|a
  ·omega
  ·have:=b f a;omega
theorem AN {a b:Pt} (h:a.2 % 2=0):fL a b % 2=1:=by unfold fL;split<;>omega
theorem GW.area {E:List qF} (m:GW E) (w:E≠ []) {t:Bool} (G:∀e∈E,∀h,h % 2=1→cQ e.1 e.2.1 h→fj (E.map fun f=>dP f.1 f.2.1 (xp e.1 e.2.2 h))=t):
 (t=false→0<(E.map AM).sum)∧(t=true→(E.map AM).sum<0):=by
 obtain⟨M,y⟩:=Da E;have A:(E.map AM).sum=4*cB (fun j=>S (zC E (-(2*(M:Int))+2*j+1))) (2*M):=by
  rw[eJ (fun j _=>GG _ E),←wg (fun e j=>AL e (-(2*(M:Int))+2*j+1))];have:∀l:List qF,(∀e∈l,e∈E)→(l.map AM).sum=4*(l.map fun e=>cB (fun j=>AL e (-(2*(M:Int))+2*j+1)) (2*M)).sum:=by
   intro l
   induction l with
   |nil=>intro _;rfl
   |cons e l ih=>
    intro z;have v:=z e (by simp);have H:=y e v;have x:=Fx (m.ok e v) (lo:= -(2*(M:Int))) (by omega) ⟨by omega,by omega⟩ (J:=2*M) ⟨by omega,by omega⟩;rw[List.map_cons,List.map_cons,List.sum_cons,List.sum_cons,ih (fun f F=>z f (by simp[F])),Int.mul_add,x]
  exact this E (fun _ h=>h)
 obtain⟨a,o⟩:∃e,e∈E:=List.exists_mem_of_ne_nil _ w;have c:=m.ok a o;have C:=y a o;have u:=hY c.ne c.ea c.eb;have s:=AN (b:=a.2.1) c.ea;obtain⟨B,q,r⟩:∃j:Nat,j<2*M∧ -(2*(M:Int))+2*j+1=fL a.1 a.2.1:=by
  generalize fL a.1 a.2.1=h at*
  unfold cQ at u;exact⟨((h+2*M-1)/2).toNat,by omega,by omega⟩
 have g:zC E (fL a.1 a.2.1)≠ []:=by
  intro D;have:(!dn a,Xe a (fL a.1 a.2.1))∈zC E (fL a.1 a.2.1):=List.mem_map.2 ⟨a,List.mem_filter.2 ⟨o,decide_eq_true u⟩,rfl⟩;rw[D]at this;cases this
 have k:∀j:Nat,(-(2*(M:Int))+2*j+1) % 2=1:=fun j=>by omega
 have d:∀h,h % 2=1→GF t (zC E h):=fun h i=>m.alt i (fun e v x=>G e v h i x);constructor
 ·rintro rfl;have p:=fun h i=>zz (CX m h) (d h i) (we m i);have:=rL (f:=fun j=>S (zC E (-(2*(M:Int))+2*j+1))) (n:=2*M) (fun j _=>(p _ (k j)).1) B q (by
   rw[r];exact(p _ s).2 g)
  omega
 ·rintro rfl;have p:=fun h i=>Fw (CX m h) (d h i) (we m i);have:=rL (f:=fun j=> -1*S (zC E (-(2*(M:Int))+2*j+1))) (n:=2*M) (fun j _=>by
   have:=(p _ (k j)).1;omega) B q (by
   rw[r];have:=(p _ s).2 g;omega)
  rw[ku]at this;omega
def Ci (n:Nat) (Q:Nat→Pt) (s:Nat→Int):List qF:=(List.range n).map fun i=>(Q i,Q (nx n i),s i)
def bP (n:Nat) (Q:Nat→Pt):Int:=cB (fun i=>(Q i).1*(Q (nx n i)).2-(Q (nx n i)).1*(Q i).2) n
def tn (k:Nat) (cn:Nat→Nat) (CQ:Nat→Nat→Pt) (Cs:Nat→Nat→Int):List qF:=(List.range k).flatMap fun c=>Ci (cn c) (CQ c) (Cs c)
theorem tR (g:Nat→Int):∀k,cB (fun i=>g (i+1)-g i) k=g k-g 0
 |0=>by simp[cB]
 |k+1=>by rw[cB,tR g k];omega
theorem Fy (g:Nat→Int):∀n,cB (fun i=>g (nx n i)-g i) n=0
 |0=>rfl
 |n+1=>by
  rw[cB,eJ (g:=fun i=>g (i+1)-g i) (fun i a=>by rw[fO (by omega),if_pos (by omega)]),tR,fO (by omega),if_neg (by omega)];omega
theorem wh (n:Nat) (Q:Nat→Pt) (s:Nat→Int):((Ci n Q s).map AM).sum=bP n Q:=by
 unfold Ci bP;rw[List.map_map];show((List.range n).map (fun i=>AM (Q i,Q (nx n i),s i))).sum=_;rw[tQ];have h:=Fy (fun i=>(Q i).1*(Q i).2) n;have e:cB (fun i=>AM (Q i,Q (nx n i),s i)) n=cB (fun i=>((Q i).1*(Q (nx n i)).2-(Q (nx n i)).1*(Q i).2)+((Q (nx n i)).1*(Q (nx n i)).2-(Q i).1*(Q i).2)) n:=eJ fun i _=>by
  show((Q i).1+(Q (nx n i)).1)*((Q (nx n i)).2-(Q i).2)=_
  grind
 rw[e,rK,h];omega
theorem pl {α β:Type} (g:Nat→List α) (f:α→Bool):∀k,fj (((List.range k).flatMap g).map f)=cf (fun c=>fj ((g c).map f)) k
 |0=>rfl
 |k+1=>by
  rw[List.range_succ,List.flatMap_append,List.map_append,lJ,pl (β:=β) g f k];simp[cf]
theorem wi (g:Nat→List qF) (f:qF→Int):∀k,(((List.range k).flatMap g).map f).sum=cB (fun c=>((g c).map f).sum) k
 |0=>rfl
 |k+1=>by
  rw[List.range_succ,List.flatMap_append,List.map_append,List.sum_append,wi g f k];simp[cB]
theorem zD (n:Nat) (Q:Nat→Pt) (s:Nat→Int) (q:Pt):fj ((Ci n Q s).map fun f=>dP f.1 f.2.1 q)=gh n Q q:=by
 unfold Ci gh;rw[List.map_map,←nF];rfl
theorem xN {a b:Pt} {h:Int} (c:a.2 % 2=0) (d:b.2 % 2=0) (e:h % 2=1):decide (cQ a b h)=(decide (h<a.2) !=decide (h<b.2)):=by
 unfold cQ;by_cases c1:h<a.2<;>by_cases c2:h<b.2
 ·have:¬(a.2<h∧h<b.2∨b.2<h∧h<a.2):=by omega
  simp[c1,c2,this];omega
 ·have:(a.2<h∧h<b.2∨b.2<h∧h<a.2):=by omega
  simp[c1,c2];omega
 ·have:(a.2<h∧h<b.2∨b.2<h∧h<a.2):=by omega
  simp[c1,c2];omega
 ·simp[c1,c2]
section
variable {k:Nat} {cn:Nat→Nat} {CQ:Nat→Nat→Pt} {Cs:Nat→Nat→Int}
structure qa (k:Nat) (cn:Nat→Nat) (CQ:Nat→Nat→Pt) (Cs:Nat→Nat→Int):Prop where
 gen:∀c,c<k→uC (cn c) (CQ c) (Cs c)
 nm:∀c d,c<k→d<k→c≠d→∀i j,i<cn c→j<cn d→¬ct (CQ c i) (CQ c (nx (cn c) i)) (CQ d j) (CQ d (nx (cn d) j))
theorem rM {e:qF}:e∈tn k cn CQ Cs↔∃c,c<k∧∃i,i<cn c∧(CQ c i,CQ c (nx (cn c) i),Cs c i)=e:=by
 unfold tn Ci;simp only[List.mem_flatMap,List.mem_range,List.mem_map]
theorem uC.pos {n:Nat} {Q:Nat→Pt} {s:Nat→Int} (g:uC n Q s):0<n:=by have:=g.n3;omega
theorem uC.edok {n:Nat} {Q:Nat→Pt} {s:Nat→Int} (g:uC n Q s) {i:Nat} (a:i<n):wd (Q i,Q (nx n i),s i):=⟨g.ev i a,g.ev _ (dW g.pos),g.lv i a,g.sl i a⟩
theorem kS {e:qF} (a:wd e) {h:Int} (b:cQ e.1 e.2.1 h):dO e.1 e.2.1 (Xe e h,h):=tM a.ne a.sl b
theorem uC.dist {n:Nat} {Q:Nat→Pt} {s:Nat→Int} (g:uC n Q s) {i j:Nat} (a:i<n) (b:j<n) (o:i≠j) {h:Int} (k:cQ (Q i) (Q (nx n i)) h) (m:cQ (Q j) (Q (nx n j)) h):Xe (Q i,Q (nx n i),s i) h≠Xe (Q j,Q (nx n j),s j) h:=by
 intro p;have c:=kS (g.edok a) k;have f:=kS (g.edok b) m;rw[p]at c;dsimp only at c f;by_cases c1:nx n i=j
 ·obtain⟨d,e⟩:=g.nf i a;have l:=g.lv i a;rw[c1]at d e c l k;exact Ie l (g.lv j b) d e c (by unfold cQ at k;dsimp only;omega) f
 by_cases c2:nx n j=i
 ·obtain⟨d,e⟩:=g.nf j b;have l:=g.lv j b;rw[c2]at d e f l m;exact Ie l (g.lv i a) d e f (by unfold cQ at m;dsimp only;omega) c
 exact g.nm i j a b o c1 c2 (uB (g.lv i a) (g.lv j b) c f)
theorem qa.fam (g:qa k cn CQ Cs):GW (tn k cn CQ Cs)where
 ok:=fun e p=>by
  obtain⟨c,a,i,b,rfl⟩:=rM.1 p;exact(g.gen c a).edok b
 dist:=by
  unfold tn;rw[List.pairwise_flatMap];constructor
  ·intro c a;have a:c<k:=by simpa using a
   unfold Ci;rw[List.pairwise_map];refine List.Pairwise.imp_of_mem ?_ (List.pairwise_lt_range (n:=cn c));intro i j b m v h l;have b:i<cn c:=by simpa using b
   have m:j<cn c:=by simpa using m
   exact(g.gen c a).dist b m (by omega) l.1.1 l.1.2 l.2
  ·refine List.Pairwise.imp_of_mem ?_ (List.pairwise_lt_range (n:=k));intro c d a q u e p f r h l;have a:c<k:=by simpa using a
   have q:d<k:=by simpa using q
   unfold Ci at p r;simp only[List.mem_map,List.mem_range]at p r;obtain⟨i,b,rfl⟩:=p;obtain⟨j,m,rfl⟩:=r;have o:=g.gen c a;have s:=g.gen d q;have t:=kS (o.edok b) l.1.1;have x:=kS (s.edok m) l.1.2;rw[l.2]at t;exact g.nm c d a q (by omega) i j b m (uB (o.lv i b) (s.lv j m) t x)
 evn:=fun h w=>by
  unfold tn;rw[pl (β:=Nat)];refine jQ fun c a=> ?_;have o:=g.gen c a;unfold Ci;rw[List.map_map,nF];show cf (fun i=>decide (cQ (CQ c i) (CQ c (nx (cn c) i)) h)) (cn c)=false;rw[fK (g:=fun i=>decide (h<(CQ c i).2) !=decide (h<(CQ c (nx (cn c) i)).2)) (fun i b=>xN (o.ev i b) (o.ev _ (dW o.pos)) w)];exact mo (fun i=>decide (h<(CQ c i).2)) (cn c)
theorem qa.other (g:qa k cn CQ Cs) {c d i:Nat} (f:c<k) (l:d<k) (e:c≠d) (a:i<cn c) {h:Int} (n:cQ (CQ c i) (CQ c (nx (cn c) i)) h):gh (cn d) (CQ d) (xp (CQ c i) (Cs c i) h)=gh (cn d) (CQ d) (CQ c i):=by
 have b:=g.gen c f;have o:=g.gen d l;refine zv fun j m p=>g.nm c d f l e i j a m (tK (b.lv i a) (o.lv j m) ?_ (tM (b.lv i a) (b.sl i a) n) ?_ p)
 ·unfold cQ at n;simp only[xp];omega
 ·exact ei (b.lv i a) (by simp only[bQ];grind) (by unfold bt;omega)
theorem uC.sign {n:Nat} {Q:Nat→Pt} {s:Nat→Int} (g:uC n Q s) {t:Bool} (o:∀i h,i<n→cQ (Q i) (Q (nx n i)) h→gh n Q (xp (Q i) (s i) h)=t):(t=false→0<bP n Q)∧(t=true→bP n Q<0):=by
 have j:qa 1 (fun _=>n) (fun _=>Q) (fun _=>s):=⟨fun _ _=>g,fun c d f p k=>by omega⟩;have e:tn 1 (fun _=>n) (fun _=>Q) (fun _=>s)=Ci n Q s:=by simp[tn,List.range_succ]
 have b:=j.fam;rw[e]at b;have h:=b.area (t:=t) (by
  intro f;have:=congrArg List.length f;have:=g.pos;simp[Ci]at*
  omega) (fun e a h q m=>by
  unfold Ci at a;simp only[List.mem_map,List.mem_range]at a;obtain⟨i,l,rfl⟩:=a;rw[zD];exact o i h l m)
 rw[wh]at h;exact h
theorem qa.total (g:qa k cn CQ Cs) (j:0<k) (x:0<bP (cn 0) (CQ 0)) (r:∀c,0<c→c<k→bP (cn c) (CQ c)<0)
 (w:∀c,0<c→c<k→∀i,i<cn c→gh (cn 0) (CQ 0) (CQ c i)=true) (q:∀c d,c<k→0<d→d<k→c≠d→∀i,i<cn c→gh (cn d) (CQ d) (CQ c i)=false):
 0<cB (fun c=>bP (cn c) (CQ c)) k:=by
 have s:=g.fam;have In:∀c,c<k→∀i h,i<cn c→cQ (CQ c i) (CQ c (nx (cn c) i)) h→gh (cn c) (CQ c) (xp (CQ c i) (Cs c i) h)=decide (0<c):=by
  intro c a i h b f;obtain⟨t,p⟩:=(g.gen c a).all;have m:=(g.gen c a).sign p;rw[p i h b f];cases t with
  |false=>
   have:=m.1 rfl;by_cases e:0<c
   ·have:=r c e a;omega
   ·simp[e]
  |true=>
   have:=m.2 rfl;by_cases e:0<c
   ·simp[e]
   ·obtain rfl:c=0:=by omega
    omega
 have h:=s.area (t:=false) (by
  intro a;have v:=(g.gen 0 j).pos;have:(CQ 0 0,CQ 0 (nx (cn 0) 0),Cs 0 0)∈tn k cn CQ Cs:=rM.2 ⟨0,j,0,v,rfl⟩;rw[a]at this;cases this) (fun e u h A f=>by
  obtain⟨c,a,i,b,rfl⟩:=rM.1 u;unfold tn;rw[pl (β:=Nat)];rw[fK (g:=fun d=>gh (cn d) (CQ d) (xp (CQ c i) (Cs c i) h)) (fun d l=>zD _ _ _ _)];have z:cf (fun _=>false) k=false:=jQ fun _ _=>rfl;by_cases e:c=0
  ·subst e;refine jQ fun d l=> ?_;by_cases e2:d=0
   ·subst e2;exact(In 0 j i h b f).trans (by decide)
   ·rw[g.other a l (Ne.symm e2) b f];exact q 0 d j (by omega) l (Ne.symm e2) i b
  ·rw[←z];refine tN (i:=0) (k:=c) (Ne.symm e) j a (fun d l y n=> ?_) ?_
   ·rw[g.other a l (Ne.symm n) b f];exact q c d a (by omega) l (Ne.symm n) i b
   ·have o:=In c a i h b f;rw[decide_eq_true (show 0<c by omega)]at o;show(gh (cn 0) (CQ 0) (xp (CQ c i) (Cs c i) h) !=gh (cn c) (CQ c) (xp (CQ c i) (Cs c i) h))=_;rw[o,g.other a j e b f,w c (by omega) a i b];rfl)
 have:=h.1 rfl;unfold tn at this;rw[wi]at this;rw[eJ (fun c _=>wh _ _ _)]at this;exact this
end
structure lK (M:Int) (n:Nat) (P:Nat→Pt):Prop where
 n3:3≤n
 nr:∀i,i<n→(-M≤(P i).1∧(P i).1≤M)∧ -M≤(P i).2∧(P i).2≤M
 ne:∀i,i<n→P i≠P (nx n i)
 nm:∀i k,i<n→k<n→i≠k→nx n i≠k→nx n k≠i→¬ct (P i) (P (nx n i)) (P k) (P (nx n k))
 nf:∀i,i<n→¬dO (P i) (P (nx n i)) (P (nx n (nx n i)))∧¬dO (P (nx n i)) (P (nx n (nx n i))) (P i)
def sc (K L:Int) (p:Pt):Pt:=(2*L*p.1,2*(K*p.2+p.1))
section
variable {K L:Int}
theorem Db (a b c:Pt):bQ (sc K L a) (sc K L b) (sc K L c)=(4*L*K)*bQ a b c:=by simp only[bQ,sc];grind
theorem rN {c x:Int} (a:0<c) (h:0<c*x):0<x:=by
 apply aG;intro hn;have:=bE (Int.le_of_lt a) (show 0≤ -x by omega);rw[Int.mul_neg]at this;omega
theorem uF (a:0<K) (b:0<L):0<4*L*K:=Int.mul_pos (by omega) a
theorem Fz (d:0<K) (e:0<L) {a b c:Pt} (h:bQ (sc K L a) (sc K L b) (sc K L c)=0):bQ a b c=0:=by
 rw[Db]at h;have:=uF d e;rcases Int.mul_eq_zero.1 h with h|h<;>omega
theorem gT (e:0<K) (f:0<L) {a b c:Pt}:0<bQ (sc K L a) (sc K L b) (sc K L c)↔0<bQ a b c:=by
 rw[Db];have d:=uF e f;constructor
 ·intro h;exact rN d h
 ·intro h;exact Int.mul_pos d h
theorem kT (e:0<K) (f:0<L) {a b c:Pt}:bQ (sc K L a) (sc K L b) (sc K L c)<0↔bQ a b c<0:=by
 have d:=gT e f (a:=b) (b:=a) (c:=c);rw[fV,fV a b c]at d;constructor
 ·intro h;have:=d.1 (by omega);omega
 ·intro h;have:=d.2 (by omega);omega
theorem xO {c a b q:Int} (d:0<c) (h:bt (c*a) (c*b) (c*q)):bt a b q:=by
 unfold bt at h⊢
 rcases h with⟨e,f⟩|⟨e,f⟩
 ·exact .inl ⟨Int.le_of_mul_le_mul_left e d,Int.le_of_mul_le_mul_left f d⟩
 ·exact .inr ⟨Int.le_of_mul_le_mul_left e d,Int.le_of_mul_le_mul_left f d⟩
theorem nG (d:0<K) (j:0<L) {a b q:Pt} (h:dO (sc K L a) (sc K L b) (sc K L q)):dO a b q:=by
 obtain⟨f,g,i⟩:=h;have e:=Fz d j f;have x:bt a.1 b.1 q.1:=xO (c:=2*L) (by omega) g;have y:=xO (c:=2) (by omega) i;refine⟨e,x,?_⟩;by_cases c:a.1=b.1
 ·have k:q.1=a.1:=by unfold bt at x;omega
  refine xO d ?_;rw[←c,k]at y;unfold bt at y⊢
  omega
 ·unfold bt at x;refine xJ (A:=a.1-q.1) (B:=b.1-q.1) (by omega) (by omega) ?_;simp only[bQ]at e
  grind
theorem wj (e:0<K) (f:0<L) {a b c d:Pt} (h:ct (sc K L a) (sc K L b) (sc K L c) (sc K L d)):ct a b c d:=by
 rcases h with h|h|h|h|⟨h1,h2⟩
 ·exact .inl (nG e f h)
 ·exact .inr (.inl (nG e f h))
 ·exact .inr (.inr (.inl (nG e f h)))
 ·exact .inr (.inr (.inr (.inl (nG e f h))))
 ·refine .inr (.inr (.inr (.inr ⟨?_,?_⟩)))
  ·unfold tk at h1⊢
   rw[gT e f,gT e f,kT e f,kT e f]at h1;exact h1
  ·unfold tk at h2⊢
   rw[gT e f,gT e f,kT e f,kT e f]at h2;exact h2
theorem kb {p q:Pt} (h:p.1-q.1<K∧q.1-p.1<K):(sc K L q).2<(sc K L p).2↔(q.2<p.2∨(p.2=q.2∧q.1<p.1)):=by
 show 2*(K*q.2+q.1)<2*(K*p.2+p.1)↔_;have b:K*p.2-K*q.2=K*(p.2-q.2):=by grind
 rcases Int.lt_trichotomy q.2 p.2 with c|c|c
 ·have:=Int.mul_le_mul_of_nonneg_left (show 1≤p.2-q.2 by omega) (show 0≤K by omega);omega
 ·rw[c];omega
 ·have a:K*q.2-K*p.2=K*(q.2-p.2):=by grind
  have:=Int.mul_le_mul_of_nonneg_left (show 1≤q.2-p.2 by omega) (show 0≤K by omega);omega
def rO (q p:Pt):Bool:=decide (p.2=q.2∧q.1<p.1)
theorem GX (o:0<K) (p:0<L) {a b q:Pt} (k:a.1-q.1<K∧q.1-a.1<K) (j:b.1-q.1<K∧q.1-b.1<K) (d:b.1-a.1<K∧a.1-b.1<K) (h:¬dO a b q):(dP a b q !=dP (sc K L a) (sc K L b) (sc K L q))=(rO q a !=rO q b):=by
 have l:∀{a b:Pt},a.1-q.1<K∧q.1-a.1<K→b.1-q.1<K∧q.1-b.1<K→b.1-a.1<K∧a.1-b.1<K→¬dO a b q→(a.2=q.2∧q.1<a.1)→¬(b.2=q.2∧q.1<b.1)→(dP a b q !=dP (sc K L a) (sc K L b) (sc K L q))=true:=by
  intro a b k j d h g i;unfold dP;rw[show decide ((sc K L q).2<(sc K L a).2)=true from decide_eq_true ((kb k).2 (.inr g)),show decide (q.2<a.2)=false from df,show decide (0<bQ (sc K L a) (sc K L b) (sc K L q))=decide (0<bQ a b q)from decide_eq_decide.2 (gT o p)];have e:bQ a b q=(b.2-a.2)*(a.1-q.1):=by simp only[bQ];rw[g.1];grind
  by_cases c:q.2<b.2
  ·rw[show decide ((sc K L q).2<(sc K L b).2)=true from decide_eq_true ((kb j).2 (.inl c)),decide_eq_true c,show decide (a.2<b.2)=true from dt,show decide (0<bQ a b q)=true from decide_eq_true (by rw[e];exact Int.mul_pos (by omega) (by omega))];simp
  ·rw[show decide ((sc K L q).2<(sc K L b).2)=false from decide_eq_false (fun f=>by rcases(kb j).1 f with f|f;exact c f;exact i f),decide_eq_false c,show decide (0<bQ a b q)=false from decide_eq_false (by
    rw[e];have:=bE (show 0≤a.2-b.2 by omega) (show 0≤a.1-q.1 by omega);have w:(b.2-a.2)*(a.1-q.1)= -((a.2-b.2)*(a.1-q.1)):=by grind
    omega),show decide ((sc K L a).2<(sc K L b).2)=false from decide_eq_false (fun f=>by
    rcases(kb d).1 f with f|f
    ·omega
    ·exact i (by omega))]
   simp
 by_cases g:a.2=q.2∧q.1<a.1<;>by_cases i:b.2=q.2∧q.1<b.1
 ·unfold dP rO;rw[decide_eq_true ((kb (L:=L) k).2 (.inr g)),decide_eq_true ((kb (L:=L) j).2 (.inr i)),decide_eq_false (show ¬q.2<a.2 by omega),decide_eq_false (show ¬q.2<b.2 by omega)];simp[g,i]
 ·rw[l k j d h g i];unfold rO;rw[decide_eq_true g,decide_eq_false i];rfl
 ·have s:¬dO b a q:=fun x=>h (fW.1 x);have r:¬dO (sc K L a) (sc K L b) (sc K L q):=fun x=>h (nG o p x);have:=l j k ⟨d.2,d.1⟩ s i g;rw[ks h,ks r]at this;rw[this];unfold rO;rw[decide_eq_false g,decide_eq_true i];rfl
 ·have t:decide ((sc K L q).2<(sc K L a).2)=decide (q.2<a.2):=by
   rw[decide_eq_decide,kb k];exact⟨fun h=>by rcases h with h|h;exact h;exact absurd h g,.inl⟩
  have u:decide ((sc K L q).2<(sc K L b).2)=decide (q.2<b.2):=by
   rw[decide_eq_decide,kb j];exact⟨fun h=>by rcases h with h|h;exact h;exact absurd h i,.inl⟩
  have v:decide (0<bQ (sc K L a) (sc K L b) (sc K L q))=decide (0<bQ a b q):=decide_eq_decide.2 (gT o p);unfold dP rO;rw[t,u,v,decide_eq_false g,decide_eq_false i];by_cases c1:q.2<a.2<;>by_cases c2:q.2<b.2
  ·simp[c1,c2]
  ·have m:¬a.2<b.2:=by omega
   have n:¬(sc K L a).2<(sc K L b).2:=fun f=>by rcases(kb d).1 f with f|f<;>omega
   simp[c1,c2,m,n]
  ·have m:a.2<b.2:=by omega
   have n:(sc K L a).2<(sc K L b).2:=(kb d).2 (.inl m);simp[c1,c2,m,n]
  ·simp[c1,c2]
theorem wk:∀N:Nat,∃L:Int,0<L∧∀d:Int,d≠0→d.natAbs≤N→d∣L
 |0=>⟨1,by decide,fun d a h=>by omega⟩
 |N+1=>by
  obtain⟨L,b,f⟩:=wk N;refine⟨L*((N:Int)+1),Int.mul_pos b (by omega),fun d a h=> ?_⟩;by_cases c:d.natAbs≤N
  ·exact Int.dvd_trans (f d a c) (Int.dvd_mul_right _ _)
  ·refine Int.dvd_trans ?_ (Int.dvd_mul_left _ _);rcases Int.natAbs_eq d with e|e
   ·rw[e,show d.natAbs=N+1 by omega];exact Int.dvd_refl _
   ·rw[e,show d.natAbs=N+1 by omega];exact Int.neg_dvd.2 (Int.dvd_refl _)
def If (K L:Int) (a b:Pt):Int:=(b.1-a.1)*(L/(K*(b.2-a.2)+(b.1-a.1)))
theorem Dc {a b:Pt} (g:0<K) (h:b.1-a.1<K∧a.1-b.1<K) (d:a≠b):K*(b.2-a.2)+(b.1-a.1)≠0:=by
 intro e;rcases Int.lt_trichotomy a.2 b.2 with c|c|c
 ·have:=Int.mul_le_mul_of_nonneg_left (show 1≤b.2-a.2 by omega) (show 0≤K by omega);omega
 ·rw[c,Int.sub_self,Int.mul_zero]at e;exact d (Prod.ext (by omega) c)
 ·have f:K*(b.2-a.2)= -(K*(a.2-b.2)):=by grind
  have:=Int.mul_le_mul_of_nonneg_left (show 1≤a.2-b.2 by omega) (show 0≤K by omega);omega
theorem lK.gen {M:Int} {n:Nat} {P:Nat→Pt} (h:lK M n P) (o:0≤M) (m:2*M<K) (c:0<L) (b:∀i,i<n→(K*((P (nx n i)).2-(P i).2)+((P (nx n i)).1-(P i).1))∣L):uC n (fun i=>sc K L (P i)) (fun i=>If K L (P i) (P (nx n i)))where
 n3:=h.n3
 ev:=fun i a=>by show(2*_) % 2=0;omega
 lv:=fun i a=>by
  have d:=h.nr i a;have f:=h.nr _ (dW (i:=i) (by omega:0<n));have:=Dc (K:=K) (by omega) (by omega) (h.ne i a);show 2*(K*(P i).2+(P i).1)≠2*(K*(P (nx n i)).2+(P (nx n i)).1);intro e;exact this (by grind)
 sl:=fun i a=>by
  show 2*L*(P (nx n i)).1-2*L*(P i).1=If K L (P i) (P (nx n i))*(2*(K*(P (nx n i)).2+(P (nx n i)).1)-2*(K*(P i).2+(P i).1));unfold If;have:=Int.ediv_mul_cancel (b i a)
  grind
 nm:=fun i k a j d f g l=>h.nm i k a j d f g (wj (by omega) c l)
 nf:=fun i a=>⟨fun x=>(h.nf i a).1 (nG (by omega) c x),fun x=>(h.nf i a).2 (nG (by omega) c x)⟩
theorem uG (n:Nat) (P:Nat→Pt):bP n (fun i=>sc K L (P i))=(4*L*K)*bP n P:=by
 unfold bP;rw[←ku];exact eJ fun i _=>by simp only[sc];grind
theorem GY {M:Int} {n:Nat} {P:Nat→Pt} {q:Pt} (h:0≤M) (g:2*M<K) (c:0<L) (a:∀i,i<n→(-M≤(P i).1∧(P i).1≤M)∧ -M≤(P i).2∧(P i).2≤M) (j: -M≤q.1∧q.1≤M) (d:uA n P q):gh n (fun i=>sc K L (P i)) (sc K L q)=gh n P q:=
 (GU (fun i=>rO q (P i)) (fun i b=>by
  have e:=a i b;have f:=a _ (dW (i:=i) (by omega:0<n));exact GX (by omega) c (by omega) (by omega) (by omega) (d i b))).symm
end
theorem kv {n m:Nat} {P H:Nat→Pt} (b:0<m) (h:∀i j,i<m→j<n→¬ct (H i) (H (nx m i)) (P j) (P (nx n j))):∀i,i<m→gh n P (H i)=gh n P (H 0)
 |0,_=>rfl
 |i+1,hi=>by
  rw[←kv b h i (by omega)];have c:nx m i=i+1:=by rw[fO (by omega),if_pos hi]
  have:=zv (n:=n) (P:=P) (u:=H i) (v:=H (nx m i)) (fun j a=>h i j (by omega) a);rw[c]at this;exact this.symm
theorem kU {n m:Nat} {P H:Nat→Pt} (h:∀i j,i<m→j<n→¬ct (H i) (H (nx m i)) (P j) (P (nx n j))) {i:Nat} (a:i<m):uA n P (H i):=fun j b c=>h i j a b (.inr (.inr (.inl c)))
theorem tS {n:Nat} {P:Nat→Pt} {q:Pt} (s:uA n P q) (h:gh n P q=true):∃i,i<n∧q.1<(P i).1:=by
 apply aG;intro r;have k:∀i,i<n→(P i).1≤q.1:=fun i c=>by
  apply aG;intro u;exact r ⟨i,c,by omega⟩
 obtain⟨i,c,d⟩:=rI h;have l:=k i c;have m:=k (nx n i) (dW (by omega));unfold dP at d;simp only[Bool.and_eq_true,bne_iff_ne,ne_eq,beq_iff_eq]at d;obtain⟨p,j⟩:=d;by_cases c1:q.2<(P i).2<;>by_cases c2:q.2<(P (nx n i)).2<;>simp[c1,c2]at p
 ·have o:=mm (a:=P (nx n i)) (b:=P i) (q:=q) (by omega) m l;have t:bQ (P (nx n i)) (P i) q≠0:=fun e=>s i c (fW.1 (kR e (by omega)));rw[fV]at o t;have f:¬(P i).2<(P (nx n i)).2:=by omega
  have g:0<bQ (P i) (P (nx n i)) q:=by omega
  simp[f,g]at j
 ·have o:=mm (a:=P i) (b:=P (nx n i)) (q:=q) (by omega) l m;have f:(P i).2<(P (nx n i)).2:=by omega
  have g:¬0<bQ (P i) (P (nx n i)) q:=by omega
  simp[f,g]at j
theorem Dd (f:Nat→Int):∀n,0<n→∃i,i<n∧∀j,j<n→f j≤f i
 |0,h=>by omega
 |1,_=>⟨0,by omega,fun j a=>by
  obtain rfl:j=0:=by omega
  exact Int.le_refl _⟩
 |n+2,_=>by
  obtain⟨i,b,h⟩:=Dd f (n+1) (by omega);by_cases c:f i≤f (n+1)
  ·exact⟨n+1,by omega,fun j a=>by
    by_cases e:j=n+1
    ·rw[e];exact Int.le_refl _
    ·exact Int.le_trans (h j (by omega)) c⟩
  ·exact⟨i,by omega,fun j a=>by
    by_cases e:j=n+1
    ·rw[e];omega
    ·exact h j (by omega)⟩
theorem xP {n m:Nat} {P H:Nat→Pt} (h:∀i j,i<m→j<n→¬ct (H i) (H (nx m i)) (P j) (P (nx n j))):∀i j,i<n→j<m→¬ct (P i) (P (nx n i)) (H j) (H (nx m j)):=fun i j b c a=>h j i c b (fw.1 a)
theorem xQ {n m:Nat} {P H:Nat→Pt} (hn:0<n) (h:∀i j,i<m→j<n→¬ct (H i) (H (nx m i)) (P j) (P (nx n j))) (f:∀i,i<m→gh n P (H i)=true):∀i,i<n→gh m H (P i)=false:=by
 have c:=xP h;intro i o;rw[kv hn c i o];cases e:gh m H (P 0)with
 |false=>rfl
 |true=>
  exfalso;obtain⟨l,a,b⟩:=Dd (fun i=>(P i).1) n hn;obtain⟨k,g,q⟩:=tS (kU c a) (show gh m H (P l)=true by rw[kv hn c l a,e]);obtain⟨p,d,r⟩:=tS (kU h g) (f k g);have:=b p d;omega
theorem AP {M:Int} (v:0≤M) {k:Nat} {cn:Nat→Nat} {CP:Nat→Nat→Pt} (r:0<k) (t:∀c,c<k→lK M (cn c) (CP c)) (m:∀c d,c<k→d<k→c≠d→∀i j,i<cn c→j<cn d→¬ct (CP c i) (CP c (nx (cn c) i)) (CP d j) (CP d (nx (cn d) j)))
 (y:0<bP (cn 0) (CP 0)) (z:∀c,0<c→c<k→bP (cn c) (CP c)<0) (w:∀c,0<c→c<k→∀i,i<cn c→gh (cn 0) (CP 0) (CP c i)=true)
 (C:∀c d,0<c→c<k→0<d→d<k→c≠d→∀i,i<cn c→gh (cn d) (CP d) (CP c i)=false):0<cB (fun c=>bP (cn c) (CP c)) k:=by
 obtain⟨K,H⟩:∃K:Int,K=2*M+1:=⟨_,rfl⟩;obtain⟨L,s,o⟩:=wk (K*(2*M)+2*M).toNat;have q:∀c,c<k→∀i,i<cn c→(-M≤(CP c i).1∧(CP c i).1≤M)∧ -M≤(CP c i).2∧(CP c i).2≤M:=fun c a=>(t c a).nr;have ps:∀c,c<k→0<cn c:=fun c a=>by have:=(t c a).n3;omega
 have p:∀c,c<k→uC (cn c) (fun i=>sc K L (CP c i)) (fun i=>If K L (CP c i) (CP c (nx (cn c) i))):=fun c a=>(t c a).gen v (by omega) s (fun i b=>by
  have D:=q c a i b;have b2:=q c a _ (dW (i:=i) (ps c a));refine o _ (Dc (by omega) (by omega) ((t c a).ne i b)) ?_;have E:=Int.mul_le_mul_of_nonneg_left (show(CP c (nx (cn c) i)).2-(CP c i).2≤2*M by omega) (show 0≤K by omega);have F:=Int.mul_le_mul_of_nonneg_left (show(CP c i).2-(CP c (nx (cn c) i)).2≤2*M by omega) (show 0≤K by omega);have G:K*((CP c i).2-(CP c (nx (cn c) i)).2)= -(K*((CP c (nx (cn c) i)).2-(CP c i).2)):=by grind
  omega)
 have g:qa k cn (fun c i=>sc K L (CP c i)) (fun c i=>If K L (CP c i) (CP c (nx (cn c) i))):=⟨p,fun c d a l f i j b A B=>m c d a l f i j b A (wj (by omega) s B)⟩;have u:=uF (K:=K) (L:=L) (by omega) s;have x:∀c d,c<k→d<k→c≠d→∀i,i<cn c→gh (cn d) (fun j=>sc K L (CP d j)) (sc K L (CP c i))=gh (cn d) (CP d) (CP c i):=fun c d a l f i b=>
  GY v (by omega) s (q d l) (q c a i b).1 (kU (m c d a l f) b)
 have:=g.total r (by
  show 0<bP (cn 0) (fun i=>sc K L (CP 0 i));rw[uG];exact Int.mul_pos u y) (fun c a h=>by
  show bP (cn c) (fun i=>sc K L (CP c i))<0;rw[uG];have:=Int.mul_pos u (show 0< -bP (cn c) (CP c)by have:=z c a h;omega);rw[Int.mul_neg]at this;omega) (fun c a h i b=>(x c 0 h r (by omega) i b).trans (w c a h i b)) (fun c d a n l f i b=>(x c d a l f i b).trans (by
  by_cases e:c=0
  ·subst e;exact xQ (ps 0 r) (m d 0 l r (by omega)) (w d n l) i b
  ·exact C c d (by omega) a n l f i b))
 rw[eJ (fun c _=>uG (cn c) (CP c)),ku]at this;exact rN u this
def FB (a b c:Pt):Prop:=bQ a b c=0∧0<(a.1-b.1)*(c.1-b.1)+(a.2-b.2)*(c.2-b.2)
instance (a b c:Pt):Decidable (FB a b c):=by unfold FB;infer_instance
theorem FC {a b c:Pt} (h:FB a b c):dO a b c∨dO b c a:=by
 obtain⟨f,g⟩:=h;have k:bQ b c a=0:=by rw[←f];simp only[bQ];grind
 have d:(a.1-b.1)*(c.2-b.2)=(a.2-b.2)*(c.1-b.1):=by simp only[bQ]at f;grind
 by_cases c2:c.2=b.2
 ·have s:c.2-b.2=0:=by omega
  rw[s,Int.mul_zero]at d g;have r:c.1-b.1≠0:=by intro e;rw[e]at g;omega
  have l:a.2-b.2=0:=by rcases Int.mul_eq_zero.1 d.symm with h|h<;>omega
  have m:0<a.1-b.1∧0<c.1-b.1∨a.1-b.1<0∧c.1-b.1<0:=by
   rcases Int.lt_or_gt_of_ne r with h|h
   ·right
    refine⟨?_,h⟩;apply aG;intro i;have:=bE (show 0≤a.1-b.1 by omega) (show 0≤ -(c.1-b.1)by omega);rw[Int.mul_neg]at this;omega
   ·left
    refine⟨?_,h⟩;apply aG;intro i;have:=bE (show 0≤ -(a.1-b.1)by omega) (show 0≤(c.1-b.1)by omega);rw[Int.neg_mul]at this;omega
  by_cases c3:bt a.1 b.1 c.1
  ·exact .inl ⟨f,c3,by unfold bt;omega⟩
  ·exact .inr ⟨k,by unfold bt at c3⊢;omega,by unfold bt;omega⟩
 ·have l:a.2-b.2≠0:=by
   intro e;rw[e,Int.zero_mul]at d;have q:a.1-b.1=0:=by rcases Int.mul_eq_zero.1 d with h|h<;>omega
   rw[e,q]at g;omega
  have m:0<a.2-b.2∧0<c.2-b.2∨a.2-b.2<0∧c.2-b.2<0:=by
   have o:((a.1-b.1)*(c.1-b.1))*((a.2-b.2)*(c.2-b.2))=((a.1-b.1)*(c.2-b.2))*((a.1-b.1)*(c.2-b.2)):=by grind
   have n:0≤((a.1-b.1)*(c.2-b.2))*((a.1-b.1)*(c.2-b.2)):=by
    rcases Int.le_total 0 ((a.1-b.1)*(c.2-b.2))with h|h
    ·exact bE h h
    ·have:=bE (show 0≤ -((a.1-b.1)*(c.2-b.2))by omega) (show 0≤ -((a.1-b.1)*(c.2-b.2))by omega)
     rwa [Int.neg_mul_neg]at this
   have j:∀{x y:Int},x≠0→y≠0→¬(0<x∧0<y∨x<0∧y<0)→x*y<0:=by
    intro x y d t h;rcases Int.lt_or_gt_of_ne d with h'|h'
    ·have:=Int.mul_pos (show 0< -x by omega) (show 0<y by omega);rw[Int.neg_mul]at this;omega
    ·have:=Int.mul_pos h' (show 0< -y by omega);rw[Int.mul_neg]at this;omega
   apply aG;intro i;have u:=j l (show c.2-b.2≠0 by omega) i;have p:0<(a.1-b.1)*(c.1-b.1):=by omega
   have:=Int.mul_pos p (show 0< -((a.2-b.2)*(c.2-b.2))by omega);rw[Int.mul_neg]at this;omega
  by_cases c3:bt a.2 b.2 c.2
  ·exact .inl (ei (by omega) f c3)
  ·exact .inr (ei (by omega) k (by unfold bt at c3⊢;omega))
structure dT (n:Nat) (P:Nat→Pt):Prop where
 n3:3≤n
 n32:n≤32
 nr:∀i,i<n→(-32768≤(P i).1∧(P i).1≤32768)∧ -32768≤(P i).2∧(P i).2≤32768
 ds:∀i k,k<i→i<n→P i≠P k
 nf:∀i,i<n→¬dO (P (nx n i)) (P (nx n (nx n i))) (P i)∧¬dO (P i) (P (nx n i)) (P (nx n (nx n i)))
 nm:∀i k,i<n→i+2≤k→k<n→nx n k≠i→¬ct (P i) (P (nx n i)) (P k) (P (nx n k))
theorem dT.pol {n:Nat} {P:Nat→Pt} (h:dT n P):lK 32768 n P where
 n3:=h.n3
 nr:=h.nr
 ne:=fun i a e=>by
  have hn:=h.n3;have o:=fO a;split at o
  ·exact h.ds _ _ (show i<nx n i by omega) (by omega) e.symm
  ·exact h.ds _ _ (show nx n i<i by omega) a e
 nf:=fun i a=>⟨(h.nf i a).2,(h.nf i a).1⟩
 nm:=fun i k a b j l m g=>by
  have d:=fO a;have f:=fO b;rcases Nat.lt_trichotomy i k with c|c|c
  ·refine h.nm i k a ?_ b m g;split at d<;>omega
  ·exact j c
  ·refine h.nm k i b ?_ a l (fw.1 g);split at f<;>omega
theorem lK.simple {M:Int} {n:Nat} {P:Nat→Pt} (h:lK M n P) {i:Nat} (a:i<n):P i≠P (nx n i)∧¬FB (P i) (P (nx n i)) (P (nx n (nx n i)))∧∀k,i+2≤k→k<n→nx n k≠i→¬ct (P i) (P (nx n i)) (P k) (P (nx n k)):=by
 refine⟨h.ne i a,fun d=> ?_,fun k e b c=> ?_⟩
 ·rcases FC d with h'|h'
  ·exact(h.nf i a).1 h'
  ·exact(h.nf i a).2 h'
 ·refine h.nm i k a b (by omega) ?_ c;have:=fO a;split at this<;>omega
theorem De {n i k:Nat} (a:i<n) (b:k<n) (h:nx n i=nx n k):i=k:=by
 rw[fO a,fO b]at h;split at h<;>split at h<;>omega
theorem Df {n i:Nat} (a:i<n):nx n (re n (nx n i))=re n i:=by
 rw[fO (mU (dW (by omega))),fO a];unfold re;split<;>split<;>split<;>omega
theorem lK.rv {M:Int} {n:Nat} {P:Nat→Pt} (h:lK M n P):lK M n (rv n P)where
 n3:=h.n3
 nr:=fun i a=>h.nr _ (by have:=h.n3;omega)
 ne:=fun i a=>by
  obtain⟨c,d⟩:=mp P a;rw[c,d];exact(h.ne _ (mU a)).symm
 nm:=fun i k a b p q r j=>by
  obtain⟨c,d⟩:=mp P a;obtain⟨o,g⟩:=mp P b;rw[c,d,o,g,jO,jP]at j;have hn:=h.n3;refine h.nm _ _ (mU a) (mU b) (fun e=>p (xK a b e)) (fun e=> ?_) (fun e=> ?_) j
  ·have:=Df b;exact r (xK a (dW (by omega)) (De (mU a) (mU (dW (by omega))) (e.trans this.symm))).symm
  ·have:=Df a;exact q (xK b (dW (by omega)) (De (mU b) (mU (dW (by omega))) (e.trans this.symm))).symm
 nf:=fun i a=>by
  have hn:=h.n3;have f:=dW (n:=n) (i:=i) (by omega);obtain⟨c,d⟩:=mp P a;obtain⟨-,g⟩:=mp P f;rw[c,d,g];have s:=mU f;obtain⟨l,m⟩:=h.nf _ s;rw[Df a]at l m;exact⟨fun x=>m (fW.1 x),fun x=>l (fW.1 x)⟩
theorem kV (g:Nat→Int):∀n,cB (fun i=>g (i+1)) n=cB g (n+1)-g 0
 |0=>by simp[cB]
 |n+1=>by
  have a:cB (fun i=>g (i+1)) (n+1)=cB (fun i=>g (i+1)) n+g (n+1):=rfl;have b:cB g (n+1+1)=cB g (n+1)+g (n+1):=rfl;rw[a,kV g n,b];omega
theorem wl:∀(n:Nat) (g:Nat→Int),cB (fun i=>g (n-1-i)) n=cB g n
 |0,g=>rfl
 |n+1,g=>by
  have e:cB (fun i=>g (n+1-1-i)) n=cB (fun i=>g (n-1-i+1)) n:=eJ fun i a=>congrArg g (by omega);rw[cB,e,wl n (fun j=>g (j+1)),kV,show n+1-1-n=0 by omega];omega
theorem FD (n:Nat) (P:Nat→Pt):bP n (rv n P)= -bP n P:=by
 unfold bP;rw[eJ (g:=fun i=> -1*((P (re n i)).1*(P (nx n (re n i))).2-(P (nx n (re n i))).1*(P (re n i)).2)) (fun i a=>by
  obtain⟨b,c⟩:=mp P a;rw[b,c]
  grind),ku]
 have:cB (fun i=>(P (re n i)).1*(P (nx n (re n i))).2-(P (nx n (re n i))).1*(P (re n i)).2) n=cB (fun i=>(P i).1*(P (nx n i)).2-(P (nx n i)).1*(P i).2) n:=by
  match n with
  |0=>rfl
  |m+1=>
   rw[cB,cB,eJ (g:=fun i=>(P (m-1-i)).1*(P (nx (m+1) (m-1-i))).2-(P (nx (m+1) (m-1-i))).1*(P (m-1-i)).2) (fun i a=>by
    unfold re;rw[if_pos (by omega),show m+1-2-i=m-1-i by omega]),wl m (fun j=>(P j).1*(P (nx (m+1) j)).2-(P (nx (m+1) j)).1*(P j).2)]
   rw[show re (m+1) m=m by unfold re;rw[if_neg (by omega)];omega]
 rw[this];omega
structure GH (no:Nat) (P:Nat→Pt) (m:Nat) (hn:Nat→Nat) (H:Nat→Nat→Pt):Prop where
 m8:m≤8
 po:lK 32768 no P
 no32:no≤32
 pos:0<bP no P
 hp:∀i,i<m→lK 32768 (hn i) (H i)
 h32:∀i,i<m→hn i≤32
 neg:∀i,i<m→bP (hn i) (H i)<0
 nmo:∀i,i<m→∀a b,a<hn i→b<no→¬ct (H i a) (H i (nx (hn i) a)) (P b) (P (nx no b))
 ino:∀i,i<m→∀a,a<hn i→gh no P (H i a)=true
 nmh:∀i j,i<m→j<m→i≠j→∀a b,a<hn i→b<hn j→¬ct (H i a) (H i (nx (hn i) a)) (H j b) (H j (nx (hn j) b))
 o:∀i j,i<m→j<m→i≠j→∀a,a<hn i→gh (hn j) (H j) (H i a)=false
structure fP (no:Nat) (P:Nat→Pt) (m:Nat) (hn:Nat→Nat) (H:Nat→Nat→Pt):Prop where
 m8:m≤8
 po:dT no P
 pos:0<bP no P
 hp:∀i,i<m→dT (hn i) (H i)
 neg:∀i,i<m→bP (hn i) (H i)<0
 nmo:∀i,i<m→∀a b,b<no→a<hn i→¬ct (P b) (P (nx no b)) (H i a) (H i (nx (hn i) a))
 ino:∀i,i<m→gh no P (H i 0)=true
 nmh:∀i j,i<m→j<i→∀a b,a<hn i→b<hn j→¬ct (H i a) (H i (nx (hn i) a)) (H j b) (H j (nx (hn j) b))
 o1:∀i j,i<m→j<i→gh (hn i) (H i) (H j 0)=false
 o2:∀i j,i<m→j<i→gh (hn j) (H j) (H i 0)=false
theorem fP.reg {p m:Nat} {P:Nat→Pt} {hn:Nat→Nat} {H:Nat→Nat→Pt} (h:fP p P m hn H):GH p P m hn H:=by
 have l:∀i,i<m→∀a b,a<hn i→b<p→¬ct (H i a) (H i (nx (hn i) a)) (P b) (P (nx p b)):=fun i d a b e g o=>h.nmo i d a b g e (fw.1 o);have k:∀i j,i<m→j<m→i≠j→∀a b,a<hn i→b<hn j→¬ct (H i a) (H i (nx (hn i) a)) (H j b) (H j (nx (hn j) b)):=fun i j d n f a b e g o=>by
  rcases Nat.lt_or_gt_of_ne f with c|c
  ·exact h.nmh j i n c b a g e (fw.1 o)
  ·exact h.nmh i j d c a b e g o
 have q:∀i,i<m→0<hn i:=fun i d=>by have:=(h.hp i d).n3;omega
 exact⟨h.m8,h.po.pol,h.po.n32,h.pos,fun i d=>(h.hp i d).pol,fun i d=>(h.hp i d).n32,h.neg,l,
  fun i d a e=>(kv (q i d) (fun a b e g=>l i d a b e g) a e).trans (h.ino i d),k,
  fun i j d n f a e=>(kv (q i d) (fun a b e g=>k i j d n f a b e g) a e).trans (by
   rcases Nat.lt_or_gt_of_ne f with c|c
   ·exact h.o1 j i n c
   ·exact h.o2 i j d c)⟩
def fx (no:Nat) (P:Nat→Pt) (m:Nat) (hn:Nat→Nat) (H:Nat→Nat→Pt):Int:=bP no P+cB (fun i=>bP (hn i) (H i)) m
theorem GH.area_pos {b m:Nat} {P:Nat→Pt} {hn:Nat→Nat} {H:Nat→Nat→Pt} (h:GH b P m hn H):0<fx b P m hn H:=by
 have:=AP (M:=32768) (by decide) (k:=m+1) (cn:=fun c=>if c=0 then b else hn (c-1)) (CP:=fun c=>if c=0 then P else H (c-1)) (by omega)
  (fun c g=>by
   by_cases e:c=0
   ·simp only[if_pos e];exact h.po
   ·simp only[if_neg e];exact h.hp _ (by omega))
  (fun c d g q l i j a f=>by
   by_cases e:c=0<;>by_cases e2:d=0
   ·omega
   ·simp only[if_pos e,if_neg e2]at a f⊢
    exact fun r=>h.nmo _ (by omega) j i f a (fw.1 r)
   ·simp only[if_neg e,if_pos e2]at a f⊢
    exact h.nmo _ (by omega) i j a f
   ·simp only[if_neg e,if_neg e2]at a f⊢
    exact h.nmh _ _ (by omega) (by omega) (by omega) i j a f)
  (by simpa using h.pos)
  (fun c n g=>by simp only[if_neg (show ¬c=0 by omega)];exact h.neg _ (by omega))
  (fun c n g i a=>by
   simp only[if_neg (show ¬c=0 by omega),if_true]at a⊢
   exact h.ino _ (by omega) i a)
  (fun c d n g s q l i a=>by
   simp only[if_neg (show ¬c=0 by omega),if_neg (show ¬d=0 by omega)]at a⊢
   exact h.o _ _ (by omega) (by omega) (by omega) i a)
 have e:cB (fun c=>bP (if c=0 then b else hn (c-1)) (if c=0 then P else H (c-1))) (m+1)=fx b P m hn H:=by
  have o:=kV (fun c=>bP (if c=0 then b else hn (c-1)) (if c=0 then P else H (c-1))) m;unfold fx;have p:cB (fun i=>bP (if i+1=0 then b else hn (i+1-1)) (if i+1=0 then P else H (i+1-1))) m=cB (fun i=>bP (hn i) (H i)) m:=eJ fun i _=>by simp
  rw[p]at o;simp only[if_true]at o;omega
 rwa [e]at this
end
section
open Go Go.ChangeShapes Go.WideShapes Go.RowKit Go.ChangeAt
def Nr (p:Pt):Prop:=(-65536≤p.1∧p.1≤65536)∧ -65536≤p.2∧p.2≤65536
def fb (n:Int):Int:=if n<0 then -1 else if 0<n then 1 else 0
theorem eH {x y:Int} (i: -131072≤x∧x≤131072) (j: -131072≤y∧y≤131072): -17179869184≤x*y∧x*y≤17179869184:=by
 have e:=bE (show 0≤131072-x by omega) (show 0≤131072-y by omega);have f:=bE (show 0≤131072+x by omega) (show 0≤131072+y by omega);have g:=bE (show 0≤131072-x by omega) (show 0≤131072+y by omega);have h:=bE (show 0≤131072+x by omega) (show 0≤131072-y by omega);have a:(131072-x)*(131072-y)=17179869184-131072*x-131072*y+x*y:=by grind
 have b:(131072+x)*(131072+y)=17179869184+131072*x+131072*y+x*y:=by grind
 have c:(131072-x)*(131072+y)=17179869184-131072*x+131072*y-x*y:=by grind
 have d:(131072+x)*(131072-y)=17179869184+131072*x-131072*y-x*y:=by grind
 omega
theorem iE (b c d b2 e f:Int) (w:World) (h:Nr (b,c)) (i:Nr (d,b2)) (j:Nr (e,f)):Gv 113 #[.agg #[b,c],.agg #[d,b2],.agg #[e,f]] (.int .i64 (bQ (b,c) (d,b2) (e,f))) w:=by
 obtain⟨C,g⟩:=oE (bQ (b,c) (d,b2) (e,f));have a:(d-b)*(f-c)-(b2-c)*(e-b)=C:=g;unfold Nr at h i j;dsimp only at h i j;obtain⟨p,n⟩:=oE (d-b);obtain⟨q,t⟩:=oE (f-c);obtain⟨r,u⟩:=oE (b2-c);obtain⟨s,v⟩:=oE (e-b);have B:IntKind.i64.wrap (d-b)=p:=by rw[n];exact iw
 have D:IntKind.i64.wrap (f-c)=q:=by rw[t];exact iw
 have E:IntKind.i64.wrap (b2-c)=r:=by rw[u];exact iw
 have F:IntKind.i64.wrap (e-b)=s:=by rw[v];exact iw
 have z:=eH (x:=p) (y:=q) (by omega) (by omega);have A:=eH (x:=r) (y:=s) (by omega) (by omega);rw[n,t,u,v]at a;obtain⟨m,k⟩:=oE (p*q);obtain⟨o,l⟩:=oE (r*s);rw[k]at z a;rw[l]at A a;have G:IntKind.i64.wrap (p*q)=m:=by rw[k];exact iw
 have H:IntKind.i64.wrap (r*s)=o:=by rw[l];exact iw
 have I:IntKind.i64.wrap (m-o)=C:=by rw[a];exact iw
 rw[g];clear g a n t u v k l z A h i j;go_enter func113,ntmps113;go_wp2;go_returns;exact⟨rfl,by go_grown⟩
theorem iR (b c d b2 e f:Int) (w:World) (h:Nr (b,c)) (i:Nr (d,b2)) (j:Nr (e,f)):Gv 190 #[.agg #[b,c],.agg #[d,b2],.agg #[e,f]] (.int .i64 (bQ (b,c) (d,b2) (e,f))) w:=by
 obtain⟨C,g⟩:=oE (bQ (b,c) (d,b2) (e,f));have a:(d-b)*(f-c)-(b2-c)*(e-b)=C:=g;unfold Nr at h i j;dsimp only at h i j;obtain⟨p,n⟩:=oE (d-b);obtain⟨q,t⟩:=oE (f-c);obtain⟨r,u⟩:=oE (b2-c);obtain⟨s,v⟩:=oE (e-b);have B:IntKind.i64.wrap (d-b)=p:=by rw[n];exact iw
 have D:IntKind.i64.wrap (f-c)=q:=by rw[t];exact iw
 have E:IntKind.i64.wrap (b2-c)=r:=by rw[u];exact iw
 have F:IntKind.i64.wrap (e-b)=s:=by rw[v];exact iw
 have z:=eH (x:=p) (y:=q) (by omega) (by omega);have A:=eH (x:=r) (y:=s) (by omega) (by omega);rw[n,t,u,v]at a;obtain⟨m,k⟩:=oE (p*q);obtain⟨o,l⟩:=oE (r*s);rw[k]at z a;rw[l]at A a;have G:IntKind.i64.wrap (p*q)=m:=by rw[k];exact iw
 have H:IntKind.i64.wrap (r*s)=o:=by rw[l];exact iw
 have I:IntKind.i64.wrap (m-o)=C:=by rw[a];exact iw
 rw[g];clear g a n t u v k l z A h i j;go_enter func190,ntmps190;go_wp2;go_returns;exact⟨rfl,by go_grown⟩
theorem oD (b c d b2 e f:Int) (w:World) (h:Nr (b,c)) (i:Nr (d,b2)) (j:Nr (e,f)):Gv 319 #[.agg #[b,c],.agg #[d,b2],.agg #[e,f]] (.int .i64 (bQ (b,c) (d,b2) (e,f))) w:=by
 obtain⟨C,g⟩:=oE (bQ (b,c) (d,b2) (e,f));have a:(d-b)*(f-c)-(b2-c)*(e-b)=C:=g;unfold Nr at h i j;dsimp only at h i j;obtain⟨p,n⟩:=oE (d-b);obtain⟨q,t⟩:=oE (f-c);obtain⟨r,u⟩:=oE (b2-c);obtain⟨s,v⟩:=oE (e-b);have B:IntKind.i64.wrap (d-b)=p:=by rw[n];exact iw
 have D:IntKind.i64.wrap (f-c)=q:=by rw[t];exact iw
 have E:IntKind.i64.wrap (b2-c)=r:=by rw[u];exact iw
 have F:IntKind.i64.wrap (e-b)=s:=by rw[v];exact iw
 have z:=eH (x:=p) (y:=q) (by omega) (by omega);have A:=eH (x:=r) (y:=s) (by omega) (by omega);rw[n,t,u,v]at a;obtain⟨m,k⟩:=oE (p*q);obtain⟨o,l⟩:=oE (r*s);rw[k]at z a;rw[l]at A a;have G:IntKind.i64.wrap (p*q)=m:=by rw[k];exact iw
 have H:IntKind.i64.wrap (r*s)=o:=by rw[l];exact iw
 have I:IntKind.i64.wrap (m-o)=C:=by rw[a];exact iw
 rw[g];clear g a n t u v k l z A h i j;go_enter func319,ntmps319;go_wp2;go_returns;exact⟨rfl,by go_grown⟩
theorem jy (b c d b2 f g:Int) (w:World) (i:Nr (b,c)) (j:Nr (d,b2)) (k:Nr (f,g)):Gv 145 #[.agg #[b,c],.agg #[d,b2],.agg #[f,g]] (.int .i64 (fb (bQ (b,c) (d,b2) (f,g)))) w:=by
 obtain⟨C,h⟩:=oE (bQ (b,c) (d,b2) (f,g));have a:(d-b)*(g-c)-(b2-c)*(f-b)=C:=h;unfold Nr at i j k;dsimp only at i j k;obtain⟨p,t⟩:=oE (d-b);obtain⟨q,u⟩:=oE (g-c);obtain⟨r,v⟩:=oE (b2-c);obtain⟨s,z⟩:=oE (f-b);have D:IntKind.i64.wrap (d-b)=p:=by rw[t];exact iw
 have E:IntKind.i64.wrap (g-c)=q:=by rw[u];exact iw
 have F:IntKind.i64.wrap (b2-c)=r:=by rw[v];exact iw
 have G:IntKind.i64.wrap (f-b)=s:=by rw[z];exact iw
 have A:=eH (x:=p) (y:=q) (by omega) (by omega);have B:=eH (x:=r) (y:=s) (by omega) (by omega);rw[t,u,v,z]at a;obtain⟨m,l⟩:=oE (p*q);obtain⟨o,n⟩:=oE (r*s);rw[l]at A a;rw[n]at B a;have H:IntKind.i64.wrap (p*q)=m:=by rw[l];exact iw
 have I:IntKind.i64.wrap (r*s)=o:=by rw[n];exact iw
 have J:IntKind.i64.wrap (m-o)=C:=by rw[a];exact iw
 rw[h];clear h a t u v z l n A B i j k;by_cases h1:0<C
 ·have e:fb C=1:=by unfold fb;rw[if_neg (by omega),if_pos h1]
  rw[e];clear e;go_enter func145,ntmps145;go_wp2;go_returns;exact⟨rfl,by go_grown⟩
 ·by_cases h2:C<0
  ·have e:fb C= -1:=by unfold fb;rw[if_pos h2]
   rw[e];clear e;go_enter func145,ntmps145;go_wp2;go_returns;exact⟨rfl,by go_grown⟩
  ·have e:fb C=0:=by unfold fb;rw[if_neg h2,if_neg h1]
   rw[e];clear e;go_enter func145,ntmps145;go_wp2;go_returns;exact⟨rfl,by go_grown⟩
theorem kW (n:Int) (w:World):Gv 191 #[n] (.int .i64 (fb n)) w:=by
 rcases(by omega:n<0∨n=0∨0<n)with h|h|h
 ·have e:fb n= -1:=by unfold fb;first|rw[if_pos (by omega)]|rw[if_neg (by omega),if_pos (by omega)]|rw[if_neg (by omega),if_neg (by omega)]
  rw[e];clear e;go_enter func191,ntmps191;go_wp2
  all_goals (first|omega|(go_returns;exact⟨rfl,by go_grown⟩))
 ·subst h;have e:fb 0=0:=by unfold fb;first|rw[if_pos (by omega)]|rw[if_neg (by omega),if_pos (by omega)]|rw[if_neg (by omega),if_neg (by omega)]
  rw[e];clear e;go_enter func191,ntmps191;go_wp2
  all_goals (first|omega|(go_returns;exact⟨rfl,by go_grown⟩))
 ·have e:fb n=1:=by unfold fb;first|rw[if_pos (by omega)]|rw[if_neg (by omega),if_pos (by omega)]|rw[if_neg (by omega),if_neg (by omega)]
  rw[e];clear e;go_enter func191,ntmps191;go_wp2
  all_goals (first|omega|(go_returns;exact⟨rfl,by go_grown⟩))
theorem IF (n:Int):mn (mx n (-1)) 1=fb n:=by
 unfold mn mx fb;split<;>split<;>(try split)<;>omega
theorem mq (n:Int) (w:World):Gv 318 #[n] (.int .i64 (fb n)) w:=by
 have a:=jX;have b:=jY;rw[←IF];go_enter func318,ntmps318;go_wp2;go_returns;exact⟨rfl,by go_grown⟩
theorem Ig {x y q:Int}:mn x y≤q↔x≤q∨y≤q:=by unfold mn;split<;>omega
theorem Ih {x y q:Int}:q≤mx x y↔q≤x∨q≤y:=by unfold mx;split<;>omega
theorem GI {a b q:Int}:bt a b q↔mn a b≤q∧q≤mx a b:=by unfold bt;rw[Ig,Ih];omega
def iZ (a b q:Pt):Bool:=decide (mn a.1 b.1≤q.1∧q.1≤mx a.1 b.1∧mn a.2 b.2≤q.2∧q.2≤mx a.2 b.2)
theorem qO {a b q:Pt}:decide (dO a b q)=(decide (bQ a b q=0)&&iZ a b q):=by
 have e:dO a b q↔(bQ a b q=0∧mn a.1 b.1≤q.1∧q.1≤mx a.1 b.1∧mn a.2 b.2≤q.2∧q.2≤mx a.2 b.2):=by
  unfold dO;rw[GI,GI,and_assoc]
 unfold iZ;rw[decide_eq_decide.2 e,Bool.decide_and]
theorem wn (c d f b2 k l:Int) (w:World):Gv 321 #[.agg #[c,d],.agg #[f,b2],.agg #[k,l]] (.bool (iZ (c,d) (f,b2) (k,l))) w:=by
 obtain⟨R,b⟩:=oE (iZ (c,d) (f,b2) (k,l));have m:=b;unfold iZ at b;dsimp only at b;have n:=jY;have o:=jX;obtain⟨p,g⟩:=oE (mn c f);obtain⟨r,i⟩:=oE (mx c f);obtain⟨q,h⟩:=oE (mn d b2);obtain⟨s,j⟩:=oE (mx d b2);have z:∀a t w,(Builtin.min_ a t #[c,f]).run prog w= .ok (.int .i64 p) w:=fun a t w=>by rw[←g];exact n a t c f w
 have A:∀a t w,(Builtin.max_ a t #[c,f]).run prog w= .ok (.int .i64 r) w:=fun a t w=>by rw[←i];exact o a t c f w
 have B:∀a t w,(Builtin.min_ a t #[d,b2]).run prog w= .ok (.int .i64 q) w:=fun a t w=>by rw[←h];exact n a t d b2 w
 have C:∀a t w,(Builtin.max_ a t #[d,b2]).run prog w= .ok (.int .i64 s) w:=fun a t w=>by rw[←j];exact o a t d b2 w
 rw[g,i,h,j]at b;clear n o g i h j;rw[m];clear m;by_cases h4:p≤k
 ·by_cases h3:k≤r
  ·by_cases h2:q≤l
   ·by_cases h1:l≤s
    ·have e:R=true:=by rw[←b];simp[*]
     subst e;clear b;go_enter func321,ntmps321;go_wp2;go_returns;exact⟨rfl,by go_grown⟩
    ·have e:R=false:=by rw[←b];apply decide_eq_false;omega
     subst e;have u:decide (l≤s)=false:=decide_eq_false h1;clear b h1;go_enter func321,ntmps321;go_wp2;go_returns;exact⟨rfl,by go_grown⟩
   ·have e:R=false:=by rw[←b];apply decide_eq_false;omega
    subst e;have v:decide (q≤l)=false:=decide_eq_false h2;clear b h2;go_enter func321,ntmps321;go_wp2;go_returns;exact⟨rfl,by go_grown⟩
  ·have e:R=false:=by rw[←b];apply decide_eq_false;omega
   subst e;have x:decide (k≤r)=false:=decide_eq_false h3;clear b h3;go_enter func321,ntmps321;go_wp2;go_returns;exact⟨rfl,by go_grown⟩
 ·have e:R=false:=by rw[←b];apply decide_eq_false;omega
  subst e;have y:decide (p≤k)=false:=decide_eq_false h4;clear b h4;go_enter func321,ntmps321;go_wp2;go_returns;exact⟨rfl,by go_grown⟩
theorem qP (c d f b2 k l:Int) (w:World):Gv 320 #[.agg #[c,d],.agg #[f,b2],.agg #[k,l]] (.bool (iZ (c,d) (f,b2) (k,l))) w:=by
 obtain⟨R,b⟩:=oE (iZ (c,d) (f,b2) (k,l));have m:=b;unfold iZ at b;dsimp only at b;have n:=jY;have o:=jX;obtain⟨p,g⟩:=oE (mn c f);obtain⟨r,i⟩:=oE (mx c f);obtain⟨q,h⟩:=oE (mn d b2);obtain⟨s,j⟩:=oE (mx d b2);have z:∀a t w,(Builtin.min_ a t #[c,f]).run prog w= .ok (.int .i64 p) w:=fun a t w=>by rw[←g];exact n a t c f w
 have A:∀a t w,(Builtin.max_ a t #[c,f]).run prog w= .ok (.int .i64 r) w:=fun a t w=>by rw[←i];exact o a t c f w
 have B:∀a t w,(Builtin.min_ a t #[d,b2]).run prog w= .ok (.int .i64 q) w:=fun a t w=>by rw[←h];exact n a t d b2 w
 have C:∀a t w,(Builtin.max_ a t #[d,b2]).run prog w= .ok (.int .i64 s) w:=fun a t w=>by rw[←j];exact o a t d b2 w
 rw[g,i,h,j]at b;clear n o g i h j;rw[m];clear m;by_cases h4:p≤k
 ·by_cases h3:k≤r
  ·by_cases h2:q≤l
   ·by_cases h1:l≤s
    ·have e:R=true:=by rw[←b];simp[*]
     subst e;clear b;go_enter func320,ntmps320;go_wp2;go_returns;exact⟨rfl,by go_grown⟩
    ·have e:R=false:=by rw[←b];apply decide_eq_false;omega
     subst e;have u:decide (l≤s)=false:=decide_eq_false h1;clear b h1;go_enter func320,ntmps320;go_wp2;go_returns;exact⟨rfl,by go_grown⟩
   ·have e:R=false:=by rw[←b];apply decide_eq_false;omega
    subst e;have v:decide (q≤l)=false:=decide_eq_false h2;clear b h2;go_enter func320,ntmps320;go_wp2;go_returns;exact⟨rfl,by go_grown⟩
  ·have e:R=false:=by rw[←b];apply decide_eq_false;omega
   subst e;have x:decide (k≤r)=false:=decide_eq_false h3;clear b h3;go_enter func320,ntmps320;go_wp2;go_returns;exact⟨rfl,by go_grown⟩
 ·have e:R=false:=by rw[←b];apply decide_eq_false;omega
  subst e;have y:decide (p≤k)=false:=decide_eq_false h4;clear b h4;go_enter func320,ntmps320;go_wp2;go_returns;exact⟨rfl,by go_grown⟩
theorem mu (a b c b2 e f:Int) (w:World) (n:Nr (a,b)) (o:Nr (c,b2)) (p:Nr (e,f)):Gv 189 #[.agg #[a,b],.agg #[c,b2],.agg #[e,f]] (.bool (decide (dO (a,b) (c,b2) (e,f)))) w:=by
 rw[qO];generalize l:bQ (a,b) (c,b2) (e,f)=C;have h:∀W,Gv 190 #[.agg #[a,b],.agg #[c,b2],.agg #[e,f]] (.int .i64 C) W:=fun W=>by rw[←l];exact iR a b c b2 e f W n o p
 clear l n o p;replace h:=ar h;by_cases h0:C=0
 ·subst h0;rw[decide_eq_true rfl,aN];generalize m:iZ (a,b) (c,b2) (e,f)=R;have j:∀W,Gv 321 #[.agg #[a,b],.agg #[c,b2],.agg #[e,f]] (.bool R) W:=fun W=>by rw[←m];exact wn a b c b2 e f W
  clear m;replace j:=ar j;go_enter func189,ntmps189;go_wp2_with fail
  (go_at_call 190;refine mz (h.o _) fun r d=> ?_);obtain⟨q,-⟩:=br d;have g:=ar (ag (w:=w) (by first|assumption|go_grown) d);go_wp2_with fail
  (go_at_call 321;refine mz (j.o _) fun t k=> ?_);have i:=ar (ag (w:=w) (by first|assumption|go_grown) k);go_wp2;go_returns;exact⟨rfl,by first|exact i.o|go_grown⟩
 ·have s:(C==0)=false:=by simp[h0]
  rw[decide_eq_false h0,aI];go_enter func189,ntmps189;go_wp2_with fail
  (go_at_call 190;refine mz (h.o _) fun r d=> ?_);have g:=ar (ag (w:=w) (by first|assumption|go_grown) d);go_wp2;go_returns;exact⟨rfl,by first|exact g.o|go_grown⟩
theorem iS (f g h b2 i j:Int) (w:World) (B:Nr (f,g)) (D:Nr (h,b2)) (E:Nr (i,j)):Gv 112 #[.agg #[i,j],.agg #[f,g],.agg #[h,b2]] (.bool (decide (dO (f,g) (h,b2) (i,j)))) w:=by
 rw[qO];generalize A:bQ (f,g) (h,b2) (i,j)=C;have l:∀W,Gv 113 #[.agg #[f,g],.agg #[h,b2],.agg #[i,j]] (.int .i64 C) W:=fun W=>by rw[←A];exact iE f g h b2 i j W B D E
 clear A B D E;replace l:=ar l;by_cases h0:C=0
 ·subst h0;rw[decide_eq_true rfl,aN];obtain⟨R,d⟩:=oE (iZ (f,g) (h,b2) (i,j));have q:=d;unfold iZ at d;dsimp only at d;have s:=jY;have u:=jX;obtain⟨v,m⟩:=oE (mn f h);obtain⟨y,o⟩:=oE (mx f h);obtain⟨x,n⟩:=oE (mn g b2);obtain⟨z,p⟩:=oE (mx g b2);have K:∀c t w,(Builtin.min_ c t #[f,h]).run prog w= .ok (.int .i64 v) w:=fun c t w=>by rw[←m];exact s c t f h w
  have L:∀c t w,(Builtin.max_ c t #[f,h]).run prog w= .ok (.int .i64 y) w:=fun c t w=>by rw[←o];exact u c t f h w
  have N:∀c t w,(Builtin.min_ c t #[g,b2]).run prog w= .ok (.int .i64 x) w:=fun c t w=>by rw[←n];exact s c t g b2 w
  have O:∀c t w,(Builtin.max_ c t #[g,b2]).run prog w= .ok (.int .i64 z) w:=fun c t w=>by rw[←p];exact u c t g b2 w
  rw[m,o,n,p]at d;clear s u m o n p;rw[q];clear q;by_cases h4:v≤i
  ·by_cases h3:i≤y
   ·by_cases h2:x≤j
    ·by_cases h1:j≤z
     ·have e:R=true:=by rw[←d];simp[*]
      subst e;clear d;go_enter func112,ntmps112;go_wp2_with fail
      (go_at_call 113;refine mz (l.o _) fun r a=> ?_);obtain⟨k,-⟩:=br a;have b:=ar (ag (w:=w) (by first|assumption|go_grown) a);go_wp2;go_returns;exact⟨rfl,by first|exact b.o|go_grown⟩
     ·have e:R=false:=by rw[←d];apply decide_eq_false;omega
      subst e;have G:decide (j≤z)=false:=decide_eq_false h1;clear d h1;go_enter func112,ntmps112;go_wp2_with fail
      (go_at_call 113;refine mz (l.o _) fun r a=> ?_);obtain⟨k,-⟩:=br a;have b:=ar (ag (w:=w) (by first|assumption|go_grown) a);go_wp2;go_returns;exact⟨rfl,by first|exact b.o|go_grown⟩
    ·have e:R=false:=by rw[←d];apply decide_eq_false;omega
     subst e;have H:decide (x≤j)=false:=decide_eq_false h2;clear d h2;go_enter func112,ntmps112;go_wp2_with fail
     (go_at_call 113;refine mz (l.o _) fun r a=> ?_);obtain⟨k,-⟩:=br a;have b:=ar (ag (w:=w) (by first|assumption|go_grown) a);go_wp2;go_returns;exact⟨rfl,by first|exact b.o|go_grown⟩
   ·have e:R=false:=by rw[←d];apply decide_eq_false;omega
    subst e;have I:decide (i≤y)=false:=decide_eq_false h3;clear d h3;go_enter func112,ntmps112;go_wp2_with fail
    (go_at_call 113;refine mz (l.o _) fun r a=> ?_);obtain⟨k,-⟩:=br a;have b:=ar (ag (w:=w) (by first|assumption|go_grown) a);go_wp2;go_returns;exact⟨rfl,by first|exact b.o|go_grown⟩
  ·have e:R=false:=by rw[←d];apply decide_eq_false;omega
   subst e;have J:decide (v≤i)=false:=decide_eq_false h4;clear d h4;go_enter func112,ntmps112;go_wp2_with fail
   (go_at_call 113;refine mz (l.o _) fun r a=> ?_);obtain⟨k,-⟩:=br a;have b:=ar (ag (w:=w) (by first|assumption|go_grown) a);go_wp2;go_returns;exact⟨rfl,by first|exact b.o|go_grown⟩
 ·have F:(C==0)=false:=by simp[h0]
  rw[decide_eq_false h0,aI];go_enter func112,ntmps112;go_wp2_with fail
  (go_at_call 113;refine mz (l.o _) fun r a=> ?_);have b:=ar (ag (w:=w) (by first|assumption|go_grown) a);go_wp2;go_returns;exact⟨rfl,by first|exact b.o|go_grown⟩
theorem oF (c d f b2 i j:Int) (w:World) (D:Nr (c,d)) (E:Nr (f,b2)) (F:Nr (i,j)):Gv 144 #[.agg #[c,d],.agg #[f,b2],.agg #[i,j]] (.bool (decide (dO (c,d) (f,b2) (i,j)))) w:=by
 rw[qO];obtain⟨C,s⟩:=oE (fb (bQ (c,d) (f,b2) (i,j)));have l:∀W,Gv 145 #[.agg #[c,d],.agg #[f,b2],.agg #[i,j]] (.int .i64 C) W:=fun W=>by rw[←s];exact jy c d f b2 i j W D E F
 have G:bQ (c,d) (f,b2) (i,j)=0↔C=0:=by rw[←s];unfold fb;split<;>(try split)<;>omega
 have B:decide (bQ (c,d) (f,b2) (i,j)=0)=decide (C=0):=decide_eq_decide.2 G;rw[B];clear B G s D E F;replace l:=ar l;by_cases h0:C=0
 ·subst h0;rw[decide_eq_true rfl,aN];obtain⟨R,h⟩:=oE (iZ (c,d) (f,b2) (i,j));have q:=h;unfold iZ at h;dsimp only at h;have u:=jY;have v:=jX;obtain⟨x,m⟩:=oE (mn c f);obtain⟨z,o⟩:=oE (mx c f);obtain⟨y,n⟩:=oE (mn d b2);obtain⟨A,p⟩:=oE (mx d b2);have N:∀g t w,(Builtin.min_ g t #[c,f]).run prog w= .ok (.int .i64 x) w:=fun g t w=>by rw[←m];exact u g t c f w
  have O:∀g t w,(Builtin.max_ g t #[c,f]).run prog w= .ok (.int .i64 z) w:=fun g t w=>by rw[←o];exact v g t c f w
  have P:∀g t w,(Builtin.min_ g t #[d,b2]).run prog w= .ok (.int .i64 y) w:=fun g t w=>by rw[←n];exact u g t d b2 w
  have Q:∀g t w,(Builtin.max_ g t #[d,b2]).run prog w= .ok (.int .i64 A) w:=fun g t w=>by rw[←p];exact v g t d b2 w
  rw[m,o,n,p]at h;clear u v m o n p;rw[q];clear q;by_cases h4:x≤i
  ·by_cases h3:i≤z
   ·by_cases h2:y≤j
    ·by_cases h1:j≤A
     ·have e:R=true:=by rw[←h];simp[*]
      subst e;clear h;go_enter func144,ntmps144;go_wp2_with fail
      (go_at_call 145;refine mz (l.o _) fun r a=> ?_);obtain⟨k,-⟩:=br a;have b:=ar (ag (w:=w) (by first|assumption|go_grown) a);go_wp2;go_returns;exact⟨rfl,by first|exact b.o|go_grown⟩
     ·have e:R=false:=by rw[←h];apply decide_eq_false;omega
      subst e;have I:decide (j≤A)=false:=decide_eq_false h1;clear h h1;go_enter func144,ntmps144;go_wp2_with fail
      (go_at_call 145;refine mz (l.o _) fun r a=> ?_);obtain⟨k,-⟩:=br a;have b:=ar (ag (w:=w) (by first|assumption|go_grown) a);go_wp2;go_returns;exact⟨rfl,by first|exact b.o|go_grown⟩
    ·have e:R=false:=by rw[←h];apply decide_eq_false;omega
     subst e;have J:decide (y≤j)=false:=decide_eq_false h2;clear h h2;go_enter func144,ntmps144;go_wp2_with fail
     (go_at_call 145;refine mz (l.o _) fun r a=> ?_);obtain⟨k,-⟩:=br a;have b:=ar (ag (w:=w) (by first|assumption|go_grown) a);go_wp2;go_returns;exact⟨rfl,by first|exact b.o|go_grown⟩
   ·have e:R=false:=by rw[←h];apply decide_eq_false;omega
    subst e;have K:decide (i≤z)=false:=decide_eq_false h3;clear h h3;go_enter func144,ntmps144;go_wp2_with fail
    (go_at_call 145;refine mz (l.o _) fun r a=> ?_);obtain⟨k,-⟩:=br a;have b:=ar (ag (w:=w) (by first|assumption|go_grown) a);go_wp2;go_returns;exact⟨rfl,by first|exact b.o|go_grown⟩
  ·have e:R=false:=by rw[←h];apply decide_eq_false;omega
   subst e;have L:decide (x≤i)=false:=decide_eq_false h4;clear h h4;go_enter func144,ntmps144;go_wp2_with fail
   (go_at_call 145;refine mz (l.o _) fun r a=> ?_);obtain⟨k,-⟩:=br a;have b:=ar (ag (w:=w) (by first|assumption|go_grown) a);go_wp2;go_returns;exact⟨rfl,by first|exact b.o|go_grown⟩
 ·have H:(C==0)=false:=by simp[h0]
  rw[decide_eq_false h0,aI];go_enter func144,ntmps144;go_wp2_with fail
  (go_at_call 145;refine mz (l.o _) fun r a=> ?_);have b:=ar (ag (w:=w) (by first|assumption|go_grown) a);go_wp2;go_returns;exact⟨rfl,by first|exact b.o|go_grown⟩
theorem xR {x:Int} (h:x<0):fb x= -1:=by unfold fb;rw[if_pos h]
theorem xS {x:Int} (h:0<x):fb x=1:=by unfold fb;rw[if_neg (by omega),if_pos h]
theorem zE:fb 0=0:=by unfold fb;rfl
theorem Dg {x y:Int}:tk x y↔fb x*fb y<0:=by
 unfold tk;rcases Int.lt_trichotomy x 0 with h|h|h<;>rcases Int.lt_trichotomy y 0 with k|k|k
 all_goals (try subst h)<;>(try subst k)
 all_goals first|rw[xR h]|rw[xS h]|skip
 all_goals first|rw[xR k]|rw[xS k]|skip
 all_goals (try rw[zE])<;>omega
theorem Dh (x:Int):fb x= -1∨fb x=0∨fb x=1:=by unfold fb;split<;>(try split)<;>omega
theorem lL (x y:Int): -1≤fb x*fb y∧fb x*fb y≤1:=by
 rcases Dh x with h|h|h<;>rcases Dh y with k|k|k<;>rw[h,k]<;>omega
theorem mv {a b c d:Pt}:decide (ct a b c d)=(decide (dO a b c)||(decide (dO a b d)||(decide (dO c d a)||(decide (dO c d b)||(decide (fb (bQ a b c)*fb (bQ a b d)<0)&&decide (fb (bQ c d a)*fb (bQ c d b)<0)))))):=by
 have e:ct a b c d↔(dO a b c∨dO a b d∨dO c d a∨dO c d b∨(fb (bQ a b c)*fb (bQ a b d)<0∧fb (bQ c d a)*fb (bQ c d b)<0)):=by
  unfold ct;rw[Dg,Dg]
 have f:decide (ct a b c d)=decide (dO a b c∨dO a b d∨dO c d a∨dO c d b∨(fb (bQ a b c)*fb (bQ a b d)<0∧fb (bQ c d a)*fb (bQ c d b)<0)):=decide_eq_decide.2 e;rw[f];simp only[Bool.decide_or,Bool.decide_and]
theorem FE (n:Int) (w:World):Gv 352 #[n] (.bool false) w:=by
 go_enter func352,ntmps352;go_wp2;go_returns;exact⟨rfl,by go_grown⟩
theorem Di (n:Int) (w:World):Gv 306 #[n,()] (.int .i64 (fb n)) w:=by
 have d:=ar FE;rcases(by omega:n<0∨n=0∨0<n)with h|h|h
 ·have e:fb n= -1:=by unfold fb;first|rw[if_pos (by omega)]|rw[if_neg (by omega),if_pos (by omega)]|rw[if_neg (by omega),if_neg (by omega)]
  rw[e];clear e;go_enter func306,ntmps306;go_wp2_with fail
  (go_at_call 352;refine mz (d.o _ _) fun j a=> ?_);have f:=ar (ag (w:=w) (by first|assumption|go_grown) a);have g:=dx a;clear a;go_wp2_with fail
  (go_at_call 352;refine mz (d.o _ _) fun k b=> ?_);have c:=ar (ag (w:=w) (by first|assumption|go_grown) b);have i:=dx b;clear b;go_wp2;go_returns;exact⟨rfl,by first|exact c.o|go_grown⟩
 ·subst h;have e:fb 0=0:=by unfold fb;first|rw[if_pos (by omega)]|rw[if_neg (by omega),if_pos (by omega)]|rw[if_neg (by omega),if_neg (by omega)]
  rw[e];clear e;go_enter func306,ntmps306;go_wp2_with fail
  (go_at_call 352;refine mz (d.o _ _) fun j a=> ?_);have f:=ar (ag (w:=w) (by first|assumption|go_grown) a);have g:=dx a;clear a;go_wp2_with fail
  (go_at_call 352;refine mz (d.o _ _) fun k b=> ?_);have c:=ar (ag (w:=w) (by first|assumption|go_grown) b);have i:=dx b;clear b;go_wp2;go_returns;exact⟨rfl,by first|exact c.o|go_grown⟩
 ·have l:decide (n<0)=false:=df;have e:fb n=1:=by unfold fb;first|rw[if_pos (by omega)]|rw[if_neg (by omega),if_pos (by omega)]|rw[if_neg (by omega),if_neg (by omega)]
  rw[e];clear e;go_enter func306,ntmps306;go_wp2_with fail
  (go_at_call 352;refine mz (d.o _ _) fun j a=> ?_);have f:=ar (ag (w:=w) (by first|assumption|go_grown) a);have g:=dx a;clear a;go_wp2_with fail
  (go_at_call 352;refine mz (d.o _ _) fun k b=> ?_);have c:=ar (ag (w:=w) (by first|assumption|go_grown) b);have i:=dx b;clear b;go_wp2;go_returns;exact⟨rfl,by first|exact c.o|go_grown⟩
theorem mw (n:Int) (w:World):Gv 357 #[n] (.int .i64 (fb n)) w:=by
 have c:=ar Di;go_enter func357,ntmps357;go_wp2_with fail
 (go_at_call 306;refine mz (c.o _ _) fun e a=> ?_);have b:=ar (ag (w:=w) (by first|assumption|go_grown) a);have d:=dx a;clear a;go_wp2;go_returns;exact⟨rfl,by first|exact b.o|go_grown⟩
theorem tT (b c d b2 f g h i:Int) (w:World) (ha:Nr (b,c)) (p:Nr (d,b2)) (o:Nr (f,g)) (j:Nr (h,i)):Gv 317 #[.agg #[b,c],.agg #[d,b2],.agg #[f,g],.agg #[h,i]] (.bool (decide (ct (b,c) (d,b2) (f,g) (h,i)))) w:=by
 rw[mv];generalize b0:decide (dO (b,c) (d,b2) (f,g))=o0;have L:∀W,Gv 189 #[.agg #[b,c],.agg #[d,b2],.agg #[f,g]] (.bool o0) W:=fun W=>by rw[←b0];exact mu b c d b2 f g W ha p o
 clear b0;replace L:=ar L;generalize b5:decide (dO (b,c) (d,b2) (h,i))=o1;have N:∀W,Gv 189 #[.agg #[b,c],.agg #[d,b2],.agg #[h,i]] (.bool o1) W:=fun W=>by rw[←b5];exact mu b c d b2 h i W ha p j
 clear b5;replace N:=ar N;generalize b6:decide (dO (f,g) (h,i) (b,c))=o2;have O:∀W,Gv 189 #[.agg #[f,g],.agg #[h,i],.agg #[b,c]] (.bool o2) W:=fun W=>by rw[←b6];exact mu f g h i b c W o j ha
 clear b6;replace O:=ar O;generalize b8:decide (dO (f,g) (h,i) (d,b2))=o3;have P:∀W,Gv 189 #[.agg #[f,g],.agg #[h,i],.agg #[d,b2]] (.bool o3) W:=fun W=>by rw[←b8];exact mu f g h i d b2 W o j p
 clear b8;replace P:=ar P;have m1:=lL (bQ (b,c) (d,b2) (f,g)) (bQ (b,c) (d,b2) (h,i));have m2:=lL (bQ (f,g) (h,i) (b,c)) (bQ (f,g) (h,i) (d,b2));obtain⟨t0,z⟩:=oE (bQ (b,c) (d,b2) (f,g));have X:∀W,Gv 190 #[.agg #[b,c],.agg #[d,b2],.agg #[f,g]] (.int .i64 t0) W:=fun W=>by rw[←z];exact iR b c d b2 f g W ha p o
 rw[z];rw[z]at m1;clear z;replace X:=ar X;obtain⟨s0,y⟩:=oE (fb t0);have Q:∀W,Gv 357 #[t0] (.int .i64 s0) W:=fun W=>by rw[←y];exact mw t0 W
 rw[y];rw[y]at m1;clear y;replace Q:=ar Q;obtain⟨t1,A⟩:=oE (bQ (b,c) (d,b2) (h,i));have Y:∀W,Gv 190 #[.agg #[b,c],.agg #[d,b2],.agg #[h,i]] (.int .i64 t1) W:=fun W=>by rw[←A];exact iR b c d b2 h i W ha p j
 rw[A];rw[A]at m1;clear A;replace Y:=ar Y;obtain⟨s1,r⟩:=oE (fb t1);have R:∀W,Gv 357 #[t1] (.int .i64 s1) W:=fun W=>by rw[←r];exact mw t1 W
 rw[r];rw[r]at m1;clear r;replace R:=ar R;obtain⟨t2,B⟩:=oE (bQ (f,g) (h,i) (b,c));have Z:∀W,Gv 190 #[.agg #[f,g],.agg #[h,i],.agg #[b,c]] (.int .i64 t2) W:=fun W=>by rw[←B];exact iR f g h i b c W o j ha
 rw[B];rw[B]at m2;clear B;replace Z:=ar Z;obtain⟨s2,s⟩:=oE (fb t2);have T:∀W,Gv 357 #[t2] (.int .i64 s2) W:=fun W=>by rw[←s];exact mw t2 W
 rw[s];rw[s]at m2;clear s;replace T:=ar T;obtain⟨t3,C⟩:=oE (bQ (f,g) (h,i) (d,b2));have a0:∀W,Gv 190 #[.agg #[f,g],.agg #[h,i],.agg #[d,b2]] (.int .i64 t3) W:=fun W=>by rw[←C];exact iR f g h i d b2 W o j p
 rw[C];rw[C]at m2;clear C;replace a0:=ar a0;obtain⟨s3,t⟩:=oE (fb t3);have U:∀W,Gv 357 #[t3] (.int .i64 s3) W:=fun W=>by rw[←t];exact mw t3 W
 rw[t];rw[t]at m2;clear t;replace U:=ar U;clear ha p o j;obtain⟨p1,v⟩:=oE (s0*s1);obtain⟨p2,x⟩:=oE (s2*s3);rw[v]at m1;rw[x]at m2;have h4:IntKind.i64.wrap (s0*s1)=p1:=by rw[v];exact iw
 have h5:IntKind.i64.wrap (s2*s3)=p2:=by rw[x];exact iw
 rw[v,x];clear v x m1 m2;generalize g3:decide (p1<0)=n1;go_enter func317,ntmps317;go_wp2_with fail
 (go_at_call 189;refine mz (L.o _) fun q a=> ?_);have a3:=ar (ag (w:=w) (by first|assumption|go_grown) a);have r:=dx a;have K0:q.heap[w.heap.size]?=some (.cells #[b,c] 43):=kf a;obtain⟨c8,d9,-,e8⟩:=al K0;have a6:=ar K0;clear K0;have K1:q.heap[w.heap.size+1]?=some (.cells #[d,b2] 43):=kf a;obtain⟨d0,e1,-,f1⟩:=al K1;have a7:=ar K1;clear K1;have K2:q.heap[w.heap.size+1+1]?=some (.cells #[f,g] 43):=kf a;obtain⟨-,-,-,f4⟩:=al K2;have a8:=ar K2;clear K2;have K3:q.heap[w.heap.size+1+1+1]?=some (.cells #[h,i] 43):=kf a;obtain⟨d6,e5,-,f7⟩:=al K3;have a9:=ar K3;clear K3;clear a;cases o0 with
 |true=>
  go_wp2;go_returns;exact⟨by first|rfl|(cases o1<;>cases o2<;>cases o3<;>rfl),by first|exact a3.o|go_grown⟩
 |false=>
  go_wp2_with fail
  (go_at_call 189;refine mz (N.o _) fun w2 l=> ?_);have a4:=ar (ag (w:=w) (by first|assumption|go_grown) l);have s:=dx l;have D:=ar (kz l a6);obtain⟨c9,e0,-,e9⟩:=al D.o;have F:=ar (kz l a7);obtain⟨-,-,-,f2⟩:=al F.o;have H:=ar (kz l a8);obtain⟨d4,e3,-,f5⟩:=al H.o;have J:=ar (kz l a9);obtain⟨d7,e6,-,f8⟩:=al J.o;clear c8 d9 e8 d0 e1 f1 f4 d6 e5 f7 a3;clear l;cases o1 with
  |true=>
   go_wp2;go_returns;exact⟨by first|rfl|(cases o2<;>cases o3<;>rfl),by first|exact a4.o|go_grown⟩
  |false=>
   go_wp2_with fail
   (go_at_call 189;refine mz (O.o _) fun w3 m=> ?_);have a5:=ar (ag (w:=w) (by first|assumption|go_grown) m);have t:=dx m;have E:=ar (kz m D);obtain⟨-,-,-,f0⟩:=al E.o;have G:=ar (kz m F);obtain⟨d3,e2,-,f3⟩:=al G.o;have I:=ar (kz m H);obtain⟨d5,e4,-,f6⟩:=al I.o;have K:=ar (kz m J);obtain⟨d8,e7,-,f9⟩:=al K.o;clear c9 e0 e9 f2 d4 e3 f5 d7 e6 f8 a4;clear m;cases o2 with
   |true=>
    go_wp2;go_returns;exact⟨by first|rfl|(cases o3<;>rfl),by first|exact a5.o|go_grown⟩
   |false=>
    go_wp2_with fail
    (go_at_call 189;refine mz (P.o _) fun w4 n=> ?_);have c0:=ar (ag (w:=w) (by first|assumption|go_grown) n);have g4:=dx n;have K0:w4.heap[w.heap.size]?=some (.cells #[b,c] 43):=(n.block (w.heap.size) (by first|omega|(simp;done)|(simp<;>omega))).trans E.o;obtain⟨g6,h0,-,h6⟩:=al K0;clear K0;have K1:w4.heap[w.heap.size+1]?=some (.cells #[d,b2] 43):=(n.block (w.heap.size+1) (by first|omega|(simp;done)|(simp<;>omega))).trans G.o;obtain⟨g7,h1,-,h7⟩:=al K1;clear K1;have K2:w4.heap[w.heap.size+1+1]?=some (.cells #[f,g] 43):=(n.block (w.heap.size+1+1) (by first|omega|(simp;done)|(simp<;>omega))).trans I.o;obtain⟨g8,h2,-,h8⟩:=al K2;clear K2;have K3:w4.heap[w.heap.size+1+1+1]?=some (.cells #[h,i] 43):=(n.block (w.heap.size+1+1+1) (by first|omega|(simp;done)|(simp<;>omega))).trans K.o;obtain⟨g9,h3,-,h9⟩:=al K3;clear K3;clear f0 d3 e2 f3 d5 e4 f6 d8 e7 f9 a5;clear n;cases o3 with
    |true=>
     go_wp2;go_returns;exact⟨by first|rfl,by first|exact c0.o|go_grown⟩
    |false=>
     cases n1
     all_goals
      go_wp2_with fail
      refine aD 27 ?_;simp only[ac,aj,aK,aC,aa,ae,af];iterate 3 refine bJ ?_
      apply bg
      ·intro u wx hz o hf k j;simp[aU,ai,aR,ay.is,ay.any]at j;go_simp
       first|rfl|(go_at_call 190;refine(X.o _).mono ?_;rintro e q ⟨rfl,a⟩;first|exact⟨rfl,a⟩|exact⟨_,rfl,a,rfl⟩)
      apply bg
      ·intro u wx hz o hf k j;simp[aU,ai,aR,ay.is,ay.any]at j;go_simp
       first|rfl|(go_at_call 357;refine(Q.o _).mono ?_;rintro e q ⟨rfl,a⟩;first|exact⟨rfl,a⟩|exact⟨_,rfl,a,rfl⟩)
      iterate 3 refine bJ ?_
      apply bg
      ·intro u wx hz o hf k j;simp[aU,ai,aR,ay.is,ay.any]at j;go_simp
       first|rfl|(go_at_call 190;refine(Y.o _).mono ?_;rintro e q ⟨rfl,a⟩;first|exact⟨rfl,a⟩|exact⟨_,rfl,a,rfl⟩)
      apply bg
      ·intro u wx hz o hf k j;simp[aU,ai,aR,ay.is,ay.any]at j;go_simp
       first|rfl|(go_at_call 357;refine(R.o _).mono ?_;rintro e q ⟨rfl,a⟩;first|exact⟨rfl,a⟩|exact⟨_,rfl,a,rfl⟩)
      iterate 6 refine bJ ?_
      apply bg
      ·intro u wx hz o hf k j;simp[aU,ai,aR,ay.is,ay.any]at j;go_simp
       first|rfl|(go_at_call 190;refine(Z.o _).mono ?_;rintro e q ⟨rfl,a⟩;first|exact⟨rfl,a⟩|exact⟨_,rfl,a,rfl⟩)
      apply bg
      ·intro u wx hz o hf k j;simp[aU,ai,aR,ay.is,ay.any]at j;go_simp
       first|rfl|(go_at_call 357;refine(T.o _).mono ?_;rintro e q ⟨rfl,a⟩;first|exact⟨rfl,a⟩|exact⟨_,rfl,a,rfl⟩)
      iterate 3 refine bJ ?_
      apply bg
      ·intro u wx hz o hf k j;simp[aU,ai,aR,ay.is,ay.any]at j;go_simp
       first|rfl|(go_at_call 190;refine(a0.o _).mono ?_;rintro e q ⟨rfl,a⟩;first|exact⟨rfl,a⟩|exact⟨_,rfl,a,rfl⟩)
      apply bg
      ·intro u wx hz o hf k j;simp[aU,ai,aR,ay.is,ay.any]at j;go_simp
       first|rfl|(go_at_call 357;refine(U.o _).mono ?_;rintro e q ⟨rfl,a⟩;first|exact⟨rfl,a⟩|exact⟨_,rfl,a,rfl⟩)
      iterate 4 refine bJ ?_
      intro u w5 p hE;simp only[cF,aR,ay.is,aE,aA,reduceIte]at hE;simp only[am,ax,ac,aj,aK,aC,aa,ae,af,hE];clear hE;have c3:=ar p;have g5:=ag (w:=w) (by first|assumption|go_grown) p;have b9:=dx p;have c4:w.heap.size<w5.heap.size:=by omega
      have c5:w.heap.size+1<w5.heap.size:=by omega
      have c6:w.heap.size+1+1<w5.heap.size:=by omega
      have c7:w.heap.size+1+1+1<w5.heap.size:=by omega
      have g0:=ar p.block;obtain⟨g1,g2⟩:=br p;clear p b9;go_wp2;go_returns;exact⟨rfl,by first|assumption|go_grown⟩
theorem xT (b c d b2 f g h i:Int) (w:World) (ha:Nr (b,c)) (p:Nr (d,b2)) (o:Nr (f,g)) (j:Nr (h,i)):Gv 143 #[.agg #[b,c],.agg #[d,b2],.agg #[f,g],.agg #[h,i]] (.bool (decide (ct (b,c) (d,b2) (f,g) (h,i)))) w:=by
 rw[mv];generalize b0:decide (dO (b,c) (d,b2) (f,g))=o0;have L:∀W,Gv 112 #[.agg #[f,g],.agg #[b,c],.agg #[d,b2]] (.bool o0) W:=fun W=>by rw[←b0];exact iS b c d b2 f g W ha p o
 clear b0;replace L:=ar L;generalize b5:decide (dO (b,c) (d,b2) (h,i))=o1;have N:∀W,Gv 112 #[.agg #[h,i],.agg #[b,c],.agg #[d,b2]] (.bool o1) W:=fun W=>by rw[←b5];exact iS b c d b2 h i W ha p j
 clear b5;replace N:=ar N;generalize b6:decide (dO (f,g) (h,i) (b,c))=o2;have O:∀W,Gv 112 #[.agg #[b,c],.agg #[f,g],.agg #[h,i]] (.bool o2) W:=fun W=>by rw[←b6];exact iS f g h i b c W o j ha
 clear b6;replace O:=ar O;generalize b8:decide (dO (f,g) (h,i) (d,b2))=o3;have P:∀W,Gv 112 #[.agg #[d,b2],.agg #[f,g],.agg #[h,i]] (.bool o3) W:=fun W=>by rw[←b8];exact iS f g h i d b2 W o j p
 clear b8;replace P:=ar P;have m1:=lL (bQ (b,c) (d,b2) (f,g)) (bQ (b,c) (d,b2) (h,i));have m2:=lL (bQ (f,g) (h,i) (b,c)) (bQ (f,g) (h,i) (d,b2));obtain⟨t0,z⟩:=oE (bQ (b,c) (d,b2) (f,g));have X:∀W,Gv 113 #[.agg #[b,c],.agg #[d,b2],.agg #[f,g]] (.int .i64 t0) W:=fun W=>by rw[←z];exact iE b c d b2 f g W ha p o
 rw[z];rw[z]at m1;clear z;replace X:=ar X;obtain⟨s0,y⟩:=oE (fb t0);have Q:∀W,Gv 191 #[t0] (.int .i64 s0) W:=fun W=>by rw[←y];exact kW t0 W
 rw[y];rw[y]at m1;clear y;replace Q:=ar Q;obtain⟨t1,A⟩:=oE (bQ (b,c) (d,b2) (h,i));have Y:∀W,Gv 113 #[.agg #[b,c],.agg #[d,b2],.agg #[h,i]] (.int .i64 t1) W:=fun W=>by rw[←A];exact iE b c d b2 h i W ha p j
 rw[A];rw[A]at m1;clear A;replace Y:=ar Y;obtain⟨s1,r⟩:=oE (fb t1);have R:∀W,Gv 191 #[t1] (.int .i64 s1) W:=fun W=>by rw[←r];exact kW t1 W
 rw[r];rw[r]at m1;clear r;replace R:=ar R;obtain⟨t2,B⟩:=oE (bQ (f,g) (h,i) (b,c));have Z:∀W,Gv 113 #[.agg #[f,g],.agg #[h,i],.agg #[b,c]] (.int .i64 t2) W:=fun W=>by rw[←B];exact iE f g h i b c W o j ha
 rw[B];rw[B]at m2;clear B;replace Z:=ar Z;obtain⟨s2,s⟩:=oE (fb t2);have T:∀W,Gv 191 #[t2] (.int .i64 s2) W:=fun W=>by rw[←s];exact kW t2 W
 rw[s];rw[s]at m2;clear s;replace T:=ar T;obtain⟨t3,C⟩:=oE (bQ (f,g) (h,i) (d,b2));have a0:∀W,Gv 113 #[.agg #[f,g],.agg #[h,i],.agg #[d,b2]] (.int .i64 t3) W:=fun W=>by rw[←C];exact iE f g h i d b2 W o j p
 rw[C];rw[C]at m2;clear C;replace a0:=ar a0;obtain⟨s3,t⟩:=oE (fb t3);have U:∀W,Gv 191 #[t3] (.int .i64 s3) W:=fun W=>by rw[←t];exact kW t3 W
 rw[t];rw[t]at m2;clear t;replace U:=ar U;clear ha p o j;obtain⟨p1,v⟩:=oE (s0*s1);obtain⟨p2,x⟩:=oE (s2*s3);rw[v]at m1;rw[x]at m2;have h4:IntKind.i64.wrap (s0*s1)=p1:=by rw[v];exact iw
 have h5:IntKind.i64.wrap (s2*s3)=p2:=by rw[x];exact iw
 rw[v,x];clear v x m1 m2;generalize g3:decide (p1<0)=n1;go_enter func143,ntmps143;go_wp2_with fail
 (go_at_call 112;refine mz (O.o _) fun q a=> ?_);have a3:=ar (ag (w:=w) (by first|assumption|go_grown) a);have r:=dx a;have K0:q.heap[w.heap.size]?=some (.cells #[b,c] 43):=kf a;obtain⟨-,-,-,e8⟩:=al K0;have a6:=ar K0;clear K0;have K1:q.heap[w.heap.size+1]?=some (.cells #[d,b2] 43):=kf a;obtain⟨d0,e1,-,f1⟩:=al K1;have a7:=ar K1;clear K1;have K2:q.heap[w.heap.size+1+1]?=some (.cells #[f,g] 43):=kf a;obtain⟨d5,e4,-,f4⟩:=al K2;have a8:=ar K2;clear K2;have K3:q.heap[w.heap.size+1+1+1]?=some (.cells #[h,i] 43):=kf a;obtain⟨d7,e6,-,f7⟩:=al K3;have a9:=ar K3;clear K3;clear a;cases o2 with
 |true=>
  go_wp2;go_returns;exact⟨by first|rfl|(cases o3<;>cases o0<;>cases o1<;>rfl),by first|exact a3.o|go_grown⟩
 |false=>
  go_wp2_with fail
  (go_at_call 112;refine mz (P.o _) fun w2 l=> ?_);have a4:=ar (ag (w:=w) (by first|assumption|go_grown) l);have s:=dx l;have D:=ar (kz l a6);obtain⟨c8,d9,-,e9⟩:=al D.o;have F:=ar (kz l a7);obtain⟨d3,e2,-,f2⟩:=al F.o;have H:=ar (kz l a8);obtain⟨d6,e5,-,f5⟩:=al H.o;have J:=ar (kz l a9);obtain⟨-,-,-,f8⟩:=al J.o;clear e8 d0 e1 f1 d5 e4 f4 d7 e6 f7 a3;clear l;cases o3 with
  |true=>
   go_wp2;go_returns;exact⟨by first|rfl|(cases o0<;>cases o1<;>rfl),by first|exact a4.o|go_grown⟩
  |false=>
   go_wp2_with fail
   (go_at_call 112;refine mz (L.o _) fun w3 m=> ?_);have a5:=ar (ag (w:=w) (by first|assumption|go_grown) m);have t:=dx m;have E:=ar (kz m D);obtain⟨c9,e0,-,f0⟩:=al E.o;have G:=ar (kz m F);obtain⟨d4,e3,-,f3⟩:=al G.o;have I:=ar (kz m H);obtain⟨-,-,-,f6⟩:=al I.o;have K:=ar (kz m J);obtain⟨d8,e7,-,f9⟩:=al K.o;clear c8 d9 e9 d3 e2 f2 d6 e5 f5 f8 a4;clear m;cases o0 with
   |true=>
    go_wp2;go_returns;exact⟨by first|rfl|(cases o1<;>rfl),by first|exact a5.o|go_grown⟩
   |false=>
    go_wp2_with fail
    (go_at_call 112;refine mz (N.o _) fun w4 n=> ?_);have c0:=ar (ag (w:=w) (by first|assumption|go_grown) n);have g4:=dx n;have K0:w4.heap[w.heap.size]?=some (.cells #[b,c] 43):=(n.block (w.heap.size) (by first|omega|(simp;done)|(simp<;>omega))).trans E.o;obtain⟨g6,h0,-,h6⟩:=al K0;clear K0;have K1:w4.heap[w.heap.size+1]?=some (.cells #[d,b2] 43):=(n.block (w.heap.size+1) (by first|omega|(simp;done)|(simp<;>omega))).trans G.o;obtain⟨g7,h1,-,h7⟩:=al K1;clear K1;have K2:w4.heap[w.heap.size+1+1]?=some (.cells #[f,g] 43):=(n.block (w.heap.size+1+1) (by first|omega|(simp;done)|(simp<;>omega))).trans I.o;obtain⟨g8,h2,-,h8⟩:=al K2;clear K2;have K3:w4.heap[w.heap.size+1+1+1]?=some (.cells #[h,i] 43):=(n.block (w.heap.size+1+1+1) (by first|omega|(simp;done)|(simp<;>omega))).trans K.o;obtain⟨g9,h3,-,h9⟩:=al K3;clear K3;clear c9 e0 f0 d4 e3 f3 f6 d8 e7 f9 a5;clear n;cases o1 with
    |true=>
     go_wp2;go_returns;exact⟨by first|rfl,by first|exact c0.o|go_grown⟩
    |false=>
     cases n1
     all_goals
      go_wp2_with fail
      refine aD 27 ?_;simp only[ac,aj,aK,aC,aa,ae,af];iterate 3 refine bJ ?_
      apply bg
      ·intro u wx hz o hf k j;simp[aU,ai,aR,ay.is,ay.any]at j;go_simp
       first|rfl|(go_at_call 113;refine(X.o _).mono ?_;rintro e q ⟨rfl,a⟩;first|exact⟨rfl,a⟩|exact⟨_,rfl,a,rfl⟩)
      apply bg
      ·intro u wx hz o hf k j;simp[aU,ai,aR,ay.is,ay.any]at j;go_simp
       first|rfl|(go_at_call 191;refine(Q.o _).mono ?_;rintro e q ⟨rfl,a⟩;first|exact⟨rfl,a⟩|exact⟨_,rfl,a,rfl⟩)
      iterate 3 refine bJ ?_
      apply bg
      ·intro u wx hz o hf k j;simp[aU,ai,aR,ay.is,ay.any]at j;go_simp
       first|rfl|(go_at_call 113;refine(Y.o _).mono ?_;rintro e q ⟨rfl,a⟩;first|exact⟨rfl,a⟩|exact⟨_,rfl,a,rfl⟩)
      apply bg
      ·intro u wx hz o hf k j;simp[aU,ai,aR,ay.is,ay.any]at j;go_simp
       first|rfl|(go_at_call 191;refine(R.o _).mono ?_;rintro e q ⟨rfl,a⟩;first|exact⟨rfl,a⟩|exact⟨_,rfl,a,rfl⟩)
      iterate 6 refine bJ ?_
      apply bg
      ·intro u wx hz o hf k j;simp[aU,ai,aR,ay.is,ay.any]at j;go_simp
       first|rfl|(go_at_call 113;refine(Z.o _).mono ?_;rintro e q ⟨rfl,a⟩;first|exact⟨rfl,a⟩|exact⟨_,rfl,a,rfl⟩)
      apply bg
      ·intro u wx hz o hf k j;simp[aU,ai,aR,ay.is,ay.any]at j;go_simp
       first|rfl|(go_at_call 191;refine(T.o _).mono ?_;rintro e q ⟨rfl,a⟩;first|exact⟨rfl,a⟩|exact⟨_,rfl,a,rfl⟩)
      iterate 3 refine bJ ?_
      apply bg
      ·intro u wx hz o hf k j;simp[aU,ai,aR,ay.is,ay.any]at j;go_simp
       first|rfl|(go_at_call 113;refine(a0.o _).mono ?_;rintro e q ⟨rfl,a⟩;first|exact⟨rfl,a⟩|exact⟨_,rfl,a,rfl⟩)
      apply bg
      ·intro u wx hz o hf k j;simp[aU,ai,aR,ay.is,ay.any]at j;go_simp
       first|rfl|(go_at_call 191;refine(U.o _).mono ?_;rintro e q ⟨rfl,a⟩;first|exact⟨rfl,a⟩|exact⟨_,rfl,a,rfl⟩)
      iterate 4 refine bJ ?_
      intro u w5 p hE;simp only[cF,aR,ay.is,aE,aA,reduceIte]at hE;simp only[am,ax,ac,aj,aK,aC,aa,ae,af,hE];clear hE;have c3:=ar p;have g5:=ag (w:=w) (by first|assumption|go_grown) p;have b9:=dx p;have c4:w.heap.size<w5.heap.size:=by omega
      have c5:w.heap.size+1<w5.heap.size:=by omega
      have c6:w.heap.size+1+1<w5.heap.size:=by omega
      have c7:w.heap.size+1+1+1<w5.heap.size:=by omega
      have g0:=ar p.block;obtain⟨g1,g2⟩:=br p;clear p b9;go_wp2;go_returns;exact⟨rfl,by first|assumption|go_grown⟩
theorem xU (b c d b2 f g h i:Int) (w:World) (Q:Nr (b,c)) (n:Nr (d,b2)) (o:Nr (f,g)) (m:Nr (h,i)):Gv 110 #[.agg #[b,c],.agg #[d,b2],.agg #[f,g],.agg #[h,i]] (.bool (decide (ct (b,c) (d,b2) (f,g) (h,i)))) w:=by
 rw[mv];generalize a7:decide (dO (b,c) (d,b2) (f,g))=o0;have H:∀W,Gv 144 #[.agg #[b,c],.agg #[d,b2],.agg #[f,g]] (.bool o0) W:=fun W=>by rw[←a7];exact oF b c d b2 f g W Q n o
 clear a7;replace H:=ar H;generalize a8:decide (dO (b,c) (d,b2) (h,i))=o1;have I:∀W,Gv 144 #[.agg #[b,c],.agg #[d,b2],.agg #[h,i]] (.bool o1) W:=fun W=>by rw[←a8];exact oF b c d b2 h i W Q n m
 clear a8;replace I:=ar I;generalize a9:decide (dO (f,g) (h,i) (b,c))=o2;have J:∀W,Gv 144 #[.agg #[f,g],.agg #[h,i],.agg #[b,c]] (.bool o2) W:=fun W=>by rw[←a9];exact oF f g h i b c W o m Q
 clear a9;replace J:=ar J;generalize b0:decide (dO (f,g) (h,i) (d,b2))=o3;have K:∀W,Gv 144 #[.agg #[f,g],.agg #[h,i],.agg #[d,b2]] (.bool o3) W:=fun W=>by rw[←b0];exact oF f g h i d b2 W o m n
 clear b0;replace K:=ar K;have m1:=lL (bQ (b,c) (d,b2) (f,g)) (bQ (b,c) (d,b2) (h,i));have m2:=lL (bQ (f,g) (h,i) (b,c)) (bQ (f,g) (h,i) (d,b2));obtain⟨s0,v⟩:=oE (fb (bQ (b,c) (d,b2) (f,g)));have L:∀W,Gv 145 #[.agg #[b,c],.agg #[d,b2],.agg #[f,g]] (.int .i64 s0) W:=fun W=>by rw[←v];exact jy b c d b2 f g W Q n o
 rw[v];rw[v]at m1;clear v;replace L:=ar L;obtain⟨s1,p⟩:=oE (fb (bQ (b,c) (d,b2) (h,i)));have N:∀W,Gv 145 #[.agg #[b,c],.agg #[d,b2],.agg #[h,i]] (.int .i64 s1) W:=fun W=>by rw[←p];exact jy b c d b2 h i W Q n m
 rw[p];rw[p]at m1;clear p;replace N:=ar N;obtain⟨s2,q⟩:=oE (fb (bQ (f,g) (h,i) (b,c)));have O:∀W,Gv 145 #[.agg #[f,g],.agg #[h,i],.agg #[b,c]] (.int .i64 s2) W:=fun W=>by rw[←q];exact jy f g h i b c W o m Q
 rw[q];rw[q]at m2;clear q;replace O:=ar O;obtain⟨s3,r⟩:=oE (fb (bQ (f,g) (h,i) (d,b2)));have P:∀W,Gv 145 #[.agg #[f,g],.agg #[h,i],.agg #[d,b2]] (.int .i64 s3) W:=fun W=>by rw[←r];exact jy f g h i d b2 W o m n
 rw[r];rw[r]at m2;clear r;replace P:=ar P;clear Q n o m;obtain⟨p1,s⟩:=oE (s0*s1);obtain⟨p2,t⟩:=oE (s2*s3);rw[s]at m1;rw[t]at m2;have g7:IntKind.i64.wrap (s0*s1)=p1:=by rw[s];exact iw
 have g8:IntKind.i64.wrap (s2*s3)=p2:=by rw[t];exact iw
 rw[s,t];clear s t m1 m2;generalize f6:decide (p1<0)=n1;go_enter func110,ntmps110;go_wp2_with fail
 (go_at_call 144;refine mz (H.o _) fun F a=> ?_);have Y:=ar (ag (w:=w) (by first|assumption|go_grown) a);have p:=dx a;have R:F.heap[w.heap.size]?=some (.cells #[b,c] 43):=kf a;obtain⟨b8,c9,-,e0⟩:=al R;have a3:=ar R;clear R;have T:F.heap[w.heap.size+1]?=some (.cells #[d,b2] 43):=kf a;obtain⟨c0,d3,-,e3⟩:=al T;have a4:=ar T;clear T;have U:F.heap[w.heap.size+1+1]?=some (.cells #[f,g] 43):=kf a;obtain⟨-,-,-,e6⟩:=al U;have a5:=ar U;clear U;have X:F.heap[w.heap.size+1+1+1]?=some (.cells #[h,i] 43):=kf a;obtain⟨c6,d7,-,e9⟩:=al X;have a6:=ar X;clear X;clear a;cases o0 with
 |true=>
  go_wp2;go_returns;exact⟨by first|rfl|(cases o1<;>cases o2<;>cases o3<;>rfl),by first|exact Y.o|go_grown⟩
 |false=>
  go_wp2_with fail
  (go_at_call 144;refine mz (I.o _) fun w2 j=> ?_);have Z:=ar (ag (w:=w) (by first|assumption|go_grown) j);have q:=dx j;have x:=ar (kz j a3);obtain⟨b9,d0,-,e1⟩:=al x.o;have z:=ar (kz j a4);obtain⟨-,-,-,e4⟩:=al z.o;have B:=ar (kz j a5);obtain⟨c4,d5,-,e7⟩:=al B.o;have D:=ar (kz j a6);obtain⟨c7,d8,-,f0⟩:=al D.o;clear b8 c9 e0 c0 d3 e3 e6 c6 d7 e9 Y;clear j;cases o1 with
  |true=>
   go_wp2;go_returns;exact⟨by first|rfl|(cases o2<;>cases o3<;>rfl),by first|exact Z.o|go_grown⟩
  |false=>
   go_wp2_with fail
   (go_at_call 144;refine mz (J.o _) fun w3 k=> ?_);have a0:=ar (ag (w:=w) (by first|assumption|go_grown) k);have r:=dx k;have y:=ar (kz k x);obtain⟨-,-,-,e2⟩:=al y.o;have A:=ar (kz k z);obtain⟨c3,d4,-,e5⟩:=al A.o;have C:=ar (kz k B);obtain⟨c5,d6,-,e8⟩:=al C.o;have E:=ar (kz k D);obtain⟨c8,d9,-,f1⟩:=al E.o;clear b9 d0 e1 e4 c4 d5 e7 c7 d8 f0 Z;clear k;cases o2 with
   |true=>
    go_wp2;go_returns;exact⟨by first|rfl|(cases o3<;>rfl),by first|exact a0.o|go_grown⟩
   |false=>
    go_wp2_with fail
    (go_at_call 144;refine mz (K.o _) fun w4 l=> ?_);have b5:=ar (ag (w:=w) (by first|assumption|go_grown) l);have f7:=dx l;have R:w4.heap[w.heap.size]?=some (.cells #[b,c] 43):=(l.block (w.heap.size) (by first|omega|(simp;done)|(simp<;>omega))).trans y.o;obtain⟨f9,g3,-,g9⟩:=al R;clear R;have T:w4.heap[w.heap.size+1]?=some (.cells #[d,b2] 43):=(l.block (w.heap.size+1) (by first|omega|(simp;done)|(simp<;>omega))).trans A.o;obtain⟨g0,g4,-,h0⟩:=al T;clear T;have U:w4.heap[w.heap.size+1+1]?=some (.cells #[f,g] 43):=(l.block (w.heap.size+1+1) (by first|omega|(simp;done)|(simp<;>omega))).trans C.o;obtain⟨g1,g5,-,h1⟩:=al U;clear U;have X:w4.heap[w.heap.size+1+1+1]?=some (.cells #[h,i] 43):=(l.block (w.heap.size+1+1+1) (by first|omega|(simp;done)|(simp<;>omega))).trans E.o;obtain⟨g2,g6,-,h2⟩:=al X;clear X;clear e2 c3 d4 e5 c5 d6 e8 c8 d9 f1 a0;clear l;cases o3 with
    |true=>
     go_wp2;go_returns;exact⟨by first|rfl,by first|exact b5.o|go_grown⟩
    |false=>
     cases n1
     all_goals
      go_wp2_with fail
      refine aD 23 ?_;simp only[ac,aj,aK,aC,aa,ae,af];iterate 3 refine bJ ?_
      apply bg
      ·intro u wx hz o hf G m;simp[aU,ai,aR,ay.is,ay.any]at m;go_simp
       first|rfl|(go_at_call 145;refine(L.o _).mono ?_;rintro e F ⟨rfl,a⟩;first|exact⟨rfl,a⟩|exact⟨_,rfl,a,rfl⟩)
      iterate 3 refine bJ ?_
      apply bg
      ·intro u wx hz o hf G m;simp[aU,ai,aR,ay.is,ay.any]at m;go_simp
       first|rfl|(go_at_call 145;refine(N.o _).mono ?_;rintro e F ⟨rfl,a⟩;first|exact⟨rfl,a⟩|exact⟨_,rfl,a,rfl⟩)
      iterate 6 refine bJ ?_
      apply bg
      ·intro u wx hz o hf G m;simp[aU,ai,aR,ay.is,ay.any]at m;go_simp
       first|rfl|(go_at_call 145;refine(O.o _).mono ?_;rintro e F ⟨rfl,a⟩;first|exact⟨rfl,a⟩|exact⟨_,rfl,a,rfl⟩)
      iterate 3 refine bJ ?_
      apply bg
      ·intro u wx hz o hf G m;simp[aU,ai,aR,ay.is,ay.any]at m;go_simp
       first|rfl|(go_at_call 145;refine(P.o _).mono ?_;rintro e F ⟨rfl,a⟩;first|exact⟨rfl,a⟩|exact⟨_,rfl,a,rfl⟩)
      iterate 4 refine bJ ?_
      intro u w5 n hE;simp only[cF,aR,ay.is,aE,aA,reduceIte]at hE;simp only[am,ax,ac,aj,aK,aC,aa,ae,af,hE];clear hE;have f8:=ag (w:=w) (by first|assumption|go_grown) n;obtain⟨f5,f4,f2,f3,b6⟩:=pr n;clear n;go_wp2;go_returns;exact⟨rfl,by first|assumption|go_grown⟩
theorem wo {x:Int}:x=0↔fb x=0:=by
 rcases Int.lt_trichotomy x 0 with h|h|h
 ·rw[xR h];omega
 ·subst h;rw[zE]
 ·rw[xS h];omega
theorem AQ {a b c d:Pt}:decide (ct a b c d)=((decide (fb (bQ a b c)*fb (bQ a b d)<0)&&decide (fb (bQ c d a)*fb (bQ c d b)<0))||((fb (bQ a b c)==0&&iZ a b c)||((fb (bQ a b d)==0&&iZ a b d)||((fb (bQ c d a)==0&&iZ c d a)||(fb (bQ c d b)==0&&iZ c d b))))):=by
 have z:∀x:Int,decide (x=0)=(fb x==0):=fun x=>by
  have e:= @wo x;have f:decide (x=0)=decide (fb x=0):=decide_eq_decide.2 e;rw[f];by_cases h:fb x=0<;>simp[h]
 rw[mv];simp only[qO,z];generalize (fb (bQ a b c)==0&&iZ a b c)=x0;generalize (fb (bQ a b d)==0&&iZ a b d)=x1;generalize (fb (bQ c d a)==0&&iZ c d a)=x2;generalize (fb (bQ c d b)==0&&iZ c d b)=x3;generalize (decide (fb (bQ a b c)*fb (bQ a b d)<0)&&decide (fb (bQ c d a)*fb (bQ c d b)<0))=x4;cases x0<;>cases x1<;>cases x2<;>cases x3<;>cases x4<;>rfl
theorem AS (y z A b2 B C D E:Int) (w:World) (ha:Nr (y,z)) (hb:Nr (A,b2)) (hc:Nr (B,C)) (Q:Nr (D,E)):Gv 187 #[.agg #[y,z],.agg #[A,b2],.agg #[B,C],.agg #[D,E]] (.bool (decide (ct (y,z) (A,b2) (B,C) (D,E)))) w:=by
 rw[AQ];generalize j4:iZ (y,z) (A,b2) (B,C)=o0;have h5:∀W,Gv 320 #[.agg #[y,z],.agg #[A,b2],.agg #[B,C]] (.bool o0) W:=fun W=>by rw[←j4];exact qP y z A b2 B C W
 clear j4;replace h5:=ar h5;generalize j5:iZ (y,z) (A,b2) (D,E)=o1;have e0:∀W,Gv 320 #[.agg #[y,z],.agg #[A,b2],.agg #[D,E]] (.bool o1) W:=fun W=>by rw[←j5];exact qP y z A b2 D E W
 clear j5;replace e0:=ar e0;generalize j6:iZ (B,C) (D,E) (y,z)=o2;have d8:∀W,Gv 320 #[.agg #[B,C],.agg #[D,E],.agg #[y,z]] (.bool o2) W:=fun W=>by rw[←j6];exact qP B C D E y z W
 clear j6;replace d8:=ar d8;generalize j7:iZ (B,C) (D,E) (A,b2)=o3;have O:∀W,Gv 320 #[.agg #[B,C],.agg #[D,E],.agg #[A,b2]] (.bool o3) W:=fun W=>by rw[←j7];exact qP B C D E A b2 W
 clear j7;replace O:=ar O;have m1:=lL (bQ (y,z) (A,b2) (B,C)) (bQ (y,z) (A,b2) (D,E));have m2:=lL (bQ (B,C) (D,E) (y,z)) (bQ (B,C) (D,E) (A,b2));obtain⟨t0,e7⟩:=oE (bQ (y,z) (A,b2) (B,C));have i0:∀W,Gv 319 #[.agg #[y,z],.agg #[A,b2],.agg #[B,C]] (.int .i64 t0) W:=fun W=>by rw[←e7];exact oD y z A b2 B C W ha hb hc
 rw[e7];rw[e7]at m1;clear e7;replace i0:=ar i0;obtain⟨s0,e3⟩:=oE (fb t0);have h6:∀W,Gv 318 #[t0] (.int .i64 s0) W:=fun W=>by rw[←e3];exact mq t0 W
 rw[e3];rw[e3]at m1;clear e3;replace h6:=ar h6;obtain⟨t1,e8⟩:=oE (bQ (y,z) (A,b2) (D,E));have i1:∀W,Gv 319 #[.agg #[y,z],.agg #[A,b2],.agg #[D,E]] (.int .i64 t1) W:=fun W=>by rw[←e8];exact oD y z A b2 D E W ha hb Q
 rw[e8];rw[e8]at m1;clear e8;replace i1:=ar i1;obtain⟨s1,e4⟩:=oE (fb t1);have h7:∀W,Gv 318 #[t1] (.int .i64 s1) W:=fun W=>by rw[←e4];exact mq t1 W
 rw[e4];rw[e4]at m1;clear e4;replace h7:=ar h7;obtain⟨t2,e9⟩:=oE (bQ (B,C) (D,E) (y,z));have i2:∀W,Gv 319 #[.agg #[B,C],.agg #[D,E],.agg #[y,z]] (.int .i64 t2) W:=fun W=>by rw[←e9];exact oD B C D E y z W hc Q ha
 rw[e9];rw[e9]at m2;clear e9;replace i2:=ar i2;obtain⟨s2,e5⟩:=oE (fb t2);have h8:∀W,Gv 318 #[t2] (.int .i64 s2) W:=fun W=>by rw[←e5];exact mq t2 W
 rw[e5];rw[e5]at m2;clear e5;replace h8:=ar h8;obtain⟨t3,f0⟩:=oE (bQ (B,C) (D,E) (A,b2));have i3:∀W,Gv 319 #[.agg #[B,C],.agg #[D,E],.agg #[A,b2]] (.int .i64 t3) W:=fun W=>by rw[←f0];exact oD B C D E A b2 W hc Q hb
 rw[f0];rw[f0]at m2;clear f0;replace i3:=ar i3;obtain⟨T,e6⟩:=oE (fb t3);have h9:∀W,Gv 318 #[t3] (.int .i64 T) W:=fun W=>by rw[←e6];exact mq t3 W
 rw[e6];rw[e6]at m2;clear e6;replace h9:=ar h9;clear ha hb hc Q;obtain⟨p1,e1⟩:=oE (s0*s1);obtain⟨p2,e2⟩:=oE (s2*T);rw[e1]at m1;rw[e2]at m2;have m4:IntKind.i64.wrap (s0*s1)=p1:=by rw[e1];exact iw
 have m5:IntKind.i64.wrap (s2*T)=p2:=by rw[e2];exact iw
 rw[e1,e2];clear e1 e2 m1 m2;generalize d0:(s0==0)=z0;generalize N:(s1==0)=z1;generalize r:(s2==0)=z2;generalize b:(T==0)=z3;have HZ:=ar (And.intro d0 (And.intro N (And.intro r b)));clear d0 N r b;generalize t:(_||_)=R;replace t:=ar t;go_enter func187,ntmps187;go_wp2_with fail
 refine aD 12 ?_;simp only[ac,aj,aK,aC,aa,ae,af];iterate 3 refine bJ ?_
 apply bg
 ·intro u wx hz hc hf c9 Q;simp[aU,ai,aR,ay.is,ay.any]at Q;go_simp
  first|rfl|(go_at_call 319;refine(i0.o _).mono ?_;rintro e w1 ⟨rfl,l⟩;first|exact⟨rfl,l⟩|exact⟨_,rfl,l,rfl⟩)
 apply bg
 ·intro u wx hz hc hf c9 Q;simp[aU,ai,aR,ay.is,ay.any]at Q;go_simp
  first|rfl|(go_at_call 318;refine(h6.o _).mono ?_;rintro e w1 ⟨rfl,l⟩;first|exact⟨rfl,l⟩|exact⟨_,rfl,l,rfl⟩)
 iterate 3 refine bJ ?_
 apply bg
 ·intro u wx hz hc hf c9 Q;simp[aU,ai,aR,ay.is,ay.any]at Q;go_simp
  first|rfl|(go_at_call 319;refine(i1.o _).mono ?_;rintro e w1 ⟨rfl,l⟩;first|exact⟨rfl,l⟩|exact⟨_,rfl,l,rfl⟩)
 apply bg
 ·intro u wx hz hc hf c9 Q;simp[aU,ai,aR,ay.is,ay.any]at Q;go_simp
  first|rfl|(go_at_call 318;refine(h7.o _).mono ?_;rintro e w1 ⟨rfl,l⟩;first|exact⟨rfl,l⟩|exact⟨_,rfl,l,rfl⟩)
 iterate 2 refine bJ ?_
 intro u w5 hb hE;simp only[cF,aR,ay.is,aE,aA,reduceIte]at hE;simp only[am,ax,ac,aj,aK,aC,aa,ae,af,hE];clear hE;have K:=ar hb;have m3:=ag (w:=w) (by first|assumption|go_grown) hb;obtain⟨l7,l5,j0,j2,j8⟩:=pr hb;clear hb;have l9:=dx K.o;have K0:w5.heap[w.heap.size]?=some (.cells #[y,z] 43):=(K.o.block (w.heap.size) (by first|omega|(simp;done)|(simp<;>omega))).trans (by first|exact bf _ _ _ (by first|rfl|(simp;done))|exact(aV _ _ _ (by simp<;>omega)).trans (bf _ _ _ (by first|rfl|(simp;done)))|exact(aV _ _ _ (by simp<;>omega)).trans ((aV _ _ _ (by simp<;>omega)).trans (bf _ _ _ (by first|rfl|(simp;done))))|exact(aV _ _ _ (by simp<;>omega)).trans ((aV _ _ _ (by simp<;>omega)).trans ((aV _ _ _ (by simp<;>omega)).trans (bf _ _ _ (by first|rfl|(simp;done))))));obtain⟨k3,k7,-,l1⟩:=al K0;have i6:=ar K0;clear K0;have K1:w5.heap[w.heap.size+1]?=some (.cells #[A,b2] 43):=(K.o.block (w.heap.size+1) (by first|omega|(simp;done)|(simp<;>omega))).trans (by first|exact bf _ _ _ (by first|rfl|(simp;done))|exact(aV _ _ _ (by simp<;>omega)).trans (bf _ _ _ (by first|rfl|(simp;done)))|exact(aV _ _ _ (by simp<;>omega)).trans ((aV _ _ _ (by simp<;>omega)).trans (bf _ _ _ (by first|rfl|(simp;done))))|exact(aV _ _ _ (by simp<;>omega)).trans ((aV _ _ _ (by simp<;>omega)).trans ((aV _ _ _ (by simp<;>omega)).trans (bf _ _ _ (by first|rfl|(simp;done))))));obtain⟨k4,k8,-,l2⟩:=al K1;have i7:=ar K1;clear K1;have K2:w5.heap[w.heap.size+1+1]?=some (.cells #[B,C] 43):=(K.o.block (w.heap.size+1+1) (by first|omega|(simp;done)|(simp<;>omega))).trans (by first|exact bf _ _ _ (by first|rfl|(simp;done))|exact(aV _ _ _ (by simp<;>omega)).trans (bf _ _ _ (by first|rfl|(simp;done)))|exact(aV _ _ _ (by simp<;>omega)).trans ((aV _ _ _ (by simp<;>omega)).trans (bf _ _ _ (by first|rfl|(simp;done))))|exact(aV _ _ _ (by simp<;>omega)).trans ((aV _ _ _ (by simp<;>omega)).trans ((aV _ _ _ (by simp<;>omega)).trans (bf _ _ _ (by first|rfl|(simp;done))))));obtain⟨k5,k9,-,l3⟩:=al K2;have i8:=ar K2;clear K2;have K3:w5.heap[w.heap.size+1+1+1]?=some (.cells #[D,E] 43):=(K.o.block (w.heap.size+1+1+1) (by first|omega|(simp;done)|(simp<;>omega))).trans (by first|exact bf _ _ _ (by first|rfl|(simp;done))|exact(aV _ _ _ (by simp<;>omega)).trans (bf _ _ _ (by first|rfl|(simp;done)))|exact(aV _ _ _ (by simp<;>omega)).trans ((aV _ _ _ (by simp<;>omega)).trans (bf _ _ _ (by first|rfl|(simp;done))))|exact(aV _ _ _ (by simp<;>omega)).trans ((aV _ _ _ (by simp<;>omega)).trans ((aV _ _ _ (by simp<;>omega)).trans (bf _ _ _ (by first|rfl|(simp;done))))));obtain⟨k6,l0,-,l4⟩:=al K3;have i9:=ar K3;clear K3;clear j0 j2;go_wp2_with fail
 refine aD 12 ?_;simp only[ac,aj,aK,aC,aa,ae,af];iterate 3 refine bJ ?_
 apply bg
 ·intro u wx hz hc hf c9 Q;simp[aU,ai,aR,ay.is,ay.any]at Q;go_simp
  first|rfl|(go_at_call 319;refine(i2.o _).mono ?_;rintro e w1 ⟨rfl,l⟩;first|exact⟨rfl,l⟩|exact⟨_,rfl,l,rfl⟩)
 apply bg
 ·intro u wx hz hc hf c9 Q;simp[aU,ai,aR,ay.is,ay.any]at Q;go_simp
  first|rfl|(go_at_call 318;refine(h8.o _).mono ?_;rintro e w1 ⟨rfl,l⟩;first|exact⟨rfl,l⟩|exact⟨_,rfl,l,rfl⟩)
 iterate 3 refine bJ ?_
 apply bg
 ·intro u wx hz hc hf c9 Q;simp[aU,ai,aR,ay.is,ay.any]at Q;go_simp
  first|rfl|(go_at_call 319;refine(i3.o _).mono ?_;rintro e w1 ⟨rfl,l⟩;first|exact⟨rfl,l⟩|exact⟨_,rfl,l,rfl⟩)
 apply bg
 ·intro u wx hz hc hf c9 Q;simp[aU,ai,aR,ay.is,ay.any]at Q;go_simp
  first|rfl|(go_at_call 318;refine(h9.o _).mono ?_;rintro e w1 ⟨rfl,l⟩;first|exact⟨rfl,l⟩|exact⟨_,rfl,l,rfl⟩)
 iterate 2 refine bJ ?_
 intro u w6 hb hE;simp only[cF,aR,ay.is,aE,aA,reduceIte]at hE;simp only[am,ax,ac,aj,aK,aC,aa,ae,af,hE];clear hE;have L:=ar hb;have i4:=ag (w:=w) (by first|assumption|go_grown) hb;obtain⟨l8,l6,j1,j3,j9⟩:=pr hb;clear hb;have m0:=dx L.o;have K0:w6.heap[w.heap.size]?=some (.cells #[y,z] 43):=(L.o.block (w.heap.size) (by first|omega|(simp;done)|(simp<;>omega))).trans i6.o;obtain⟨f1,f8,-,g6⟩:=al K0;have d4:=ar K0;clear K0;have K1:w6.heap[w.heap.size+1]?=some (.cells #[A,b2] 43):=(L.o.block (w.heap.size+1) (by first|omega|(simp;done)|(simp<;>omega))).trans i7.o;obtain⟨f2,f9,-,g8⟩:=al K1;have d5:=ar K1;clear K1;have K2:w6.heap[w.heap.size+1+1]?=some (.cells #[B,C] 43):=(L.o.block (w.heap.size+1+1) (by first|omega|(simp;done)|(simp<;>omega))).trans i8.o;obtain⟨f4,g1,-,h0⟩:=al K2;have d6:=ar K2;clear K2;have K3:w6.heap[w.heap.size+1+1+1]?=some (.cells #[D,E] 43):=(L.o.block (w.heap.size+1+1+1) (by first|omega|(simp;done)|(simp<;>omega))).trans i9.o;obtain⟨f6,g3,-,h2⟩:=al K3;have d7:=ar K3;clear K3;clear j1 j3;clear k3 k7 l1 k4 k8 l2 k5 k9 l3 k6 l0 l4;have d9:=ar i4;by_cases n0:p1<0∧p2<0
 ·have c:decide (p1<0)=true:=decide_eq_true n0.1;have v:decide (p2<0)=true:=decide_eq_true n0.2;clear n0;go_wp2;go_returns;have h:=t.o;simp only[c,v,aI,aN,aP,aW,aL,aQ]at h
  first|rw[←h]|rw[h]
  exact⟨rfl,i4⟩
 have n3:(decide (p1<0)=true∧decide (p2<0)=false)∨(decide (p1<0)=false∧True):=by
  by_cases n1:p1<0
  ·exact .inl ⟨decide_eq_true n1,decide_eq_false (fun h=>n0 ⟨n1,h⟩)⟩
  ·exact .inr ⟨decide_eq_false n1,trivial⟩
 clear n0;rcases n3 with⟨c,v⟩|⟨c,v⟩
 all_goals
  obtain⟨d0,N,r,b⟩:=HZ.o;clear HZ;cases z0 with
  |false=>
   have k0:(s0==0)=false:=d0;clear d0;cases z1 with
   |false=>
    have i5:(s1==0)=false:=N;clear N;cases z2 with
    |false=>
     have d3:(s2==0)=false:=r;clear r;cases z3 with
     |false=>
      have x:(T==0)=false:=b;clear b;go_wp2;go_returns;have h:=t.o
      first|simp only[c,v,aI,aN,aP,aW,aL,aQ]at h|simp only[c,aI,aN,aP,aW,aL,aQ]at h
      first|rw[←h]|rw[h]
      exact⟨rfl,i4⟩
     |true=>
      have x:(T==0)=true:=b;clear b;go_wp2_with fail
      (go_at_call 320;refine mz (O.o _) fun w7 d=> ?_);have s:=ar (ag (w:=w) (by first|assumption|exact d9.o|go_grown) d);have n:=ar (kz d d4);obtain⟨U,a6,-,b9⟩:=al n.o;have o:=ar (kz d d5);obtain⟨Y,a8,-,c3⟩:=al o.o;have p:=ar (kz d d6);obtain⟨a0,b0,-,c5⟩:=al p.o;have q:=ar (kz d d7);obtain⟨a4,b6,-,c7⟩:=al q.o;clear f1 f8 g6 f2 f9 g8 f4 g1 h0 f6 g3 h2 d;cases o3 with
      |true=>
       go_wp2;go_returns;have h:=t.o
       first|simp only[c,v,aI,aN,aP,aW,aL,aQ]at h|simp only[c,aI,aN,aP,aW,aL,aQ]at h
       first|rw[←h]|rw[h]
       exact⟨rfl,s.o⟩
      |false=>
       go_wp2;go_returns;have h:=t.o
       first|simp only[c,v,aI,aN,aP,aW,aL,aQ]at h|simp only[c,aI,aN,aP,aW,aL,aQ]at h
       first|rw[←h]|rw[h]
       exact⟨rfl,s.o⟩
    |true=>
     have d3:(s2==0)=true:=r;clear r;go_wp2_with fail
     (go_at_call 320;refine mz (d8.o _) fun w7 d=> ?_);have s:=ar (ag (w:=w) (by first|assumption|exact d9.o|go_grown) d);have n:=ar (kz d d4);obtain⟨U,a6,-,b9⟩:=al n.o;have o:=ar (kz d d5);obtain⟨Y,a8,-,c3⟩:=al o.o;have p:=ar (kz d d6);obtain⟨a0,b0,-,c5⟩:=al p.o;have q:=ar (kz d d7);obtain⟨a4,b6,-,c7⟩:=al q.o;clear f1 f8 g6 f2 f9 g8 f4 g1 h0 f6 g3 h2 d;cases o2 with
     |true=>
      go_wp2;go_returns;have h:=t.o
      first|simp only[c,v,aI,aN,aP,aW,aL,aQ]at h|simp only[c,aI,aN,aP,aW,aL,aQ]at h
      first|rw[←h]|rw[h]
      exact⟨rfl,s.o⟩
     |false=>
      cases z3 with
      |false=>
       have x:(T==0)=false:=b;clear b;go_wp2;go_returns;have h:=t.o
       first|simp only[c,v,aI,aN,aP,aW,aL,aQ]at h|simp only[c,aI,aN,aP,aW,aL,aQ]at h
       first|rw[←h]|rw[h]
       exact⟨rfl,s.o⟩
      |true=>
       have x:(T==0)=true:=b;clear b;go_wp2_with fail
       (go_at_call 320;refine mz (O.o _) fun w8 a=> ?_);have m:=ar (ag (w:=w) (by first|assumption|exact s.o|go_grown) a);have g:=ar (kz a n);obtain⟨X,a7,-,c0⟩:=al g.o;have i:=ar (kz a o);obtain⟨Z,a9,-,c4⟩:=al i.o;have j:=ar (kz a p);obtain⟨a3,b5,-,c6⟩:=al j.o;have k:=ar (kz a q);obtain⟨a5,b8,-,c8⟩:=al k.o;clear U a6 b9 Y a8 c3 a0 b0 c5 a4 b6 c7 a;cases o3 with
       |true=>
        go_wp2;go_returns;have h:=t.o
        first|simp only[c,v,aI,aN,aP,aW,aL,aQ]at h|simp only[c,aI,aN,aP,aW,aL,aQ]at h
        first|rw[←h]|rw[h]
        exact⟨rfl,m.o⟩
       |false=>
        go_wp2;go_returns;have h:=t.o
        first|simp only[c,v,aI,aN,aP,aW,aL,aQ]at h|simp only[c,aI,aN,aP,aW,aL,aQ]at h
        first|rw[←h]|rw[h]
        exact⟨rfl,m.o⟩
   |true=>
    have i5:(s1==0)=true:=N;clear N;go_wp2_with fail
    (go_at_call 320;refine mz (e0.o _) fun w7 d=> ?_);have s:=ar (ag (w:=w) (by first|assumption|exact d9.o|go_grown) d);have n:=ar (kz d d4);obtain⟨U,a6,-,b9⟩:=al n.o;have o:=ar (kz d d5);obtain⟨Y,a8,-,c3⟩:=al o.o;have p:=ar (kz d d6);obtain⟨a0,b0,-,c5⟩:=al p.o;have q:=ar (kz d d7);obtain⟨a4,b6,-,c7⟩:=al q.o;clear f1 f8 g6 f2 f9 g8 f4 g1 h0 f6 g3 h2 d;cases o1 with
    |true=>
     go_wp2;go_returns;have h:=t.o
     first|simp only[c,v,aI,aN,aP,aW,aL,aQ]at h|simp only[c,aI,aN,aP,aW,aL,aQ]at h
     first|rw[←h]|rw[h]
     exact⟨rfl,s.o⟩
    |false=>
     cases z2 with
     |false=>
      have d3:(s2==0)=false:=r;clear r;cases z3 with
      |false=>
       have x:(T==0)=false:=b;clear b;go_wp2;go_returns;have h:=t.o
       first|simp only[c,v,aI,aN,aP,aW,aL,aQ]at h|simp only[c,aI,aN,aP,aW,aL,aQ]at h
       first|rw[←h]|rw[h]
       exact⟨rfl,s.o⟩
      |true=>
       have x:(T==0)=true:=b;clear b;go_wp2_with fail
       (go_at_call 320;refine mz (O.o _) fun w8 a=> ?_);have m:=ar (ag (w:=w) (by first|assumption|exact s.o|go_grown) a);have g:=ar (kz a n);obtain⟨X,a7,-,c0⟩:=al g.o;have i:=ar (kz a o);obtain⟨Z,a9,-,c4⟩:=al i.o;have j:=ar (kz a p);obtain⟨a3,b5,-,c6⟩:=al j.o;have k:=ar (kz a q);obtain⟨a5,b8,-,c8⟩:=al k.o;clear U a6 b9 Y a8 c3 a0 b0 c5 a4 b6 c7 a;cases o3 with
       |true=>
        go_wp2;go_returns;have h:=t.o
        first|simp only[c,v,aI,aN,aP,aW,aL,aQ]at h|simp only[c,aI,aN,aP,aW,aL,aQ]at h
        first|rw[←h]|rw[h]
        exact⟨rfl,m.o⟩
       |false=>
        go_wp2;go_returns;have h:=t.o
        first|simp only[c,v,aI,aN,aP,aW,aL,aQ]at h|simp only[c,aI,aN,aP,aW,aL,aQ]at h
        first|rw[←h]|rw[h]
        exact⟨rfl,m.o⟩
     |true=>
      have d3:(s2==0)=true:=r;clear r;go_wp2_with fail
      (go_at_call 320;refine mz (d8.o _) fun w8 a=> ?_);have m:=ar (ag (w:=w) (by first|assumption|exact s.o|go_grown) a);have g:=ar (kz a n);obtain⟨X,a7,-,c0⟩:=al g.o;have i:=ar (kz a o);obtain⟨Z,a9,-,c4⟩:=al i.o;have j:=ar (kz a p);obtain⟨a3,b5,-,c6⟩:=al j.o;have k:=ar (kz a q);obtain⟨a5,b8,-,c8⟩:=al k.o;clear U a6 b9 Y a8 c3 a0 b0 c5 a4 b6 c7 a;cases o2 with
      |true=>
       go_wp2;go_returns;have h:=t.o
       first|simp only[c,v,aI,aN,aP,aW,aL,aQ]at h|simp only[c,aI,aN,aP,aW,aL,aQ]at h
       first|rw[←h]|rw[h]
       exact⟨rfl,m.o⟩
      |false=>
       cases z3 with
       |false=>
        have x:(T==0)=false:=b;clear b;go_wp2;go_returns;have h:=t.o
        first|simp only[c,v,aI,aN,aP,aW,aL,aQ]at h|simp only[c,aI,aN,aP,aW,aL,aQ]at h
        first|rw[←h]|rw[h]
        exact⟨rfl,m.o⟩
       |true=>
        have x:(T==0)=true:=b;clear b;go_wp2_with fail
        (go_at_call 320;refine mz (O.o _) fun w9 f=> ?_);have J:=ar (ag (w:=w) (by first|assumption|exact m.o|go_grown) f);have F:=ar (kz f g);obtain⟨-,-,-,g7⟩:=al F.o;have G:=ar (kz f i);obtain⟨f3,g0,-,g9⟩:=al G.o;have H:=ar (kz f j);obtain⟨f5,g2,-,h1⟩:=al H.o;have I:=ar (kz f k);obtain⟨f7,g4,-,h3⟩:=al I.o;clear X a7 c0 Z a9 c4 a3 b5 c6 a5 b8 c8 f;cases o3 with
        |true=>
         go_wp2;go_returns;have h:=t.o
         first|simp only[c,v,aI,aN,aP,aW,aL,aQ]at h|simp only[c,aI,aN,aP,aW,aL,aQ]at h
         first|rw[←h]|rw[h]
         exact⟨rfl,J.o⟩
        |false=>
         go_wp2;go_returns;have h:=t.o
         first|simp only[c,v,aI,aN,aP,aW,aL,aQ]at h|simp only[c,aI,aN,aP,aW,aL,aQ]at h
         first|rw[←h]|rw[h]
         exact⟨rfl,J.o⟩
  |true=>
   have k0:(s0==0)=true:=d0;clear d0;go_wp2_with fail
   (go_at_call 320;refine mz (h5.o _) fun w7 d=> ?_);have s:=ar (ag (w:=w) (by first|assumption|exact d9.o|go_grown) d);have n:=ar (kz d d4);obtain⟨U,a6,-,b9⟩:=al n.o;have o:=ar (kz d d5);obtain⟨Y,a8,-,c3⟩:=al o.o;have p:=ar (kz d d6);obtain⟨a0,b0,-,c5⟩:=al p.o;have q:=ar (kz d d7);obtain⟨a4,b6,-,c7⟩:=al q.o;clear f1 f8 g6 f2 f9 g8 f4 g1 h0 f6 g3 h2 d;cases o0 with
   |true=>
    go_wp2;go_returns;have h:=t.o
    first|simp only[c,v,aI,aN,aP,aW,aL,aQ]at h|simp only[c,aI,aN,aP,aW,aL,aQ]at h
    first|rw[←h]|rw[h]
    exact⟨rfl,s.o⟩
   |false=>
    cases z1 with
    |false=>
     have i5:(s1==0)=false:=N;clear N;cases z2 with
     |false=>
      have d3:(s2==0)=false:=r;clear r;cases z3 with
      |false=>
       have x:(T==0)=false:=b;clear b;go_wp2;go_returns;have h:=t.o
       first|simp only[c,v,aI,aN,aP,aW,aL,aQ]at h|simp only[c,aI,aN,aP,aW,aL,aQ]at h
       first|rw[←h]|rw[h]
       exact⟨rfl,s.o⟩
      |true=>
       have x:(T==0)=true:=b;clear b;go_wp2_with fail
       (go_at_call 320;refine mz (O.o _) fun w8 a=> ?_);have m:=ar (ag (w:=w) (by first|assumption|exact s.o|go_grown) a);have g:=ar (kz a n);obtain⟨X,a7,-,c0⟩:=al g.o;have i:=ar (kz a o);obtain⟨Z,a9,-,c4⟩:=al i.o;have j:=ar (kz a p);obtain⟨a3,b5,-,c6⟩:=al j.o;have k:=ar (kz a q);obtain⟨a5,b8,-,c8⟩:=al k.o;clear U a6 b9 Y a8 c3 a0 b0 c5 a4 b6 c7 a;cases o3 with
       |true=>
        go_wp2;go_returns;have h:=t.o
        first|simp only[c,v,aI,aN,aP,aW,aL,aQ]at h|simp only[c,aI,aN,aP,aW,aL,aQ]at h
        first|rw[←h]|rw[h]
        exact⟨rfl,m.o⟩
       |false=>
        go_wp2;go_returns;have h:=t.o
        first|simp only[c,v,aI,aN,aP,aW,aL,aQ]at h|simp only[c,aI,aN,aP,aW,aL,aQ]at h
        first|rw[←h]|rw[h]
        exact⟨rfl,m.o⟩
     |true=>
      have d3:(s2==0)=true:=r;clear r;go_wp2_with fail
      (go_at_call 320;refine mz (d8.o _) fun w8 a=> ?_);have m:=ar (ag (w:=w) (by first|assumption|exact s.o|go_grown) a);have g:=ar (kz a n);obtain⟨X,a7,-,c0⟩:=al g.o;have i:=ar (kz a o);obtain⟨Z,a9,-,c4⟩:=al i.o;have j:=ar (kz a p);obtain⟨a3,b5,-,c6⟩:=al j.o;have k:=ar (kz a q);obtain⟨a5,b8,-,c8⟩:=al k.o;clear U a6 b9 Y a8 c3 a0 b0 c5 a4 b6 c7 a;cases o2 with
      |true=>
       go_wp2;go_returns;have h:=t.o
       first|simp only[c,v,aI,aN,aP,aW,aL,aQ]at h|simp only[c,aI,aN,aP,aW,aL,aQ]at h
       first|rw[←h]|rw[h]
       exact⟨rfl,m.o⟩
      |false=>
       cases z3 with
       |false=>
        have x:(T==0)=false:=b;clear b;go_wp2;go_returns;have h:=t.o
        first|simp only[c,v,aI,aN,aP,aW,aL,aQ]at h|simp only[c,aI,aN,aP,aW,aL,aQ]at h
        first|rw[←h]|rw[h]
        exact⟨rfl,m.o⟩
       |true=>
        have x:(T==0)=true:=b;clear b;go_wp2_with fail
        (go_at_call 320;refine mz (O.o _) fun w9 f=> ?_);have J:=ar (ag (w:=w) (by first|assumption|exact m.o|go_grown) f);have F:=ar (kz f g);obtain⟨-,-,-,g7⟩:=al F.o;have G:=ar (kz f i);obtain⟨f3,g0,-,g9⟩:=al G.o;have H:=ar (kz f j);obtain⟨f5,g2,-,h1⟩:=al H.o;have I:=ar (kz f k);obtain⟨f7,g4,-,h3⟩:=al I.o;clear X a7 c0 Z a9 c4 a3 b5 c6 a5 b8 c8 f;cases o3 with
        |true=>
         go_wp2;go_returns;have h:=t.o
         first|simp only[c,v,aI,aN,aP,aW,aL,aQ]at h|simp only[c,aI,aN,aP,aW,aL,aQ]at h
         first|rw[←h]|rw[h]
         exact⟨rfl,J.o⟩
        |false=>
         go_wp2;go_returns;have h:=t.o
         first|simp only[c,v,aI,aN,aP,aW,aL,aQ]at h|simp only[c,aI,aN,aP,aW,aL,aQ]at h
         first|rw[←h]|rw[h]
         exact⟨rfl,J.o⟩
    |true=>
     have i5:(s1==0)=true:=N;clear N;go_wp2_with fail
     (go_at_call 320;refine mz (e0.o _) fun w8 a=> ?_);have m:=ar (ag (w:=w) (by first|assumption|exact s.o|go_grown) a);have g:=ar (kz a n);obtain⟨X,a7,-,c0⟩:=al g.o;have i:=ar (kz a o);obtain⟨Z,a9,-,c4⟩:=al i.o;have j:=ar (kz a p);obtain⟨a3,b5,-,c6⟩:=al j.o;have k:=ar (kz a q);obtain⟨a5,b8,-,c8⟩:=al k.o;clear U a6 b9 Y a8 c3 a0 b0 c5 a4 b6 c7 a;cases o1 with
     |true=>
      go_wp2;go_returns;have h:=t.o
      first|simp only[c,v,aI,aN,aP,aW,aL,aQ]at h|simp only[c,aI,aN,aP,aW,aL,aQ]at h
      first|rw[←h]|rw[h]
      exact⟨rfl,m.o⟩
     |false=>
      cases z2 with
      |false=>
       have d3:(s2==0)=false:=r;clear r;cases z3 with
       |false=>
        have x:(T==0)=false:=b;clear b;go_wp2;go_returns;have h:=t.o
        first|simp only[c,v,aI,aN,aP,aW,aL,aQ]at h|simp only[c,aI,aN,aP,aW,aL,aQ]at h
        first|rw[←h]|rw[h]
        exact⟨rfl,m.o⟩
       |true=>
        have x:(T==0)=true:=b;clear b;go_wp2_with fail
        (go_at_call 320;refine mz (O.o _) fun w9 f=> ?_);have J:=ar (ag (w:=w) (by first|assumption|exact m.o|go_grown) f);have F:=ar (kz f g);obtain⟨-,-,-,g7⟩:=al F.o;have G:=ar (kz f i);obtain⟨f3,g0,-,g9⟩:=al G.o;have H:=ar (kz f j);obtain⟨f5,g2,-,h1⟩:=al H.o;have I:=ar (kz f k);obtain⟨f7,g4,-,h3⟩:=al I.o;clear X a7 c0 Z a9 c4 a3 b5 c6 a5 b8 c8 f;cases o3 with
        |true=>
         go_wp2;go_returns;have h:=t.o
         first|simp only[c,v,aI,aN,aP,aW,aL,aQ]at h|simp only[c,aI,aN,aP,aW,aL,aQ]at h
         first|rw[←h]|rw[h]
         exact⟨rfl,J.o⟩
        |false=>
         go_wp2;go_returns;have h:=t.o
         first|simp only[c,v,aI,aN,aP,aW,aL,aQ]at h|simp only[c,aI,aN,aP,aW,aL,aQ]at h
         first|rw[←h]|rw[h]
         exact⟨rfl,J.o⟩
      |true=>
       have d3:(s2==0)=true:=r;clear r;go_wp2_with fail
       (go_at_call 320;refine mz (d8.o _) fun w9 f=> ?_);have J:=ar (ag (w:=w) (by first|assumption|exact m.o|go_grown) f);have F:=ar (kz f g);obtain⟨-,-,-,g7⟩:=al F.o;have G:=ar (kz f i);obtain⟨f3,g0,-,g9⟩:=al G.o;have H:=ar (kz f j);obtain⟨f5,g2,-,h1⟩:=al H.o;have I:=ar (kz f k);obtain⟨f7,g4,-,h3⟩:=al I.o;clear X a7 c0 Z a9 c4 a3 b5 c6 a5 b8 c8 f;cases o2 with
       |true=>
        go_wp2;go_returns;have h:=t.o
        first|simp only[c,v,aI,aN,aP,aW,aL,aQ]at h|simp only[c,aI,aN,aP,aW,aL,aQ]at h
        first|rw[←h]|rw[h]
        exact⟨rfl,J.o⟩
       |false=>
        cases z3 with
        |false=>
         have x:(T==0)=false:=b;clear b;go_wp2;go_returns;have h:=t.o
         first|simp only[c,v,aI,aN,aP,aW,aL,aQ]at h|simp only[c,aI,aN,aP,aW,aL,aQ]at h
         first|rw[←h]|rw[h]
         exact⟨rfl,J.o⟩
        |true=>
         have x:(T==0)=true:=b;clear b;go_wp2_with fail
         (go_at_call 320;refine mz (O.o _) fun g5 P=> ?_);have h4:=ar (ag (w:=w) (by first|assumption|exact J.o|go_grown) P);have K0:g5.heap[w.heap.size]?=some (.cells #[y,z] 43):=(P.block (w.heap.size) (by first|omega|(simp;done)|(simp<;>omega))).trans F.o;clear K0;have K1:g5.heap[w.heap.size+1]?=some (.cells #[A,b2] 43):=(P.block (w.heap.size+1) (by first|omega|(simp;done)|(simp<;>omega))).trans G.o;clear K1;have K2:g5.heap[w.heap.size+1+1]?=some (.cells #[B,C] 43):=(P.block (w.heap.size+1+1) (by first|omega|(simp;done)|(simp<;>omega))).trans H.o;clear K2;have K3:g5.heap[w.heap.size+1+1+1]?=some (.cells #[D,E] 43):=(P.block (w.heap.size+1+1+1) (by first|omega|(simp;done)|(simp<;>omega))).trans I.o;clear K3;clear g7 f3 g0 g9 f5 g2 h1 f7 g4 h3 P;cases o3 with
         |true=>
          go_wp2;go_returns;have h:=t.o
          first|simp only[c,v,aI,aN,aP,aW,aL,aQ]at h|simp only[c,aI,aN,aP,aW,aL,aQ]at h
          first|rw[←h]|rw[h]
          exact⟨rfl,h4.o⟩
         |false=>
          go_wp2;go_returns;have h:=t.o
          first|simp only[c,v,aI,aN,aP,aW,aL,aQ]at h|simp only[c,aI,aN,aP,aW,aL,aQ]at h
          first|rw[←h]|rw[h]
          exact⟨rfl,h4.o⟩
def qb (p:Pt):Nat→Value
 |0=> .int .i64 p.1
 |_=> .int .i64 p.2
def bO (w:World) (v:Value) (n:Nat) (P:Nat→Pt):Prop:=cE w v n 2 (fun i j=>qb (P i) j)
theorem bO.below {w w':World} {v:Value} {n:Nat} {P:Nat→Pt} (h:bO w v n P) (a:Below w.heap.size w w'):bO w' v n P:=cE.below h a
theorem bO.form {w:World} {v:Value} {n:Nat} {P:Nat→Pt} (h:bO w v n P):∃(oa:Option Addr) (cap:Nat),v= .slice oa n cap∧n≤cap∧cap≤9223372036854775807∧
 ∀i,i<n→∃b a,oa=some ⟨b,a,none⟩∧b<w.heap.size∧∀k,k<n→w.cell? ⟨b,a+k*2,none⟩=some (.int .i64 (P k).1)∧w.cell? ⟨b,a+k*2+1,none⟩=some (.int .i64 (P k).2):=by
 obtain⟨oa,cap,g,j,l,m⟩:=h;refine⟨oa,cap,g,j,l,fun i o=> ?_⟩;obtain⟨b,a,e,c,d⟩:=m (by omega);exact⟨b,a,e,c,fun k f=>⟨d k 0 f (by decide),d k 1 f (by decide)⟩⟩
def cR (L:Int) (p:Pt):Bool:=decide (-L≤p.1∧p.1≤L∧ -L≤p.2∧p.2≤L)
theorem cO {L:Int} {p:Pt}:cR L p=true↔ -L≤p.1∧p.1≤L∧ -L≤p.2∧p.2≤L:=by unfold cR;exact decide_eq_true_iff
theorem dk {p:Pt} (h:cR 32768 p=true):Nr p:=by
 have:=cO.1 h;unfold Nr;omega
theorem oG (a b:Int) (w:World):Gv 183 #[.agg #[a,b]] (.bool (!cR 32768 (a,b))) w:=by
 generalize c:(!cR 32768 (a,b))=R;unfold cR at c;dsimp only at c;by_cases h0:a< -32768
 ·have e:R=true:=by rw[←c,decide_eq_false (show ¬(-32768≤a∧a≤32768∧ -32768≤b∧b≤32768)from by omega)];rfl
  subst e;have d:decide (a< -32768)=true:=decide_eq_true h0;clear c h0;go_enter func183,ntmps183;go_wp2;go_returns;exact⟨rfl,by go_grown⟩
 ·have d:decide (a< -32768)=false:=decide_eq_false h0;by_cases h1:32768<a
  ·have e:R=true:=by rw[←c,decide_eq_false (show ¬(-32768≤a∧a≤32768∧ -32768≤b∧b≤32768)from by omega)];rfl
   subst e;have f:decide (32768<a)=true:=decide_eq_true h1;clear c h0 h1;go_enter func183,ntmps183;go_wp2;go_returns;exact⟨rfl,by go_grown⟩
  ·have f:decide (32768<a)=false:=decide_eq_false h1;by_cases h2:b< -32768
   ·have e:R=true:=by rw[←c,decide_eq_false (show ¬(-32768≤a∧a≤32768∧ -32768≤b∧b≤32768)from by omega)];rfl
    subst e;have g:decide (b< -32768)=true:=decide_eq_true h2;clear c h0 h1 h2;go_enter func183,ntmps183;go_wp2;go_returns;exact⟨rfl,by go_grown⟩
   ·have g:decide (b< -32768)=false:=decide_eq_false h2;by_cases h3:32768<b
    ·have e:R=true:=by rw[←c,decide_eq_false (show ¬(-32768≤a∧a≤32768∧ -32768≤b∧b≤32768)from by omega)];rfl
     subst e;have h:decide (32768<b)=true:=decide_eq_true h3;clear c h0 h1 h2 h3;go_enter func183,ntmps183;go_wp2;go_returns;exact⟨rfl,by go_grown⟩
    ·have h:decide (32768<b)=false:=decide_eq_false h3;have e:R=false:=by rw[←c,decide_eq_true (show -32768≤a∧a≤32768∧ -32768≤b∧b≤32768 from⟨by omega,by omega,by omega,by omega⟩)];rfl
     subst e;clear c h0 h1 h2 h3;go_enter func183,ntmps183;go_wp2;go_returns;exact⟨rfl,by go_grown⟩
theorem kX (b c:Int) (w:World):Gv 111 #[.agg #[b,c]] (.bool (cR 32768 (b,c))) w:=by
 generalize a:cR 32768 (b,c)=R;unfold cR at a;dsimp only at a;by_cases h0: -32768≤b
 ·have d:decide (-32768≤b)=true:=decide_eq_true h0;by_cases h1:b≤32768
  ·have f:decide (b≤32768)=true:=decide_eq_true h1;by_cases h2: -32768≤c
   ·have g:decide (-32768≤c)=true:=decide_eq_true h2;by_cases h3:c≤32768
    ·have h:decide (c≤32768)=true:=decide_eq_true h3;have e:R=true:=by rw[←a];exact decide_eq_true ⟨h0,h1,h2,h3⟩
     subst e;clear a h0 h1 h2 h3;go_enter func111,ntmps111;go_wp2;go_returns;exact⟨rfl,by go_grown⟩
    ·have e:R=false:=by rw[←a];exact df
     subst e;have h:decide (c≤32768)=false:=decide_eq_false h3;clear a h0 h1 h2 h3;go_enter func111,ntmps111;go_wp2;go_returns;exact⟨rfl,by go_grown⟩
   ·have e:R=false:=by rw[←a];exact df
    subst e;have g:decide (-32768≤c)=false:=decide_eq_false h2;clear a h0 h1 h2;go_enter func111,ntmps111;go_wp2;go_returns;exact⟨rfl,by go_grown⟩
  ·have e:R=false:=by rw[←a];exact df
   subst e;have f:decide (b≤32768)=false:=decide_eq_false h1;clear a h0 h1;go_enter func111,ntmps111;go_wp2;go_returns;exact⟨rfl,by go_grown⟩
 ·have e:R=false:=by rw[←a];exact df
  subst e;have d:decide (-32768≤b)=false:=decide_eq_false h0;clear a h0;go_enter func111,ntmps111;go_wp2;go_returns;exact⟨rfl,by go_grown⟩
theorem AT (v:Value) (n:Nat) (P:Nat→Pt) (w:World) (h:bO w v n P):
 Gv 316 #[v,.func (.func 183) #[] #[]] (.int .i64 (if bq (fun i=> !cR 32768 (P i)) n 0<n then(bq (fun i=> !cR 32768 (P i)) n 0:Int)else -1)) w:=by
 obtain⟨oa,cap,rfl,hn,G,l⟩:=h.form;have o:=ar l;clear h l;generalize x:bq (fun i=> !cR 32768 (P i)) n 0=F;have A:=ar x;generalize y:(if F<n then(F:Int)else -1)=R;have r:=ar y;clear x y;go_enter func316,ntmps316;go_wp2;go_loopw[8] (fun i wr=>∃j:Nat,j≤n∧i= .int .i64 j∧Hi (bq (fun i=> !cR 32768 (P i)) (n-j) j=F)∧Below w.heap.size w wr) (fun i _=>n-(intOf i).toNat)
 case atStart=>exact⟨0,by omega,rfl,A.o,ah _ _⟩
 case round=>
  obtain⟨j,B,rfl,p,m⟩:=hrel;have g:=ar m;by_cases hlt:j<n
  ·obtain⟨s,u,rfl,b,a⟩:=o.o j hlt;have D:wr.cell? (s,u+j*2)=some (.int .i64 (P j).1):=bI m b (a j hlt).1;have E:wr.cell? (s,u+j*2+1)=some (.int .i64 (P j).2):=bI m b (a j hlt).2;have H:=dS j;have I:(j:Int)<(n:Int):=by omega
   clear a m;obtain⟨t,e⟩:=oE (cR 32768 (P j));have f:=ar e;go_wp2_with fail
   (go_at_call 183;refine mz (oG (P j).1 (P j).2 _) fun C z=> ?_);rw[show cR 32768 ((P j).1,(P j).2)=t from e];have k:Below w.heap.size w C:=ag g.o z;clear e z;cases t with
   |false=>
    have c:Hi (R=(j:Int)):=by
     show _=_;have d:F=j:=p.o.symm.trans (dI hlt (by simp[f.o]));rw[←r.o,d,if_pos hlt]
    go_wp2;go_returns;rw[c.o];exact⟨rfl,k⟩
   |true=>
    have q:Hi (bq (fun i=> !cR 32768 (P i)) (n-(j+1)) (j+1)=F):=(dB hlt (by simp[f.o])).symm.trans p.o;go_wp2;go_roundw
    case rel=>exact⟨j+1,by omega,by go_num,q,k⟩
    case measure=>simp[intOf];omega
  ·have c:Hi (R= -1):=by
    show _=_;have d:F=n:=p.o.symm.trans (dX B hlt);rw[←r.o,d,if_neg (by omega)]
   go_wp2;go_returns;rw[c.o];exact⟨rfl,g.o⟩
theorem uH (v:Value) (n:Nat) (P:Nat→Pt) (w:World) (h:bO w v n P):
 Gv 182 #[v,.func (.func 183) #[] #[]] (.bool (!gH (fun i=>cR 32768 (P i)) n)) w:=by
 obtain⟨oa,cap,rfl,-,-,-⟩:=h.form;have H:=ar h;clear h;obtain⟨R,a⟩:=oE ((if bq (fun i=> !cR 32768 (P i)) n 0<n then(bq (fun i=> !cR 32768 (P i)) n 0:Int)else -1));have d:=ar a;have c:Hi (decide (0≤R)= !gH (fun i=>cR 32768 (P i)) n):=by
  show _=_;obtain⟨k,l,f,g⟩:=dH (fun i=> !cR 32768 (P i)) n 0;rw[←a];by_cases hlt:bq (fun i=> !cR 32768 (P i)) n 0<n
  ·rw[if_pos hlt,dt];have b:=f (by omega);simp only[Bool.not_eq_true']at b;rw[lE hlt b];rfl
  ·rw[if_neg hlt,show decide ((0:Int)≤ -1)=false by decide,eQ.2 (fun i j=>by have:=g i (by omega) (by omega);simpa using this)];rfl
 clear a;go_enter func182,ntmps182;go_wp2_with fail
 (go_at_call 316;refine mz (AT _ n P _ H.o) fun m e=> ?_);rw[d.o];go_wp2;go_returns;rw[←c.o];exact⟨rfl,e⟩
theorem AU (v:Value) (n:Nat) (P:Nat→Pt) (w:World) (h:bO w v n P):
 Gv 108 #[v] (.bool (gH (fun i=>cR 32768 (P i)) n)) w:=by
 obtain⟨oa,cap,rfl,hn,E,m⟩:=h.form;have p:=ar m;clear h m;generalize x:gH (fun i=>cR 32768 (P i)) n=R;have r:=ar x;clear x;go_enter func108,ntmps108;go_wp2;go_loopw[3] (fun i wr=>∃j:Nat,j≤n∧i= .int .i64 j∧Hi (∀k,k<j→cR 32768 (P k)=true)∧Below w.heap.size w wr) (fun i _=>n-(intOf i).toNat)
 case atStart=>exact⟨0,by omega,rfl,fun k z=>absurd z (by omega),ah _ _⟩
 case round=>
  obtain⟨j,G,rfl,A,o⟩:=hrel;have g:=ar o;by_cases hlt:j<n
  ·obtain⟨s,u,rfl,b,a⟩:=p.o j hlt;have C:wr.cell? (s,u+j*2)=some (.int .i64 (P j).1):=bI o b (a j hlt).1;have D:wr.cell? (s,u+j*2+1)=some (.int .i64 (P j).2):=bI o b (a j hlt).2;have H:=dS j;have I:(j:Int)<(n:Int):=by omega
   clear a o;obtain⟨t,d⟩:=oE (cR 32768 (P j));have f:=ar d;go_wp2_with fail
   (go_at_call 111;refine mz (kX (P j).1 (P j).2 _) fun B y=> ?_);rw[show cR 32768 ((P j).1,(P j).2)=t from d];have l:Below w.heap.size w B:=ag g.o y;clear d y;cases t with
   |false=>
    have c:Hi (R=false):=by
     show _=_;rw[←r.o];exact lE hlt f.o
    go_wp2;go_returns;rw[c.o];exact⟨rfl,l⟩
   |true=>
    have q:Hi (∀k,k<j+1→cR 32768 (P k)=true):=fun k z=>by
     by_cases e:k=j
     ·rw[e];exact f.o
     ·exact A.o k (by omega)
    go_wp2;go_roundw
    case rel=>exact⟨j+1,by omega,by go_num,q,l⟩
    case measure=>simp[intOf];omega
  ·have c:Hi (R=true):=by
    show _=_;rw[←r.o];exact eQ.2 (fun i F=>A.o i (by omega))
   go_wp2;go_returns;rw[c.o];exact⟨rfl,g.o⟩
theorem gz {n j:Nat} (h:j<n):((j:Int)+1).tmod (n:Int)=(nx n j:Int):=by
 rw[Int.tmod_eq_emod_of_nonneg (by omega)];unfold nx;rw[Int.natCast_emod];rfl
theorem tU (v:Value) (n:Nat) (P:Nat→Pt) (w:World) (h:bO w v n P) (a3:n≤1000) (hP:Hi (∀i,i<n→cR 32768 (P i)=true)):
 Gv 185 #[v] (.int .i64 (bP n P)) w:=by
 obtain⟨oa,cap,rfl,hn,hc,F⟩:=h.form;have L:=ar F;clear h F;generalize hR:bP n P=R;have HR:=ar hR;clear hR;go_enter func185,ntmps185;go_wp2;go_loopw[3,9] (fun t i wr=>∃(j:Nat) (s:Int),j≤n∧i= .int .i64 j∧t= .int .i64 s∧Hi (s=cB (fun i=>(P i).1*(P (nx n i)).2-(P (nx n i)).1*(P i).2) j)∧Hi (-(34359738368*(j:Int))≤s∧s≤34359738368*(j:Int))∧Below w.heap.size w wr) (fun t i _=>n-(intOf i).toNat)
 case atStart=>exact⟨0,0,by omega,rfl,rfl,rfl,⟨by omega,by omega⟩,ah _ _⟩
 case round=>
  obtain⟨j,s,hj,rfl,rfl,H,U,c⟩:=hrel;have A:=ar c;by_cases hlt:j<n
  ·obtain⟨E,I,rfl,b,a⟩:=L.o j hlt;have G:=U.o;obtain⟨N,d⟩:=oE ((j:Int)+1);obtain⟨q,J⟩:=oE (nx n j);have z:q<n:=by rw[←J];exact dW (by omega)
   have i1:IntKind.i64.wrap ((j:Int)+1)=N:=by rw[d];exact iw
   have i2:N.tmod (n:Int)=(q:Int):=by rw[←d,←J];exact gz hlt
   have i3:IntKind.i64.wrap (q:Int)=(q:Int):=iw;have i5:=dS q;have i6:(q:Int)<(n:Int):=by omega
   have i7:IntKind.i64.wrap (N.tmod (n:Int))=(q:Int):=by rw[i2];exact i3
   have B:=ar d;have HQ:=ar J;have c0:wr.cell? (E,I+j*2)=some (.int .i64 (P j).1):=bI c b (a j hlt).1;have c1:wr.cell? (E,I+j*2+1)=some (.int .i64 (P j).2):=bI c b (a j hlt).2;have d0:wr.cell? (E,I+q*2)=some (.int .i64 (P q).1):=bI c b (a q z).1;have d1:wr.cell? (E,I+q*2+1)=some (.int .i64 (P q).2):=bI c b (a q z).2;have a0:E<wr.heap.size:=by have:=c.size;omega
   have k0:=dS j;have k1:(j:Int)<(n:Int):=by omega
   obtain⟨O,f⟩:=oE ((P j).1);obtain⟨Q,g⟩:=oE ((P j).2);obtain⟨p,k⟩:=oE ((P q).1);obtain⟨r,l⟩:=oE ((P q).2);have n1:=cO.1 (hP.o j hlt);have n2:=cO.1 (hP.o q z);rw[f,g]at n1;rw[k,l]at n2;have Y:=eH (x:=O) (y:=r) (by omega) (by omega);have Z:=eH (x:=p) (y:=Q) (by omega) (by omega);obtain⟨W,m⟩:=oE (O*r);obtain⟨X,o⟩:=oE (p*Q);rw[m]at Y;rw[o]at Z;obtain⟨D,T⟩:=oE (W-X);obtain⟨C,u⟩:=oE (s+D);have v1:IntKind.i64.wrap (O*r)=W:=by rw[m];exact iw
   have v2:IntKind.i64.wrap (p*Q)=X:=by rw[o];exact iw
   have v3:IntKind.i64.wrap (W-X)=D:=by rw[T];exact iw
   have v4:IntKind.i64.wrap (s+D)=C:=by rw[u];exact iw
   have HS:Hi (C=cB (fun i=>(P i).1*(P (nx n i)).2-(P (nx n i)).1*(P i).2) (j+1)):=by
    show _=_;unfold cB;rw[←H.o,HQ.o,f,g,k,l,m,o,T,u]
   have K:Hi (-(34359738368*((j+1:Nat):Int))≤C∧C≤34359738368*((j+1:Nat):Int)):=by
    show _∧_;have e:((j+1:Nat):Int)=(j:Int)+1:=by omega
    rw[e,Int.mul_add];omega
   rw[f]at c0;rw[g]at c1;rw[k]at d0;rw[l]at d1;clear a c G n1 n2 Y Z f g k l m o T u d J;go_wp2;go_roundw
   case rel=>
    have c:=A.o;have hz:=c.size;exact⟨j+1,C,by omega,by rw[←B.o];rfl,rfl,HS,K.o,by go_grown⟩
   case measure=>have:=B.o;simp[intOf];omega
  ·have HE:Hi (s=R):=by
    show _=_;have e:j=n:=by omega
    rw[←HR.o,H.o,e];rfl
   go_wp2;go_returns;rw[HE.o];exact⟨rfl,A.o⟩
def iF (n:Nat) (P:Nat→Pt) (m:Nat) (Q:Nat→Pt):Bool:= !gH (fun i=>gH (fun k=> !decide (ct (P i) (P (nx n i)) (Q k) (Q (nx m k)))) m) n
theorem pm {n m i k:Nat} {P Q:Nat→Pt} (a:i<n) (b:k<m) (h:decide (ct (P i) (P (nx n i)) (Q k) (Q (nx m k)))=true):iF n P m Q=true:=by
 unfold iF;have e:gH (fun k=> !decide (ct (P i) (P (nx n i)) (Q k) (Q (nx m k)))) m=false:=lE b (by show(!decide _)=_;rw[h];rfl);rw[lE (f:=fun i=>gH (fun k=> !decide (ct (P i) (P (nx n i)) (Q k) (Q (nx m k)))) m) a e];rfl
theorem rP {n m:Nat} {P Q:Nat→Pt} (h:∀i,i<n→∀k,k<m→decide (ct (P i) (P (nx n i)) (Q k) (Q (nx m k)))=false):iF n P m Q=false:=by
 unfold iF;rw[eQ.2 (fun i a=>eQ.2 (fun k b=>by show(!decide _)=_;rw[h i a k b];rfl))];rfl
theorem jq {n m:Nat} {P Q:Nat→Pt}:iF n P m Q=false↔∀i k,i<n→k<m→¬ct (P i) (P (nx n i)) (Q k) (Q (nx m k)):=by
 constructor
 ·intro h i k a b c;rw[pm a b (decide_eq_true c)]at h;cases h
 ·intro h;exact rP fun i a k b=>decide_eq_false (h i k a b)
theorem qc (v u:Value) (n m:Nat) (P Q:Nat→Pt) (w:World) (h:bO w v n P) (h':bO w u m Q) (hP:Hi (∀i,i<n→cR 32768 (P i)=true)) (hQ:Hi (∀i,i<m→cR 32768 (Q i)=true)):
 Gv 65 #[v,u] (.bool (iF n P m Q)) w:=by
 obtain⟨oa,cap,rfl,hn,hc,a0⟩:=h.form;obtain⟨ob,c6,rfl,d3,d0,C⟩:=h'.form;have a7:=ar a0;have I:=ar C;clear h a0 h' C;generalize hR:iF n P m Q=R;have HR:=ar hR;clear hR;go_enter func65,ntmps65;go_wp2;go_loopw[5] (fun i wr=>∃j:Nat,j≤n∧i= .int .i64 j∧Hi (∀i,i<j→∀k,k<m→decide (ct (P i) (P (nx n i)) (Q k) (Q (nx m k)))=false)∧Below w.heap.size w wr) (fun i _=>n-(intOf i).toNat)
 case atStart=>exact⟨0,by omega,rfl,fun k D=>absurd D (by omega),ah _ _⟩
 case round=>
  obtain⟨w1,rfl⟩:=wE wr;obtain⟨j,hj,rfl,a4,a8⟩:=hrel;have A:=ar a8;by_cases hlt:j<n
  ·obtain⟨J1,y⟩:=oE ((j:Int)+1);obtain⟨q,hq⟩:=oE (nx n j);have qn:q<n:=by rw[←hq];exact dW (by omega)
   have i1:IntKind.i64.wrap ((j:Int)+1)=J1:=by rw[y];exact iw
   have i2:J1.tmod (n:Int)=(q:Int):=by rw[←y,←hq];exact gz hlt
   have i3:IntKind.i64.wrap (q:Int)=(q:Int):=iw;have i0:¬n=0:=by omega
   have i5:=dS q;have i6:(q:Int)<(n:Int):=by omega
   have J:=ar y;have Hq:=ar hq;have i8:=dS j;have i9:(j:Int)<(n:Int):=by omega
   clear y hq;go_wp2;go_loopw[6] (fun i wr=>∃l:Nat,l≤m∧i= .int .i64 l∧Hi (∀k,k<l→decide (ct (P j) (P (nx n j)) (Q k) (Q (nx m k)))=false)∧Below w.heap.size w wr) (fun i _=>m-(intOf i).toNat)
   case atStart=>exact⟨0,by omega,rfl,fun k D=>absurd D (by omega),A.o⟩
   case round=>
    obtain⟨t,rfl⟩:=wE wr;obtain⟨l,hl,rfl,a5,a⟩:=hrel;have B:=ar a;by_cases hll:l<m
    ·obtain⟨o,f1,rfl,d,b⟩:=a7.o j hlt;obtain⟨p,f2,rfl,f,c⟩:=I.o l hll;obtain⟨L1,z⟩:=oE ((l:Int)+1);obtain⟨r,hr⟩:=oE (nx m l);have rn:r<m:=by rw[←hr];exact dW (by omega)
     have t1:IntKind.i64.wrap ((l:Int)+1)=L1:=by rw[z];exact iw
     have t2:L1.tmod (m:Int)=(r:Int):=by rw[←z,←hr];exact gz hll
     have t3:IntKind.i64.wrap (r:Int)=(r:Int):=iw;have t0:¬m=0:=by omega
     have t5:=dS r;have t6:(r:Int)<(m:Int):=by omega
     have K:=ar z;have Hr:=ar hr;have t8:=dS l;have t9:(l:Int)<(m:Int):=by omega
     clear z hr;have b5:t.cell? (o,f1+j*2)=some (.int .i64 (P j).1):=bI a d (b j hlt).1;have b6:t.cell? (o,f1+j*2+1)=some (.int .i64 (P j).2):=bI a d (b j hlt).2;have b8:t.cell? (o,f1+q*2)=some (.int .i64 (P q).1):=bI a d (b q qn).1;have b9:t.cell? (o,f1+q*2+1)=some (.int .i64 (P q).2):=bI a d (b q qn).2;have c0:t.cell? (p,f2+l*2)=some (.int .i64 (Q l).1):=bI a f (c l hll).1;have c3:t.cell? (p,f2+l*2+1)=some (.int .i64 (Q l).2):=bI a f (c l hll).2;have c4:t.cell? (p,f2+r*2)=some (.int .i64 (Q r).1):=bI a f (c r rn).1;have c5:t.cell? (p,f2+r*2+1)=some (.int .i64 (Q r).2):=bI a f (c r rn).2;obtain⟨bb,F⟩:=oE (decide (ct (P j) (P q) (Q l) (Q r)));have H:=ar F;have x:Hi (∀W,Gv 110 #[.agg #[(P j).1,(P j).2],.agg #[(P q).1,(P q).2],.agg #[(Q l).1,(Q l).2],.agg #[(Q r).1,(Q r).2]] (.bool bb) W):=fun W=>by
      rw[←F];exact xU _ _ _ _ _ _ _ _ W (dk (hP.o j hlt)) (dk (hP.o q qn)) (dk (hQ.o l hll)) (dk (hQ.o r rn))
     clear F;have d4:o<t.heap.size:=by have:=a.size;omega
     have d5:p<t.heap.size:=by have:=a.size;omega
     obtain⟨a1,L⟩:=oE ((P j).1);rw[L]at b5 x;clear L;obtain⟨a2,N⟩:=oE ((P j).2);rw[N]at b6 x;clear N;obtain⟨b1,s⟩:=oE ((P q).1);rw[s]at b8 x;clear s;obtain⟨b2,O⟩:=oE ((P q).2);rw[O]at b9 x;clear O;obtain⟨c1,T⟩:=oE ((Q l).1);rw[T]at c0 x;clear T;obtain⟨c2,U⟩:=oE ((Q l).2);rw[U]at c3 x;clear U;obtain⟨d1,Y⟩:=oE ((Q r).1);rw[Y]at c4 x;clear Y;obtain⟨d2,Z⟩:=oE ((Q r).2);rw[Z]at c5 x;clear Z;clear b c;go_wp2_with fail
     refine aD 25 ?_;simp only[ac,aj,aK,aC,aa,ae,af];iterate 24 refine bJ ?_
     apply bg
     ·intro u wx hz hc hf c9 hd;simp[aU,ai,aR,ay.is,ay.any]at hd;go_simp
      first|rfl|(go_at_call 110;refine(x.o _).mono ?_;rintro e w1 ⟨rfl,s⟩;first|exact⟨rfl,s⟩|exact⟨_,rfl,s,rfl⟩)
     intro u w5 hb hE;simp only[cF,aR,ay.is,aE,aA,reduceIte]at hE;simp only[am,ax,ac,aj,aK,aC,aa,ae,af,hE];clear hE;have g:=ar hb;obtain⟨c8,c7,X,a3,a6⟩:=pr hb;clear hb;have G:=ar (ag B.o g.o);clear X a3 g;cases bb with
     |true=>
      have E:Hi (R=true):=by
       show _=_;rw[←HR.o];refine pm hlt hll ?_;rw[Hq.o,Hr.o];exact H.o
      go_wp2;go_returns;rw[E.o];exact⟨rfl,G.o⟩
     |false=>
      have a9:Hi (∀k,k<l+1→decide (ct (P j) (P (nx n j)) (Q k) (Q (nx m k)))=false):=fun k D=>by
       by_cases e:k=l
       ·rw[e,Hq.o,Hr.o];exact H.o
       ·exact a5.o k (by omega)
      go_wp2;go_roundw
      case rel=>exact⟨l+1,by omega,by rw[←K.o];rfl,a9,G.o⟩
      case measure=>have:=K.o;simp[intOf];omega
    ·have b0:Hi (∀i,i<j+1→∀k,k<m→decide (ct (P i) (P (nx n i)) (Q k) (Q (nx m k)))=false):=fun i hi k D=>by
      by_cases e:i=j
      ·rw[e];exact a5.o k (by omega)
      ·exact a4.o i (by omega) k D
     go_wp2;go_roundw
     case rel=>exact⟨j+1,by omega,by rw[←J.o];rfl,b0,B.o⟩
     case measure=>have:=J.o;simp[intOf];omega
  ·have E:Hi (R=false):=by
    show _=_;rw[←HR.o];exact rP fun i hi k D=>a4.o i (by omega) k D
   go_wp2;go_returns;rw[E.o];exact⟨rfl,A.o⟩
theorem qd (v u:Value) (n m:Nat) (P Q:Nat→Pt) (w:World) (h:bO w v n P) (h':bO w u m Q) (hP:Hi (∀i,i<n→cR 32768 (P i)=true)) (hQ:Hi (∀i,i<m→cR 32768 (Q i)=true)):
 Gv 186 #[v,u,.func (.func 187) #[] #[]] (.bool (iF n P m Q)) w:=by
 obtain⟨oa,cap,rfl,hn,hc,a6⟩:=h.form;obtain⟨ob,d6,rfl,e1,e0,D⟩:=h'.form;have c0:=ar a6;have T:=ar D;clear h a6 h' D;generalize hR:iF n P m Q=R;have HR:=ar hR;clear hR;go_enter func186,ntmps186;go_wp2;go_loopw[13] (fun i wr=>∃j:Nat,j≤n∧i= .int .i64 j∧Hi (∀i,i<j→∀k,k<m→decide (ct (P i) (P (nx n i)) (Q k) (Q (nx m k)))=false)∧Below w.heap.size w wr) (fun i _=>n-(intOf i).toNat)
 case atStart=>exact⟨0,by omega,rfl,fun k E=>absurd E (by omega),ah _ _⟩
 case round=>
  obtain⟨F,rfl⟩:=wE wr;obtain⟨j,hj,rfl,a8,t⟩:=hrel;have A:=ar t;by_cases hlt:j<n
  ·obtain⟨g,f1,rfl,d,a⟩:=c0.o j hlt;obtain⟨J1,x⟩:=oE ((j:Int)+1);obtain⟨q,hq⟩:=oE (nx n j);have qn:q<n:=by rw[←hq];exact dW (by omega)
   have i1:IntKind.i64.wrap ((j:Int)+1)=J1:=by rw[x];exact iw
   have i2:J1.tmod (n:Int)=(q:Int):=by rw[←x,←hq];exact gz hlt
   have i3:IntKind.i64.wrap (q:Int)=(q:Int):=iw;have i0:¬n=0:=by omega
   have i5:=dS q;have i6:(q:Int)<(n:Int):=by omega
   have U:=ar x;have Hq:=ar hq;have i8:=dS j;have i9:(j:Int)<(n:Int):=by omega
   clear x hq;have b0:F.cell? (g,f1+j*2)=some (.int .i64 (P j).1):=bI t d (a j hlt).1;have b5:F.cell? (g,f1+j*2+1)=some (.int .i64 (P j).2):=bI t d (a j hlt).2;have e2:g<F.heap.size:=by have:=t.size;omega
   obtain⟨a1,H⟩:=oE ((P j).1);obtain⟨a2,I⟩:=oE ((P j).2);rw[H]at b0;rw[I]at b5;have b6:=ar H;have b8:=ar I;clear H I;have O:=ar a;clear a;go_wp2;go_loopw[20] (fun i wr=>∃l:Nat,l≤m∧i= .int .i64 l∧Hi (∀k,k<l→decide (ct (P j) (P (nx n j)) (Q k) (Q (nx m k)))=false)∧F.heap.size<wr.heap.size∧wr.cell? F.heap.size=some a1∧wr.cell? (F.heap.size,1)=some a2∧Below w.heap.size w wr) (fun i _=>m-(intOf i).toNat)
   case atStart=>exact⟨0,by omega,rfl,fun k E=>absurd E (by omega),by simp,by simp[go_sem],by simp[go_sem],by have hB:=A.o;have hz:=hB.size;go_grown⟩
   case round=>
    obtain⟨z,rfl⟩:=wE wr;obtain⟨l,hl,rfl,a9,zw,m0,m1,b⟩:=hrel;have B:=ar b;have a:=O.o;clear b0 b5;by_cases hll:l<m
    ·obtain⟨p,f2,rfl,f,c⟩:=T.o l hll;obtain⟨L1,y⟩:=oE ((l:Int)+1);obtain⟨r,hr⟩:=oE (nx m l);have rn:r<m:=by rw[←hr];exact dW (by omega)
     have t1:IntKind.i64.wrap ((l:Int)+1)=L1:=by rw[y];exact iw
     have t2:L1.tmod (m:Int)=(r:Int):=by rw[←y,←hr];exact gz hll
     have t3:IntKind.i64.wrap (r:Int)=(r:Int):=iw;have t0:¬m=0:=by omega
     have t5:=dS r;have t6:(r:Int)<(m:Int):=by omega
     have X:=ar y;have Hr:=ar hr;have t8:=dS l;have t9:(l:Int)<(m:Int):=by omega
     clear y hr;have c7:z.cell? (g,f1+q*2)=some (.int .i64 (P q).1):=bI b d (a q qn).1;have c8:z.cell? (g,f1+q*2+1)=some (.int .i64 (P q).2):=bI b d (a q qn).2;have c9:z.cell? (p,f2+l*2)=some (.int .i64 (Q l).1):=bI b f (c l hll).1;have d0:z.cell? (p,f2+l*2+1)=some (.int .i64 (Q l).2):=bI b f (c l hll).2;have d3:z.cell? (p,f2+r*2)=some (.int .i64 (Q r).1):=bI b f (c r rn).1;have d4:z.cell? (p,f2+r*2+1)=some (.int .i64 (Q r).2):=bI b f (c r rn).2;obtain⟨bb,J⟩:=oE (decide (ct (P j) (P q) (Q l) (Q r)));have N:=ar J;have C:Hi (∀W,Gv 187 #[.agg #[(P j).1,(P j).2],.agg #[(P q).1,(P q).2],.agg #[(Q l).1,(Q l).2],.agg #[(Q r).1,(Q r).2]] (.bool bb) W):=fun W=>by
      rw[←J];exact AS _ _ _ _ _ _ _ _ W (dk (hP.o j hlt)) (dk (hP.o q qn)) (dk (hQ.o l hll)) (dk (hQ.o r rn))
     clear J;rw[b6.o,b8.o]at C;have e3:g<z.heap.size:=by have:=b.size;omega
     have e4:p<z.heap.size:=by have:=b.size;omega
     have M0:=ar m0;have M1:=ar m1;obtain⟨b1,s⟩:=oE ((P q).1);rw[s]at c7 C;clear s;obtain⟨b2,Y⟩:=oE ((P q).2);rw[Y]at c8 C;clear Y;obtain⟨c1,Z⟩:=oE ((Q l).1);rw[Z]at c9 C;clear Z;obtain⟨c2,a0⟩:=oE ((Q l).2);rw[a0]at d0 C;clear a0;obtain⟨d1,a4⟩:=oE ((Q r).1);rw[a4]at d3 C;clear a4;obtain⟨d2,a5⟩:=oE ((Q r).2);rw[a5]at d4 C;clear a5;clear a c;go_wp2_with fail
     refine aD 20 ?_;simp only[ac,aj,aK,aC,aa,ae,af];iterate 19 refine bJ ?_
     apply bg
     ·intro u wx hz hc hf d9 hd;simp[aU,ai,aR,ay.is,ay.any]at hd;go_simp
      first|rfl|(go_at_call 187;refine(C.o _).mono ?_;rintro e F ⟨rfl,s⟩;first|exact⟨rfl,s⟩|exact⟨_,rfl,s,rfl⟩)
     intro u w5 hb hE;simp only[cF,aR,ay.is,aE,aA,reduceIte]at hE;simp only[am,ax,ac,aj,aK,aC,aa,ae,af,hE];clear hE;have o:=ar hb;have K:=ag (w:=z) (by first|assumption|go_grown) hb;obtain⟨d8,d7,a3,a7,b9⟩:=pr hb;clear hb;have L:=ar (ag (w:=w) (by have hB:=B.o;have hz:=hB.size;go_grown) o.o);have c3:=ar (bI K zw M0.o);have c4:=ar (bI K zw M1.o);have d5:F.heap.size<w5.heap.size:=by have:=K.size;omega
     clear a3 a7 o;cases bb with
     |true=>
      have G:Hi (R=true):=by
       show _=_;rw[←HR.o];refine pm hlt hll ?_;rw[Hq.o,Hr.o];exact N.o
      go_wp2;go_returns;rw[G.o];exact⟨rfl,L.o⟩
     |false=>
      have c5:Hi (∀k,k<l+1→decide (ct (P j) (P (nx n j)) (Q k) (Q (nx m k)))=false):=fun k E=>by
       by_cases e:k=l
       ·rw[e,Hq.o,Hr.o];exact N.o
       ·exact a9.o k (by omega)
      go_wp2;go_roundw
      case rel=>exact⟨l+1,by omega,by rw[←X.o];rfl,c5,d5,c3.o,c4.o,L.o⟩
      case measure=>have:=X.o;simp[intOf];omega
    ·have c6:Hi (∀i,i<j+1→∀k,k<m→decide (ct (P i) (P (nx n i)) (Q k) (Q (nx m k)))=false):=fun i hi k E=>by
      by_cases e:i=j
      ·rw[e];exact a9.o k (by omega)
      ·exact a8.o i (by omega) k E
     go_wp2;go_roundw
     case rel=>exact⟨j+1,by omega,by rw[←U.o];rfl,c6,B.o⟩
     case measure=>have:=U.o;simp[intOf];omega
  ·have G:Hi (R=false):=by
    show _=_;rw[←HR.o];exact rP fun i hi k E=>a8.o i (by omega) k E
   go_wp2;go_returns;rw[G.o];exact⟨rfl,A.o⟩
end
end Go.Proofs.YtencnijahlkbaaaGreatDoor
