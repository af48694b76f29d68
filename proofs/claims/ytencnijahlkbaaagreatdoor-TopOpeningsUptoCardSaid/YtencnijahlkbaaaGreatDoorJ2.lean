/-
  Lemmas of this claim, joined. Conditions: as stated. By an AI agent.
-/
import Derived.Test.YtencnijahlkbaaaGreatDoorJ1
import Derived.Shelf.Strings.Split
import Derived.Shelf.Strings.Shaped
import Derived.Laws.AppendOwn
import Derived.Laws.CopyRow
import Derived.Laws.CopyOwn
import Derived.Laws.IdiomCopy
import Derived.Lib.SliceRun
open Go.Act renaming put → aC
open Array renaming getElem?_eq_some_iff → av
open Go.RowKit.Below renaming refl → ah
open Bool renaming false_and → aI, true_and → aN, and_false → aL, false_or → aP, true_or → aW, or_false → aQ, eq_false_iff → cG
open Classical renaming byContradiction → aG
open Int renaming mul_nonneg → bE
open List renaming take_succ_cons → ac, take_zero → aj, drop_succ_cons → am, drop_zero → ax, setIfInBounds_toArray → aa, set_cons_zero → ae, set_cons_succ → af, mem_cons_self → bw, getElem?_eq_getElem → aS, getD_eq_getElem?_getD → aO, getElem?_append_left → cV, getElem?_append_right → cD, length_append → aZ, mem_cons → bj
open Nat renaming le_refl → aB, lt_of_lt_of_le → aM, le_trans → bW, reduceAdd → aE, reduceEqDiff → aA
open Go.Region renaming binds → ai, wanted → au
open Go.World renaming size_setCell → aT, size_alloc → aw
namespace Go.Proofs.YtencnijahlkbaaaGreatDoor
set_option maxHeartbeats 8000000
set_option maxRecDepth 100000
set_option linter.unusedVariables false
set_option linter.unusedSimpArgs false
open Go.Proofs.Tryz
section
open Go Go.Shelf Go.RowKit
def vH:Go.Shelf.Ren:=⟨fun|146=>115|221=>146|268=>192|138=>193|143=>194|195=>322|197=>323|218=>324|219=>325|260=>358|217=>359|225=>360|224=>361|267=>362|266=>374|314=>375|n=>n,fun|9=>9|31=>67|3=>3|4=>4|0=>0|105=>257|21=>21|5=>5|46=>283|119=>295|139=>298|138=>297|146=>300|51=>299|n=>n,fun|1=>1|3=>2|4=>3|n=>n⟩
theorem Fp:Go.Proofs.Lays.n146 prog vH:={
 mixed:=by kernel_rfl
 f138:=func193.trans (congrArg some (by kernel_rfl))
 f143:=func194.trans (congrArg some (by kernel_rfl))
 f146:=func115.trans (congrArg some (by kernel_rfl))
 f195:=func322.trans (congrArg some (by kernel_rfl))
 f197:=func323.trans (congrArg some (by kernel_rfl))
 f217:=func359.trans (congrArg some (by kernel_rfl))
 f218:=func324.trans (congrArg some (by kernel_rfl))
 f219:=func325.trans (congrArg some (by kernel_rfl))
 f221:=func146.trans (congrArg some (by kernel_rfl))
 f224:=func361.trans (congrArg some (by kernel_rfl))
 f225:=func360.trans (congrArg some (by kernel_rfl))
 f260:=func358.trans (congrArg some (by kernel_rfl))
 f266:=func374.trans (congrArg some (by kernel_rfl))
 f267:=func362.trans (congrArg some (by kernel_rfl))
 f268:=func192.trans (congrArg some (by kernel_rfl))
 f314:=func375.trans (congrArg some (by kernel_rfl))
 t0:=underlying0
 a0:=Tryz.isAgg0
 z0:=Tryz.sizeOf0
 v0:=Tryz.zeroValue0
 t3:=underlying3
 a3:=Tryz.isAgg3
 z3:=Tryz.sizeOf3
 v3:=Tryz.zeroValue3
 t4:=underlying4
 a4:=Tryz.isAgg4
 z4:=Tryz.sizeOf4
 v4:=Tryz.zeroValue4
 t5:=underlying5
 a5:=Tryz.isAgg5
 z5:=Tryz.sizeOf5
 v5:=Tryz.zeroValue5
 t9:=underlying9
 a9:=Tryz.isAgg9
 z9:=Tryz.sizeOf9
 v9:=Tryz.zeroValue9
 t21:=underlying21
 a21:=Tryz.isAgg21
 z21:=Tryz.sizeOf21
 v21:=Tryz.zeroValue21
 t31:=underlying67
 a31:=Tryz.isAgg67
 z31:=Tryz.sizeOf67
 v31:=Tryz.zeroValue67
 t46:=underlying283
 a46:=Tryz.isAgg283
 z46:=Tryz.sizeOf283
 v46:=Tryz.zeroValue283
 t51:=underlying299
 a51:=Tryz.isAgg299
 z51:=Tryz.sizeOf299
 v51:=Tryz.zeroValue299
 t105:=underlying257
 a105:=Tryz.isAgg257
 z105:=Tryz.sizeOf257
 v105:=Tryz.zeroValue257
 t119:=underlying295
 a119:=Tryz.isAgg295
 z119:=Tryz.sizeOf295
 t138:=underlying297
 a138:=Tryz.isAgg297
 z138:=Tryz.sizeOf297
 v138:=Tryz.zeroValue297
 t139:=underlying298
 a139:=Tryz.isAgg298
 z139:=Tryz.sizeOf298
 v139:=Tryz.zeroValue298
 t146:=underlying300
 a146:=Tryz.isAgg300
 z146:=Tryz.sizeOf300
 v146:=Tryz.zeroValue300
 g1:=by kernel_rfl
 g3:=by kernel_rfl
 g4:=by kernel_rfl}
def dN (w:World):Prop:=∃m:Int,w.cell? (1,0)=some m
theorem AA (w:World) (h:w.ShapedOpen prog):dN w:=
 Go.Proofs.cell_of_shapedOpen_int (zero:=#[()]) (t:=3) h (of_decide_eq_true (by kernel_rfl)) (by kernel_rfl) rfl (by kernel_rfl) (by kernel_rfl) underlying3
theorem dN.below {w w':World} (h:dN w) (b:Below w.heap.size w w'):dN w':=by
 obtain⟨m,a⟩:=h;exact⟨m,bI b (World.block_lt_of_cell? _ _ a) a⟩
theorem AC (s a:ByteArray) (w:World) (d:s.size<4294967281) (b:dN w) (c:1≤a.size):
 Calls prog 115 #[.string s,.string a] w fun e w'=>
  e= .returned (.slice (some ⟨w.heap.size,0,none⟩) (Lib.countB s a+1) (Lib.countB s a+1))∧w'=w.alloc (.cells ((Lib.splitB a 0 (Lib.countB s a) s).map Value.string).toArray 9):=by
 obtain⟨m,b⟩:=b;exact Any.strings_Split Fp (by kernel_rfl) s a m w d b c
end
section
open Go Go.RowKit
theorem nz (b c:UInt8) (l:List UInt8):Lib.index (b::l) [c]=if b=c then 0 else if Lib.index l [c]= -1 then -1 else Lib.index l [c]+1:=by
 rw[Lib.index];by_cases h:b=c
 ·subst h;simp[List.isPrefixOf]
 ·have a:([c]:List UInt8).isPrefixOf (b::l)=false:=by simp[List.isPrefixOf,Ne.symm h]
  rw[a,if_neg h];simp
theorem AD (c:UInt8):Lib.index [] [c]= -1:=by simp[Lib.index]
theorem rs (c:UInt8):∀l:List UInt8,(∀b∈l,b≠c)→Lib.index l [c]= -1
 | [],_=>AD c
 |b::l,h=>by
  rw[nz,if_neg (h b (by simp)),if_pos (rs c l (fun b a=>h b (by simp[a])))]
theorem vI (c:UInt8):∀(j:Nat) (l:List UInt8),(∀k b,k<j→l[k]?=some b→b≠c)→l[j]?=some c→Lib.index l [c]=j
 |_,[],_,h=>by simp at h
 |0,b::l,_,h=>by
  have:b=c:=by simpa using h
  rw[nz,if_pos this];rfl
 |j+1,b::l,hn,h=>by
  have d:=vI c j l (fun k x e a=>hn (k+1) x (by omega) (by simpa using a)) (by simpa using h);rw[nz,if_neg (hn 0 b (by omega) (by simp)),d,if_neg (by omega)];omega
theorem rt (s:ByteArray) (i:Nat) (h:i<s.size):∃b:UInt8,s.data.toList[i]?=some b∧b.toNat=fD s i:=by
 refine⟨s.data.toList[i]'(by rw[←Lib.size_eq];exact h),aS _,?_⟩;rw[mi s i h];rfl
abbrev uu:ByteArray:=⟨#[46]⟩
theorem lG (s:ByteArray) (f j:Nat):(s.extract f s.size).data.toList[j]?=s.data.toList[f+j]?:=by
 rw[Lib.extract_to_end,List.getElem?_drop]
def gg (s:ByteArray):Nat→Nat→Nat→List ByteArray
 |0,f,_=> [s.extract f s.size]
 |k+1,f,i=>if fD s i=46 then s.extract f i::gg s k (i+1) (i+1)else gg s k f (i+1)
def eZ (s:ByteArray):List ByteArray:=gg s s.size 0 0
theorem AE (s:ByteArray) (f i:Nat) (m:f≤i) (l:i<s.size) (hn:∀j,f≤j→j<i→fD s j≠46) (h:fD s i=46):Lib.indexB (s.extract f s.size) uu=((i-f:Nat):Int):=by
 refine vI 46 (i-f) _ (fun k b n d=> ?_) ?_
 ·rw[lG]at d;obtain⟨c,a,e⟩:=rt s (f+k) (by omega);rw[d]at a;obtain rfl:b=c:=by simpa using a
  intro g;subst g;exact hn (f+k) (by omega) (by omega) e.symm
 ·rw[lG,show f+(i-f)=i by omega];obtain⟨c,a,e⟩:=rt s i l;rw[a,show c=46 from UInt8.toNat_inj.1 (by rw[e,h];rfl)]
theorem vJ (s:ByteArray) (f:Nat) (hn:∀j,f≤j→j<s.size→fD s j≠46):Lib.indexB (s.extract f s.size) uu= -1:=by
 refine rs 46 _ (fun b i e=> ?_);obtain⟨k,l,rfl⟩:=List.mem_iff_getElem.1 i;have d:(s.extract f s.size).data.toList[k]?=some ((s.extract f s.size).data.toList[k]):=aS l;rw[lG,e]at d;have c:f+k<s.size:=by
  have:=(List.getElem?_eq_some_iff.1 d).1;rw[Lib.size_eq];exact this
 obtain⟨g,a,h⟩:=rt s (f+k) c;rw[d]at a;obtain rfl:(46:UInt8)=g:=by simpa using a
 exact hn (f+k) (by omega) c h.symm
theorem vK (s:ByteArray) (f a:Nat) (h:f+a≤s.size):(s.extract f s.size).extract a (s.extract f s.size).size=s.extract (f+a) s.size:=by
 have c:((s.extract f s.size).extract a (s.extract f s.size).size).data.toList=(s.extract (f+a) s.size).data.toList:=by
  rw[Lib.extract_to_end,Lib.extract_to_end,Lib.extract_to_end,List.drop_drop]
 have b:=Array.ext' c;generalize (s.extract f s.size).extract a (s.extract f s.size).size=p at*
 generalize s.extract (f+a) s.size=q at*
 cases p;cases q;simp only at b;rw[b]
theorem te (s:ByteArray) (f i:Nat) (c:f≤i) (d:i≤s.size):(s.extract f s.size).extract 0 (i-f)=s.extract f i:=by
 have b:((s.extract f s.size).extract 0 (i-f)).data.toList=(s.extract f i).data.toList:=by
  rw[Lib.extract_from_zero,Lib.extract_to_end,Lib.extract_data]
 have a:=Array.ext' b;generalize (s.extract f s.size).extract 0 (i-f)=p at*
 generalize s.extract f i=q at*
 cases p;cases q;simp only at a;rw[a]
theorem lH (s:ByteArray):∀(k f i:Nat),i+k=s.size→f≤i→(∀j,f≤j→j<i→fD s j≠46)→
 Lib.splitB uu 0 (Lib.countB (s.extract f s.size) uu) (s.extract f s.size)=gg s k f i
 |0,f,i,hk,hf,hn=>by
  have h:=vJ s f (fun j a b=>hn j a (by omega));rw[Lib.countB_miss _ _ h,Lib.splitB_zero];rfl
 |k+1,f,i,hk,hf,hn=>by
  unfold gg;by_cases h:fD s i=46
  ·rw[if_pos h];have c:=AE s f i hf (by omega) hn h;rw[Lib.countB_hit _ _ _ (by decide) c,show(1+Lib.countB ((s.extract f s.size).extract (i-f+uu.size) (s.extract f s.size).size) uu)=Lib.countB ((s.extract f s.size).extract (i-f+uu.size) (s.extract f s.size).size) uu+1 by omega,
    Lib.splitB_hit _ _ _ _ _ c]
   have d:uu.size=1:=rfl;rw[Nat.add_zero,d,vK s f (i-f+1) (by omega),te s f i hf (by omega),show f+(i-f+1)=i+1 by omega];rw[lH s k (i+1) (i+1) (by omega) (aB _) (fun j a b=>by omega)]
  ·rw[if_neg h];refine lH s k f (i+1) (by omega) (by omega) (fun j a b=> ?_);by_cases e:j=i
   ·rw[e];exact h
   ·exact hn j a (by omega)
theorem vL (s:ByteArray):s.extract 0 s.size=s:=by
 have b:(s.extract 0 s.size).data.toList=s.data.toList:=by rw[Lib.extract_to_end];rfl
 have a:=Array.ext' b;cases s;generalize ByteArray.extract _ _ _=p at*
 cases p;simp only at a;rw[a]
theorem ol (s:ByteArray):Lib.splitB uu 0 (Lib.countB s uu) s=eZ s:=by
 have:=lH s s.size 0 0 (by omega) (aB _) (fun j a b=>by omega);rw[vL]at this;exact this
theorem xC (s:ByteArray):(eZ s).length=Lib.countB s uu+1:=by
 rw[←ol];exact Lib.splitB_all uu (by decide) 0 _ s rfl
theorem kN (s:ByteArray):∀k f i,1≤(gg s k f i).length∧(gg s k f i).length≤k+1
 |0,_,_=>by simp[gg]
 |k+1,f,i=>by
  unfold gg;split
  ·have:=kN s k (i+1) (i+1);simp only[List.length_cons];omega
  ·have:=kN s k f (i+1);omega
def gw:List ByteArray→Nat
 | []=>0
 |p::l=>p.size+gw l
theorem kO (s:ByteArray):∀k f i,i+k=s.size→f≤i→gw (gg s k f i)+(gg s k f i).length=s.size-f+1
 |0,f,i,hk,hf=>by simp[gg,gw,ByteArray.size_extract]
 |k+1,f,i,hk,hf=>by
  unfold gg;split
  ·have:=kO s k (i+1) (i+1) (by omega) (aB _);simp only[List.length_cons,gw,ByteArray.size_extract];omega
  ·exact kO s k f (i+1) (by omega) (by omega)
theorem ot (s:ByteArray):gw (eZ s)+(eZ s).length=s.size+1:=by
 have:=kO s s.size 0 0 (by omega) (aB _);rw[Nat.sub_zero]at this;exact this
theorem ou:∀a b:List ByteArray,gw (a++b)=gw a+gw b
 | [],b=>by simp[gw]
 |p::a,b=>by simp only[List.cons_append,gw,ou a b];omega
def jZ (s:ByteArray):Bool:=decide (s.size≤64)&&decide ((eZ s).length≤8)&&(eZ s).all dM
def nA (w:World) (v:Value) (l:List ByteArray):Prop:=cE w v l.length 1 (fun i _=> .string (l.getD i ⟨#[]⟩))∧l.length≤4294967296∧∀p∈l,p.size≤4294967296
theorem nA.form {w:World} {v:Value} {l:List ByteArray} (h:nA w v l):∃(oa:Option Addr) (cap:Nat),v= .slice oa l.length cap∧l.length≤4294967296∧(∀i,i<l.length→(l.getD i ⟨#[]⟩).size≤4294967296)∧
 ∀i,i<l.length→∃b a,oa=some ⟨b,a,none⟩∧b<w.heap.size∧∀k,k<l.length→w.cell? ⟨b,a+k,none⟩=some (l.getD k ⟨#[]⟩):=by
 obtain⟨⟨oa,cap,j,-,-,m⟩,c,g⟩:=h;refine⟨oa,cap,j,c,fun i d=>g _ ?_,fun i d=> ?_⟩
 ·rw[aO,aS d];exact List.getElem_mem d
 ·obtain⟨b,a,e,f,n⟩:=m (by omega);exact⟨b,a,e,f,fun k o=>by have:=n k 0 o (by decide);simpa using this⟩
theorem nB:∀(l:List ByteArray) (j:Nat),j<l.length→gw (l.take (j+1))=gw (l.take j)+(l.getD j ⟨#[]⟩).size
 | [],j,h=>by simp at h
 |p::l,0,_=>by simp[gw]
 |p::l,j+1,h=>by
  have:=nB l j (by simpa using h);simp only[ac,gw,List.getD_cons_succ];omega
theorem tg (l:List ByteArray) (j:Nat):gw (l.take j)≤gw l:=by
 have:=ou (l.take j) (l.drop j);rw[List.take_append_drop]at this;omega
theorem CN {l:List ByteArray} {f:ByteArray→Bool} (h:∀k,k<l.length→f (l.getD k ⟨#[]⟩)=true):l.all f=true:=by
 rw[List.all_eq_true];intro x b;obtain⟨k,a,rfl⟩:=List.mem_iff_getElem.1 b;have:=h k a
 rwa [aO,aS a]at this
theorem zq {l:List ByteArray} {f:ByteArray→Bool} {k:Nat} (a:k<l.length) (h:f (l.getD k ⟨#[]⟩)=false):l.all f=false:=by
 cases e:l.all f with
 |false=>rfl
 |true=>
  have:=List.all_eq_true.1 e (l.getD k ⟨#[]⟩) (by rw[aO,aS a];exact List.getElem_mem a);rw[h]at this;cases this
theorem AF (v:Value) (l:List ByteArray) (w:World) (h:nA w v l) (P:1≤l.length) (N:gw l+l.length≤65):
 Gv 114 #[v] (.bool (decide (l.length≤8)&&l.all dM)) w:=by
 obtain⟨oa,cap,rfl,t,x,s⟩:=h.form;obtain⟨n,hn⟩:=oE l.length;have B:=ar s;have C:=ar x;have d:=ar hn;obtain⟨S,E⟩:=oE (gw l);have O:=ar E;rw[hn]at P N t;rw[E]at N;obtain⟨R,D⟩:=oE ((decide (l.length≤8)&&l.all dM));have L:=ar D;rw[D,hn];clear h s x hn E D;go_enter func114,ntmps114;go_wp2;go_loopw[3,11] (fun b i wr=>∃(j z:Nat),j≤n∧z≤S∧i= .int .i64 j∧b= .int .i64 ((n:Int)-1+z)∧Hi (gw (l.take j)=z∧∀k,k<j→dM (l.getD k ⟨#[]⟩)=true)∧Below w.heap.size w wr) (fun _ i _=>n-(intOf i).toNat)
 case atStart=>exact⟨0,0,by omega,by omega,rfl,by simp,⟨rfl,fun k H=>by omega⟩,ah _ _⟩
 case round=>
  obtain⟨j,z,Z,hz,rfl,rfl,A,y⟩:=hrel;have a:=ar y;by_cases hlt:j<n
  ·obtain⟨b,K,rfl,F,r⟩:=B.o j (by rw[d.o];exact hlt);obtain⟨p,m⟩:=oE (l.getD j ⟨#[]⟩);have Y:wr.cell? (b,K+j)=some p:=by rw[←m];exact bI y F (r j (by rw[d.o];exact hlt))
   have U:p.size≤4294967296:=by rw[←m];exact C.o j (by rw[d.o];exact hlt)
   have W:z+p.size≤S:=by
    have Q:=nB l j (by rw[d.o];exact hlt);rw[m,A.o.1]at Q;have T:=tg l (j+1);rw[O.o]at T;omega
   clear r y;by_cases f:dM p=true
   ·have I:Hi (gw (l.take (j+1))=z+p.size∧∀k,k<j+1→dM (l.getD k ⟨#[]⟩)=true):=by
     refine⟨?_,fun k H=> ?_⟩
     ·rw[nB l j (by rw[d.o];exact hlt),m,A.o.1]
     ·by_cases e:k=j
      ·subst e;rw[m];exact f
      ·exact A.o.2 k (by omega)
    clear m;go_wp2_with fail
    (go_at_call 117;refine(jw _ _ (by omega)).mono ?_;rintro e X ⟨rfl,q⟩);rw[f];have o:=ar (ag a.o q);clear q f;go_wp2;go_roundw
    case rel=>exact⟨j+1,z+p.size,by omega,by omega,by go_num,by go_num,I,o.o⟩
    case measure=>simp[intOf];omega
   ·have f:dM p=false:=by simpa using f
    have u:R=false:=by rw[←L.o,zq (by rw[d.o];exact hlt) (m▸f),aL]
    have c:=ar u;clear m u;go_wp2_with fail
    (go_at_call 117;refine(jw _ _ (by omega)).mono ?_;rintro e X ⟨rfl,q⟩);rw[f];have o:=ar (ag a.o q);clear q f;go_wp2;go_returns;rw[c.o];exact⟨rfl,o.o⟩
  ·have G:j=n:=by omega
   subst G;have g:l.all dM=true:=CN fun k H=>A.o.2 k (by rw[←d.o];exact H);have k9:decide ((j:Int)-1+z≤64)=true:=dt;have u:R=decide (j≤8):=by rw[←L.o,g,d.o,Bool.and_true]
   have c:=ar u;clear y g u;by_cases h8:j≤8
   ·have J:Hi (decide (j≤8)=true):=decide_eq_true h8;go_wp2;go_returns;rw[c.o,J.o];exact⟨rfl,a.o⟩
   ·have J:Hi (decide (j≤8)=false):=decide_eq_false h8;go_wp2;go_returns;rw[c.o,J.o];exact⟨rfl,a.o⟩
theorem CO (w:World) (l:List ByteArray) (t:TypeId) (b:l.length≤4294967296) (c:∀p∈l,p.size≤4294967296):nA (w.alloc (.cells (l.map Value.string).toArray t)) (.slice (some ⟨w.heap.size,0,none⟩) l.length l.length) l:=by
 refine⟨⟨_,_,rfl,aB _,by omega,fun _=>⟨_,0,rfl,by simp,fun i j a d=> ?_⟩⟩,b,c⟩;have:j=0:=by omega
 subst this;simp[go_sem,a]
theorem pi:∀{l:List ByteArray} {p:ByteArray},p∈l→p.size≤gw l
 | [],_,h=>by cases h
 |q::l,p,h=>by
  rcases bj.1 h with rfl|h
  ·simp[gw]
  ·have:=pi h;simp only[gw];omega
theorem iP (s:ByteArray) (w:World) (q:s.size≤9223372036854775807) (l:dN w):
 Gv 67 #[.string s] (.bool (jZ s)) w:=by
 have n:=ar l;clear l;generalize d:jZ s=R;unfold jZ at d;by_cases h64:s.size≤64
 ·have a:Hi ((decide ((eZ s).length≤8)&&(eZ s).all dM)=R):=by show _=R;rw[←d,decide_eq_true h64,aN]
  have r:=ot s;have i:1≤(eZ s).length:=(kN s s.size 0 0).1;have j:Hi (nA (w.alloc (.cells ((Lib.splitB uu 0 (Lib.countB s uu) s).map Value.string).toArray 9)) (.slice (some ⟨w.heap.size,0,none⟩) (Lib.countB s uu+1) (Lib.countB s uu+1)) (eZ s)):=by
   rw[ol,←xC];exact CO _ _ _ (by omega) (fun p o=>by have:=pi o;omega)
  clear d;go_enter func67,ntmps67;go_wp2_with fail
  (go_at_call 115;refine(AC _ _ _ (by omega) n.o (by decide)).mono ?_;rintro e m ⟨rfl,b⟩);have h:Hi (nA m (.slice (some ⟨w.heap.size,0,none⟩) (Lib.countB s uu+1) (Lib.countB s uu+1)) (eZ s)):=by rw[b];exact j.o
  have c:Below w.heap.size w m:=by rw[b];exact(ah _ _).alloc (aB _) _
  have f:=ar c;clear b c j;go_wp2_with fail
  (go_at_call 114;refine(AF _ _ _ h.o i (by omega)).mono ?_;rintro e t ⟨rfl,k⟩);rw[a.o];have g:=ar (ag f.o k);clear k;go_wp2;go_returns;exact⟨rfl,g.o⟩
 ·have a:Hi (R=false):=by show R=false;rw[←d,decide_eq_false h64,aI,aI]
  clear d;go_enter func67,ntmps67;go_wp2;go_returns;rw[a.o];exact⟨rfl,by go_grown⟩
theorem iQ:(prog.info? 9).map (fun i=>(i.zero,i.size,i.bytes))=some (some (.string ⟨#[]⟩),1,16):=by kernel_rfl
theorem AG (s:ByteArray) (w:World) (hs:s.size≤2147483648):
 Calls prog 73 #[.string s] w fun e w'=>∃v,e= .returned v∧nA w' v (eZ s)∧Below w.heap.size w w':=by
 have O:prog.underlying 9=some .string:=underlying9;obtain⟨T,J,G,H,I⟩:=info_parts iQ;have K:Hi ((eZ s).length≤s.size+1∧∀p∈eZ s,p.size≤s.size+1):=⟨(kN s s.size 0 0).2,fun p N=>by have h1:=pi N;have h2:=ot s;omega⟩;go_enter func73,ntmps73;go_wp2;go_loopw[3,4,5] (fun v f i wr=>∃(k m:Nat) (l:List ByteArray),k≤s.size+1∧m≤k∧i= .int .i64 k∧f= .int .i64 m∧l.length≤k∧Hi ((k≤s.size→l++gg s (s.size-k) m k=eZ s)∧(k=s.size+1→l=eZ s))∧wr.ownsRow w.heap.size 9 1 v l.length (l.map Value.string)∧Below w.heap.size w wr) (fun _ _ i _=>s.size+1-(intOf i).toNat)
 case atStart=>exact⟨0,0,[],by omega,by omega,rfl,rfl,by simp,⟨fun _=>rfl,fun h=>by omega⟩,World.ownsRow_nil _ _ _ _,ah _ _⟩
 case round=>
  obtain⟨k,m,l,hk,X,rfl,rfl,a0,y,x,Q⟩:=hrel;have d:=ar Q;have C:=ar x;clear Q x;by_cases hlt:k≤s.size
  ·have r:=y.o.1 hlt;have D:=ar r;clear y r;have k1:IntKind.i64.wrap ((k:Int)+1)=(k:Int)+1:=iw;by_cases he:k=s.size
   ·subst he;have g:l++ [s.extract m s.size]=eZ s:=by have:=D.o;rw[Nat.sub_self]at this;exact this
    have n:=ar g;clear g;go_wp2_with (first|(at_builtin;refine wpList_append_own _ rfl _ _ 67 rfl w.heap.size 9 T (.string ⟨#[]⟩) 1 16 underlying67 J G H I rfl (by decide) _ _ _ rfl (C.o.alloc _) ⟨wr.heap.size,0,none⟩ 1 1 [(.string (s.extract m s.size))] rfl rfl ?c1 ?c2 ?c3 ?c4 ?c5 ?_)|go_in)
    case c1=>
     intro j u t
     match j,t with
     |0,t=>
      simp at t;subst t;simp[Addr.add]
      try rfl
    case c2=>intro u F;simp at F;subst F;rfl
    case c3=>unfold maxLen;omega
    case c4=>omega
    case c5=>have:=d.o.size;simp;omega
    intro P B b a _;have o:Below w.heap.size w B:=Below.grown (d.o.alloc d.o.size _) a (by have:=d.o.size;first|omega|(simp;omega)) (fun q y=>bU C.o q y);have z:=ar o;have A:Hi (B.ownsRow w.heap.size 9 1 P (l++ [s.extract m s.size]).length ((l++ [s.extract m s.size]).map Value.string)):=by
     show B.ownsRow _ _ _ _ _ _;rw[aZ,List.map_append];exact b
    clear b a o;go_wp2;go_roundw
    case rel=>exact⟨s.size+1,s.size+1,l++ [s.extract m s.size],by omega,by omega,by go_num,by go_num,by(simp<;>omega),⟨fun h=>by omega,fun _=>n.o⟩,A.o,z.o⟩
    case measure=>(simp[intOf]<;>omega)
   have L:k<s.size:=by omega
   have Z:((k:Int)==s.size)=false:=by(simp<;>omega)
   obtain⟨c,E⟩:=oE (fD s k);have Y:=fun W=>ny 9 O s k c L E W;by_cases hd:c=46
   ·subst hd;have g:(l++ [s.extract m k])++gg s (s.size-(k+1)) (k+1) (k+1)=eZ s:=by
     rw[←D.o,show s.size-k=(s.size-(k+1))+1 by omega]
     conv=>rhs;unfold gg
     rw[if_pos E,List.append_assoc,List.singleton_append]
    have n:=ar g;clear g E he;go_wp2_with (first|(at_builtin;refine wpList_append_own _ rfl _ _ 67 rfl w.heap.size 9 T (.string ⟨#[]⟩) 1 16 underlying67 J G H I rfl (by decide) _ _ _ rfl (C.o.alloc _) ⟨wr.heap.size,0,none⟩ 1 1 [(.string (s.extract m k))] rfl rfl ?c1 ?c2 ?c3 ?c4 ?c5 ?_)|go_in)
    case c1=>
     intro j u t
     match j,t with
     |0,t=>
      simp at t;subst t;simp[Addr.add]
      try rfl
    case c2=>intro u F;simp at F;subst F;rfl
    case c3=>unfold maxLen;omega
    case c4=>omega
    case c5=>have:=d.o.size;simp;omega
    intro P B b a _;have o:Below w.heap.size w B:=Below.grown (d.o.alloc d.o.size _) a (by have:=d.o.size;first|omega|(simp;omega)) (fun q y=>bU C.o q y);have z:=ar o;have A:Hi (B.ownsRow w.heap.size 9 1 P (l++ [s.extract m k]).length ((l++ [s.extract m k]).map Value.string)):=by
     show B.ownsRow _ _ _ _ _ _;rw[aZ,List.map_append];exact b
    clear b a o;go_wp2;go_roundw
    case rel=>exact⟨k+1,k+1,l++ [s.extract m k],by omega,by omega,by go_num,by go_num,by(simp<;>omega),⟨fun _=>n.o,fun h=>by omega⟩,A.o,z.o⟩
    case measure=>simp[intOf];omega
   ·have g:l++gg s (s.size-(k+1)) m (k+1)=eZ s:=by
     rw[←D.o,show s.size-k=(s.size-(k+1))+1 by omega]
     conv=>rhs;unfold gg
     rw[if_neg (by rw[E];exact hd)]
    have n:=ar g;have U:((c:Int)==46)=false:=by simp;omega
    clear g E he hd;go_wp2;go_roundw
    case rel=>exact⟨k+1,m,l,by omega,by omega,by go_num,rfl,by omega,⟨fun _=>n.o,fun h=>by omega⟩,C.o,d.o⟩
    case measure=>simp[intOf];omega
  ·have r:=y.o.2 (by omega);have D:=ar r;clear y r;go_wp2;go_returns;refine⟨_,rfl,?_,d.o⟩;have R:=K.o;rw[←D.o]at R⊢
   exact⟨fv C.o _ (by decide) (fun i j J t=>by
    have:j=0:=by omega
    subst this;simp[J]),by omega,fun p N=>by have:=R.2 p N;omega⟩
theorem iA (s:ByteArray) (w:World) (Q:s.size≤2147483648):
 Gv 33 #[.string s] (.bool (jZ s)) w:=by
 generalize K:jZ s=R;have q:Hi ((decide (s.size≤64)&&decide ((eZ s).length≤8)&&(eZ s).all dM)=R):=K;clear K;obtain⟨l,F⟩:=oE (eZ s);rw[F]at q;have O:=ar F;clear F;go_enter func33,ntmps33;go_wp2_with fail
 (go_at_call 73;refine(AG _ _ Q).mono ?_;rintro e N ⟨v,rfl,H,h⟩);rw[O.o]at H;obtain⟨oa,cap,rfl,y,A,x⟩:=H.form;obtain⟨n,hn⟩:=oE l.length;rw[hn]at q y;have B:=ar x;have C:=ar A;have o:=ar hn;have c:=ar h;rw[hn];clear H x A hn h;by_cases h64:s.size≤64
 ·have I:decide (64<(s.size:Int))=false:=df;by_cases h8:n≤8
  ·have T:decide (8<(n:Int))=false:=df;have r:Hi (l.all dM=R):=by show _=R;rw[←q.o,decide_eq_true h64,decide_eq_true h8];rfl
   go_wp2;go_loopw[4] (fun i wr=>∃j:Nat,j≤n∧i= .int .i64 j∧Hi (∀k,k<j→dM (l.getD k ⟨#[]⟩)=true)∧Below N.heap.size N wr) (fun i _=>n-(intOf i).toNat)
   case atStart=>exact⟨0,by omega,rfl,fun k E=>by omega,ah _ _⟩
   case round=>
    obtain⟨j,X,rfl,L,h⟩:=hrel;have g:=ar h;by_cases hlt:j<n
    ·obtain⟨b,J,rfl,D,u⟩:=B.o j (by rw[o.o];exact hlt);obtain⟨p,m⟩:=oE (l.getD j ⟨#[]⟩);have W:wr.cell? (b,J+j)=some p:=by rw[←m];exact bI h D (u j (by rw[o.o];exact hlt))
     have P:p.size≤4294967296:=by rw[←m];exact C.o j (by rw[o.o];exact hlt)
     clear u h;by_cases d:dM p=true
     ·have G:Hi (∀k,k<j+1→dM (l.getD k ⟨#[]⟩)=true):=fun k E=>by
       by_cases e:k=j
       ·subst e;rw[m];exact d
       ·exact L.o k (by omega)
      clear m;go_wp2_with fail
      (go_at_call 26;refine(iO _ _ (by omega)).mono ?_;rintro e U ⟨rfl,t⟩);rw[d];have f:=ar (ag g.o t);clear t d;go_wp2;go_roundw
      case rel=>exact⟨j+1,by omega,by go_num,G,f.o⟩
      case measure=>simp[intOf];omega
     ·have d:dM p=false:=by simpa using d
      have z:R=false:=by rw[←r.o,zq (by rw[o.o];exact hlt) (m▸d)]
      have a:=ar z;clear m z;go_wp2_with fail
      (go_at_call 26;refine(iO _ _ (by omega)).mono ?_;rintro e U ⟨rfl,t⟩);rw[d];have f:=ar (ag g.o t);clear t d;go_wp2;go_returns;rw[a.o];exact⟨rfl,ag c.o f.o⟩
    ·have z:R=true:=by rw[←r.o];exact CN fun k E=>L.o k (by rw[o.o]at E;omega)
     have a:=ar z;clear z h;go_wp2;go_returns;rw[a.o];exact⟨rfl,ag c.o g.o⟩
  ·have T:decide (8<(n:Int))=true:=dt;have a:Hi (R=false):=by show R=false;rw[←q.o,decide_eq_false h8,aL,aI]
   go_wp2;go_returns;rw[a.o];exact⟨rfl,c.o⟩
 ·have I:decide (64<(s.size:Int))=true:=dt;have a:Hi (R=false):=by show R=false;rw[←q.o,decide_eq_false h64,aI,aI]
  go_wp2;go_returns;rw[a.o];exact⟨rfl,c.o⟩
end
section
open Go Go.ChangeShapes Go.WideShapes Go.RowKit Go.ChangeAt Go.Deep Go.Joins
def nC (P:Program):Nat→TypeId→Nat→Option TypeId
 |0,_,_=>none
 |n+1,t,j=>match P.underlying t with
  |some (.struct fs)=>fs.toList.findSome? fun f=>if f.offset≤j∧j<f.offset+P.cellsOf f.type then nC P n f.type (j-f.offset)else none
  |some (.array m e)=>if 0<P.cellsOf e∧P.cellsOf t=m*P.cellsOf e then nC P n e (j % P.cellsOf e)else none
  |some (.int _)=>if j=0 then some t else none
  |some .bool=>if j=0 then some t else none
  |some .string=>if j=0 then some t else none
  |some (.slice _)=>if j=0 then some t else none
  |_=>none
section
variable {H:Type} {enc:TypeId×Value→H} {P:Program} {w:World} {base:Nat} {spare:Nat→Bool} {held:Bool}
theorem rx {cs:List Value} {o k j:Nat} (a:o≤j) (b:j<o+k):((cs.drop o).take k)[j-o]?=cs[j]?:=by
 rw[List.getElem?_take_of_lt (by omega),List.getElem?_drop,show o+(j-o)=j by omega]
theorem CR {k:IntKind} {u:TypeId} {a:Nat} {v:Value} {x:DataW H×List MemPlace} (b:P.underlying u=some (.int k)) (h:DataW.trod enc P w base spare held a u [v]=some x):∃z,v= .int k z∧(Lit.int k z).wf=true:=by
 obtain⟨z,e,_,c⟩:=DataW.trod_int b h;exact⟨z,by simpa using e,c⟩
end
end
section
open Go Go.RowKit
structure ay where
 p:Value→World→Prop
 grow:∀v w w',Below w.heap.size w w'→p v w→p v w'
def ay.is (x:Value):ay:=⟨fun v _=>v=x,fun _ _ _ _ h=>h⟩
def ay.any:ay:=⟨fun _ _=>True,fun _ _ _ _ h=>h⟩
section
variable {P:Program} {md:Region.Mode}
def aU (md:Region.Mode) (V:Nat→ay) (u:Nat→Value) (w:World):List Edge→Prop
 | []=>True
 |e::l=>(ai md e=true→(V e.on).p (u e.on) w)∧aU md V u w l
def aR (V:Nat→ay) (k:Nat) (p:ay):Nat→ay:=fun j=>if j=k then p else V j
def gk (P:Program) (md:Region.Mode) (ops:Array Oper) (w0:World) (fr:(Nat→Value)→Act) (fin:(Nat→ay)→Prop):List Oper→Nat→(Nat→ay)→Prop
 | [],_,V=>fin V
 |o::l,k,V=>∃p:ay,(∀(u:Nat→Value) (w:World),Below w0.heap.size w0 w→aU md V u w o.after.toList→
  if au o (yielded ops (fr u).tmps)=true then dh P o (fr u) w (fun v w'=>Below w.heap.size w w'∧p.p v w')else p.p undef w)∧gk P md ops w0 fr fin l (k+1) (aR V k p)
theorem pW {V b:Nat→ay} {u:Nat→Value} {w:World} {k:Nat}:∀l:List Edge,(l.all fun e=> !ai md e||decide (e.on<k))=true→(∀j,j<k→V j=b j)→jK md (fun i=>(V i).p) u w l→aU md b u w l
 | [],_,_,_=>trivial
 |e::l,hb,he,h=>by
  simp only[List.all_cons,Bool.and_eq_true]at hb;refine⟨fun a=> ?_,pW l hb.2 he h.2⟩;have c:=h.1 a;have d:e.on<k:=by simpa [a]using hb.1
  rw[←he _ d];exact c
theorem tH {ops:Array Oper} {g:World} {c:(Nat→Value)→Act} {b:(Nat→ay)→Prop}:∀(l:List Oper) (k:Nat) (V:Nat→ay),jM md l k=true→gk P md ops g c b l k V→
 ∃a:Nat→ay,(∀j,j<k→a j=V j)∧rh P md ops g (fun i=>(a i).p) c l k∧b a
 | [],_,V,_,h=>⟨V,fun _ _=>rfl,trivial,h⟩
 |o::l,k,V,hb,h=>by
  obtain⟨p,m,n⟩:=h;simp only[jM,Bool.and_eq_true]at hb;obtain⟨a,f,r,t⟩:=tH l (k+1) _ hb.2 n;have e:∀j,j<k→a j=V j:=fun j y=>by rw[f j (by omega)];unfold aR;rw[if_neg (by omega)]
  have x:a k=p:=by rw[f k (by omega)];unfold aR;rw[if_pos rfl]
  refine⟨a,e,⟨fun u w d s=> ?_,r⟩,t⟩;have q:=m u w d (pW _ hb.1 e s);show if _ then dh P o (c u) w (fun v w'=>Below w.heap.size w w'∧(a k).p v w')else(a k).p undef w
  rw[x];exact q
def cF (V:Nat→ay) (u:Nat→Value) (w:World):Nat→Prop
 |0=>True
 |k+1=>cF V u w k∧(V k).p (u k) w
theorem vM {V:Nat→ay} {u:Nat→Value} {w:World}:∀{n:Nat},cF V u w n→∀i,i<n→(V i).p (u i) w
 |0,_,i,hi=>by omega
 |n+1,h,i,hi=>by
  by_cases e:i=n
  ·subst e;exact h.2
  ·exact vM h.1 i (by omega)
theorem uv {V:Nat→ay} {u:Nat→Value} {w:World}:∀n,(∀j,j<n→(V j).p (u j) w)→cF V u w n
 |0,_=>trivial
 |n+1,h=>⟨uv n (fun j a=>h j (by omega)),h n (by omega)⟩
theorem ry {k:Nat} {Q:Exit→Act→World→Prop} {a:Act} {w:World} {l:List Oper} (n:Nat) (j:P.follows .mixedOrders=true) (f:lu .any l n=true) (g:jM .any (l.take n) 0=true)
 (h:gk P .any l.toArray w (fun u=>aK a (l.take n) u 0) (fun V=>∀(u:Nat→Value) (w':World),Below w.heap.size w w'→cF V u w' n→wpList P l.toArray Q (l.drop n) (aK a (l.take n) u 0) w') (l.take n) 0 (fun _=>ay.any)):
 (Code.region k l.toArray true).wp P Q a w:=by
 obtain⟨V,_,b,c⟩:=tH _ _ _ g h;exact mT n (fun i=>(V i).p) j f (fun i v w w' d e=>(V i).grow v w w' d e) b (fun u w' d e=>c u w' d (uv n e))
section
variable {ops:Array Oper} {w0:World} {fr:(Nat→Value)→Act} {fin:(Nat→ay)→Prop} {o:Oper} {l:List Oper} {k:Nat} {V:Nat→ay}
theorem GR {x:Value}
 (h:∀(u:Nat→Value) (w:World),Below w0.heap.size w0 w→aU md V u w o.after.toList→if au o (yielded ops (fr u).tmps)=true then dh P o (fr u) w (fun v w'=>Below w.heap.size w w'∧v=x)else undef=x)
 (a:gk P md ops w0 fr fin l (k+1) (aR V k (ay.is x))):gk P md ops w0 fr fin (o::l) k V:=
 ⟨ay.is x,h,a⟩
theorem Fq (p:ay)
 (h:∀(u:Nat→Value) (w:World),Below w0.heap.size w0 w→aU md V u w o.after.toList→au o (yielded ops (fr u).tmps)=true∧dh P o (fr u) w (fun v w'=>Below w.heap.size w w'∧p.p v w'))
 (d:gk P md ops w0 fr fin l (k+1) (aR V k p)):gk P md ops w0 fr fin (o::l) k V:=
 ⟨p,fun u w b c=>by have a:=h u w b c;rw[if_pos a.1];exact a.2,d⟩
end
end
theorem pr {W a:World} (c:Below W.heap.size W a):(∀b,b<W.heap.size→b<a.heap.size)∧W.heap.size≤a.heap.size∧(∀b o,b<W.heap.size→a.cell? ⟨b,o,none⟩=W.cell? ⟨b,o,none⟩)∧(∀b o,b<W.heap.size→a.frozen? ⟨b,o,none⟩=W.frozen? ⟨b,o,none⟩)∧Hi (Below W.heap.size W a):=⟨fun b h=>aM h c.size,c.size,(br c).1,(br c).2,c⟩
section
variable {P:Program} {md:Region.Mode} {ops:Array Oper} {w0:World} {fr:(Nat→Value)→Act} {fin:(Nat→ay)→Prop} {o:Oper} {l:List Oper} {k:Nat} {V:Nat→ay}
def CS (w0:World) (md:Region.Mode) (V:Nat→ay) (o:Oper) (Q:(Nat→Value)→World→Prop):Prop:=∀(u:Nat→Value) (w:World),(∀b,b<w0.heap.size→b<w.heap.size)→(∀b o,b<w0.heap.size→w.cell? ⟨b,o,none⟩=w0.cell? ⟨b,o,none⟩)→(∀b o,b<w0.heap.size→w.frozen? ⟨b,o,none⟩=w0.frozen? ⟨b,o,none⟩)→Hi (Below w0.heap.size w0 w)→aU md V u w o.after.toList→Q u w
theorem GS {Q:(Nat→Value)→World→Prop} (h:CS w0 md V o Q) (u:Nat→Value) (w:World) (a:Below w0.heap.size w0 w) (c:aU md V u w o.after.toList):Q u w:=h u w (fun b h=>aM h a.size) (br a).1 (br a).2 a c
theorem bg {x:Value} (h:CS w0 md V o fun u w=>if au o (yielded ops (fr u).tmps)=true then dh P o (fr u) w (fun v w'=>Below w.heap.size w w'∧v=x)else undef=x)
 (a:gk P md ops w0 fr fin l (k+1) (aR V k (ay.is x))):gk P md ops w0 fr fin (o::l) k V:=GR (GS h) a
theorem bG (p:ay) (h:CS w0 md V o fun u w=>au o (yielded ops (fr u).tmps)=true∧dh P o (fr u) w (fun v w'=>Below w.heap.size w w'∧p.p v w'))
 (a:gk P md ops w0 fr fin l (k+1) (aR V k p)):gk P md ops w0 fr fin (o::l) k V:=Fq p (GS h) a
theorem bJ {x:Value} (c:gk P md ops w0 fr fin l (k+1) (aR V k (ay.is x)))
 (h:CS w0 md V o (fun u w=>if au o (yielded ops (fr u).tmps)=true then dh P o (fr u) w (fun v w'=>Below w.heap.size w w'∧v=x)else undef=x):=by
  intro u g f d e a b;simp[aU,ai,aR,ay.is,ay.any]at b;go_simp
  first|exact⟨ah _ _,rfl⟩|rfl):gk P md ops w0 fr fin (o::l) k V:=bg h c
end
theorem eS {V:Nat→ay} {u:Nat→Value} {w:World} {n:Nat} (h:cF V u w n) (i:Nat) (a:i<n:=by decide):(V i).p (u i) w:=vM h i a
theorem aD {P:Program} {e:Nat} {Q:Exit→Act→World→Prop} {a:Act} {w:World} {l:List Oper} (n:Nat)
 (h:gk P .any l.toArray w (fun u=>aK a (l.take n) u 0) (fun V=>∀(u:Nat→Value) (w':World),Below w.heap.size w w'→cF V u w' n→wpList P l.toArray Q (l.drop n) (aK a (l.take n) u 0) w') (l.take n) 0 (fun _=>ay.any))
 (d:P.follows .mixedOrders=true:=by kernel_rfl) (b:lu .any l n=true:=by kernel_rfl) (c:jM .any (l.take n) 0=true:=by kernel_rfl):(Code.region e l.toArray true).wp P Q a w:=ry n d b c h
section
variable {P:Program} {md:Region.Mode}
def fJ (md:Region.Mode) (V:Nat→ay) (p q k:Nat) (u:Nat→Value) (w:World):List Edge→Prop
 | []=>True
 |e::l=>(ai md e=true→(e.on≠p∨k=q)→(V e.on).p (u e.on) w)∧fJ md V p q k u w l
theorem vN {V:Nat→ay} {p q k:Nat} {u:Nat→Value} {w:World}:∀(l:List Edge),(∀e∈l,ai md e=true→(e.on≠p∨k=q)→(V e.on).p (u e.on) w)→fJ md V p q k u w l
 | [],_=>trivial
 |e::l,h=>⟨h e (by simp),vN l (fun e a=>h e (by simp[a]))⟩
theorem pX {V c:Nat→ay} {p q d:Nat} {u:Nat→Value} {w:World} {k:Nat}:∀l:List Edge,(l.all fun e=> !ai md e||decide (e.on<k))=true→(∀j,j<k→V j=c j)→fJ md V p q d u w l→fJ md c p q d u w l
 | [],_,_,_=>trivial
 |e::l,hb,he,h=>by
  simp only[List.all_cons,Bool.and_eq_true]at hb;refine⟨fun a b=> ?_,pX l hb.2 he h.2⟩;have f:=h.1 a b;have g:e.on<k:=by simpa [a]using hb.1
  rw[←he _ g];exact f
section
variable {ops:Array Oper} {w0:World} {p q:Nat} {fr:(Nat→Value)→Act} {fin:(Nat→ay)→Prop} {o:Oper} {l:List Oper} {k:Nat} {V:Nat→ay}
end
end
section
variable {P:Program} {md:Region.Mode}
def GT (md:Region.Mode) (ops:Array Oper) (n q:Nat) (pre:List Nat):Bool:=
 pre.all fun k=>decide (k<n)&&decide (k≠q)&&(List.range n).any fun k'=>(decide (k'=q)||(decide (k<k')&&pre.contains k'))&&(match ops[k']? with|some o=>gt md o k|none=>false)
def dp (s:ay):Prop:=∀v w w',s.p v w→s.p v w'
theorem dp.is (x:Value):dp (ay.is x):=fun _ _ _ h=>h
def qM (P:Program) (md:Region.Mode) (ops:Array Oper) (w0:World) (V:Nat→ay) (pre:List Nat) (q:Nat) (fr:(Nat→Value)→Act):List Oper→Nat→Prop
 | [],_=>True
 |o::l,k=>((k∈pre→∀(u:Nat→Value) (w:World),Below w0.heap.size w0 w→aU md V u w o.after.toList→
  if au o (yielded ops (fr u).tmps)=true then dh P o (fr u) w (fun v w'=>Below w.heap.size w w'∧(V k).p v w')else(V k).p undef w)∧
  (k=q→∀(u:Nat→Value) (w:World),Below w0.heap.size w0 w→aU md V u w o.after.toList→au o (yielded ops (fr u).tmps)=true∧dh P o (fr u) w (fun v w'=>(V k).p v w'))∧
  (k∉pre→k≠q→dp (V k)∧∀(u:Nat→Value) (w:World),au o (yielded ops (fr u).tmps)=true∧dh P o (fr u) w (fun v w'=>w'=w∧(V k).p v w')))∧qM P md ops w0 V pre q fr l (k+1)
theorem rA {ops:Array Oper} {c:World} {V:Nat→ay} {b:List Nat} {q:Nat} {a:(Nat→Value)→Act}:∀(l:List Oper) (k i:Nat) (o:Oper),qM P md ops c V b q a l k→l[i]?=some o→
 (k+i∈b→∀(u:Nat→Value) (w:World),Below c.heap.size c w→aU md V u w o.after.toList→
  if au o (yielded ops (a u).tmps)=true then dh P o (a u) w (fun v w'=>Below w.heap.size w w'∧(V (k+i)).p v w')else(V (k+i)).p undef w)∧
  (k+i=q→∀(u:Nat→Value) (w:World),Below c.heap.size c w→aU md V u w o.after.toList→au o (yielded ops (a u).tmps)=true∧dh P o (a u) w (fun v w'=>(V (k+i)).p v w'))∧
  (k+i∉b→k+i≠q→dp (V (k+i))∧∀(u:Nat→Value) (w:World),au o (yielded ops (a u).tmps)=true∧dh P o (a u) w (fun v w'=>w'=w∧(V (k+i)).p v w'))
 | [],_,_,_,_,h=>by simp at h
 |o'::l,k,0,o,hr,h=>by
  obtain rfl:o'=o:=by simpa using h
  exact hr.1
 |o'::l,k,i+1,o,hr,h=>by
  have:=rA l (k+1) i o hr.2 (by simpa using h)
  rwa [show k+1+i=k+(i+1)by omega]at this
theorem xD {ops:Array Oper} {n q:Nat} {f:List Nat} {a:Array Bool} (x:GT md ops n q f=true) (j:HeadInv md ops n a) (y:a.getD q false=true):∀(d k:Nat),n-k=d→k∈f→a.getD k false=true:=by
 intro d
 induction d using Nat.strongRecOn with
 |_ d ih=>
  intro k z u;have l:=List.all_eq_true.1 x k u;simp only[Bool.and_eq_true,decide_eq_true_eq]at l;obtain⟨⟨v,w⟩,s⟩:=l;obtain⟨c,h,m⟩:=List.any_eq_true.1 s;simp only[Bool.and_eq_true,Bool.or_eq_true,decide_eq_true_eq]at m;obtain⟨t,e⟩:=m;have p:c<n:=List.mem_range.1 h;have i:a.getD c false=true:=by
   rcases t with rfl|⟨hlt,hc⟩
   ·exact y
   ·exact ih (n-c) (by omega) c rfl (by simpa using hc)
  cases ho:ops[c]? with
  |none=>rw[ho]at e;cases e
  |some o=>
   rw[ho]at e;unfold gt at e;obtain⟨r,g,b⟩:=List.any_eq_true.1 e;simp only[Bool.and_eq_true,decide_eq_true_eq]at b;have:=j.closed c o ho i r (by simpa using g) b.2
   rwa [b.1]at this
theorem xE {l:List Oper} {n:Nat} {F:Act} {w0:World} {V:Nat→ay} {J:List Nat} {q:Nat} {Q:Exit→Act→World→Prop} (hB:lu md l n=true) (hq:q<n) (hP:GT md l.toArray n q J=true)
 (a1:qM P md l.toArray w0 V J q (fun u=>aK F (l.take n) u 0) (l.take n) 0)
 (a5:∀(u:Nat→Value) (w:World),(V q).p (u q) w→(∀j,j<n→j≠q→dp (V j)→(V j).p (u j) w)→wpList P l.toArray Q (l.drop n) (aK F (l.take n) u 0) w):
 ∀(f:Nat) (a:Array Bool) (u:Nat→Value) (w:World),dv n a=f→HeadInv md l.toArray n a→
  (a.getD q false=false→Below w0.heap.size w0 w∧∀j,j<n→a.getD j false=true→(V j).p (u j) w)→
  (a.getD q false=true→(V q).p (u q) w∧∀j,j<n→j≠q→a.getD j false=true→dp (V j)→(V j).p (u j) w)→
  wpAny P md l.toArray Q (f+(l.length-n)) a (aK F (l.take n) u 0) w:=by
 have b1:=hP;simp only[lu,Bool.and_eq_true,Bool.or_eq_true,decide_eq_true_eq]at hB;obtain⟨⟨⟨hn,A⟩,b0⟩,hd⟩:=hB;have b6:n≤l.length:=by omega
 intro f
 induction f with
 |zero=>
  intro a u w hf d Z N;have m:∀j,j<n→a.getD j false=true:=by
   intro j t;have h0:(List.range n).countP (fun j=> !a.getD j false)=0:=hf;rw[List.countP_eq_zero]at h0;simpa using h0 j (List.mem_range.2 t)
  have T:a=eP n l.length:=by
   apply Array.ext
   ·simp[eP,d.size];omega
   ·intro i h1 Y;have c0:a.size=l.length:=by rw[d.size];simp
    have h3:i<(List.replicate n true++List.replicate (l.length-n) false).length:=by simpa [eP]using Y
    show a[i]=(List.replicate n true++List.replicate (l.length-n) false)[i]'h3;by_cases D:i<n
    ·rw[List.getElem_append_left (by simpa using D),List.getElem_replicate];have:=m i D;simpa [h1]using this
    ·rw[List.getElem_append_right (by simpa using D),List.getElem_replicate];have:=d.tail i (by omega) (by simp;omega);simpa [h1]using this
  rw[Nat.zero_add];have E:=N (m q hq);have:=wpAny_of_seq (P:=P) (ops:=l.toArray) (md:=md) (Q':=Q) (l.drop n) n a (aK F (l.take n) u 0) w (fun j=>by simp[List.getElem?_drop])
   (by rw[List.length_drop,T];exact b0) (a5 u w E.1 (fun j t I O=>E.2 j t I (m j t) O))
  rwa [List.length_drop]at this
 |succ f ih=>
  intro a u w hf d Z N;have c0:a.size=l.length:=by rw[d.size];simp
  obtain⟨i0,a7,L⟩:∃i,i<n∧a.getD i false=false:=by
   apply aG;intro b8;have:dv n a=0:=by
    unfold dv;rw[List.countP_eq_zero];intro j t;have:a.getD j false=true:=by
     cases h:a.getD j false with
     |true=>rfl
     |false=>exact absurd ⟨j,List.mem_range.1 t,h⟩ b8
    rw[this]
    decide
   omega
  rw[show f+1+(l.length-n)=(f+(l.length-n))+1 by omega];refine⟨fun h=>absurd h (kJ A (by simpa using b6) i0 i0 rfl a7 L (by omega) (fun j t=>by omega)),fun i D=> ?_⟩;obtain⟨a8,o,U,R⟩:=mem_ready.1 D;have c2:i<l.length:=by have:=(av.1 U).1;simpa using this
  have s:i<n:=by
   rcases hn with hn|⟨⟨hn,hs⟩,O⟩
   ·omega
   ·exact(Nat.lt_or_ge i n).resolve_right fun h=>tail_waits hs O (by simpa using hn) d _ i0 rfl a7 (getD_in (by omega) L) i h D
  have g:a.getD i false=false:=getD_both a8;have C:(l.take n)[i]?=some o:=by
   rw[List.getElem?_take_of_lt s];simpa using U
  have b9:∀e∈o.after.toList,ai md e=true→e.on<n:=fun e X y=>by
   have a3:=List.all_eq_true.1 A i (List.mem_range.2 s);simp only[U]at a3;have Y:=List.all_eq_true.1 a3 e X;simp only[y,Bool.not_true,aP,decide_eq_true_eq]at Y;omega
  have c:∀j,(a.setIfInBounds i true).getD j false=if j=i then true else a.getD j false:=fun j=>by
   by_cases hji:j=i
   ·rw[if_pos hji,hji,Array.getD_eq_getD_getElem?,Array.getElem?_setIfInBounds_self_of_lt (by omega)];rfl
   ·rw[if_neg hji,getD_set_ne false (by omega)]
  have x:∀v,qD u (0+i) v i=v:=fun v=>by unfold qD;rw[if_pos (by omega)]
  have k:∀v j,j≠i→qD u (0+i) v j=u j:=fun v j h=>by unfold qD;rw[if_neg (by omega)]
  obtain⟨K,a9,r⟩:=rA _ 0 i o a1 C;simp only[Nat.zero_add]at K a9 r;have G:dv n (a.setIfInBounds i true)=f:=by
   have:=jg s (by omega:i<a.size) g;omega
  cases hlq:a.getD q false with
  |false=>
   obtain⟨hb,W⟩:=Z hlq;have a4:aU md V u w o.after.toList:=by
    have h:=fun e X y=>W e.on (b9 e X y) (R e (by simpa using X) y);generalize o.after.toList=es at h
    induction es with
    |nil=>trivial
    |cons e es ih=>exact⟨fun y=>h e (by simp) y,ih (fun e X=>h e (by simp[X]))⟩
   by_cases z:i=q
   ·have b:=a9 z u w hb a4;unfold wpOp;simp only[U];rw[if_pos b.1];refine .inl (jv b.2 fun v w' E=> ?_);rw[iM (l.take n) F u 0 i o hd C];refine ih _ _ _ G (d.set D s) (fun h=> ?_) (fun _=> ?_)
    ·rw[c,if_pos z.symm]at h;cases h
    ·refine⟨by rw[←z,x];exact E,fun j t I B O=> ?_⟩;rw[c,if_neg (by omega)]at B;rw[k _ _ (by omega)];exact O _ _ _ (W j t B)
   ·by_cases H:i∈J
    ·have b:=K H u w hb a4;have a6:∀v w',Below w.heap.size w w'→(V i).p v w'→wpAny P md l.toArray Q (f+(l.length-n)) (a.setIfInBounds i true) ((aK F (l.take n) u 0).put o.dst v) w':=by
      intro v w' a2 E;rw[iM (l.take n) F u 0 i o hd C];refine ih _ _ _ G (d.set D s) (fun _=>⟨hb.trans (a2.mono hb.size),fun j t B=> ?_⟩) (fun h=> ?_)
      ·by_cases hji:j=i
       ·rw[hji,x];exact E
       ·rw[c,if_neg hji]at B;rw[k _ _ hji];exact(V j).grow _ _ _ a2 (W j t B)
      ·rw[c,if_neg (by omega),hlq]at h;cases h
     unfold wpOp;simp only[U];split
     ·rename_i hw;rw[if_pos hw]at b;exact .inl (jv b fun v w' ⟨h1,Y⟩=>a6 v w' h1 Y)
     ·rename_i hw;rw[if_neg hw]at b;exact a6 _ _ (ah _ _) b
    ·obtain⟨O,b⟩:=r H z;have b:=b u w;unfold wpOp;simp only[U];rw[if_pos b.1];refine .inl (jv b.2 fun v w' ⟨hw,E⟩=> ?_);subst hw;rw[iM (l.take n) F u 0 i o hd C];refine ih _ _ _ G (d.set D s) (fun _=>⟨hb,fun j t B=> ?_⟩) (fun h=> ?_)
     ·by_cases hji:j=i
      ·rw[hji,x];exact E
      ·rw[c,if_neg hji]at B;rw[k _ _ hji];exact W j t B
     ·rw[c,if_neg (by omega),hlq]at h;cases h
  |true=>
   obtain⟨c1,W⟩:=N hlq;have z:i≠q:=fun h=>by rw[h,hlq]at g;cases g
   have H:i∉J:=fun h=>by
    have:=xD b1 d hlq _ i rfl h;rw[g]at this;cases this
   obtain⟨O,b⟩:=r H z;have b:=b u w;unfold wpOp;simp only[U];rw[if_pos b.1];refine .inl (jv b.2 fun v w' ⟨hw,E⟩=> ?_);subst hw;rw[iM (l.take n) F u 0 i o hd C];refine ih _ _ _ G (d.set D s) (fun h=> ?_) (fun _=>⟨by rw[k _ _ (by omega)];exact c1,fun j t I B b5=> ?_⟩)
   ·rw[c,if_neg (by omega),hlq]at h;cases h
   ·by_cases hji:j=i
    ·rw[hji,x];exact E
    ·rw[c,if_neg hji]at B;rw[k _ _ hji];exact W j t I B b5
def eC (P:Program) (md:Region.Mode) (ops:Array Oper) (w0:World) (pre:List Nat) (q:Nat) (fr:(Nat→Value)→Act) (fin:(Nat→ay)→Prop):List Oper→Nat→(Nat→ay)→Prop
 | [],_,V=>fin V
 |o::l,k,V=>∃s:ay,((k∈pre→∀(u:Nat→Value) (w:World),Below w0.heap.size w0 w→aU md V u w o.after.toList→
  if au o (yielded ops (fr u).tmps)=true then dh P o (fr u) w (fun v w'=>Below w.heap.size w w'∧s.p v w')else s.p undef w)∧
  (k=q→∀(u:Nat→Value) (w:World),Below w0.heap.size w0 w→aU md V u w o.after.toList→au o (yielded ops (fr u).tmps)=true∧dh P o (fr u) w (fun v w'=>s.p v w'))∧
  (k∉pre→k≠q→dp s∧∀(u:Nat→Value) (w:World),au o (yielded ops (fr u).tmps)=true∧dh P o (fr u) w (fun v w'=>w'=w∧s.p v w')))∧eC P md ops w0 pre q fr fin l (k+1) (aR V k s)
theorem nD {V b:Nat→ay} {u:Nat→Value} {w:World} {k:Nat}:∀l:List Edge,(l.all fun e=> !ai md e||decide (e.on<k))=true→(∀j,j<k→V j=b j)→aU md V u w l→aU md b u w l
 | [],_,_,_=>trivial
 |e::l,hb,he,h=>by
  simp only[List.all_cons,Bool.and_eq_true]at hb;refine⟨fun a=> ?_,nD l hb.2 he h.2⟩;have c:=h.1 a;have d:e.on<k:=by simpa [a]using hb.1
  rw[←he _ d];exact c
theorem rB {ops:Array Oper} {t:World} {e:List Nat} {q:Nat} {p:(Nat→Value)→Act} {c:(Nat→ay)→Prop}:∀(l:List Oper) (k:Nat) (V:Nat→ay),jM md l k=true→eC P md ops t e q p c l k V→
 ∃a:Nat→ay,(∀j,j<k→a j=V j)∧qM P md ops t a e q p l k∧c a
 | [],_,V,_,h=>⟨V,fun _ _=>rfl,trivial,h⟩
 |o::l,k,V,hb,h=>by
  obtain⟨s,f,v⟩:=h;simp only[jM,Bool.and_eq_true]at hb;obtain⟨a,r,y,z⟩:=rB l (k+1) _ hb.2 v;have g:∀j,j<k→a j=V j:=fun j A=>by rw[r j (by omega)];unfold aR;rw[if_neg (by omega)]
  have n:a k=s:=by rw[r k (by omega)];unfold aR;rw[if_pos rfl]
  refine⟨a,g,⟨⟨fun m u w b i=> ?_,fun m u w b i=> ?_,fun d x=> ?_⟩,y⟩,z⟩
  ·have d:=f.1 m u w b (nD _ hb.1 g i);rw[n];exact d
  ·have d:=f.2.1 m u w b (nD _ hb.1 g i);rw[n];exact d
  ·rw[n];exact f.2.2 d x
theorem gx {v:Nat} {Q:Exit→Act→World→Prop} {a:Act} {w:World} {l:List Oper} (n q:Nat) (f:List Nat) (o:P.follows .mixedOrders=true) (g:lu .any l n=true) (k:jM .any (l.take n) 0=true) (r:q<n) (m:GT .any l.toArray n q f=true)
 (h:eC P .any l.toArray w f q (fun u=>aK a (l.take n) u 0) (fun V=>∀(u:Nat→Value) (w':World),(V q).p (u q) w'→(∀j,j<n→j≠q→dp (V j)→(V j).p (u j) w')→wpList P l.toArray Q (l.drop n) (aK a (l.take n) u 0) w') (l.take n) 0 (fun _=>ay.any)):
 (Code.region v l.toArray true).wp P Q a w:=by
 obtain⟨V,_,c,d⟩:=rB _ _ _ k h;refine wp_region_any o ?_;have e:HeadInv .any l.toArray n (Array.replicate l.toArray.size false):=
  ⟨by simp,fun j x _ b=>(by rw[getD_replicate_false]at b;cases b),fun t _ s=>getD_in (by simpa using s) (getD_replicate_false _ _)⟩
 have hn:n≤l.length:=by
  simp only[lu,Bool.and_eq_true,Bool.or_eq_true,decide_eq_true_eq]at g;omega
 have i:dv n (Array.replicate l.toArray.size false)=n:=by
  unfold dv;rw[List.countP_eq_length.2]
  ·simp
  ·intro j _;rw[getD_replicate_false];rfl
 have:=xE g r m c d n _ (fun j=>xn a (l.take n) j) {w with drawn:=w.drawn+1} i e (fun _=>⟨⟨rfl,rfl,rfl,aB _,fun _ _=>rfl⟩,fun j _ b=>by rw[getD_replicate_false]at b;cases b⟩) (fun b=>by rw[getD_replicate_false]at b;cases b);rw[ly a (l.take n) 0 _ (fun j=>by rw[Nat.zero_add]),show n+(l.length-n)=l.toArray.size by simp;omega]at this;exact this
section
variable {ops:Array Oper} {w0:World} {pre:List Nat} {q:Nat} {fr:(Nat→Value)→Act} {fin:(Nat→ay)→Prop} {o:Oper} {l:List Oper} {k:Nat} {V:Nat→ay}
theorem Fr {x:Value} (a:k≠q) (c:k∈pre)
 (h:∀(u:Nat→Value) (w:World),Below w0.heap.size w0 w→aU md V u w o.after.toList→if au o (yielded ops (fr u).tmps)=true then dh P o (fr u) w (fun v w'=>Below w.heap.size w w'∧v=x)else undef=x)
 (b:eC P md ops w0 pre q fr fin l (k+1) (aR V k (ay.is x))):eC P md ops w0 pre q fr fin (o::l) k V:=
 ⟨ay.is x,⟨fun _=>h,fun e=>absurd e a,fun e=>absurd c e⟩,b⟩
theorem kk (s:ay) (a:k≠q) (c:k∈pre)
 (h:∀(u:Nat→Value) (w:World),Below w0.heap.size w0 w→aU md V u w o.after.toList→if au o (yielded ops (fr u).tmps)=true then dh P o (fr u) w (fun v w'=>Below w.heap.size w w'∧s.p v w')else s.p undef w)
 (b:eC P md ops w0 pre q fr fin l (k+1) (aR V k s)):eC P md ops w0 pre q fr fin (o::l) k V:=
 ⟨s,⟨fun _=>h,fun e=>absurd e a,fun e=>absurd c e⟩,b⟩
theorem AH {x:Value} (a:k≠q) (c:k∉pre)
 (h:∀(u:Nat→Value) (w:World),au o (yielded ops (fr u).tmps)=true∧dh P o (fr u) w (fun v w'=>w'=w∧v=x))
 (b:eC P md ops w0 pre q fr fin l (k+1) (aR V k (ay.is x))):eC P md ops w0 pre q fr fin (o::l) k V:=
 ⟨ay.is x,⟨fun e=>absurd e c,fun e=>absurd e a,fun _ _=>⟨dp.is x,h⟩⟩,b⟩
theorem xF (s:ay) (b:q∉pre)
 (h:∀(u:Nat→Value) (w:World),Below w0.heap.size w0 w→aU md V u w o.after.toList→au o (yielded ops (fr u).tmps)=true∧dh P o (fr u) w (fun v w'=>s.p v w'))
 (a:eC P md ops w0 pre q fr fin l (q+1) (aR V q s)):eC P md ops w0 pre q fr fin (o::l) q V:=
 ⟨s,⟨fun e=>absurd e b,fun _=>h,fun _ e=>absurd rfl e⟩,a⟩
end
end
section
variable {P:Program} {md:Region.Mode} {ops:Array Oper} {w0:World} {pre:List Nat} {q:Nat} {fr:(Nat→Value)→Act} {fin:(Nat→ay)→Prop} {o:Oper} {l:List Oper} {k:Nat} {V:Nat→ay}
theorem ej {x:Value} (d:eC P md ops w0 pre q fr fin l (k+1) (aR V k (ay.is x))) (c:k≠q:=by decide) (e:k∈pre:=by decide)
 (h:CS w0 md V o (fun u w=>if au o (yielded ops (fr u).tmps)=true then dh P o (fr u) w (fun v w'=>Below w.heap.size w w'∧v=x)else undef=x):=by
  intro u j i f g a b;simp[aU,ai,aR,ay.is,ay.any]at b;go_simp
  first|exact⟨ah _ _,rfl⟩|rfl):eC P md ops w0 pre q fr fin (o::l) k V:=Fr c e (GS h) d
theorem vO {x:Value} (b:eC P md ops w0 pre q fr fin l (k+1) (aR V k (ay.is x))) (a:k≠q:=by decide) (c:k∉pre:=by decide)
 (h:∀(u:Nat→Value) (w:World),au o (yielded ops (fr u).tmps)=true∧dh P o (fr u) w (fun v w'=>w'=w∧v=x):=by
  intro u d;refine⟨by simp[au],?_⟩;go_simp
  first|exact⟨rfl,rfl⟩|rfl):eC P md ops w0 pre q fr fin (o::l) k V:=AH a c h b
end
variable {P:Program}
theorem kq {w:World} (base:Nat) (t m e:TypeId) (i:TypeInfo) (size:Nat) (f:P.underlying t=some (.slice e)) (d:P.info? e=some i)
 (v:Value) (n:Nat) (o:List Value) (a:w.ownsRow base e size v n o) (c:Nat):(Builtin.append_ #[t,t] m #[v,.slice none 0 c]).run P w= .ok v w:=by
 rcases a.2 with⟨rfl,rfl⟩|⟨g,cap,h,rfl,p,q,b,j,k,l⟩
 ·simp[Builtin.append_,run_underlying f,sizeOf,typeInfo,d,Builtin.lenOf,Builtin.firstCells,storeCells]
 ·simp[Builtin.append_,run_underlying f,sizeOf,typeInfo,d,Builtin.lenOf,Builtin.firstCells,storeCells,b]
theorem iB {w:World} {ops:Array Oper} {k:List Oper} {o:Oper} {a:Act} {Q:Exit→Act→World→Prop} (y:o.guard=none) (s x:Operand) (t:TypeId)
 (I:o.op= .call {callee:= .builtin .append,args:=#[s,x],argTypes:=#[t,t]})
 (base:Nat) (e:TypeId) (i:TypeInfo) (z:Value) (size d:Nat) (L:P.underlying t=some (.slice e)) (H:P.info? e=some i) (hz:i.zero=some z)
 (q:i.size=size) (E:i.bytes=d) (G:z.cells.size=size) (F:0<size)
 (v:Value) (n:Nat) (C:List Value) (J:a.eval s=v) (f:w.ownsRow base e size v n C)
 (oa:Option Addr) (m c:Nat) (b:List Value) (N:a.eval x= .slice oa m c) (Y:b.length=m*size) (O:oa=none→m=0) (p:∀r,oa=some r→∀j u,b[j]?=some u→w.cell? (r.add j)=some u) (R:∀u∈b,u.oneCell'=true)
 (D:n+m≤maxLen) (g:(n+m)*d≤140737488355328) (l:base≤w.heap.size)
 (h:∀B w',w'.ownsRow base e size B (n+m) (C++b)→w.grownBy w' v.ownBlock→wpList P ops Q k (a.put o.dst B) w'):wpList P ops Q (o::k) a w:=by
 cases oa with
 |none=>
  have Z:=O rfl;subst Z;have hn:b= []:=List.eq_nil_of_length_eq_zero (by omega);subst hn;refine wpList_plain y fun K W=> ?_;have A:=kq (P:=P) (w:=w) base t o.type e i size L H v n C f c;have X:=h v w (by simpa using f) ⟨rfl,rfl,rfl,aB _,fun _ _ _=>rfl⟩;unfold Oper.wp;simp[execOp,I,resolve,invoke,builtin,J,N,A,Result.andThen];exact W _ _ X
 |some r=>exact wpList_append_own w y s x t I base e i z size d L H hz q E G F v n C J f r m c b N Y (p r rfl) R D g l (fun B w' T U _=>h B w' T U)
theorem uw (a b:UInt8) (x y:List UInt8):Op.bytesLess (a::x) (b::y)=(decide (a<b)||(a==b&&Op.bytesLess x y)):=rfl
theorem kr:∀x:List UInt8,Op.bytesLess x x=false
 | []=>rfl
 |a::x=>by
  rw[uw,kr x,aL,aQ];exact decide_eq_false (by simp)
theorem rC:∀x y z:List UInt8,Op.bytesLess x y=true→Op.bytesLess y z=true→Op.bytesLess x z=true
 | [],[],_,h,_=>by cases h
 | [],_::_,[],_,h=>by cases h
 | [],_::_,_::_,_,_=>rfl
 |_::_,[],_,h,_=>by cases h
 |_::_,_::_,[],_,h=>by cases h
 |a::x,b::y,c::z,h1,h2=>by
  rw[uw]at h1 h2⊢
  simp only[Bool.or_eq_true,decide_eq_true_eq,Bool.and_eq_true,beq_iff_eq]at h1 h2⊢
  rcases h1 with h1|⟨rfl,h1⟩
  ·rcases h2 with h2|⟨rfl,h2⟩
   ·exact .inl (UInt8.lt_trans h1 h2)
   ·exact .inl h1
  ·rcases h2 with h2|⟨rfl,h2⟩
   ·exact .inl h2
   ·exact .inr ⟨rfl,rC x y z h1 h2⟩
theorem vP:∀x y:List UInt8,Op.bytesLess x y=false→x≠y→Op.bytesLess y x=true
 | [],[],_,h=>absurd rfl h
 | [],_::_,h,_=>by cases h
 |_::_,[],_,_=>rfl
 |a::x,b::y,h1,h2=>by
  rw[uw]at h1⊢
  simp only[Bool.or_eq_false_iff,decide_eq_false_iff_not,Bool.and_eq_false_iff,beq_eq_false_iff_ne]at h1;simp only[Bool.or_eq_true,decide_eq_true_eq,Bool.and_eq_true,beq_iff_eq];by_cases e:a=b
  ·subst e;have c:Op.bytesLess x y=false:=by
    rcases h1.2 with h|h
    ·exact absurd rfl h
    ·exact h
   exact .inr ⟨rfl,vP x y c (fun e=>h2 (by rw[e]))⟩
  ·refine .inl ?_;have d:¬a.toNat<b.toNat:=fun h=>h1.1 (UInt8.lt_iff_toNat_lt.2 h);have f:a.toNat≠b.toNat:=fun h=>e (UInt8.toNat_inj.1 h);exact UInt8.lt_iff_toNat_lt.2 (by omega)
theorem CT {x y:List UInt8} (h:Op.bytesLess x y=true):Op.bytesLess y x=false:=by
 cases e:Op.bytesLess y x with
 |false=>rfl
 |true=>have:=rC _ _ _ h e;rw[kr]at this;cases this
theorem zr {f:Nat→List UInt8} {n:Nat} (h:∀j,0<j→j<n→Op.bytesLess (f (j-1)) (f j)=true):∀d i,i+(d+1)<n→Op.bytesLess (f i) (f (i+(d+1)))=true
 |0,i,hi=>h (i+1) (by omega) hi
 |d+1,i,hi=>rC _ _ _ (zr h d i (by omega)) (h (i+(d+1+1)) (by omega) hi)
theorem ee {a b:ByteArray} (h:a.toList=b.toList):a=b:=by
 rw[ByteArray.toList_eq,ByteArray.toList_eq]at h;have c:=Array.ext' h;cases a;cases b;simp only at c;rw[c]
end
section
open Go.RowKit
def bq (p:Nat→Bool):Nat→Nat→Nat
 |0,j=>j
 |m+1,j=>if p j=true then j else bq p m (j+1)
theorem dH (p:Nat→Bool):∀m j,j≤bq p m j∧bq p m j≤j+m∧(bq p m j<j+m→p (bq p m j)=true)∧∀i,j≤i→i<bq p m j→p i=false
 |0,j=>⟨aB _,aB _,fun h=>absurd h (by simp[bq]),fun i b a=>by simp[bq]at a;omega⟩
 |m+1,j=>by
  unfold bq;split
  ·rename_i h;exact⟨aB _,by omega,fun _=>h,fun i b a=>by omega⟩
  ·rename_i h;obtain⟨b,a,d,e⟩:=dH p m (j+1);refine⟨by omega,by omega,fun c=>d (by omega),fun i f c=> ?_⟩;by_cases hij:i=j
   ·subst hij;simpa using h
   ·exact e i (by omega) c
theorem dI {p:Nat→Bool} {n j:Nat} (a:j<n) (h:p j=true):bq p (n-j) j=j:=by
 rw[show n-j=(n-j-1)+1 by omega,bq,if_pos h]
theorem dB {p:Nat→Bool} {n j:Nat} (a:j<n) (h:p j=false):bq p (n-j) j=bq p (n-(j+1)) (j+1):=by
 rw[show n-j=(n-(j+1))+1 by omega,bq,if_neg (by rw[h];decide)]
theorem dX {p:Nat→Bool} {n j:Nat} (a:j≤n) (b:¬j<n):bq p (n-j) j=n:=by
 rw[show n-j=0 by omega,bq];omega
theorem kP {p:Nat→Bool} {n i:Nat} (f:i≤n) (a:∀k,k<i→p k=false) (e:i<n→p i=true):bq p n 0=i:=by
 obtain⟨-,b,c,d⟩:=dH p n 0;rcases Nat.lt_trichotomy (bq p n 0) i with h|h|h
 ·have:=a _ h;rw[c (by omega)]at this;cases this
 ·exact h
 ·have:=d i (by omega) h;rw[e (by omega)]at this;cases this
end
section
open Go Go.RowKit
variable {P:Program}
def eo {α:Type} (enc:α→List Value) (l:List α):List Value:=(l.map enc).flatten
theorem ow {α:Type} {enc:α→List Value} (l m:List α):eo enc (l++m)=eo enc l++eo enc m:=by simp[eo]
theorem rD {α:Type} {enc:α→List Value} {k:Nat} (a:∀x,(enc x).length=k):∀(l:List α) (i j:Nat) (x:α),l[i]?=some x→j<k→(eo enc l)[i*k+j]?=(enc x)[j]?
 | [],i,j,x,h,_=>by simp at h
 |y::l,0,j,x,h,hj=>by
  have e:eo enc (y::l)=enc y++eo enc l:=by simp[eo]
  simp only[List.getElem?_cons_zero,Option.some.injEq]at h;subst h;rw[e,Nat.zero_mul,Nat.zero_add,cV (by rw[a];exact hj)]
 |y::l,i+1,j,x,h,hj=>by
  have e:eo enc (y::l)=enc y++eo enc l:=by simp[eo]
  have b:l[i]?=some x:=by simpa using h
  have c:(i+1)*k=i*k+k:=Nat.succ_mul i k;rw[e,cD (by rw[a];omega),a,show(i+1)*k+j-k=i*k+j by omega];exact rD a l i j x b hj
section
variable {P:Program} {md:Region.Mode}
section
theorem lp (w:World) (base:Nat) (t F e:TypeId) (i:TypeInfo) (z:Value) (size f:Nat) (L:P.underlying t=some (.slice e)) (I:P.info? e=some i) (U:i.zero=some z)
 (o:i.size=size) (A:i.bytes=f) (N:z.cells.size=size) (K:0<size)
 (v:Value) (n:Nat) (r:List Value) (d:w.ownsRow base e size v n r)
 (oa:Option Addr) (m c:Nat) (a:List Value) (J:a.length=m*size) (X:oa=none→m=0) (l:∀p,oa=some p→∀j u,a[j]?=some u→w.cell? (p.add j)=some u) (G:∀u∈a,u.oneCell'=true)
 (s:n+m≤maxLen) (k:(n+m)*f≤140737488355328) (y:base≤w.heap.size):
 ∃E w',(Builtin.append_ #[t,t] F #[v,.slice oa m c]).run P w= .ok E w'∧w'.ownsRow base e size E (n+m) (r++a)∧w.grownBy w' v.ownBlock∧∀b,E.ownBlock=some b→w.heap.size≤b∨v.ownBlock=some b:=by
 cases oa with
 |none=>
  have hm:=X rfl;subst hm;have hn:a= []:=List.eq_nil_of_length_eq_zero (by omega);subst hn;exact⟨v,w,kq base t F e i size L I v n r d c,by simpa using d,⟨rfl,rfl,rfl,aB _,fun _ _ _=>rfl⟩,fun b x=> .inr x⟩
 |some p=>
  by_cases hv:v.ownBlock=none
  ·
   have C:w.ownsRow w.heap.size e size v n r:=by
    refine⟨d.1,?_⟩;rcases d.2 with h|⟨g,cap,q,rfl,h⟩
    ·exact .inl h
    ·cases hv
   obtain⟨E,w',D,O,W,-⟩:=run_append_own (P:=P) w w.heap.size t F e i z size f L I U o A N K v n r C p m c a J (l p rfl) G s k (aB _);refine⟨E,w',D,⟨O.1,?_⟩,W,fun b x=> .inl (O.lt b x).1⟩;rcases O.2 with h|⟨g,cap,q,G,h2,h3⟩
   ·exact .inl h
   ·exact .inr ⟨g,cap,q,G,by omega,h3⟩
  ·rcases d.2 with⟨rfl,_⟩|⟨g,cap,q,rfl,Y,hg,a0,Z,Q,T⟩
   ·exact absurd rfl hv
   ·obtain⟨E,w',D,O,W,-⟩:=run_append_own (P:=P) w base t F e i z size f L I U o A N K _ n r d p m c a J (l p rfl) G s k y;refine⟨E,w',D,O,W,fun b x=> ?_⟩;subst o;subst A;by_cases hroom:n+m≤cap
    ·have H:n*i.size+a.length≤q.size:=by rw[J,Q,←Nat.add_mul];exact Nat.mul_le_mul_right _ hroom
     have R:=run_append_room (P:=P) w t F e i L I g n cap q hg p m c a J (l p rfl) G hroom H;rw[R]at D;cases D;exact .inr x
    ·have B:∀j u,r[j]?=some u→w.cell? ((⟨g,0,none⟩:Addr).add j)=some u:=d.cells (g:=g) rfl;have R:=run_append_grow (P:=P) w t F e i z L I U ⟨g,0,none⟩ n cap r d.1 B p m c a J (l p rfl) (by omega) (by simp only[maxLen]at s;omega) (growslice_fits (by omega) k);rw[R]at D;cases D;simp only[Value.ownBlock,Option.some.injEq]at x;subst x;exact .inl (aB _)
end
end
end
section
section
variable {α:Type}
variable {r:α→α→Prop} (tr:∀x y z,r x y→r y z→r x z) (ir:∀x,¬r x x)
end
end
section
open Go Go.RowKit
structure fZ where
 ng:Nat
 nm:Nat→ByteArray
 de:Nat→Int
 yi:Nat→Int
 gn:Nat→Nat
 gf:Nat→Nat→Int
 ns:Nat
 sn:Nat→ByteArray
 sa:Nat→Int
 sh:Nat→Int
 ss:Nat→Int
def vR (w:World) (v:Value) (m:fZ) (gv:Nat→Value):Prop:=
 cE w v m.ng 4 (fun i j=>match j with|0=> .string (m.nm i)|1=> .int .i64 (m.de i)|2=> .int .i64 (m.yi i)|_=>gv i)∧∀i,i<m.ng→ew w (gv i) (m.gn i) (m.gf i)
def xG (w:World) (v:Value) (m:fZ):Prop:=
 cE w v m.ns 4 (fun i j=>match j with|0=> .string (m.sn i)|1=> .int .i64 (m.sa i)|2=> .int .i64 (m.sh i)|_=> .int .i64 (m.ss i))
theorem vR.below {w w':World} {v:Value} {m:fZ} {a:Nat→Value} (h:vR w v m a) (b:Below w.heap.size w w'):vR w' v m a:=⟨h.1.below b,fun i c=>(h.2 i c).below b⟩
theorem xG.below {w w':World} {v:Value} {m:fZ} (h:xG w v m) (a:Below w.heap.size w w'):xG w' v m:=cE.below h a
theorem vR.form {w:World} {v:Value} {m:fZ} {f:Nat→Value} (h:vR w v m f):∃(oa:Option Addr) (cap:Nat),v= .slice oa m.ng cap∧m.ng≤9223372036854775807∧
 ∀i,i<m.ng→∃b a,oa=some ⟨b,a,none⟩∧b<w.heap.size∧∀k,k<m.ng→w.cell? ⟨b,a+k*4,none⟩=some (m.nm k)∧w.cell? ⟨b,a+k*4+1,none⟩=some (m.de k)∧w.cell? ⟨b,a+k*4+2,none⟩=some (m.yi k)∧w.cell? ⟨b,a+k*4+3,none⟩=some (f k):=by
 obtain⟨⟨oa,cap,j,n,o,l⟩,_⟩:=h;refine⟨oa,cap,j,by omega,fun i p=> ?_⟩;obtain⟨b,a,g,e,c⟩:=l (by omega);exact⟨b,a,g,e,fun k d=>⟨c k 0 d (by decide),c k 1 d (by decide),c k 2 d (by decide),c k 3 d (by decide)⟩⟩
theorem xG.form {w:World} {v:Value} {m:fZ} (h:xG w v m):∃(oa:Option Addr) (cap:Nat),v= .slice oa m.ns cap∧m.ns≤9223372036854775807∧
 ∀i,i<m.ns→∃b a,oa=some ⟨b,a,none⟩∧b<w.heap.size∧∀k,k<m.ns→w.cell? ⟨b,a+k*4,none⟩=some (m.sn k)∧w.cell? ⟨b,a+k*4+1,none⟩=some (m.sa k)∧w.cell? ⟨b,a+k*4+2,none⟩=some (m.sh k)∧w.cell? ⟨b,a+k*4+3,none⟩=some (m.ss k):=by
 obtain⟨oa,cap,g,l,n,j⟩:=h;refine⟨oa,cap,g,by omega,fun i o=> ?_⟩;obtain⟨b,a,f,e,c⟩:=j (by omega);exact⟨b,a,f,e,fun k d=>⟨c k 0 d (by decide),c k 1 d (by decide),c k 2 d (by decide),c k 3 d (by decide)⟩⟩
def fZ.gi (m:fZ) (s:ByteArray):Nat:=bq (fun i=>(m.nm i).toList==s.toList) m.ng 0
def fZ.si (m:fZ) (s:ByteArray):Nat:=bq (fun i=>(m.sn i).toList==s.toList) m.ns 0
def fZ.hasG (m:fZ) (s:ByteArray):Bool:=decide (m.gi s<m.ng)
def fZ.hasS (m:fZ) (s:ByteArray):Bool:=decide (m.si s<m.ns)
def fZ.ti (m:fZ) (i:Nat) (t:Int):Nat:=bq (fun j=>m.gf i j==t) (m.gn i) 0
def fZ.rolled (m:fZ) (s:ByteArray) (t:Int):Bool:=m.hasG s&&decide (m.ti (m.gi s) t<m.gn (m.gi s))
def tj (a b:ByteArray):Bool:=Op.bytesLess a.toList b.toList
section
variable {α:Type}
theorem rE (a:ByteArray):tj a a=false:=kr _
end
theorem rF (a s:ByteArray) (d e:Int) (oa:Option Addr) (n c:Nat) (b:Nat) (w:World) (f:b<w.heap.size) (g:w.cell? b=some s):
 Gv 328 #[.agg #[.string a,d,e,.slice oa n c],.pointer (some b)] (.bool (a.toList==s.toList)) w:=by
 go_enter func328,ntmps328;go_wp2;go_returns;exact⟨rfl,by go_grown⟩
theorem ox (c s:ByteArray) (a h k:Int) (b:Nat) (w:World) (d:b<w.heap.size) (e:w.cell? b=some s):
 Gv 331 #[.agg #[.string c,a,h,k],.pointer (some b)] (.bool (c.toList==s.toList)) w:=by
 go_enter func331,ntmps331;go_wp2;go_returns;exact⟨rfl,by go_grown⟩
theorem ux (m:fZ) (L:Nat→Value) (v:Value) (b:Nat) (s:ByteArray) (w:World) (h:vR w v m L) (U:b<w.heap.size) (P:w.cell? b=some s):
 Gv 327 #[v,.func (.func 328) #[] #[.pointer (some b)]] (.int .i64 (if m.gi s<m.ng then(m.gi s:Int)else -1)) w:=by
 have eg:∀l w,(callFunc 328 l).run prog w= .ok (.enter 328 l) w:=enters_of func328 (by kernel_rfl) rfl;have x:=ar h.2;obtain⟨oa,cap,rfl,hn,A⟩:=h.form;have u:=ar A;clear h A;generalize N:m.gi s=F;have H:Hi (bq (fun i=>(m.nm i).toList==s.toList) m.ng 0=F):=N;obtain⟨n,D⟩:=oE m.ng;rw[D]at H hn u;rw[D];rw[D]at x;generalize O:(if F<n then(F:Int)else -1)=R;have I:=ar O;clear N D O;go_enter func327,ntmps327;go_wp2;go_loopw[5,8] (fun _ i wr=>∃j:Nat,j≤n∧i= .int .i64 j∧Hi (bq (fun i=>(m.nm i).toList==s.toList) (n-j) j=F)∧Below w.heap.size w wr) (fun _ i _=>n-(intOf i).toNat)
 case atStart=>exact⟨0,by omega,rfl,H.o,ah _ _⟩
 case round=>
  obtain⟨j,W,rfl,E,k⟩:=hrel;have q:=ar k;by_cases hlt:j<n
  ·obtain⟨B,C,rfl,d,c⟩:=u.o j hlt;have Y:wr.cell? (B,C+j*4)=some (m.nm j):=bI k d (c j hlt).1;have Z:wr.cell? (B,C+j*4+1)=some (m.de j):=bI k d (c j hlt).2.1;have c2:wr.cell? (B,C+j*4+2)=some (m.yi j):=bI k d (c j hlt).2.2.1;have T:wr.cell? (B,C+j*4+3)=some (L j):=bI k d (c j hlt).2.2.2;have J:wr.cell? b=some s:=bI k U P;obtain⟨Q,K,z,-,-⟩:=(x.o j hlt).form;rw[z]at T;clear z;have y:b<wr.heap.size:=by have:=k.size;omega
   clear c k P;by_cases o:((m.nm j).toList==s.toList)=true
   ·have g:R=(j:Int):=by
     have t:F=j:=E.o.symm.trans (dI hlt o);rw[←I.o,t,if_pos hlt]
    have r:=ar g;have a:=rF (m.nm j) s (m.de j) (m.yi j) Q (m.gn j) K b wr y J;rw[o]at a;clear g o;go_wp2_with fail
    (go_at_fn 328;refine a.mono ?_;rintro e X ⟨rfl,f⟩);have p:=ar (ag q.o f);clear f;go_wp2;go_returns;rw[r.o];exact⟨rfl,p.o⟩
   have o:((m.nm j).toList==s.toList)=false:=by simpa using o
   have G:Hi (bq (fun i=>(m.nm i).toList==s.toList) (n-(j+1)) (j+1)=F):=(dB hlt o).symm.trans E.o;have a:=rF (m.nm j) s (m.de j) (m.yi j) Q (m.gn j) K b wr y J;rw[o]at a;clear o;go_wp2_with fail
   (go_at_fn 328;refine a.mono ?_;rintro e X ⟨rfl,f⟩);have p:=ar (ag q.o f);clear f;go_wp2;go_roundw
   case rel=>exact⟨j+1,by omega,by go_num,G,p.o⟩
   case measure=>simp[intOf];omega
  ·have g:R= -1:=by
    have t:F=n:=E.o.symm.trans (dX W hlt);rw[←I.o,t,if_neg (by omega)]
   have r:=ar g;clear g k;go_wp2;go_returns;rw[r.o];exact⟨rfl,q.o⟩
theorem rG (m:fZ) (v:Value) (b:Nat) (s:ByteArray) (w:World) (h:xG w v m) (L:b<w.heap.size) (K:w.cell? b=some s):
 Gv 330 #[v,.func (.func 331) #[] #[.pointer (some b)]] (.int .i64 (if m.si s<m.ns then(m.si s:Int)else -1)) w:=by
 have W:∀l w,(callFunc 331 l).run prog w= .ok (.enter 331 l) w:=enters_of func331 (by kernel_rfl) rfl
 skip
 obtain⟨oa,cap,rfl,hn,y⟩:=h.form;have u:=ar y;clear h y;generalize I:m.si s=F;have E:Hi (bq (fun i=>(m.sn i).toList==s.toList) m.ns 0=F):=I;obtain⟨n,B⟩:=oE m.ns;rw[B]at E hn u;rw[B]
 skip
 generalize J:(if F<n then(F:Int)else -1)=R;have G:=ar J;clear I B J;go_enter func330,ntmps330;go_wp2;go_loopw[5,8] (fun _ i wr=>∃j:Nat,j≤n∧i= .int .i64 j∧Hi (bq (fun i=>(m.sn i).toList==s.toList) (n-j) j=F)∧Below w.heap.size w wr) (fun _ i _=>n-(intOf i).toNat)
 case atStart=>exact⟨0,by omega,rfl,E.o,ah _ _⟩
 case round=>
  obtain⟨j,N,rfl,C,k⟩:=hrel;have q:=ar k;by_cases hlt:j<n
  ·obtain⟨z,A,rfl,d,c⟩:=u.o j hlt;have P:wr.cell? (z,A+j*4)=some (m.sn j):=bI k d (c j hlt).1;have Q:wr.cell? (z,A+j*4+1)=some (m.sa j):=bI k d (c j hlt).2.1;have T:wr.cell? (z,A+j*4+2)=some (m.sh j):=bI k d (c j hlt).2.2.1;have U:wr.cell? (z,A+j*4+3)=some (m.ss j):=bI k d (c j hlt).2.2.2;have H:wr.cell? b=some s:=bI k L K
   skip
   skip
   skip
   have x:b<wr.heap.size:=by have:=k.size;omega
   clear c k K;by_cases o:((m.sn j).toList==s.toList)=true
   ·have g:R=(j:Int):=by
     have t:F=j:=C.o.symm.trans (dI hlt o);rw[←G.o,t,if_pos hlt]
    have r:=ar g;have a:=ox (m.sn j) s (m.sa j) (m.sh j) (m.ss j) b wr x H;rw[o]at a;clear g o;go_wp2_with fail
    (go_at_fn 331;refine a.mono ?_;rintro e O ⟨rfl,f⟩);have p:=ar (ag q.o f);clear f;go_wp2;go_returns;rw[r.o];exact⟨rfl,p.o⟩
   have o:((m.sn j).toList==s.toList)=false:=by simpa using o
   have D:Hi (bq (fun i=>(m.sn i).toList==s.toList) (n-(j+1)) (j+1)=F):=(dB hlt o).symm.trans C.o;have a:=ox (m.sn j) s (m.sa j) (m.sh j) (m.ss j) b wr x H;rw[o]at a;clear o;go_wp2_with fail
   (go_at_fn 331;refine a.mono ?_;rintro e O ⟨rfl,f⟩);have p:=ar (ag q.o f);clear f;go_wp2;go_roundw
   case rel=>exact⟨j+1,by omega,by go_num,D,p.o⟩
   case measure=>simp[intOf];omega
  ·have g:R= -1:=by
    have t:F=n:=C.o.symm.trans (dX N hlt);rw[←G.o,t,if_neg (by omega)]
   have r:=ar g;clear g k;go_wp2;go_returns;rw[r.o];exact⟨rfl,q.o⟩
theorem vS:(prog.info? 3).map (fun i=>(i.zero,i.size,i.bytes))=some (some (.int .i64 0),1,8):=by kernel_rfl
theorem AI (oa:Option Addr) (n c:Nat) (d:List Value) (w:World) (A:d.length=n*1) (hn:n≤1100000) (m:oa=none→n=0)
 (p:∀f,oa=some f→∀j u,d[j]?=some u→w.cell? (f.add j)=some u) (o:∀u∈d,u.oneCell'=true):
 Calls prog 329 #[.slice oa n c] w fun e w'=>∃i,e= .returned i∧w'.ownsRow w.heap.size 3 1 i n d∧Below w.heap.size w w':=by
 have B:prog.underlying 109=some (.slice 3):=underlying109;have q:∀(w:World) (a:Option Addr) (n c x c':Nat),(binOp .eql 109 (.slice a n c) (.slice none x c')).run prog w= .ok (.bool a.isNone) w:=fun w a n c x c'=>Lib.run_eql_slice_nil w _ _ a n c x c' B;obtain⟨J,G,s,t,v⟩:=info_parts vS;cases oa with
 |none=>
  have r:=m rfl;subst r;have I:d= []:=List.eq_nil_of_length_eq_zero (by omega);subst I;clear p o A m;go_enter func329,ntmps329;go_wp2;go_returns;exact⟨_,rfl,World.ownsRow_nil _ _ _ _,ah _ _⟩
 |some f=>
  have y:Hi (∀j u,d[j]?=some u→w.cell? (f.add j)=some u):=p f rfl;have l:Hi (∀j u,d[j]?=some u→(f.add j).block<w.heap.size):=fun j u h=>by
   have:=y.o j u h;rcases Nat.lt_or_ge (f.add j).block w.heap.size with h'|h'
   ·exact h'
   ·simp[World.cell?,Array.getElem?_eq_none h']at this
  have D:=ar o;clear p o m;go_enter func329,ntmps329;go_wp2_with (at_builtin;refine wpList_append_own _ rfl _ _ 109 rfl w.heap.size 3 J _ 1 8 B G s t v rfl (by decide) _ _ _ rfl (World.ownsRow_made w #[] 0 (aB _) (Nat.zero_le _) (by simp)) f n c d rfl ?c1 ?c2 ?c3 ?c4 ?c5 ?c6 ?_)
  case c1=>exact A
  case c2=>
   intro j u h;exact(World.cell?_alloc_lt _ _ _ (l.o j u h)).trans (y.o j u h)
  case c3=>exact D.o
  case c4=>unfold maxLen;omega
  case c5=>omega
  case c6=>simp
  intro i C g b _;have z:Below w.heap.size w C:=((ah _ w).alloc (aB _) _).grown b (by simp) (by intro k H;simp[Value.ownBlock]at H;omega);have E:=ar z;have F:Hi (C.ownsRow w.heap.size 3 1 i n d):=by
   show World.ownsRow _ _ _ _ _ _ _;simpa using g
  clear g b z;go_wp2;go_returns;exact⟨_,rfl,F.o,E.o⟩
theorem gN {w:World} {v:Value} {n:Nat} {f:Nat→Int} {B:Nat} (h:ew w v n f) (hn:jN B v) (b i:Nat) (u:Value) (x:b<B):ew (w.setCell (b,i) u) v n f:=by
 obtain⟨oa,cap,g,l,m,o⟩:=h;refine⟨oa,cap,g,l,m,fun k=> ?_⟩;obtain⟨a,d,e,c,q⟩:=o k;refine⟨a,d,e,by simpa using c,fun i j s t=> ?_⟩;have p:B≤a:=hn a (by rw[g,e];rfl);rw[World.cell?_setCell_other _ _ _ _ (by intro r;have:=congrArg Addr.block r;simp at this;omega)];exact q i j s t
def kQ (f:Nat→Int) (n:Nat) (t:Int):Nat:=bq (fun j=>f j==t) n 0
theorem AJ (v:Value) (n:Nat) (f:Nat→Int) (t:Int) (w:World) (h:ew w v n f):
 Gv 376 #[v,t] (.int .i64 (if kQ f n t<n then(kQ f n t:Int)else -1)) w:=by
 obtain⟨oa,cap,rfl,hn,k⟩:=h.form;have m:=ar k;clear h k;generalize r:kQ f n t=F;have u:Hi (bq (fun j=>f j==t) n 0=F):=r;generalize s:(if F<n then(F:Int)else -1)=R;have q:=ar s;clear r s;go_enter func376,ntmps376;go_wp2;go_loopw[5,8] (fun _ i wr=>∃j:Nat,j≤n∧i= .int .i64 j∧Hi (bq (fun j=>f j==t) (n-j) j=F)∧Below w.heap.size w wr) (fun _ i _=>n-(intOf i).toNat)
 case atStart=>exact⟨0,by omega,rfl,u.o,ah _ _⟩
 case round=>
  obtain⟨j,A,rfl,o,l⟩:=hrel;have c:=ar l;by_cases hlt:j<n
  ·obtain⟨x,z,rfl,g,b⟩:=m.o j hlt;have B:wr.cell? (x,z+j)=some (f j):=bI l g (b j hlt);clear b l;by_cases h1:f j=t
   ·have a:R=(j:Int):=by
     have e:F=j:=o.o.symm.trans (dI hlt (by simpa using h1));rw[←q.o,e,if_pos hlt]
    have d:=ar a;have y:(t==f j)=true:=by simp[h1]
    clear a h1;go_wp2;go_returns;rw[d.o];exact⟨rfl,c.o⟩
   have p:Hi (bq (fun j=>f j==t) (n-(j+1)) (j+1)=F):=(dB hlt (by simpa using h1)).symm.trans o.o;have y:(t==f j)=false:=by simpa using Ne.symm h1
   clear h1;go_wp2;go_roundw
   case rel=>exact⟨j+1,by omega,by go_num,p,c.o⟩
   case measure=>simp[intOf];omega
  ·have a:R= -1:=by
    have e:F=n:=o.o.symm.trans (dX A hlt);rw[←q.o,e,if_neg (by omega)]
   have d:=ar a;clear a l;go_wp2;go_returns;rw[d.o];exact⟨rfl,c.o⟩
theorem uy (v:Value) (n:Nat) (f:Nat→Int) (t:Int) (w:World) (h:ew w v n f):
 Gv 363 #[v,t] (.bool (decide (kQ f n t<n))) w:=by
 have c:=ar (AJ v n f t w h);obtain⟨oa,cap,rfl,-,-⟩:=h.form;clear h;obtain⟨F,d⟩:=oE (kQ f n t);rw[d]at c;rw[d];obtain⟨R,g⟩:=oE ((if F<n then(F:Int)else -1));rw[g]at c;generalize i:decide (F<n)=D;have j:Hi (decide ((0:Int)≤R)=D):=by
  show _=_;rw[←i,←g];by_cases h:F<n
  ·rw[if_pos h,decide_eq_true h];exact dt
  ·rw[if_neg h,decide_eq_false h];exact df
 clear d g i;go_enter func363,ntmps363;go_wp2_with fail
 (go_at_call 376;refine c.o.mono ?_;rintro e k ⟨rfl,a⟩);have b:=ar a;clear a;go_wp2;go_returns;rw[j.o];exact⟨rfl,b.o⟩
theorem xH (v:Value) (n:Nat) (f:Nat→Int) (w:World) (h:ew w v n f) (hn:n≤1100000):
 Calls prog 329 #[v] w fun e w'=>∃g,e= .returned g∧ew w' g n f∧jN w.heap.size g∧Below w.heap.size w w':=by
 obtain⟨oa,cap,rfl,-,-,a⟩:=h;refine(AI oa n cap (ge (fun i=> .int .i64 (f i)) n) w (by rw[gu];omega) hn (fun q=> ?_) (fun t k j u l=> ?_) (fun u p=> ?_)).mono ?_
 ·rcases Nat.eq_zero_or_pos n with hz|hz
  ·exact hz
  ·obtain⟨b,m,d,_⟩:=a hz;rw[q]at d;cases d
 ·have c:j<n:=by
   have:=(List.getElem?_eq_some_iff.1 l).1
   rwa [gu]at this
  obtain⟨b,m,d,_,s⟩:=a (by omega);rw[k]at d;cases d;rw[iz _ _ _ c]at l;cases l;rw[Addr.add_lit];have:=s j 0 c (by decide);simpa using this
 ·simp only[ge,List.mem_map]at p;obtain⟨i,_,rfl⟩:=p;rfl
 ·rintro e w' ⟨g,rfl,o,r⟩;exact⟨g,rfl,tG o,bU o,r⟩
def fE (w:World) (v:Value) (m:fZ) (gv:Nat→Value):Prop:=
 ∃vg vs,v= .agg #[vg,vs]∧vR w vg m gv∧xG w vs m∧m.ng≤1100000∧m.ns≤1100000∧∀i,i<m.ng→m.gn i≤1100000
theorem fE.below {w w':World} {v:Value} {m:fZ} {a:Nat→Value} (h:fE w v m a) (b:Below w.heap.size w w'):fE w' v m a:=by
 obtain⟨g,i,c,d,e,f⟩:=h;exact⟨g,i,c,d.below b,e.below b,f⟩
def fZ.gl (m:fZ) (s:ByteArray):Nat:=if m.hasG s=true then m.gn (m.gi s)else 0
theorem pY (v:Value) (m:fZ) (J:Nat→Value) (s:ByteArray) (w:World) (h:fE w v m J):
 Calls prog 204 #[v,.string s] w fun e w'=>∃U a h k,e= .returned (.tuple #[.agg #[.string U,.int .i64 a,.int .i64 h,.int .i64 k],.bool (m.hasS s)])∧(m.hasS s=true→a=m.sa (m.si s)∧h=m.sh (m.si s))∧Below w.heap.size w w':=by
 obtain⟨vg,vs,rfl,x,y,K,L,z⟩:=h;have W:=ar x;have H:=ar y;obtain⟨oa,ca,rfl,-,A⟩:=x.form;obtain⟨N,I,rfl,-,l⟩:=y.form;have r:=ar l;clear x y z A l;obtain⟨F,p⟩:=oE (m.si s);obtain⟨D,u⟩:=oE (m.hasS s);have G:=ar p;have C:Hi (decide (F<m.ns)=D):=by show _=_;rw[←p];exact u
 skip
 skip
 rw[u,p];obtain⟨R,E⟩:=oE ((if F<m.ns then(F:Int)else -1));have t:=ar E;clear p u E;go_enter func204,ntmps204;go_wp2_with fail
 (go_at_call 330;refine(rG m _ (w.heap.size+1) s _ (H.o.below (w:=w) (by go_grown)) (by simp<;>omega) (by simp[go_sem])).mono ?_;rintro e c ⟨rfl,g⟩);rw[G.o,t.o];have f:Hi (Below w.heap.size w c):=by
  show Below _ _ _;exact ag (w:=w) (by go_grown) g
 have B:=dx g;have z2:w.heap.size+1+1<c.heap.size:=by omega
 have m1:c.cell? (w.heap.size,1)=some (.slice N m.ns I):=bI g (by simp<;>omega) (by simp[go_sem]);have r0:c.cell? (w.heap.size+1+1,0)=some (.string ⟨#[]⟩):=bI g (by simp<;>omega) (by simp[go_sem]);have O:c.frozen? (w.heap.size+1+1,0)=false:=(tB g (by simp<;>omega)).trans (by simp[go_sem]);have r1:c.cell? (w.heap.size+1+1,1)=some (.int .i64 0):=bI g (by simp<;>omega) (by simp[go_sem]);have P:c.frozen? (w.heap.size+1+1,1)=false:=(tB g (by simp<;>omega)).trans (by simp[go_sem]);have r2:c.cell? (w.heap.size+1+1,2)=some (.int .i64 0):=bI g (by simp<;>omega) (by simp[go_sem]);have Q:c.frozen? (w.heap.size+1+1,2)=false:=(tB g (by simp<;>omega)).trans (by simp[go_sem]);have r3:c.cell? (w.heap.size+1+1,3)=some (.int .i64 0):=bI g (by simp<;>omega) (by simp[go_sem]);have T:c.frozen? (w.heap.size+1+1,3)=false:=(tB g (by simp<;>omega)).trans (by simp[go_sem]);clear B g;by_cases hlt:F<m.ns
 ·have j:D=true:=(by rw[←C.o];exact decide_eq_true hlt);have q:=ar j;have i:R=(F:Int):=by rw[←t.o,if_pos hlt]
  subst i;clear j;obtain⟨n,o,rfl,d,b⟩:=r.o F hlt;have X:c.cell? (n,o+F*4)=some (m.sn F):=bI f.o d (b F hlt).1;have Y:c.cell? (n,o+F*4+1)=some (m.sa F):=bI f.o d (b F hlt).2.1;have Z:c.cell? (n,o+F*4+2)=some (m.sh F):=bI f.o d (b F hlt).2.2.1;have c3:c.cell? (n,o+F*4+3)=some (m.ss F):=bI f.o d (b F hlt).2.2.2;have k0:decide ((F:Int)<0)=false:=df;have k1:F<m.ns:=hlt;clear b hlt;go_wp2
  all_goals (refine bodyPost_ret (v:= .tuple #[.agg #[.string (m.sn F),(m.sa F),(m.sh F),(m.ss F)],.bool true]) (by simp[results,results204,go_sem, *]) rfl ?_)
  rw[q.o];refine⟨_,_,_,_,rfl,fun _=>⟨rfl,rfl⟩,?_⟩;exact((((f.o).setCell (show w.heap.size≤w.heap.size+1+1 by omega) _).setCell (show w.heap.size≤w.heap.size+1+1 by omega) _).setCell (show w.heap.size≤w.heap.size+1+1 by omega) _).setCell (show w.heap.size≤w.heap.size+1+1 by omega) _
 ·have j:D=false:=(by rw[←C.o];exact decide_eq_false hlt);have q:=ar j;have i:R= -1:=by rw[←t.o,if_neg hlt]
  subst i;clear j hlt;go_wp2
  all_goals (refine bodyPost_ret (v:= .tuple #[.agg #["",(),(),()],.bool false]) (by simp[results,results204,go_sem, *]) rfl ?_)
  rw[q.o];refine⟨_,_,_,_,rfl,fun h=>absurd h (by decide),?_⟩;exact((((f.o).setCell (show w.heap.size≤w.heap.size+1+1 by omega) _).setCell (show w.heap.size≤w.heap.size+1+1 by omega) _).setCell (show w.heap.size≤w.heap.size+1+1 by omega) _).setCell (show w.heap.size≤w.heap.size+1+1 by omega) _
theorem mj (v:Value) (m:fZ) (gv:Nat→Value) (s:ByteArray) (w:World) (h:fE w v m gv):
 Calls prog 203 #[v,.string s] w fun e w'=>∃s' d y x,e= .returned (.tuple #[.agg #[.string s',.int .i64 d,.int .i64 y,x],.bool (m.hasG s)])∧(m.hasG s=true→d=m.de (m.gi s))∧ew w' x (m.gl s) (m.gf (m.gi s))∧Below w.heap.size w w':=by
 obtain⟨vg,vs,rfl,hG,hS,a3,a4,C⟩:=h;have Z:=ar hG;have HS:=ar hS;have HN:=ar C;obtain⟨oa,ca,rfl,-,G⟩:=hG.form;obtain⟨ob,cb,rfl,-,a1⟩:=hS.form;have Y:=ar G;clear hG hS C G a1;obtain⟨F,B⟩:=oE (m.gi s);obtain⟨D,P⟩:=oE (m.hasG s);have HF:=ar B;have HD:Hi (decide (F<m.ng)=D):=by show _=_;rw[←B];exact P
 obtain⟨L,hL⟩:=oE (m.gl s);have HL:Hi ((if D=true then m.gn F else 0)=L):=by show _=_;rw[←hL,←P,←B];rfl
 rw[P,hL,B];obtain⟨R,hR⟩:=oE ((if F<m.ng then(F:Int)else -1));have HR:=ar hR;clear B P hL hR;go_enter func203,ntmps203;go_wp2_with fail
 (go_at_call 327;refine(ux m gv _ (w.heap.size+1) s _ (Z.o.below (w:=w) (by go_grown)) (by simp<;>omega) (by simp[go_sem])).mono ?_;rintro e c ⟨rfl,i⟩);rw[HF.o,HR.o];have f:Hi (Below w.heap.size w c):=by
  show Below _ _ _;exact ag (w:=w) (by go_grown) i
 have a2:=dx i;have K:w.heap.size+1+1<c.heap.size:=by omega
 have m0:c.cell? w.heap.size=some (.slice oa m.ng ca):=bI i (by simp<;>omega) (by simp[go_sem]);have Q:c.cell? (w.heap.size+1+1,0)=some (.string ⟨#[]⟩):=bI i (by simp<;>omega) (by simp[go_sem]);have k:c.frozen? (w.heap.size+1+1,0)=false:=(tB i (by simp<;>omega)).trans (by simp[go_sem]);have T:c.cell? (w.heap.size+1+1,1)=some (.int .i64 0):=bI i (by simp<;>omega) (by simp[go_sem]);have l:c.frozen? (w.heap.size+1+1,1)=false:=(tB i (by simp<;>omega)).trans (by simp[go_sem]);have U:c.cell? (w.heap.size+1+1,2)=some (.int .i64 0):=bI i (by simp<;>omega) (by simp[go_sem]);have n:c.frozen? (w.heap.size+1+1,2)=false:=(tB i (by simp<;>omega)).trans (by simp[go_sem]);have W:c.cell? (w.heap.size+1+1,3)=some (.slice none 0 0):=bI i (by simp<;>omega) (by simp[go_sem]);have o:c.frozen? (w.heap.size+1+1,3)=false:=(tB i (by simp<;>omega)).trans (by simp[go_sem]);clear a2 i;by_cases hlt:F<m.ng
 ·have A:D=true∧L=m.gn F:=by
   have z:D=true:=by rw[←HD.o];exact decide_eq_true hlt
   exact⟨z,by rw[←HL.o,if_pos z]⟩
  have t:=ar A;have q:R=(F:Int):=by rw[←HR.o,if_pos hlt]
  subst q;clear A;obtain⟨N,O,rfl,g,b⟩:=Y.o F hlt;have c0:c.cell? (N,O+F*4)=some (m.nm F):=bI f.o g (b F hlt).1;have c1:c.cell? (N,O+F*4+1)=some (m.de F):=bI f.o g (b F hlt).2.1;have c2:c.cell? (N,O+F*4+2)=some (m.yi F):=bI f.o g (b F hlt).2.2.1;have c3:c.cell? (N,O+F*4+3)=some (gv F):=bI f.o g (b F hlt).2.2.2;have k0:decide ((F:Int)<0)=false:=df;have k1:F<m.ng:=hlt;obtain⟨oc,cc,E,-,-⟩:=(Z.o.2 F hlt).form;have u:=ar (Z.o.2 F hlt);rw[E]at c3 u;clear b E hlt;go_wp2_with fail
  (go_at_call 329;refine(xH _ (m.gn F) (m.gf F) _ (u.o.below (((((f.o).setCell (show w.heap.size≤w.heap.size+1+1 by omega) _).setCell (show w.heap.size≤w.heap.size+1+1 by omega) _).setCell (show w.heap.size≤w.heap.size+1+1 by omega) _).setCell (show w.heap.size≤w.heap.size+1+1 by omega) _)) (HN.o F k1)).mono ?_;rintro e p ⟨v2,rfl,r,H,a⟩);have a0:=ar r;have I:jN c.heap.size v2:=H.mono (by simp);have j:=ar I;clear H I;obtain⟨o2,c2,rfl,-,-⟩:=r.form;have X:Hi (Below w.heap.size w p):=by
   show Below _ _ _;exact ag (((((f.o).setCell (show w.heap.size≤w.heap.size+1+1 by omega) _).setCell (show w.heap.size≤w.heap.size+1+1 by omega) _).setCell (show w.heap.size≤w.heap.size+1+1 by omega) _).setCell (show w.heap.size≤w.heap.size+1+1 by omega) _) a
  have J:=a.size;simp only[aT]at J;have q0:p.cell? (w.heap.size+1+1,0)=some (m.nm F):=bI a (by simp<;>omega) (by simp[go_sem,Q,T,U,W]);have a5:p.frozen? (w.heap.size+1+1,0)=false:=(tB a (by simp<;>omega)).trans (by simp[go_sem,k,l,n,o]);have q1:p.cell? (w.heap.size+1+1,1)=some (m.de F):=bI a (by simp<;>omega) (by simp[go_sem,Q,T,U,W]);have a6:p.frozen? (w.heap.size+1+1,1)=false:=(tB a (by simp<;>omega)).trans (by simp[go_sem,k,l,n,o]);have q2:p.cell? (w.heap.size+1+1,2)=some (m.yi F):=bI a (by simp<;>omega) (by simp[go_sem,Q,T,U,W]);have a7:p.frozen? (w.heap.size+1+1,2)=false:=(tB a (by simp<;>omega)).trans (by simp[go_sem,k,l,n,o]);have q3:p.cell? (w.heap.size+1+1,3)=some (.slice oc (m.gn F) cc):=bI a (by simp<;>omega) (by simp[go_sem,Q,T,U,W]);have a8:p.frozen? (w.heap.size+1+1,3)=false:=(tB a (by simp<;>omega)).trans (by simp[go_sem,k,l,n,o]);clear J a r;go_wp2
  all_goals (refine bodyPost_ret (v:= .tuple #[.agg #[.string (m.nm F),(m.de F),(m.yi F),.slice o2 (m.gn F) c2],.bool true]) (by simp[results,results203,go_sem, *]) rfl ?_)
  rw[t.o.1,t.o.2];refine⟨_,_,_,_,rfl,fun _=>rfl,?_,?_⟩
  ·exact gN (gN (gN (gN (gN (a0.o) j.o _ _ _ K) j.o _ _ _ K) j.o _ _ _ K) j.o _ _ _ K) j.o _ _ _ K
  ·exact(((((X.o).setCell (show w.heap.size≤w.heap.size+1+1 by omega) _).setCell (show w.heap.size≤w.heap.size+1+1 by omega) _).setCell (show w.heap.size≤w.heap.size+1+1 by omega) _).setCell (show w.heap.size≤w.heap.size+1+1 by omega) _).setCell (show w.heap.size≤w.heap.size+1+1 by omega) _
 ·have A:D=false∧L=0:=by
   have z:D=false:=by rw[←HD.o];exact decide_eq_false hlt
   exact⟨z,by rw[←HL.o,if_neg (by rw[z];decide)]⟩
  have t:=ar A;have q:R= -1:=by rw[←HR.o,if_neg hlt]
  subst q;clear A hlt;go_wp2
  all_goals (refine bodyPost_ret (v:= .tuple #[.agg #["",(),(),Nat],.bool false]) (by simp[results,results203,go_sem, *]) rfl ?_)
  rw[t.o.1,t.o.2];refine⟨_,_,_,_,rfl,fun h=>absurd h (by decide),rp _ _,?_⟩;exact((((f.o).setCell (show w.heap.size≤w.heap.size+1+1 by omega) _).setCell (show w.heap.size≤w.heap.size+1+1 by omega) _).setCell (show w.heap.size≤w.heap.size+1+1 by omega) _).setCell (show w.heap.size≤w.heap.size+1+1 by omega) _
end
section
open Go Go.ChangeShapes Go.WideShapes Go.RowKit Go.ChangeAt
theorem oy (v:Value) (m:fZ) (R:Nat→Value) (s:ByteArray) (w:World) (h:fE w v m R):
 Calls prog 79 #[v,.string s] w fun e w'=>∃s' a h k,e= .returned (.tuple #[.agg #[.string s',.int .i64 a,.int .i64 h,.int .i64 k],.bool (m.hasS s)])∧(m.hasS s=true→a=m.sa (m.si s)∧h=m.sh (m.si s))∧Below w.heap.size w w':=by
 obtain⟨vg,vs,rfl,C,E,T,U,G⟩:=h;have HG:=ar C;have HS:=ar E;obtain⟨oa,O,rfl,-,H⟩:=C.form;obtain⟨L,A,rfl,-,p⟩:=E.form;have z:=ar p;clear C E G H p;obtain⟨F,u⟩:=oE (m.si s);obtain⟨D,B⟩:=oE (m.hasS s);have Q:Hi (bq (fun i=>(m.sn i).toList==s.toList) m.ns 0=F):=u;have N:Hi (decide (F<m.ns)=D):=by show _=_;rw[←u];exact B
 skip
 skip
 rw[B,u];clear u B
 skip
 skip
 go_enter func79,ntmps79;go_wp2;go_loopw[6] (fun i wr=>∃j:Nat,j≤m.ns∧i= .int .i64 j∧Hi (bq (fun i=>(m.sn i).toList==s.toList) (m.ns-j) j=F)∧Below ((w.alloc (.cells #[.slice oa m.ng O,.slice L m.ns A] 32)).alloc (.cells #["",(),(),()] 86)).heap.size ((w.alloc (.cells #[.slice oa m.ng O,.slice L m.ns A] 32)).alloc (.cells #["",(),(),()] 86)) wr) (fun i _=>m.ns-(intOf i).toNat)
 case atStart=>exact⟨0,by omega,rfl,Q.o,ah _ _⟩
 case round=>
  obtain⟨j,W,rfl,I,f⟩:=hrel;have d:Hi (Below w.heap.size w wr):=by
   show Below _ _ _;exact ag (w:=w) (by go_grown) f
  have K:=dx f;have z1:w.heap.size+1<wr.heap.size:=by omega
  have m1:wr.cell? (w.heap.size,1)=some (.slice L m.ns A):=bI f (by simp<;>omega) (by simp[go_sem]);have r0:wr.cell? (w.heap.size+1,0)=some (.string ⟨#[]⟩):=bI f (by simp<;>omega) (by simp[go_sem]);have X:wr.frozen? (w.heap.size+1,0)=false:=(tB f (by simp<;>omega)).trans (by simp[go_sem]);have r1:wr.cell? (w.heap.size+1,1)=some (.int .i64 0):=bI f (by simp<;>omega) (by simp[go_sem]);have Y:wr.frozen? (w.heap.size+1,1)=false:=(tB f (by simp<;>omega)).trans (by simp[go_sem]);have r2:wr.cell? (w.heap.size+1,2)=some (.int .i64 0):=bI f (by simp<;>omega) (by simp[go_sem]);have Z:wr.frozen? (w.heap.size+1,2)=false:=(tB f (by simp<;>omega)).trans (by simp[go_sem]);have r3:wr.cell? (w.heap.size+1,3)=some (.int .i64 0):=bI f (by simp<;>omega) (by simp[go_sem]);have a0:wr.frozen? (w.heap.size+1,3)=false:=(tB f (by simp<;>omega)).trans (by simp[go_sem]);have x:=ar f;clear K f;by_cases hlt:j<m.ns
  ·obtain⟨q,r,rfl,c,b⟩:=z.o j hlt;have c0:wr.cell? (q,r+j*4)=some (m.sn j):=bI d.o c (b j hlt).1;have c1:wr.cell? (q,r+j*4+1)=some (m.sa j):=bI d.o c (b j hlt).2.1;have c2:wr.cell? (q,r+j*4+2)=some (m.sh j):=bI d.o c (b j hlt).2.2.1;have c3:wr.cell? (q,r+j*4+3)=some (m.ss j):=bI d.o c (b j hlt).2.2.2;clear b;by_cases t:((m.sn j).toList==s.toList)=true
   ·have g:F=j:=I.o.symm.trans (dI hlt t);have o:D=true:=by rw[←N.o,g];exact decide_eq_true hlt
    have y:=ar o;have l:=ar g;clear g o;go_wp2
    all_goals (refine bodyPost_ret (v:= .tuple #[.agg #[.string (m.sn j),(m.sa j),(m.sh j),(m.ss j)],.bool true]) (by simp[results,results79,go_sem, *]) rfl ?_)
    rw[y.o];refine⟨_,_,_,_,rfl,fun _=>⟨by rw[l.o],by rw[l.o]⟩,?_⟩;exact((((d.o).setCell (show w.heap.size≤w.heap.size+1 by omega) _).setCell (show w.heap.size≤w.heap.size+1 by omega) _).setCell (show w.heap.size≤w.heap.size+1 by omega) _).setCell (show w.heap.size≤w.heap.size+1 by omega) _
   have t:((m.sn j).toList==s.toList)=false:=by simpa using t
   have J:Hi (bq (fun i=>(m.sn i).toList==s.toList) (m.ns-(j+1)) (j+1)=F):=(dB hlt t).symm.trans I.o
   skip
   go_wp2;go_roundw
   case rel=>exact⟨j+1,by omega,by go_num,J,x.o⟩
   case measure=>simp[intOf];omega
  ·have g:F=m.ns:=I.o.symm.trans (dX W hlt);have n:D=false:=by rw[←N.o,g];exact df
   have P:=ar n;clear g n;go_wp2
   all_goals (refine bodyPost_ret (v:= .tuple #[.agg #["",(),(),()],.bool false]) (by simp[results,results79,go_sem, *]) rfl ?_)
   rw[P.o];refine⟨_,_,_,_,rfl,fun h=>absurd h (by decide),?_⟩;exact((((d.o).setCell (show w.heap.size≤w.heap.size+1 by omega) _).setCell (show w.heap.size≤w.heap.size+1 by omega) _).setCell (show w.heap.size≤w.heap.size+1 by omega) _).setCell (show w.heap.size≤w.heap.size+1 by omega) _
theorem nE (v:Value) (m:fZ) (gv:Nat→Value) (s:ByteArray) (w:World) (h:fE w v m gv):
 Calls prog 78 #[v,.string s] w fun e w'=>∃s' d y N,e= .returned (.tuple #[.agg #[.string s',.int .i64 d,.int .i64 y,N],.bool (m.hasG s)])∧(m.hasG s=true→d=m.de (m.gi s))∧ew w' N (m.gl s) (m.gf (m.gi s))∧Below w.heap.size w w':=by
 obtain⟨vg,vs,rfl,hG,hS,c8,c9,R⟩:=h;have HG:=ar hG;have HS:=ar hS;have HN:=ar R;obtain⟨oa,ca,rfl,-,U⟩:=hG.form;obtain⟨ob,cb,rfl,-,a7⟩:=hS.form;have a3:=ar U;clear hG hS R U a7;obtain⟨F,Q⟩:=oE (m.gi s);obtain⟨D,hD⟩:=oE (m.hasG s);have HF:Hi (bq (fun i=>(m.nm i).toList==s.toList) m.ng 0=F):=Q;have HD:Hi (decide (F<m.ng)=D):=by show _=_;rw[←Q];exact hD
 obtain⟨L,hL⟩:=oE (m.gl s);have HL:Hi ((if D=true then m.gn F else 0)=L):=by show _=_;rw[←hL,←hD,←Q];rfl
 rw[hD,hL,Q];clear Q hD hL;have hu:prog.underlying 109=some (.slice 3):=underlying109;obtain⟨i0,hi,b0,b5,b6⟩:=info_parts vS;go_enter func78,ntmps78;go_wp2;go_loopw[6,7] (fun i _ wr=>∃j:Nat,j≤m.ng∧i= .int .i64 j∧Hi (bq (fun i=>(m.nm i).toList==s.toList) (m.ng-j) j=F)∧Below ((w.alloc (.cells #[.slice oa m.ng ca,.slice ob m.ns cb] 32)).alloc (.cells #["",(),(),Nat] 135)).heap.size ((w.alloc (.cells #[.slice oa m.ng ca,.slice ob m.ns cb] 32)).alloc (.cells #["",(),(),Nat] 135)) wr) (fun i _ _=>m.ng-(intOf i).toNat)
 case atStart=>exact⟨0,by omega,rfl,HF.o,ah _ _⟩
 case round=>
  obtain⟨j,hj,rfl,z,r⟩:=hrel;have a:Hi (Below w.heap.size w wr):=by
   show Below _ _ _;exact ag (w:=w) (by go_grown) r
  have a9:=dx r;have z0:w.heap.size<wr.heap.size:=by omega
  have B:w.heap.size+1<wr.heap.size:=by omega
  have m0:wr.cell? w.heap.size=some (.slice oa m.ng ca):=bI r (by simp<;>omega) (by simp[go_sem]);have r0:wr.cell? (w.heap.size+1,0)=some (.string ⟨#[]⟩):=bI r (by simp<;>omega) (by simp[go_sem]);have b9:wr.frozen? (w.heap.size+1,0)=false:=(tB r (by simp<;>omega)).trans (by simp[go_sem]);have r1:wr.cell? (w.heap.size+1,1)=some (.int .i64 0):=bI r (by simp<;>omega) (by simp[go_sem]);have c4:wr.frozen? (w.heap.size+1,1)=false:=(tB r (by simp<;>omega)).trans (by simp[go_sem]);have r2:wr.cell? (w.heap.size+1,2)=some (.int .i64 0):=bI r (by simp<;>omega) (by simp[go_sem]);have c5:wr.frozen? (w.heap.size+1,2)=false:=(tB r (by simp<;>omega)).trans (by simp[go_sem]);have r3:wr.cell? (w.heap.size+1,3)=some (.slice none 0 0):=bI r (by simp<;>omega) (by simp[go_sem]);have c6:wr.frozen? (w.heap.size+1,3)=false:=(tB r (by simp<;>omega)).trans (by simp[go_sem]);have a1:=ar r;clear a9 r;by_cases hlt:j<m.ng
  ·obtain⟨Y,Z,rfl,o,f⟩:=a3.o j hlt;have c0:wr.cell? (Y,Z+j*4)=some (m.nm j):=bI a.o o (f j hlt).1;have c1:wr.cell? (Y,Z+j*4+1)=some (m.de j):=bI a.o o (f j hlt).2.1;have c2:wr.cell? (Y,Z+j*4+2)=some (m.yi j):=bI a.o o (f j hlt).2.2.1;have c3:wr.cell? (Y,Z+j*4+3)=some (gv j):=bI a.o o (f j hlt).2.2.2;obtain⟨X,cc,T,d7,q⟩:=(HG.o.2 j hlt).form;have a4:=ar (HG.o.2 j hlt);have d8:=HN.o j hlt;rw[T]at c3 a4;clear T;clear f;by_cases h1:((m.nm j).toList==s.toList)=true
   ·have l:F=j:=z.o.symm.trans (dI hlt h1);have E:D=true:=by rw[←HD.o,l];exact decide_eq_true hlt
    have O:(D=true∧L=m.gn j)∧F=j:=⟨⟨E,by rw[←HL.o,if_pos E,l]⟩,l⟩;have I:=ar O;have a5:Hi (X=none→m.gn j=0):=fun h0=>by
     rcases Nat.eq_zero_or_pos (m.gn j)with hz|hz
     ·exact hz
     ·obtain⟨b,b8,z,_⟩:=q 0 hz;rw[h0]at z;cases z
    have a2:Hi (∀J,X=some J→∀k u,(ge (fun i=> .int .i64 (m.gf j i)) (m.gn j))[k]?=some u→w.cell? (J.add k)=some u∧(J.add k).block<w.heap.size):=fun J G k u A=>by
     have H:k<m.gn j:=by
      have:=(List.getElem?_eq_some_iff.1 A).1
      rwa [gu]at this
     obtain⟨b,b8,z,a6,hc⟩:=q k H;rw[G]at z;cases z;rw[iz _ _ _ H]at A;cases A;rw[Addr.add_lit];exact⟨hc k H,a6⟩
    clear l E O q;go_wp2_with (at_builtin;refine iB rfl _ _ 109 rfl (wr.heap.size+1) 3 i0 _ 1 8 hu hi b0 b5 b6 rfl (by decide) (.slice (some ⟨wr.heap.size+1,0,none⟩) 0 0) 0 [] rfl ?d0 X (m.gn j) cc (ge (fun i=> .int .i64 (m.gf j i)) (m.gn j)) rfl ?d1 a5.o ?d2 ?d3 ?d4 ?d5 ?d6 ?_)
    case d0=>
     have h:=World.ownsRow_made (base:=wr.heap.size+1) (e:=3) (size:=1) (wr.alloc (.cells #[.string (m.nm j),(m.de j),(m.yi j),.slice X (m.gn j) cc] 135)) #[] 0 (by simp<;>omega) (Nat.zero_le _) (by simp);simpa using h
    case d1=>rw[gu];omega
    case d2=>
     intro J G k u A;obtain⟨q1,q2⟩:=a2.o J G k u A;exact(World.cell?_alloc_lt _ _ _ (by have:=a.o.size;simp;omega)).trans ((World.cell?_alloc_lt _ _ _ (by have:=a.o.size;omega)).trans ((a.o.cell q2).trans q1))
    case d3=>
     intro u hu;simp only[ge,List.mem_map]at hu;obtain⟨i,_,rfl⟩:=hu;rfl
    case d4=>unfold maxLen;omega
    case d5=>omega
    case d6=>simp<;>omega
    intro v7 g x c;have n:∀k,k<wr.heap.size+1→g.heap[k]?=_:=fun k A=>c.block k (by simp;omega) (by simp[Value.ownBlock];omega);have n0:g.cell? wr.heap.size=some (m.nm j):=(World.cell?_of_block (n wr.heap.size (by omega))).trans (by simp[go_sem]);have n1:g.cell? (wr.heap.size,1)=some (m.de j):=(World.cell?_of_block (n wr.heap.size (by omega))).trans (by simp[go_sem]);have n2:g.cell? (wr.heap.size,2)=some (m.yi j):=(World.cell?_of_block (n wr.heap.size (by omega))).trans (by simp[go_sem]);have n3:g.cell? (wr.heap.size,3)=some (.slice X (m.gn j) cc):=(World.cell?_of_block (n wr.heap.size (by omega))).trans (by simp[go_sem]);have d9:g.frozen? (wr.heap.size,3)=false:=(World.frozen?_of_block (n wr.heap.size (by omega))).trans (by simp[go_sem]);have s0:g.cell? (w.heap.size+1,0)=some (.string ⟨#[]⟩):=(World.cell?_of_block (n (w.heap.size+1) (by omega))).trans ((World.cell?_alloc_lt _ _ _ (by simp;omega)).trans ((World.cell?_alloc_lt _ _ _ B).trans r0));have e0:g.frozen? (w.heap.size+1,0)=false:=(World.frozen?_of_block (n (w.heap.size+1) (by omega))).trans (((((ah wr.heap.size wr).alloc (aB _) _).alloc (by simp) _).frozen (p:=⟨w.heap.size+1,0,none⟩) B).trans b9);have s1:g.cell? (w.heap.size+1,1)=some (.int .i64 0):=(World.cell?_of_block (n (w.heap.size+1) (by omega))).trans ((World.cell?_alloc_lt _ _ _ (by simp;omega)).trans ((World.cell?_alloc_lt _ _ _ B).trans r1));have e1:g.frozen? (w.heap.size+1,1)=false:=(World.frozen?_of_block (n (w.heap.size+1) (by omega))).trans (((((ah wr.heap.size wr).alloc (aB _) _).alloc (by simp) _).frozen (p:=⟨w.heap.size+1,1,none⟩) B).trans c4);have s2:g.cell? (w.heap.size+1,2)=some (.int .i64 0):=(World.cell?_of_block (n (w.heap.size+1) (by omega))).trans ((World.cell?_alloc_lt _ _ _ (by simp;omega)).trans ((World.cell?_alloc_lt _ _ _ B).trans r2));have e2:g.frozen? (w.heap.size+1,2)=false:=(World.frozen?_of_block (n (w.heap.size+1) (by omega))).trans (((((ah wr.heap.size wr).alloc (aB _) _).alloc (by simp) _).frozen (p:=⟨w.heap.size+1,2,none⟩) B).trans c5);have s3:g.cell? (w.heap.size+1,3)=some (.slice none 0 0):=(World.cell?_of_block (n (w.heap.size+1) (by omega))).trans ((World.cell?_alloc_lt _ _ _ (by simp;omega)).trans ((World.cell?_alloc_lt _ _ _ B).trans r3));have e3:g.frozen? (w.heap.size+1,3)=false:=(World.frozen?_of_block (n (w.heap.size+1) (by omega))).trans (((((ah wr.heap.size wr).alloc (aB _) _).alloc (by simp) _).frozen (p:=⟨w.heap.size+1,3,none⟩) B).trans c6);have P:Below w.heap.size w g:=(Below.alloc (Below.alloc a.o a.o.size _) (by have:=a.o.size;simp;omega) _).grown c (by have:=a.o.size;simp;omega) (by intro k A;simp[Value.ownBlock]at A;have:=a.o.size;omega);have a0:=ar P;have K:Hi (ew g v7 (m.gn j) (m.gf j)):=by
     show ew _ _ _ _;exact tG (by simpa using x)
    have t:Hi (jN (wr.heap.size+1) v7):=bU x;have W:=c.size;simp only[aw]at W;obtain⟨o7,c7,rfl,-,-⟩:=K.o.form;clear x c P W n;go_wp2
    all_goals (refine bodyPost_ret (v:= .tuple #[.agg #[.string (m.nm j),(m.de j),(m.yi j),.slice o7 (m.gn j) c7],.bool true]) (by simp[results,results78,go_sem, *]) rfl ?_)
    rw[I.o.1.1,I.o.1.2,I.o.2];refine⟨_,_,_,_,rfl,fun _=>rfl,?_,?_⟩
    ·exact gN (gN (gN (gN (gN (K.o) t.o _ _ _ (by omega)) t.o _ _ _ (by omega)) t.o _ _ _ (by omega)) t.o _ _ _ (by omega)) t.o _ _ _ (by omega)
    ·exact(((((a0.o).setCell (show w.heap.size≤wr.heap.size by omega) _).setCell (show w.heap.size≤w.heap.size+1 by omega) _).setCell (show w.heap.size≤w.heap.size+1 by omega) _).setCell (show w.heap.size≤w.heap.size+1 by omega) _).setCell (show w.heap.size≤w.heap.size+1 by omega) _
   have h1:((m.nm j).toList==s.toList)=false:=by simpa using h1
   have a8:Hi (bq (fun i=>(m.nm i).toList==s.toList) (m.ng-(j+1)) (j+1)=F):=(dB hlt h1).symm.trans z.o;clear q;go_wp2;go_roundw
   case rel=>exact⟨j+1,by omega,by go_num,a8,a1.o⟩
   case measure=>simp[intOf];omega
  ·have l:F=m.ng:=z.o.symm.trans (dX hj hlt);have C:D=false:=by rw[←HD.o,l];exact df
   have O:D=false∧L=0:=⟨C,by rw[←HL.o,if_neg (by rw[C];decide)]⟩;have I:=ar O;clear O;clear l C;go_wp2
   all_goals (refine bodyPost_ret (v:= .tuple #[.agg #["",(),(),Nat],.bool false]) (by simp[results,results78,go_sem, *]) rfl ?_)
   rw[I.o.1,I.o.2];refine⟨_,_,_,_,rfl,fun h=>absurd h (by decide),rp _ _,?_⟩;exact((((a.o).setCell (show w.heap.size≤w.heap.size+1 by omega) _).setCell (show w.heap.size≤w.heap.size+1 by omega) _).setCell (show w.heap.size≤w.heap.size+1 by omega) _).setCell (show w.heap.size≤w.heap.size+1 by omega) _
theorem tI (m:fZ) (s:ByteArray) (t:Int):m.rolled s t=decide (kQ (m.gf (m.gi s)) (m.gl s) t<m.gl s):=by
 unfold fZ.rolled fZ.gl;cases h:m.hasG s with
 |false=>simp
 |true=>simp only[aN,if_true];rfl
theorem xI (v:Value) (m:fZ) (q:Nat→Value) (s:ByteArray) (t:Int) (w:World) (h:fE w v m q):
 Gv 326 #[v,.string s,t] (.bool (m.rolled s t)) w:=by
 have F:=ar h;obtain⟨U,W,rfl,r,u,-,-,-⟩:=h;obtain⟨oa,K,rfl,-,-⟩:=r.form;obtain⟨P,N,rfl,-,-⟩:=u.form;clear r u;obtain⟨D,k⟩:=oE (m.hasG s);have A:=ar k;obtain⟨L,l⟩:=oE (m.gl s);have E:=ar l;obtain⟨f,o⟩:=oE (m.gf (m.gi s));have B:=ar o;generalize n:m.rolled s t=R;have G:Hi (decide (kQ f L t<L)=R):=by show _=_;rw[←n,tI,o,l]
 have i:Hi (D=false→R=false):=fun I=>by rw[←n];unfold fZ.rolled;rw[k,I];rfl
 clear k l o n;go_enter func326,ntmps326;go_wp2_with fail
 (go_at_call 203;refine(mj _ m q s _ (F.o.below (by go_grown))).mono ?_;rintro e z ⟨T,d,y,H,rfl,-,b,a⟩);rw[A.o];rw[E.o,B.o]at b;have C:=ar b;obtain⟨Q,O,rfl,-,-⟩:=b.form;have c:Hi (Below w.heap.size w z):=by
  show Below _ _ _;exact ag (w:=w) (by go_grown) a
 have p:=dx a;have X:w.heap.size<z.heap.size:=by omega
 have x:=c.o;clear b a p;cases D with
 |false=>
  have j:=ar (i.o rfl);go_wp2;go_returns;rw[j.o];exact⟨rfl,by go_grown⟩
 |true=>
  go_wp2_with fail
  (go_at_call 363;refine(uy _ L f t _ (C.o.below (by go_grown))).mono ?_;rintro e J ⟨rfl,a⟩);rw[G.o];have g:Hi (Below w.heap.size w J):=by
   show Below _ _ _;exact ag (w:=w) (by first|assumption|go_grown) a
  clear a;go_wp2;go_returns;exact⟨rfl,g.o⟩
theorem vT (v:Value) (m:fZ) (N:Nat→Value) (s:ByteArray) (t:Int) (w:World) (h:fE w v m N):
 Gv 130 #[v,.string s,t] (.bool (m.rolled s t)) w:=by
 have Y:=ar h;obtain⟨vg,vs,rfl,P,Q,-,-,-⟩:=h;obtain⟨oa,ca,rfl,-,-⟩:=P.form;obtain⟨ob,cb,rfl,-,-⟩:=Q.form;clear P Q;obtain⟨D,O⟩:=oE (m.hasG s);have T:=ar O;obtain⟨L,B⟩:=oE (m.gl s);have X:=ar B;obtain⟨f,F⟩:=oE (m.gf (m.gi s));have U:=ar F;obtain⟨R,C⟩:=oE (m.rolled s t);have z:Hi (decide (bq (fun j=>f j==t) L 0<L)=R):=by show _=_;rw[←C,tI,F,B];rfl
 obtain⟨K,A⟩:=oE (bq (fun j=>f j==t) L 0);have W:=ar A;rw[A]at z;rw[C];clear O B F C A;go_enter func130,ntmps130;go_wp2_with fail
 (go_at_call 78;refine(nE _ m N s _ (Y.o.below (by go_grown))).mono ?_;rintro e p ⟨s',d,y,a0,rfl,-,q,b⟩);rw[T.o];rw[X.o,U.o]at q;have HI:=ar q;obtain⟨oc,cc,rfl,a1,o⟩:=q.form;have x:=ar o;have r:Hi (Below w.heap.size w p):=by
  show Below _ _ _;exact ag (w:=w) (by go_grown) b
 have I:=dx b;clear q b I o;go_wp2;go_loopw[9] (fun i wr=>∃j:Nat,j≤L∧i= .int .i64 j∧Hi (bq (fun j=>f j==t) (L-j) j=K)∧wr.cell? (p.heap.size,3)=some (.slice oc L cc)∧Below p.heap.size p wr∧p.heap.size<wr.heap.size) (fun i _=>L-(intOf i).toNat)
 case atStart=>exact⟨0,by omega,rfl,W.o,by simp[go_sem],by go_grown,by simp⟩
 case round=>
  obtain⟨j,hj,rfl,G,E,b,J⟩:=hrel;have l:=ar (ag r.o b);by_cases hlt:j<L
  ·obtain⟨Z,f1,rfl,n,c⟩:=x.o j hlt;have c0:wr.cell? (Z,f1+j)=some (f j):=bI b n (c j hlt);have u:=ar b;clear c b;by_cases h1:f j=t
   ·have a:R=true:=by
     have k:K=j:=G.o.symm.trans (dI hlt (by simpa using h1));rw[←z.o,k];exact decide_eq_true hlt
    have g:=ar a;have e1:(f j==t)=true:=by simpa using h1
    clear a h1;go_wp2;go_returns;rw[g.o];exact⟨rfl,l.o⟩
   have H:Hi (bq (fun j=>f j==t) (L-(j+1)) (j+1)=K):=(dB hlt (by simpa using h1)).symm.trans G.o;have e1:(f j==t)=false:=by simpa using h1
   clear h1;go_wp2;go_roundw
   case rel=>exact⟨j+1,by omega,by go_num,H,E,u.o,J⟩
   case measure=>simp[intOf];omega
  ·have a:R=false:=by
    have k:K=L:=G.o.symm.trans (dX hj hlt);rw[←z.o,k];exact df
   have g:=ar a;clear a b;go_wp2;go_returns;rw[g.o];exact⟨rfl,l.o⟩
end
section
abbrev Pt:=Int×Int
def bQ (a b c:Pt):Int:=(b.1-a.1)*(c.2-a.2)-(b.2-a.2)*(c.1-a.1)
def bt (a b q:Int):Prop:=a≤q∧q≤b∨b≤q∧q≤a
def dO (a b q:Pt):Prop:=bQ a b q=0∧bt a.1 b.1 q.1∧bt a.2 b.2 q.2
def tk (x y:Int):Prop:=x<0∧0<y∨0<x∧y<0
def ct (a b c d:Pt):Prop:=dO a b c∨dO a b d∨dO c d a∨dO c d b∨(tk (bQ a b c) (bQ a b d)∧tk (bQ c d a) (bQ c d b))
def dP (a b q:Pt):Bool:=(decide (q.2<a.2) !=decide (q.2<b.2))&&(decide (0<bQ a b q)==decide (a.2<b.2))
def gy (u v p:Pt):Bool:=(decide (u.2<p.2) !=decide (v.2<p.2))&&(decide (0<bQ u v p) !=decide (u.2<v.2))
instance (a b q:Int):Decidable (bt a b q):=by unfold bt;infer_instance
instance (x y:Int):Decidable (tk x y):=by unfold tk;infer_instance
instance (a b q:Pt):Decidable (dO a b q):=by unfold dO;infer_instance
instance (a b c d:Pt):Decidable (ct a b c d):=by unfold ct;infer_instance
theorem vU (u v a b:Pt):bQ u v b-bQ u v a=bQ a b u-bQ a b v:=by simp only[bQ];grind
theorem Id (u v a b:Pt):bQ u v a*b.1-bQ u v b*a.1+bQ a b u*v.1-bQ a b v*u.1=0:=by simp only[bQ];grind
theorem GC (u v a b:Pt):bQ u v a*b.2-bQ u v b*a.2+bQ a b u*v.2-bQ a b v*u.2=0:=by simp only[bQ];grind
theorem fV (a b q:Pt):bQ b a q= -bQ a b q:=by simp only[bQ];grind
theorem zt {a b q:Int}:bt b a q↔bt a b q:=or_comm
theorem fW {a b q:Pt}:dO b a q↔dO a b q:=by
 unfold dO;rw[fV,zt,@zt a.2];constructor<;>rintro ⟨d,c⟩<;>exact⟨by omega,c⟩
theorem jO {a b c d:Pt}:ct b a c d↔ct a b c d:=by
 unfold ct tk;rw[@fW a b c,@fW a b d,fV a b c,fV a b d];generalize dO a b c=p1;generalize dO a b d=p2;generalize dO c d a=p3;generalize dO c d b=p4;have e:(-bQ a b c<0∧0< -bQ a b d∨0< -bQ a b c∧ -bQ a b d<0)↔(bQ a b c<0∧0<bQ a b d∨0<bQ a b c∧bQ a b d<0):=by omega
 have f:(bQ c d b<0∧0<bQ c d a∨0<bQ c d b∧bQ c d a<0)↔(bQ c d a<0∧0<bQ c d b∨0<bQ c d a∧bQ c d b<0):=by omega
 rw[e,f];exact⟨by grind,by grind⟩
theorem fw {a b c d:Pt}:ct c d a b↔ct a b c d:=by unfold ct;exact⟨by grind,by grind⟩
theorem jP {a b c d:Pt}:ct a b d c↔ct a b c d:=by rw[←fw,jO,fw]
theorem xJ {A B a b q:Int} (c:A≠B) (o:A≤0∧0≤B∨B≤0∧0≤A) (h:A*(b-q)=B*(a-q)):bt a b q:=by
 unfold bt;apply aG;intro v;have k:(0<b-q∧0<a-q)∨(0<q-b∧0<q-a):=by omega
 have d:∀{C D x y:Int},C≤0→0≤D→C≠D→0<x→0<y→C*x≠D*y:=by
  intro C D x y t k u p r e;have s:=bE k (Int.le_of_lt r);have l:=bE (show 0≤ -C by omega) (Int.le_of_lt p);rw[Int.neg_mul]at l;have m:D*y=0:=by omega
  have n:C*x=0:=by omega
  rcases Int.mul_eq_zero.1 m with h|h<;>rcases Int.mul_eq_zero.1 n with h'|h'<;>omega
 have hn:A*(q-b)=B*(q-a):=by
  rw[show q-b= -(b-q)by omega,show q-a= -(a-q)by omega,Int.mul_neg,Int.mul_neg,h]
 rcases o with⟨i,j⟩|⟨i,j⟩<;>rcases k with⟨f,g⟩|⟨f,g⟩
 ·exact d i j c f g h
 ·exact d i j c f g hn
 ·exact d i j (Ne.symm c) g f h.symm
 ·exact d i j (Ne.symm c) g f hn.symm
theorem CU {u v a b:Pt} (c:bQ u v a≠bQ u v b) (d:bQ u v a≤0∧0≤bQ u v b∨bQ u v b≤0∧0≤bQ u v a) (e:bQ a b u≤0∧0≤bQ a b v∨bQ a b v≤0∧0≤bQ a b u):ct u v a b:=by
 have f:=vU u v a b;have g:=Id u v a b;have h:=GC u v a b;by_cases hA:bQ u v a=0
 ·refine .inl ⟨hA,?_,?_⟩<;>refine xJ (A:=bQ a b u) (B:=bQ a b v) (by omega) e ?_<;>grind
 by_cases hB:bQ u v b=0
 ·refine .inr (.inl ⟨hB,?_,?_⟩)<;>refine xJ (A:=bQ a b u) (B:=bQ a b v) (by omega) e ?_<;>grind
 by_cases hU:bQ a b u=0
 ·refine .inr (.inr (.inl ⟨hU,?_,?_⟩))<;>refine xJ (A:=bQ u v a) (B:=bQ u v b) c d ?_<;>grind
 by_cases hV:bQ a b v=0
 ·refine .inr (.inr (.inr (.inl ⟨hV,?_,?_⟩)))<;>refine xJ (A:=bQ u v a) (B:=bQ u v b) c d ?_<;>grind
 refine .inr (.inr (.inr (.inr ⟨?_,?_⟩)))<;>unfold tk<;>omega
theorem kR {u v p:Pt} (h:bQ u v p=0) (b:u.2<p.2∧p.2≤v.2∨u.2≤p.2∧p.2<v.2):dO u v p:=by
 refine⟨h,?_,by unfold bt;omega⟩;have a:u.2-p.2≠v.2-p.2:=by omega
 refine xJ (A:=u.2-p.2) (B:=v.2-p.2) a (by omega) ?_;simp only[bQ]at h
 grind
theorem Iq {B U s t r D:Int} (d:0<r) (e:r≤s) (f:r≤t) (h:B*s+U*t=D*r) (b:0<B) (c:0<U):B<D∧U<D:=by
 have g:=Int.mul_le_mul_of_nonneg_left e (Int.le_of_lt b);have i:=Int.mul_le_mul_of_nonneg_left f (Int.le_of_lt c);have a:(B+U)*r≤D*r:=by rw[Int.add_mul];omega
 have:=Int.le_of_mul_le_mul_right a d;omega
theorem Fs {u v a b:Pt} (a2:u.2≤v.2) (a0:a.2≤b.2) (x:¬ct u v a b):(dP a b u !=dP a b v)=(gy u v a !=gy u v b):=by
 have hd:=vU u v a b;have y:=GC u v a b;have T:¬dO u v a:=fun h=>x (.inl h);have W:¬dO u v b:=fun h=>x (.inr (.inl h));have X:¬dO a b u:=fun h=>x (.inr (.inr (.inl h)));have o4:¬dO a b v:=fun h=>x (.inr (.inr (.inr (.inl h))));have O:bQ u v a=0→¬(u.2<a.2∧a.2≤v.2∨u.2≤a.2∧a.2<v.2):=fun h s=>T (kR h s);have P:bQ u v b=0→¬(u.2<b.2∧b.2≤v.2∨u.2≤b.2∧b.2<v.2):=fun h s=>W (kR h s);have Q:bQ a b u=0→¬(a.2<u.2∧u.2≤b.2∨a.2≤u.2∧u.2<b.2):=fun h s=>X (kR h s);have R:bQ a b v=0→¬(a.2<v.2∧v.2≤b.2∨a.2≤v.2∧v.2<b.2):=fun h s=>o4 (kR h s);have l:=fun Y Z h3=>x (CU (u:=u) (v:=v) (a:=a) (b:=b) Y Z h3);clear x T W X o4;have t:∀q:Pt,dP a b q=decide (a.2≤q.2∧q.2<b.2∧0<bQ a b q):=fun q=>by
  unfold dP;by_cases c1:q.2<a.2
  ·have f:q.2<b.2:=by omega
   simp[c1,f];omega
  ·by_cases f:q.2<b.2
   ·have F:a.2<b.2:=by omega
    simp[c1,f,F];omega
   ·simp[c1,f]
 have w:∀p:Pt,gy u v p=decide (u.2<p.2∧p.2≤v.2∧bQ u v p≤0):=fun p=>by
  unfold gy;by_cases c1:u.2<p.2
  ·by_cases f:v.2<p.2
   ·simp[c1,f];omega
   ·have F:u.2<v.2:=by omega
    have c4:p.2≤v.2:=by omega
    by_cases c5:0<bQ u v p
    ·simp[c1,f,F,c4,c5]<;>omega
    ·simp[c1,f,F,c4,c5]<;>omega
  ·have f:¬v.2<p.2:=by omega
   simp[c1,f]
 rw[t,t,w,w];clear t w;generalize bQ u v a=A at*
 generalize bQ u v b=B at*
 generalize bQ a b u=U at*
 generalize bQ a b v=V at*
 generalize a.2=aY at*
 generalize b.2=bY at*
 generalize u.2=uY at*
 generalize v.2=vY at*
 by_cases ca:aY≤uY
 ·by_cases cb:bY≤uY
  ·
   have d:¬(aY≤uY∧uY<bY∧0<U):=by omega
   have g:¬(aY≤vY∧vY<bY∧0<V):=by omega
   have i:¬(uY<aY∧aY≤vY∧A≤0):=by omega
   have o:¬(uY<bY∧bY≤vY∧B≤0):=by omega
   simp[d,g,i,o]
  ·by_cases cb2:bY≤vY
   ·
    have I:U≠0:=fun h=>Q h (by omega);have H:B≠0:=fun h=>P h (by omega);have g:¬(aY≤vY∧vY<bY∧0<V):=by omega
    have i:¬(uY<aY∧aY≤vY∧A≤0):=by omega
    have C:B*(bY-aY)+U*(vY-uY)=(B-A)*(bY-uY):=by
     have e:V=U-(B-A):=by omega
     rw[e]at y
     grind
    have k:0<U↔B≤0:=by
     constructor
     ·intro h;apply aG;intro c;have:=Iq (by omega) (by omega) (by omega) C (show 0<B by omega) h;exact l (by omega) (by omega) (by omega)
     ·intro h;apply aG;intro c;have r:(-B)*(bY-aY)+(-U)*(vY-uY)=(-(B-A))*(bY-uY):=by
       rw[Int.neg_mul,Int.neg_mul,Int.neg_mul];omega
      have:=Iq (by omega) (by omega) (by omega) r (show 0< -B by omega) (show 0< -U by omega);exact l (by omega) (by omega) (by omega)
    have d:(aY≤uY∧uY<bY∧0<U)↔(uY<bY∧bY≤vY∧B≤0):=by omega
    simp[d,g,i]
   ·
    have I:U≠0:=fun h=>Q h (by omega);have J:V≠0:=fun h=>R h (by omega);have i:¬(uY<aY∧aY≤vY∧A≤0):=by omega
    have o:¬(uY<bY∧bY≤vY∧B≤0):=by omega
    have C:B*(bY-aY)=U*(bY-vY)-V*(bY-uY):=by
     have e:A=B-(U-V):=by omega
     rw[e]at y
     grind
    have K:A*(bY-aY)=U*(aY-vY)-V*(aY-uY):=by
     have e:B=A+(U-V):=by omega
     rw[e]at y
     grind
    have j:0<bY-aY:=by omega
    have k:0<U↔0<V:=by
     constructor
     ·intro h;apply aG;intro c;have m:=Int.mul_pos h (show 0<bY-vY by omega);have n:=Int.mul_pos (show 0< -V by omega) (show 0<bY-uY by omega);have D:=bE (show 0≤U by omega) (show 0≤vY-aY by omega);have E:=bE (show 0≤ -V by omega) (show 0≤uY-aY by omega);rw[Int.neg_mul]at n E;have q1:0<B*(bY-aY):=by omega
      have q2:A*(bY-aY)≤0:=by
       have L:U*(aY-vY)= -(U*(vY-aY)):=by rw[←Int.mul_neg];congr 1;omega
       have N:V*(aY-uY)= -(V*(uY-aY)):=by rw[←Int.mul_neg];congr 1;omega
       omega
      have H:0<B:=by
       apply aG;intro c;have:=bE (show 0≤ -B by omega) (Int.le_of_lt j);rw[Int.neg_mul]at this;omega
      have G:A≤0:=by
       apply aG;intro c;have:=Int.mul_pos (show 0<A by omega) j;omega
      exact l (by omega) (by omega) (by omega)
     ·intro h;apply aG;intro c;have m:=Int.mul_pos (show 0< -U by omega) (show 0<bY-vY by omega);have n:=Int.mul_pos h (show 0<bY-uY by omega);have D:=bE (show 0≤ -U by omega) (show 0≤vY-aY by omega);have E:=bE (show 0≤V by omega) (show 0≤uY-aY by omega);rw[Int.neg_mul]at m D;have q1:B*(bY-aY)<0:=by omega
      have q2:0≤A*(bY-aY):=by
       have L:U*(aY-vY)= -(U*(vY-aY)):=by rw[←Int.mul_neg];congr 1;omega
       have N:V*(aY-uY)= -(V*(uY-aY)):=by rw[←Int.mul_neg];congr 1;omega
       omega
      have H:B<0:=by
       apply aG;intro c;have:=bE (show 0≤B by omega) (Int.le_of_lt j);omega
      have G:0≤A:=by
       apply aG;intro c;have:=Int.mul_pos (show 0< -A by omega) j;rw[Int.neg_mul]at this;omega
      exact l (by omega) (by omega) (by omega)
    have d:(aY≤uY∧uY<bY∧0<U)↔(aY≤vY∧vY<bY∧0<V):=by omega
    simp[d,i,o]
 ·by_cases ca2:aY≤vY
  ·by_cases cb2:bY≤vY
   ·
    have d:¬(aY≤uY∧uY<bY∧0<U):=by omega
    have g:¬(aY≤vY∧vY<bY∧0<V):=fun h=>by omega
    have G:A≠0:=fun h=>O h (by omega);have H:B≠0:=fun h=>P h (by omega);have j:0<vY-uY:=by omega
    have a1:U*(vY-uY)=B*(aY-uY)-A*(bY-uY):=by
     have e:V=U-(B-A):=by omega
     rw[e]at y
     grind
    have K:V*(vY-uY)=B*(aY-vY)-A*(bY-vY):=by
     have e:U=V+(B-A):=by omega
     rw[e]at y
     grind
    have k:A≤0↔B≤0:=by
     constructor
     ·intro h;apply aG;intro c;have m:=Int.mul_pos (show 0<B by omega) (show 0<aY-uY by omega);have n:=Int.mul_pos (show 0< -A by omega) (show 0<bY-uY by omega);have D:=bE (show 0≤B by omega) (show 0≤vY-aY by omega);have E:=bE (show 0≤ -A by omega) (show 0≤vY-bY by omega);rw[Int.neg_mul]at n E;have L:B*(aY-vY)= -(B*(vY-aY)):=by rw[←Int.mul_neg];congr 1;omega
      have N:A*(bY-vY)= -(A*(vY-bY)):=by rw[←Int.mul_neg];congr 1;omega
      have I:0<U:=by
       apply aG;intro c;have:=bE (show 0≤ -U by omega) (Int.le_of_lt j);rw[Int.neg_mul]at this;omega
      have J:V≤0:=by
       apply aG;intro c;have:=Int.mul_pos (show 0<V by omega) j;omega
      exact l (by omega) (by omega) (by omega)
     ·intro h;apply aG;intro c;have m:=Int.mul_pos (show 0< -B by omega) (show 0<aY-uY by omega);have n:=Int.mul_pos (show 0<A by omega) (show 0<bY-uY by omega);have D:=bE (show 0≤ -B by omega) (show 0≤vY-aY by omega);have E:=bE (show 0≤A by omega) (show 0≤vY-bY by omega);rw[Int.neg_mul]at m D;have L:B*(aY-vY)= -(B*(vY-aY)):=by rw[←Int.mul_neg];congr 1;omega
      have N:A*(bY-vY)= -(A*(vY-bY)):=by rw[←Int.mul_neg];congr 1;omega
      have I:U<0:=by
       apply aG;intro c;have:=bE (show 0≤U by omega) (Int.le_of_lt j);omega
      have J:0≤V:=by
       apply aG;intro c;have:=Int.mul_pos (show 0< -V by omega) j;rw[Int.neg_mul]at this;omega
      exact l (by omega) (by omega) (by omega)
    have i:(uY<aY∧aY≤vY∧A≤0)↔(uY<bY∧bY≤vY∧B≤0):=by omega
    simp[d,g,i]
   ·
    have d:¬(aY≤uY∧uY<bY∧0<U):=by omega
    have o:¬(uY<bY∧bY≤vY∧B≤0):=by omega
    have G:A≠0:=fun h=>O h (by omega);have J:V≠0:=fun h=>R h (by omega);have C:A*(bY-aY)+V*(vY-uY)=(A-B)*(vY-aY):=by
     have e:U=V+(B-A):=by omega
     rw[e]at y
     grind
    have k:0<V↔A≤0:=by
     by_cases hz:vY=aY
     ·have z:(A-B)*(vY-aY)=0:=by rw[hz,Int.sub_self,Int.mul_zero]
      rw[z]at C;constructor
      ·intro h;apply aG;intro c;have m:=Int.mul_pos (show 0<A by omega) (show 0<bY-aY by omega);have n:=bE (show 0≤V by omega) (show 0≤vY-uY by omega);omega
      ·intro h;apply aG;intro c;have m:=Int.mul_pos (show 0< -A by omega) (show 0<bY-aY by omega);have n:=bE (show 0≤ -V by omega) (show 0≤vY-uY by omega);rw[Int.neg_mul]at m n;omega
     ·constructor
      ·intro h;apply aG;intro c;have:=Iq (by omega) (by omega) (by omega) C (show 0<A by omega) h;exact l (by omega) (by omega) (by omega)
      ·intro h;apply aG;intro c;have r:(-A)*(bY-aY)+(-V)*(vY-uY)=(-(A-B))*(vY-aY):=by
        rw[Int.neg_mul,Int.neg_mul,Int.neg_mul];omega
       have:=Iq (by omega) (by omega) (by omega) r (show 0< -A by omega) (show 0< -V by omega);exact l (by omega) (by omega) (by omega)
    have g:(aY≤vY∧vY<bY∧0<V)↔(uY<aY∧aY≤vY∧A≤0):=by omega
    simp[d,g,o]
  ·have d:¬(aY≤uY∧uY<bY∧0<U):=by omega
   have g:¬(aY≤vY∧vY<bY∧0<V):=by omega
   have i:¬(uY<aY∧aY≤vY∧A≤0):=by omega
   have o:¬(uY<bY∧bY≤vY∧B≤0):=by omega
   simp[d,g,i,o]
theorem Ir (a b:Bool):(a !=b)=(b !=a):=by cases a<;>cases b<;>rfl
theorem ks {a b q:Pt} (h:¬dO a b q):dP b a q=dP a b q:=by
 unfold dP;rw[fV];by_cases c1:q.2<a.2<;>by_cases c2:q.2<b.2
 ·simp[c1,c2]
 ·have d:b.2<a.2:=by omega
  have c4:¬a.2<b.2:=by omega
  have hn:bQ a b q≠0:=fun e=>h (fW.1 (kR (by rw[fV];omega) (by omega)));by_cases c5:0<bQ a b q
  ·have c:¬bQ a b q<0:=by omega
   simp[c1,c2,d,c4,c5,c]
  ·have c:bQ a b q<0:=by omega
   simp[c1,c2,d,c4,c5,c]
 ·have d:¬b.2<a.2:=by omega
  have c4:a.2<b.2:=by omega
  have hn:bQ a b q≠0:=fun e=>h (kR e (by omega));by_cases c5:0<bQ a b q
  ·have c:¬bQ a b q<0:=by omega
   simp[c1,c2,d,c4,c5,c]
  ·have c:bQ a b q<0:=by omega
   simp[c1,c2,d,c4,c5,c]
 ·simp[c1,c2]
theorem ml {u v p:Pt} (h:¬dO u v p):gy v u p=gy u v p:=by
 unfold gy;rw[fV];by_cases c1:u.2<p.2<;>by_cases c2:v.2<p.2
 ·simp[c1,c2]
 ·have b:¬v.2<u.2:=by omega
  have c4:u.2<v.2:=by omega
  have hn:bQ u v p≠0:=fun e=>h (kR e (by omega));by_cases c5:0<bQ u v p
  ·have a:¬bQ u v p<0:=by omega
   simp[c1,c2,b,c4,c5,a]
  ·have a:bQ u v p<0:=by omega
   simp[c1,c2,b,c4,c5,a]
 ·have b:v.2<u.2:=by omega
  have c4:¬u.2<v.2:=by omega
  have hn:bQ u v p≠0:=fun e=>h (fW.1 (kR (by rw[fV];omega) (by omega)));by_cases c5:0<bQ u v p
  ·have a:¬bQ u v p<0:=by omega
   simp[c1,c2,b,c4,c5,a]
  ·have a:bQ u v p<0:=by omega
   simp[c1,c2,b,c4,c5,a]
 ·simp[c1,c2]
theorem Is {u v a b:Pt} (c:¬ct u v a b):(dP a b u !=dP a b v)=(gy u v a !=gy u v b):=by
 have d:¬dO u v a:=fun h=>c (.inl h);have e:¬dO u v b:=fun h=>c (.inr (.inl h));have f:¬dO a b u:=fun h=>c (.inr (.inr (.inl h)));have o4:¬dO a b v:=fun h=>c (.inr (.inr (.inr (.inl h))));rcases Int.le_total u.2 v.2 with h1|h1<;>rcases Int.le_total a.2 b.2 with h2|h2
 ·exact Fs h1 h2 c
 ·have:=Fs h1 h2 (fun h=>c (jP.1 h));rw[ks f,ks o4]at this;rw[this,Ir]
 ·have:=Fs h1 h2 (fun h=>c (jO.1 h));rw[ml d,ml e]at this;rw[←this,Ir]
 ·have:=Fs h1 h2 (fun h=>c (jO.1 (jP.1 h)));rw[ml d,ml e,ks f,ks o4]at this;rw[Ir,this,Ir]
def zu (q p:Pt):Bool:=decide (q.2<p.2)
theorem rH {a b q:Pt} (f:a.2≤q.2∧q.2<b.2) (c:q.1<a.1) (d:q.1<b.1):0<bQ a b q:=by
 have g:=Int.mul_pos (show 0<b.2-q.2 by omega) (show 0<a.1-q.1 by omega);have h:=bE (show 0≤q.2-a.2 by omega) (show 0≤b.1-q.1 by omega);have e:bQ a b q=(b.2-q.2)*(a.1-q.1)+(q.2-a.2)*(b.1-q.1):=by simp only[bQ];grind
 omega
theorem mm {a b q:Pt} (f:a.2≤q.2∧q.2<b.2) (c:a.1≤q.1) (d:b.1≤q.1):bQ a b q≤0:=by
 have g:=bE (show 0≤b.2-q.2 by omega) (show 0≤q.1-a.1 by omega);have h:=bE (show 0≤q.2-a.2 by omega) (show 0≤q.1-b.1 by omega);have e:bQ a b q= -((b.2-q.2)*(q.1-a.1)+(q.2-a.2)*(q.1-b.1)):=by simp only[bQ];grind
 omega
def nx (n i:Nat):Nat:=(i+1) % n
theorem dW {n i:Nat} (h:0<n):nx n i<n:=Nat.mod_lt _ h
theorem fO {n i:Nat} (h:i<n):nx n i=if i+1<n then i+1 else 0:=by
 unfold nx;split
 ·exact Nat.mod_eq_of_lt ‹_›
 ·rw[show i+1=n by omega,Nat.mod_self]
def cf (f:Nat→Bool):Nat→Bool
 |0=>false
 |k+1=>cf f k !=f k
theorem fK {f g:Nat→Bool}:∀{n:Nat},(∀i,i<n→f i=g i)→cf f n=cf g n
 |0,_=>rfl
 |n+1,h=>by rw[cf,cf,fK (fun i a=>h i (by omega)),h n (by omega)]
theorem jp (f g:Nat→Bool):∀n,cf (fun i=>f i !=g i) n=(cf f n !=cf g n)
 |0=>rfl
 |n+1=>by
  rw[cf,cf,cf,jp f g n];generalize cf f n=a;generalize cf g n=b;generalize f n=c;generalize g n=d
  revert a b c d
  decide
theorem jQ {f:Nat→Bool}:∀{n:Nat},(∀i,i<n→f i=false)→cf f n=false
 |0,_=>rfl
 |n+1,h=>by rw[cf,jQ (fun i a=>h i (by omega)),h n (by omega)];rfl
theorem tJ (g:Nat→Bool):∀k,cf (fun i=>g i !=g (i+1)) k=(g 0 !=g k)
 |0=>by cases h:g 0<;>simp[cf,h]
 |k+1=>by
  rw[cf,tJ g k];generalize g 0=a;generalize g k=b;generalize g (k+1)=c
  revert a b c
  decide
theorem mo (g:Nat→Bool):∀n,cf (fun i=>g i !=g (nx n i)) n=false
 |0=>rfl
 |n+1=>by
  rw[cf,fK (g:=fun i=>g i !=g (i+1)) (fun i c=>by rw[fO (by omega),if_pos (by omega)]),tJ,fO (by omega),if_neg (by omega)];generalize g 0=a;generalize g n=b
  revert a b
  decide
theorem rI {f:Nat→Bool}:∀{n:Nat},cf f n=true→∃i,i<n∧f i=true
 |0,h=>by cases h
 |n+1,h=>by
  cases e:f n with
  |true=>exact⟨n,by omega,e⟩
  |false=>
   rw[cf,e]at h;obtain⟨i,b,a⟩:=rI (f:=f) (n:=n) (by simpa using h);exact⟨i,by omega,a⟩
def gh (n:Nat) (P:Nat→Pt) (q:Pt):Bool:=cf (fun i=>dP (P i) (P (nx n i)) q) n
def uA (n:Nat) (P:Nat→Pt) (q:Pt):Prop:=∀i,i<n→¬dO (P i) (P (nx n i)) q
theorem zv {n:Nat} {P:Nat→Pt} {u v:Pt} (h:∀i,i<n→¬ct u v (P i) (P (nx n i))):gh n P u=gh n P v:=by
 have e:cf (fun i=>dP (P i) (P (nx n i)) u !=dP (P i) (P (nx n i)) v) n=false:=by
  rw[fK (g:=fun i=>gy u v (P i) !=gy u v (P (nx n i))) (fun i a=>Is (h i a))];exact mo (fun i=>gy u v (P i)) n
 rw[jp]at e;unfold gh;simpa using e
theorem GU {n:Nat} {P Q:Nat→Pt} {q a:Pt} (g:Nat→Bool) (h:∀i,i<n→(dP (P i) (P (nx n i)) q !=dP (Q i) (Q (nx n i)) a)=(g i !=g (nx n i))):gh n P q=gh n Q a:=by
 have e:cf (fun i=>dP (P i) (P (nx n i)) q !=dP (Q i) (Q (nx n i)) a) n=false:=by
  rw[fK h];exact mo g n
 rw[jp]at e;unfold gh;simpa using e
def rv {α:Type} (n:Nat) (P:Nat→α):Nat→α:=fun i=>P (n-1-i)
def re (n i:Nat):Nat:=if i+1<n then n-2-i else n-1
theorem mU {n i:Nat} (h:i<n):re n i<n:=by unfold re;split<;>omega
theorem mp {α:Type} {n i:Nat} (P:Nat→α) (h:i<n):rv n P i=P (nx n (re n i))∧rv n P (nx n i)=P (re n i):=by
 rw[fO (mU h),fO h];unfold rv re;split
 ·rw[if_pos (by omega)];exact⟨congrArg P (by omega),congrArg P (by omega)⟩
 ·rw[if_neg (by omega)];exact⟨congrArg P (by omega),congrArg P (by omega)⟩
theorem xK {n i k:Nat} (a:i<n) (b:k<n) (h:re n i=re n k):i=k:=by
 unfold re at h;split at h<;>split at h<;>omega
theorem Ft {n:Nat} {P:Nat→Pt} {q:Pt} {M:Int} (h:gh n P q=true) (j:∀i,i<n→(-M≤(P i).1∧(P i).1≤M)∧ -M≤(P i).2∧(P i).2≤M):(-M≤q.1∧q.1≤M)∧ -M≤q.2∧q.2≤M:=by
 have hn:0<n:=by
  rcases Nat.eq_zero_or_pos n with rfl|h0
  ·cases h
  ·exact h0
 obtain⟨i,t,l⟩:=rI h;have x:=j i t;have y:=j (nx n i) (dW hn);unfold dP at l;simp only[Bool.and_eq_true,bne_iff_ne,ne_eq,beq_iff_eq]at l;have d:(P i).2≤q.2∧q.2<(P (nx n i)).2∨(P (nx n i)).2≤q.2∧q.2<(P i).2:=by
  have o:=l.1;by_cases c1:q.2<(P i).2<;>by_cases c2:q.2<(P (nx n i)).2<;>simp[c1,c2]at o<;>omega
 refine⟨⟨?_,?_⟩,by omega,by omega⟩
 ·
  apply aG;intro r;have e:gh n P q=false:=by
   unfold gh;rw[fK (g:=fun k=>zu q (P k) !=zu q (P (nx n k))) (fun k u=>by
    have o:=j k u;have m:=j (nx n k) (dW hn);unfold dP zu;by_cases c1:q.2<(P k).2<;>by_cases c2:q.2<(P (nx n k)).2
    ·simp[c1,c2]
    ·have p:=rH (a:=P (nx n k)) (b:=P k) (q:=q) ⟨by omega,by omega⟩ (by omega) (by omega);rw[fV]at p;have f:¬0<bQ (P k) (P (nx n k)) q:=by omega
     have c:¬(P k).2<(P (nx n k)).2:=by omega
     simp[c1,c2,f,c]
    ·have f:=rH (a:=P k) (b:=P (nx n k)) (q:=q) ⟨by omega,by omega⟩ (by omega) (by omega);have c:(P k).2<(P (nx n k)).2:=by omega
     simp[c1,c2,f,c]
    ·simp[c1,c2])]
   exact mo (fun k=>zu q (P k)) n
  rw[e]at h;cases h
 ·apply aG;intro r;have m:=l.2;rcases d with d|d
  ·have p:=mm (a:=P i) (b:=P (nx n i)) (q:=q) d (by omega) (by omega);have f:¬0<bQ (P i) (P (nx n i)) q:=by omega
   have c:(P i).2<(P (nx n i)).2:=by omega
   simp[f,c]at m
  ·have s:bQ (P (nx n i)) (P i) q≤0:=mm (a:=P (nx n i)) (b:=P i) (q:=q) d (by omega) (by omega);rw[fV]at s;have c:¬(P i).2<(P (nx n i)).2:=by omega
   have v:¬0<bQ (P i) (P (nx n i)) q:=by simpa [c]using m
   have w:(P i).2-(P (nx n i)).2>0:=by omega
   have z:=bE (show 0≤q.2-(P (nx n i)).2 by omega) (show 0≤q.1-(P i).1 by omega);have A:=Int.mul_pos (show 0<(P i).2-q.2 by omega) (show 0<q.1-(P (nx n i)).1 by omega);have e:bQ (P i) (P (nx n i)) q=((P i).2-q.2)*(q.1-(P (nx n i)).1)+(q.2-(P (nx n i)).2)*(q.1-(P i).1):=by simp only[bQ];grind
   omega
theorem ei {a b p:Pt} (d:a.2≠b.2) (h:bQ a b p=0) (c:bt a.2 b.2 p.2):dO a b p:=by
 refine⟨h,?_,c⟩;unfold bt at c;refine xJ (A:=a.2-p.2) (B:=b.2-p.2) (by omega) (by omega) ?_;simp only[bQ]at h
 grind
theorem qN {a b u:Pt} (c d:Pt) (h:bQ a b u=0):bQ c d u*(b.2-a.2)=bQ c d a*(b.2-u.2)+bQ c d b*(u.2-a.2):=by
 simp only[bQ]at h⊢
 grind
theorem jx {a b u v:Pt} (c:Pt) (e:a.2≠b.2) (f:bQ a b u=0) (g:bQ a b v=0):bQ u v c*(b.2-a.2)=bQ a b c*(v.2-u.2):=by
 have i:b.2-a.2≠0:=by omega
 have d:(bQ u v c*(b.2-a.2)-bQ a b c*(v.2-u.2))*(b.2-a.2)=0:=by
  simp only[bQ]at f g⊢
  grind
 rcases Int.mul_eq_zero.1 d with h|h<;>omega
theorem oA {A B g D a b:Int} (m:D≠0) (n:a+b=D) (p:0≤a∧0≤b∨a≤0∧b≤0) (h:g*D=A*a+B*b):(0<A→0<B→0<g)∧(A<0→B<0→g<0)∧(A=B→g=A):=by
 have c:∀{A B g a b D:Int},D≠0→a+b=D→0≤a→0≤b→g*D=A*a+B*b→0<A→0<B→0<g:=by
  intro A B g a b D m n d f h i j;have r:=bE (Int.le_of_lt i) d;have s:=bE (Int.le_of_lt j) f;have t:0<A*a+B*b:=by
   by_cases e:a=0
   ·have:=Int.mul_pos j (show 0<b by omega);omega
   ·have:=Int.mul_pos i (show 0<a by omega);omega
  apply aG;intro q;have:=bE (show 0≤ -g by omega) (show 0≤D by omega);rw[Int.neg_mul]at this;omega
 have l:g*(-D)=A*(-a)+B*(-b):=by rw[Int.mul_neg,Int.mul_neg,Int.mul_neg];omega
 have o:(-g)*D=(-A)*a+(-B)*b:=by rw[Int.neg_mul,Int.neg_mul,Int.neg_mul];omega
 have k:(-g)*(-D)=(-A)*(-a)+(-B)*(-b):=by rw[Int.neg_mul_neg,Int.neg_mul_neg,Int.neg_mul_neg];omega
 refine⟨fun i j=> ?_,fun i j=> ?_,fun e=> ?_⟩
 ·rcases p with⟨d,f⟩|⟨d,f⟩
  ·exact c m n d f h i j
  ·exact c (D:= -D) (by omega) (by omega) (by omega) (by omega) l i j
 ·have:0< -g:=by
   rcases p with⟨d,f⟩|⟨d,f⟩
   ·exact c m n d f o (by omega) (by omega)
   ·exact c (D:= -D) (by omega) (by omega) (by omega) (by omega) k (by omega) (by omega)
  omega
 ·subst e;rw[←Int.mul_add,n]at h;exact Int.eq_of_mul_eq_mul_right m h
theorem Fu {a b u:Int} (h:bt a b u):0≤b-u∧0≤u-a∨b-u≤0∧u-a≤0:=by unfold bt at h;omega
theorem GD {A B:Int} (h:(0<A→0<B→(0:Int)<0)∧(A<0→B<0→(0:Int)<0)):A≤0∧0≤B∨B≤0∧0≤A:=by
 obtain⟨a,b⟩:=h;by_cases p:0<A∧0<B
 ·have:=a p.1 p.2;omega
 by_cases q:A<0∧B<0
 ·have:=b q.1 q.2;omega
 clear a b;omega
theorem uB {a b c d u:Pt} (e:a.2≠b.2) (l:c.2≠d.2) (y:dO a b u) (A:dO c d u):ct a b c d:=by
 obtain⟨r,-,s⟩:=y;obtain⟨t,-,w⟩:=A;have j:=qN a b t;have k:=qN c d r;rw[r,Int.zero_mul]at j;rw[t,Int.zero_mul]at k;have f:=oA (D:=d.2-c.2) (by omega) (by omega) (Fu w) (g:=0) (by rw[Int.zero_mul];exact j);have q:=oA (D:=b.2-a.2) (by omega) (by omega) (Fu s) (g:=0) (by rw[Int.zero_mul];exact k);by_cases he:bQ a b c=bQ a b d
 ·have z:=f.2.2 he;have i:bQ a b d=0:=by omega
  have n:=fun h=>ei (p:=c) e z.symm h;have o:=fun h=>ei (p:=d) e i h;have B:bQ c d a*(b.2-a.2)=0:=by
   have:=jx (u:=c) (v:=d) a e z.symm i;rw[this];have:bQ a b a=0:=by simp only[bQ];grind
   rw[this,Int.zero_mul]
  have C:bQ c d b*(b.2-a.2)=0:=by
   have:=jx (u:=c) (v:=d) b e z.symm i;rw[this];have:bQ a b b=0:=by simp only[bQ];grind
   rw[this,Int.zero_mul]
  have m:=fun h=>ei (p:=a) l (by rcases Int.mul_eq_zero.1 B with h|h<;>omega) h;have x:=fun h=>ei (p:=b) l (by rcases Int.mul_eq_zero.1 C with h|h<;>omega) h;unfold bt at s w m x n o;by_cases c1:a.2≤c.2∧c.2≤b.2∨b.2≤c.2∧c.2≤a.2
  ·exact .inl (n c1)
  by_cases c2:a.2≤d.2∧d.2≤b.2∨b.2≤d.2∧d.2≤a.2
  ·exact .inr (.inl (o c2))
  exact .inr (.inr (.inl (m (by omega))))
 ·exact CU he (GD ⟨f.1,f.2.1⟩) (GD ⟨q.1,q.2.1⟩)
theorem lI {x y W F:Int} (b:0<W) (a:0<F) (h:y*W=x*F) (c:0<x):0<y:=by
 have:=Int.mul_pos c a;apply aG;intro d;have:=bE (show 0≤ -y by omega) (Int.le_of_lt b);rw[Int.neg_mul]at this;omega
theorem AK {g i j k D w:Int} (v:D≠0) (o:w≠0) (m:g*D=j*w) (n:i*D=k*w) (h:tk g i):tk j k:=by
 have d:0<w*w:=by
  rcases Int.lt_or_gt_of_ne o with c|c
  ·exact Int.mul_pos_of_neg_of_neg c c
  ·exact Int.mul_pos c c
 have l:D*w≠0:=by intro c;rcases Int.mul_eq_zero.1 c with c|c<;>omega
 have e:j*(w*w)=g*(D*w):=by rw[←Int.mul_assoc,←m,Int.mul_assoc]
 have f:k*(w*w)=i*(D*w):=by rw[←Int.mul_assoc,←n,Int.mul_assoc]
 generalize w*w=W at d e f;generalize D*w=F at l e f;have t:(-j)*W=(-g)*F:=by rw[Int.neg_mul,Int.neg_mul,e]
 have u:(-k)*W=(-i)*F:=by rw[Int.neg_mul,Int.neg_mul,f]
 have r:(-j)*W=g*(-F):=by rw[Int.neg_mul,Int.mul_neg,e]
 have s:(-k)*W=i*(-F):=by rw[Int.neg_mul,Int.mul_neg,f]
 have p:j*W=(-g)*(-F):=by rw[Int.neg_mul_neg,e]
 have q:k*W=(-i)*(-F):=by rw[Int.neg_mul_neg,f]
 unfold tk at h⊢
 rcases Int.lt_or_gt_of_ne l with c|c<;>rcases h with⟨a,b⟩|⟨a,b⟩
 ·exact .inr ⟨lI d (by omega) p (by omega),by have:=lI d (by omega) s b;omega⟩
 ·exact .inl ⟨by have:=lI d (by omega) r a;omega,lI d (by omega) q (by omega)⟩
 ·exact .inl ⟨by have:=lI d c t (by omega);omega,lI d c f b⟩
 ·exact .inr ⟨lI d c e a,by have:=lI d c u (by omega);omega⟩
theorem GV {x y:Int} (h:tk x y):x≠y:=by unfold tk at h;omega
theorem CV {x y:Int} (h:tk x y):x≤0∧0≤y∨y≤0∧0≤x:=by unfold tk at h;omega
theorem Fv {A B g e:Int} (h:(0<A→0<B→0<g)∧(A<0→B<0→g<0)) (f:(0<A→0<B→0<e)∧(A<0→B<0→e<0)) (i:tk g e):A≤0∧0≤B∨B≤0∧0≤A:=by
 unfold tk at i;obtain⟨a,b⟩:=h;obtain⟨c,d⟩:=f;by_cases p:0<A∧0<B
 ·have:=a p.1 p.2;have:=c p.1 p.2;omega
 by_cases q:A<0∧B<0
 ·have:=b q.1 q.2;have:=d q.1 q.2;omega
 clear a b c d;omega
theorem tK {a b c d u v:Pt} (i:a.2≠b.2) (k:c.2≠d.2) (x:u.2≠v.2) (f:dO a b u) (g:dO a b v) (h:ct u v c d):ct a b c d:=by
 have e:∀{p:Pt},dO u v p→dO a b p:=fun{p} hp=>by
  refine ei i ?_ ?_
  ·have:=jx p i f.1 g.1;rw[hp.1,Int.zero_mul]at this;rcases Int.mul_eq_zero.1 this.symm with h|h<;>omega
  ·have n:=f.2.2;have o:=g.2.2;have q:=hp.2.2;unfold bt at n o q⊢
   omega
 rcases h with h|h|h|h|⟨p1,p2⟩
 ·exact .inl (e h)
 ·exact .inr (.inl (e h))
 ·exact uB i k f h
 ·exact uB i k g h
 ·have r:=jx c i f.1 g.1;have s:=jx d i f.1 g.1;have t:=qN c d f.1;have w:=qN c d g.1;have l:=oA (D:=b.2-a.2) (by omega) (by omega) (Fu f.2.2) t;have m:=oA (D:=b.2-a.2) (by omega) (by omega) (Fu g.2.2) w;have j:tk (bQ a b c) (bQ a b d):=AK (by omega) (by omega) r s p1;exact CU (GV j) (CV j) (Fv ⟨l.1,l.2.1⟩ ⟨m.1,m.2.1⟩ p2)
theorem Ie {a b c u:Pt} (l:a.2≠b.2) (m:b.2≠c.2) (o:¬dO a b c) (p:¬dO b c a) (d:dO a b u) (n:u.2≠b.2):¬dO b c u:=by
 intro f;have e:bQ a b c*(u.2-b.2)=0:=by
  have q:=d.1;have r:=f.1;simp only[bQ]at q r⊢
  grind
 have z:bQ a b c=0:=by rcases Int.mul_eq_zero.1 e with h|h<;>omega
 have s:bQ b c a=0:=by
  rw[←z];simp only[bQ];grind
 have g:=fun h=>o (ei l z h);have i:=fun h=>p (ei m s h);have j:=d.2.2;have k:=f.2.2;unfold bt at j k g i;by_cases c1:a.2≤c.2∧c.2≤b.2∨b.2≤c.2∧c.2≤a.2
 ·exact g c1
 ·exact i (by omega)
theorem tL {a b c u v:Pt} (d:a.2≠b.2) (o:b.2≠c.2) (n:¬dO a b c) (p:¬dO b c a) (r:u.2≠v.2) (f:dO a b u) (g:dO a b v) (l:u.2≠b.2) (m:v.2≠b.2):¬ct u v b c:=by
 have e:=jx b d f.1 g.1;rw[show bQ a b b=0 by simp only[bQ];grind,Int.zero_mul]at e;have q:bQ u v b=0:=by rcases Int.mul_eq_zero.1 e with h|h<;>omega
 rintro (h|h|h|h|⟨h,-⟩)
 ·have i:=f.2.2;have j:=g.2.2;have k:=h.2.2;unfold bt at i j k;omega
 ·refine n (ei d ?_ ?_)
  ·have:=jx c d f.1 g.1;rw[h.1,Int.zero_mul]at this;rcases Int.mul_eq_zero.1 this.symm with h|h<;>omega
  ·have i:=f.2.2;have j:=g.2.2;have k:=h.2.2;unfold bt at i j k⊢
   omega
 ·exact Ie d o n p f l h
 ·exact Ie d o n p g m h
 ·rw[q]at h;unfold tk at h;omega
theorem xL {z a b u v:Pt} (g:a.2≠b.2) (i:z.2≠a.2) (l:¬dO z a b) (m:¬dO a b z) (e:u.2≠v.2) (j:dO a b u) (k:dO a b v) (d:u.2≠a.2) (f:v.2≠a.2):¬ct u v z a:=fun h=>
 tL (a:=b) (b:=a) (c:=z) g.symm i.symm (fun x=>m (fW.1 x)) (fun x=>l (fW.1 x)) e (fW.1 j) (fW.1 k) d f (jP.1 h)
structure uC (n:Nat) (Q:Nat→Pt) (s:Nat→Int):Prop where
 n3:3≤n
 ev:∀i,i<n→(Q i).2 % 2=0
 lv:∀i,i<n→(Q i).2≠(Q (nx n i)).2
 sl:∀i,i<n→(Q (nx n i)).1-(Q i).1=s i*((Q (nx n i)).2-(Q i).2)
 nm:∀i k,i<n→k<n→i≠k→nx n i≠k→nx n k≠i→¬ct (Q i) (Q (nx n i)) (Q k) (Q (nx n k))
 nf:∀i,i<n→¬dO (Q i) (Q (nx n i)) (Q (nx n (nx n i)))∧¬dO (Q (nx n i)) (Q (nx n (nx n i))) (Q i)
def xp (a:Pt) (s h:Int):Pt:=(a.1+s*(h-a.2),h)
def cQ (a b:Pt) (h:Int):Prop:=a.2<h∧h<b.2∨b.2<h∧h<a.2
theorem xM {a b:Pt} {s:Int} (c:b.1-a.1=s*(b.2-a.2)) (p:Pt):bQ a b p=(b.2-a.2)*((xp a s p.2).1-p.1):=by
 simp only[bQ,xp];grind
theorem tM {a b:Pt} {s h:Int} (c:a.2≠b.2) (e:b.1-a.1=s*(b.2-a.2)) (d:cQ a b h):dO a b (xp a s h):=by
 refine ei c ?_ ?_
 ·rw[xM e];simp only[xp,Int.sub_self,Int.mul_zero]
 ·unfold cQ at d;unfold bt xp;dsimp only;omega
theorem uD {a b p:Pt} {s:Int} (j:b.1-a.1=s*(b.2-a.2)) (h:a.2<p.2∧p.2<b.2):dP a b p=decide (p.1<(xp a s p.2).1):=by
 have e:=xM j p;have d:0<b.2-a.2:=by omega
 have c:0<bQ a b p↔p.1<(xp a s p.2).1:=by
  rw[e];constructor
  ·intro i;apply aG;intro k;have:=bE (Int.le_of_lt d) (show 0≤ -((xp a s p.2).1-p.1)by omega);rw[Int.mul_neg]at this;omega
  ·intro i;exact Int.mul_pos d (by omega)
 have f:¬p.2<a.2:=by omega
 have g:a.2<b.2:=by omega
 unfold dP;simp[f,h.2,g,c]
theorem oB {a b p:Pt} {s:Int} (l:b.1-a.1=s*(b.2-a.2)) (h:b.2<p.2∧p.2<a.2):dP a b p=decide (p.1≤(xp a s p.2).1):=by
 have e:=xM l p;have i:0< -(b.2-a.2):=by omega
 have j:bQ a b p= -((-(b.2-a.2))*((xp a s p.2).1-p.1)):=by rw[e,Int.neg_mul,Int.neg_neg]
 have c:0<bQ a b p↔¬p.1≤(xp a s p.2).1:=by
  rw[j];generalize -(b.2-a.2)=D at*
  constructor
  ·intro k m;have:=bE (Int.le_of_lt i) (show 0≤((xp a s p.2).1-p.1)by omega);omega
  ·intro k;have:=Int.mul_pos i (show 0< -((xp a s p.2).1-p.1)by omega);rw[Int.mul_neg]at this;omega
 have f:¬p.2<b.2:=by omega
 have g:¬a.2<b.2:=by omega
 unfold dP;by_cases h5:p.1≤(xp a s p.2).1
 ·have d:¬(xp a s p.2).1<p.1:=by omega
  simp[f,h.2,g,c,h5,d]
 ·have d:(xp a s p.2).1<p.1:=by omega
  simp[f,h.2,g,c,h5,d]
theorem uE {a b p:Pt} (h:¬cQ a b p.2) (d:p.2≠a.2) (e:p.2≠b.2):dP a b p=false:=by
 unfold cQ at h;unfold dP;by_cases c1:p.2<a.2
 ·have c:p.2<b.2:=by omega
  simp[c1,c]
 ·have c:¬p.2<b.2:=by omega
  simp[c1,c]
theorem oC {a b:Pt} {s h:Int} (d:b.1-a.1=s*(b.2-a.2)) (c:cQ a b h):dP a b (xp a s h)=decide (b.2<a.2):=by
 unfold cQ at c;rcases c with c|c
 ·rw[uD d (by exact c)];have:¬b.2<a.2:=by omega
  simp[this,xp]
 ·rw[oB d (by exact c)];have:b.2<a.2:=by omega
  simp[this,xp]
theorem kt {u v p:Pt} (h:u.2<p.2∧v.2<p.2∨p.2≤u.2∧p.2≤v.2):gy u v p=false:=by
 unfold gy;rcases h with⟨a,b⟩|⟨a,b⟩
 ·simp[a,b]
 ·have c:¬u.2<p.2:=by omega
  have d:¬v.2<p.2:=by omega
  simp[c,d]
section
variable {n:Nat} {Q:Nat→Pt} {s:Nat→Int}
theorem uC.piece (g:uC n Q s) {i k:Nat} (d:i<n) (e:k<n) (m:i≠k) {u v:Pt} (c:u.2≠v.2) (o:dO (Q i) (Q (nx n i)) u) (p:dO (Q i) (Q (nx n i)) v)
 (q:nx n i=k→u.2≠(Q (nx n i)).2∧v.2≠(Q (nx n i)).2) (r:nx n k=i→u.2≠(Q i).2∧v.2≠(Q i).2):¬ct u v (Q k) (Q (nx n k)):=by
 have hn:=g.n3;by_cases c1:nx n i=k
 ·obtain⟨a,b⟩:=q c1;obtain⟨f,j⟩:=g.nf i d;rw[←c1];exact tL (g.lv i d) (g.lv _ (dW (by omega))) f j c o p a b
 by_cases c2:nx n k=i
 ·obtain⟨a,b⟩:=r c2;obtain⟨f,j⟩:=g.nf k e;rw[c2]at f j⊢
  have l:=g.lv k e;rw[c2]at l;exact xL (g.lv i d) l f j c o p a b
 exact fun h=>g.nm i k d e m c1 c2 (tK (g.lv i d) (g.lv k e) c o p h)
theorem uC.along (g:uC n Q s) {i:Nat} (c:i<n) {h b:Int} (d:cQ (Q i) (Q (nx n i)) h) (a:cQ (Q i) (Q (nx n i)) b):gh n Q (xp (Q i) (s i) h)=gh n Q (xp (Q i) (s i) b):=by
 by_cases he:h=b
 ·rw[he]
 have j:=tM (g.lv i c) (g.sl i c) d;have l:=tM (g.lv i c) (g.sl i c) a;have e:cf (fun k=>dP (Q k) (Q (nx n k)) (xp (Q i) (s i) h) !=dP (Q k) (Q (nx n k)) (xp (Q i) (s i) b)) n=false:=by
  rw[fK (g:=fun k=>gy (xp (Q i) (s i) h) (xp (Q i) (s i) b) (Q k) !=gy (xp (Q i) (s i) h) (xp (Q i) (s i) b) (Q (nx n k))) (fun k f=>by
   by_cases hik:i=k
   ·subst hik;rw[oC (g.sl i c) d,oC (g.sl i c) a,kt,kt]
    ·simp
    ·unfold cQ at d a;simp only[xp];omega
    ·unfold cQ at d a;simp only[xp];omega
   ·refine Is (g.piece c f hik (by simpa [xp]using he) j l ?_ ?_)
    ·intro _;unfold cQ at d a;simp only[xp];omega
    ·intro _;unfold cQ at d a;simp only[xp];omega)]
  exact mo (fun k=>gy (xp (Q i) (s i) h) (xp (Q i) (s i) b) (Q k)) n
 rw[jp]at e;unfold gh;simpa using e
def fL (a b:Pt):Int:=if a.2<b.2 then a.2+1 else a.2-1
theorem hY {a b:Pt} (h:a.2≠b.2) (c:a.2 % 2=0) (d:b.2 % 2=0):cQ a b (fL a b):=by
 unfold cQ fL;split<;>omega
theorem iC {a b:Pt} {h:Int}:cQ b a h↔cQ a b h:=by unfold cQ;exact⟨fun h=>h.symm,fun h=>h.symm⟩
theorem b7:∀a b c d e f g:Bool,(e !=f)=(a !=b)→(f !=g)=(c !=d)→(e !=g)=((a !=c) !=(b !=d)):=by decide
theorem b4:∀a b c d:Bool,(a !=b)=(c !=d)→((a !=c) !=(b !=d))=false:=by decide
theorem tN {f g:Nat→Bool} {i k:Nat} (p:i≠k):∀{n:Nat},i<n→k<n→(∀j,j<n→j≠i→j≠k→f j=g j)→(f i !=f k)=(g i !=g k)→cf f n=cf g n:=by
 intro n o q h l;have e:cf (fun j=>f j !=g j) n=false:=by
  have d:∀m,m≤n→cf (fun j=>f j !=g j) m=((decide (i<m)&&(f i !=g i)) !=(decide (k<m)&&(f k !=g k))):=by
   intro m
   induction m with
   |zero=>intro _;simp[cf]
   |succ m ih=>
    intro r;rw[cf,ih (by omega)];by_cases c1:m=i
    ·subst c1;have a:¬m<m:=by omega
     have b:k<m+1↔k<m:=by omega
     have c:m<m+1:=by omega
     simp only[a,b,c,decide_false,decide_true,aI,aN];generalize (decide (k<m)&&(f k !=g k))=y;generalize (f m !=g m)=z
     revert y z
     decide
    by_cases c2:m=k
    ·subst c2;have a:¬m<m:=by omega
     have b:i<m+1↔i<m:=by omega
     have c:m<m+1:=by omega
     simp only[a,b,c,decide_false,decide_true,aI,aN];generalize (decide (i<m)&&(f i !=g i))=y;generalize (f m !=g m)=z
     revert y z
     decide
    have a:i<m+1↔i<m:=by omega
    have b:k<m+1↔k<m:=by omega
    rw[h m (by omega) c1 c2];simp[a,b]
  rw[d n (aB _)];simp only[o,q,decide_true,aN];exact b4 _ _ _ _ l
 rw[jp]at e;simpa using e
theorem uC.corner (g:uC n Q s) {i:Nat} (p:i<n):gh n Q (xp (Q i) (s i) (fL (Q (nx n i)) (Q i)))=gh n Q (xp (Q (nx n i)) (s (nx n i)) (fL (Q (nx n i)) (Q (nx n (nx n i))))):=by
 have hn:=g.n3;have D:=dW (i:=i) (show 0<n by omega);have T:=dW (i:=nx n i) (show 0<n by omega);have R:i≠nx n i:=by rw[fO p];split<;>omega
 have F:=g.lv i p;have G:=g.lv _ D;have ea:=g.ev i p;have Z:=g.ev _ D;have ec:=g.ev _ T;have m:=g.sl i p;have o:=g.sl _ D;have P1:=fun k w (t:i≠k) u v c y z C x=>g.piece (i:=i) (k:=k) p w t (u:=u) (v:=v) c y z C x;have P2:=fun k w (t:nx n i≠k) u v c y z C x=>g.piece (i:=nx n i) (k:=k) D w t (u:=u) (v:=v) c y z C x;obtain⟨W,X⟩:=g.nf i p;generalize E:nx n i=j at*
 generalize U:nx n j=k' at*
 have L:=hY (a:=Q j) (b:=Q i) F.symm Z ea;have N:=hY (a:=Q j) (b:=Q k') G Z ec;have y:=tM F m (iC.1 L);have z:=tM G o N;have O:dO (Q i) (Q j) (Q j):=ei F (by simp only[bQ];grind) (by unfold bt;omega);have P:dO (Q j) (Q k') (Q j):=ei G (by simp only[bQ];grind) (by unfold bt;omega);have A:(xp (Q i) (s i) (fL (Q j) (Q i))).2=fL (Q j) (Q i):=rfl;have B:(xp (Q j) (s j) (fL (Q j) (Q k'))).2=fL (Q j) (Q k'):=rfl;have ru:=oC m (iC.1 L);have rv:=oC o N;generalize hU:xp (Q i) (s i) (fL (Q j) (Q i))=u at*
 generalize hV:xp (Q j) (s j) (fL (Q j) (Q k'))=v at*
 have nu:u.2=(Q j).2+1∨u.2=(Q j).2-1:=by rw[A];unfold fL;split<;>simp
 have nv:v.2=(Q j).2+1∨v.2=(Q j).2-1:=by rw[B];unfold fL;split<;>simp
 have q:u.2≠(Q j).2:=by omega
 have J:v.2≠(Q j).2:=by omega
 have e:cf (fun k=>dP (Q k) (Q (nx n k)) u !=dP (Q k) (Q (nx n k)) v) n=false:=by
  rw[tN (f:=fun k=>dP (Q k) (Q (nx n k)) u !=dP (Q k) (Q (nx n k)) v) (g:=fun k=>(gy u (Q j) (Q k) !=gy (Q j) v (Q k)) !=(gy u (Q j) (Q (nx n k)) !=gy (Q j) v (Q (nx n k)))) (i:=i) (k:=j) R p D]
  ·exact mo (fun k=>gy u (Q j) (Q k) !=gy (Q j) v (Q k)) n
  ·intro k w C x;have m1:¬ct u (Q j) (Q k) (Q (nx n k)):=P1 k w (Ne.symm C) u (Q j) q y O (fun h=>absurd h (Ne.symm x)) (fun _=>⟨by unfold cQ at L;rw[A];omega,F.symm⟩);have m2:¬ct (Q j) v (Q k) (Q (nx n k)):=P2 k w (Ne.symm x) (Q j) v (Ne.symm J) P z (fun h=>⟨G,by unfold cQ at N;rw[B];omega⟩) (fun h=>by
    exfalso;have:nx n i=nx n k:=by rw[E,h]
    rw[fO p,fO w]at this;split at this<;>split at this<;>omega)
   have q1:=Is m1;have q2:=Is m2;exact b7 _ _ _ _ _ _ _ q1 q2
  ·
   show((dP (Q i) (Q (nx n i)) u !=dP (Q i) (Q (nx n i)) v) !=(dP (Q j) (Q (nx n j)) u !=dP (Q j) (Q (nx n j)) v))=(((gy u (Q j) (Q i) !=gy (Q j) v (Q i)) !=(gy u (Q j) (Q (nx n i)) !=gy (Q j) v (Q (nx n i)))) !=((gy u (Q j) (Q j) !=gy (Q j) v (Q j)) !=(gy u (Q j) (Q (nx n j)) !=gy (Q j) v (Q (nx n j)))));rw[E,U,ru,rv];have z1:gy u (Q j) (Q i)=false:=kt (by omega);have z2:gy (Q j) v (Q i)=false:=kt (by omega);have z3:gy u (Q j) (Q k')=false:=kt (by omega);have z4:gy (Q j) v (Q k')=false:=kt (by omega);rw[z1,z2,z3,z4];by_cases hs:u.2=v.2
   ·
    have a0:u.1≠v.1:=by
     intro he;have c:u=v:=Prod.ext he hs;refine Ie F G W X y q ?_;rw[c];exact z
    have xu:(xp (Q i) (s i) v.2).1=u.1:=by rw[←hs,A,←hU]
    have xv:(xp (Q j) (s j) u.2).1=v.1:=by rw[hs,B,←hV]
    have sv:cQ (Q i) (Q j) v.2:=by rw[←hs,A];exact iC.1 L
    have su:cQ (Q j) (Q k') u.2:=by rw[hs,B];exact N
    have K:(Q j).2<(Q i).2↔u.2=(Q j).2+1:=by
     rw[A];unfold fL;split<;>omega
    have Y:(Q j).2<(Q k').2↔v.2=(Q j).2+1:=by
     rw[B];unfold fL;split<;>omega
    by_cases hup:u.2=(Q j).2+1
    ·have d:(Q j).2<(Q i).2:=K.2 hup;have c2:(Q j).2<(Q k').2:=Y.2 (by omega);have l:¬(Q k').2<(Q j).2:=by omega
     have H:dP (Q i) (Q j) v=decide (v.1≤u.1):=by rw[oB m (by unfold cQ at sv;omega),xu]
     have I:dP (Q j) (Q k') u=decide (u.1<v.1):=by rw[uD o (by unfold cQ at su;omega),xv]
     rw[H,I];by_cases c4:u.1<v.1
     ·have r:¬v.1≤u.1:=by omega
      simp[d,l,c4,r]
     ·have r:v.1≤u.1:=by omega
      simp[d,l,c4,r]
    ·have d:¬(Q j).2<(Q i).2:=fun h=>hup (K.1 h);have c2:¬(Q j).2<(Q k').2:=fun h=>hup (by rw[hs];exact Y.1 h);have l:(Q k').2<(Q j).2:=by omega
     have H:dP (Q i) (Q j) v=decide (v.1<u.1):=by rw[uD m (by unfold cQ at sv;omega),xu]
     have I:dP (Q j) (Q k') u=decide (u.1≤v.1):=by rw[oB o (by unfold cQ at su;omega),xv]
     rw[H,I];by_cases c4:v.1<u.1
     ·have r:¬u.1≤v.1:=by omega
      simp[d,l,c4,r]
     ·have r:u.1≤v.1:=by omega
      simp[d,l,c4,r]
   ·have K:(Q j).2<(Q i).2↔u.2=(Q j).2+1:=by
     rw[A];unfold fL;split<;>omega
    have Y:(Q j).2<(Q k').2↔v.2=(Q j).2+1:=by
     rw[B];unfold fL;split<;>omega
    have H:dP (Q i) (Q j) v=false:=uE (by unfold cQ;omega) (by omega) (by omega);have I:dP (Q j) (Q k') u=false:=uE (by unfold cQ;omega) (by omega) (by omega);rw[H,I];by_cases hup:u.2=(Q j).2+1
    ·have d:(Q j).2<(Q i).2:=K.2 hup;have l:(Q k').2<(Q j).2:=by omega
     simp[d,l]
    ·have d:¬(Q j).2<(Q i).2:=fun h=>hup (K.1 h);have l:¬(Q k').2<(Q j).2:=by omega
     simp[d,l]
 rw[jp]at e;unfold gh;simpa using e
theorem uC.all (g:uC n Q s):∃t:Bool,∀i h,i<n→cQ (Q i) (Q (nx n i)) h→gh n Q (xp (Q i) (s i) h)=t:=by
 have hn:=g.n3;refine⟨gh n Q (xp (Q 0) (s 0) (fL (Q 0) (Q (nx n 0)))),?_⟩;have c:∀i,i<n→gh n Q (xp (Q i) (s i) (fL (Q i) (Q (nx n i))))=gh n Q (xp (Q 0) (s 0) (fL (Q 0) (Q (nx n 0)))):=by
  intro i
  induction i with
  |zero=>intro _;rfl
  |succ i ih=>
   intro a;have e:=ih (by omega);have b:nx n i=i+1:=by rw[fO (by omega),if_pos a]
   have d:=g.corner (i:=i) (by omega);rw[b]at d;rw[←d,←e];refine(g.along (by omega) ?_ ?_)
   ·rw[b];refine iC.1 (hY ?_ (g.ev _ a) (g.ev i (by omega)));have:=g.lv i (by omega);rw[b]at this;exact this.symm
   ·exact hY (g.lv i (by omega)) (g.ev i (by omega)) (g.ev _ (dW (by omega)))
 intro i h a f;rw[←c i a];exact g.along a f (hY (g.lv i a) (g.ev i a) (g.ev _ (dW (by omega))))
end
end
end Go.Proofs.YtencnijahlkbaaaGreatDoor
