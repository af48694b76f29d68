/-
  An append to a row that was there before, in a region that draws its order. Conditions: none. By an AI agent.
-/
import Derived.Test.YtpjdmjmgkdgfnaaRelm
import Derived.Test.YtpjdmjmgkdgfnaaOwn
import Derived.Test.YtpjdmjmgkdgfnaaMeshF
namespace Go.Proofs.Ytpjdmjmgkdgfnaa
open Go Go.RowKit
set_option linter.unusedVariables false
/-- what an append leaves -/
def Stay.app (w0 : World) (B : Nat) (e : TypeId) (k n : Nat) (xs : List Value) (ob : Option Nat) : Stay :=
  ⟨fun v w => w.ownsRow B e k v n xs ∧ w0.grownBy w ob ∧ w0.heap.size ≤ w.heap.size ∧ ∀ b, v.ownBlock = some b → w0.heap.size ≤ b ∨ ob = some b, fun v w w' hb ⟨h1, h2, h3, h4⟩ =>
    ⟨owns_on h1 hb, ⟨hb.os.trans h2.os, hb.tape.trans h2.tape, hb.output.trans h2.output, by have := hb.size; omega, fun i hi hne => (hb.block i (by omega)).trans (h2.block i hi hne)⟩, by have := hb.size; omega, h4⟩⟩
section
variable {P : Program} {md : Region.Mode} {ops : Array Oper} {w0 : World} {pre : List Nat} {q : Nat} {fr : (Nat → Value) → Act} {fin : (Nat → Stay) → Prop} {o : Oper} {l : List Oper} {V : Nat → Stay}
theorem relm_append (B : Nat) (s x : Operand) (t : TypeId) (hgd : o.guard = none)
    (ho : o.op = .call { callee := .builtin .append, args := #[s, x], argTypes := #[t, t] }) (e : TypeId) (i : TypeInfo) (z : Value) (size bytes n m : Nat) (xs news : List Value)
    (ht : P.underlying t = some (.slice e)) (hi : P.info? e = some i) (hz : i.zero = some z) (hsize : i.size = size) (hby : i.bytes = bytes) (hzs : z.cells.size = size) (hsz : 0 < size)
    (v0 : Value) (hp : q ∉ pre) (hown : w0.ownsRow B e size v0 n xs) (hB : B ≤ w0.heap.size) (h63 : n + m ≤ maxLen) (hbytes : (n + m) * bytes ≤ 140737488355328) (hl1 : news.length = m * size) (h1 : ∀ u ∈ news, u.oneCell' = true)
    (h : ∀ (u : Nat → Value) (w : World), Below w0.heap.size w0 w → depsS md V u w o.after.toList → (fr u).eval s = v0 ∧ ∃ oa cc, (fr u).eval x = .slice oa m cc ∧ (oa = none → m = 0) ∧ ∀ ad, oa = some ad → ∀ j u, news[j]? = some u → w.cell? (ad.add j) = some u)
    (hl : relWalkM P md ops w0 pre q fr fin l (q + 1) (updS V q (Stay.app w0 B e size (n + m) (xs ++ news) v0.ownBlock))) : relWalkM P md ops w0 pre q fr fin (o :: l) q V := by
  refine relm_write _ hp (fun u w hb hd => ⟨by simp [Region.wanted, hgd], ?_⟩) hl
  obtain ⟨h2, oa, cc, h3, h4, h5⟩ := h u w hb hd
  obtain ⟨v', w', r1, r2, r3, r4⟩ := run_append_own2 w B t o.type e i z size bytes ht hi hz hsize hby hzs hsz v0 n xs (owns_on hown hb) oa m cc news hl1 h4 h5 h1 h63 hbytes (Nat.le_trans hB hb.size)
  have hs := hb.size
  have hs' := r3.size
  unfold relOp execOp
  simp only [ho, resolve, invoke, builtin, Sem.run_bind, Sem.run_pure, Result.andThen_ok, List.map_toArray, List.map_cons, List.map_nil, h2, h3, r1]
  exact ⟨r2, ⟨r3.os.trans hb.os, r3.tape.trans hb.tape, r3.output.trans hb.output, by omega, fun k hk hne => (r3.block k (by omega) hne).trans (hb.block k hk)⟩, by omega, fun b hbo => (r4 b hbo).imp (fun h => by omega) id⟩
end
end Go.Proofs.Ytpjdmjmgkdgfnaa
