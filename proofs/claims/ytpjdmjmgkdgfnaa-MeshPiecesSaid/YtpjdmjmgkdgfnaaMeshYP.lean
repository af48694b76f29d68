/-
  Appends to own rows. Conditions: none. By an AI agent.
-/
import Derived.Test.YtpjdmjmgkdgfnaaMeshWP
import Derived.Test.YtpjdmjmgkdgfnaaOwn
namespace Go.Proofs.Ytpjdmjmgkdgfnaa
open Go Go.RowKit
set_option linter.unusedVariables false
set_option linter.unusedSimpArgs false
set_option maxRecDepth 100000

theorem wpList_append2 {P : Program} {w : World} {ops : Array Oper} {rest : List Oper} {o : Oper} {a : Act} {Q : Exit → Act → World → Prop} (hgd : o.guard = none) (s x : Operand) (t : TypeId)
    (ho : o.op = .call { callee := .builtin .append, args := #[s, x], argTypes := #[t, t] })
    (base : Nat) (e : TypeId) (i : TypeInfo) (z : Value) (size bytes : Nat) (ht : P.underlying t = some (.slice e)) (hi : P.info? e = some i) (hz : i.zero = some z)
    (hsize : i.size = size) (hby : i.bytes = bytes) (hzs : z.cells.size = size) (hsz : 0 < size)
    (v : Value) (n : Nat) (xs : List Value) (hs : a.eval s = v) (hown : w.ownsRow base e size v n xs)
    (oa : Option Addr) (m c : Nat) (news : List Value) (hx : a.eval x = .slice oa m c) (hl : news.length = m * size) (h0 : oa = none → m = 0) (hnews : ∀ ad, oa = some ad → ∀ j u, news[j]? = some u → w.cell? (ad.add j) = some u) (h1 : ∀ u ∈ news, u.oneCell' = true)
    (h63 : n + m ≤ maxLen) (hbytes : (n + m) * bytes ≤ 140737488355328) (hbase : base ≤ w.heap.size)
    (h : ∀ v' w', w'.ownsRow base e size v' (n + m) (xs ++ news) → w.grownBy w' v.ownBlock → (∀ b, v'.ownBlock = some b → w.heap.size ≤ b ∨ v.ownBlock = some b) → wpList P ops Q rest (a.put o.dst v') w') : wpList P ops Q (o :: rest) a w := by
  refine wpList_plain hgd fun K hK => ?_
  obtain ⟨v', w', r1, r2, r3, r4⟩ := run_append_own2 w base t o.type e i z size bytes ht hi hz hsize hby hzs hsz v n xs hown oa m c news hl h0 hnews h1 h63 hbytes hbase
  have hk := h v' w' r2 r3 r4
  unfold Oper.wp
  simp [execOp, ho, resolve, invoke, builtin, hs, hx, r1, Result.andThen]
  exact hK _ _ hk
theorem row3_cells {w : World} {g : Nat} {x y z : Value} {t : TypeId} (h : w.heap[g]? = some (.cells #[x, y, z] t)) : ∀ ad, some (⟨g, 0, none⟩ : Addr) = some ad → ∀ j u, ([x, y, z] : List Value)[j]? = some u → w.cell? (ad.add j) = some u := fun ad had j u hj => by
  cases had
  exact built_cells h j u hj
theorem ints3_one (x y z : Int) : ∀ u ∈ ([.int .i64 x, .int .i64 y, .int .i64 z] : List Value), u.oneCell' = true := fun u hu => by
  simp only [List.mem_cons, List.not_mem_nil, or_false] at hu
  rcases hu with rfl | rfl | rfl <;> rfl
theorem dropF_at {F : Nat → V} {q j n : Nat} (hn : n = if j ≤ q then j else j - 1) (hj : j ≠ q) : dropF F q n = F j := by
  unfold dropF
  by_cases h : j ≤ q
  · rw [if_pos h] at hn
    subst hn
    rw [if_pos (by omega)]
  · rw [if_neg h] at hn
    subst hn
    rw [if_neg (by omega), show j - 1 + 1 = j by omega]
end Go.Proofs.Ytpjdmjmgkdgfnaa
