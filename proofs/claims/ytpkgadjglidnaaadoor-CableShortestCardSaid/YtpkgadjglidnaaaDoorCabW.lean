/-
  Plain laws of CableBack; rows of trays. Conditions: as stated. By an AI agent.
-/
import Derived.Test.YtpkgadjglidnaaaDoorCabV
import Derived.Test.YtpkgadjglidnaaaDoorCabI
namespace Go.Proofs.YtpkgadjglidnaaaDoor
open Go Go.ChangeShapes Go.WideShapes Go.RowKit Go.ChangeAt
set_option linter.unusedVariables false
set_option linter.unusedSimpArgs false

theorem trE_of_ok {t : Tr} (h : t.ok) : trE t = 0 := by
  unfold Tr.ok at h
  unfold trE
  rw [if_neg, if_neg (by omega)]
  rw [inB_yes (by omega) (by omega), inB_yes (by omega) (by omega), inB_yes (by omega) (by omega), inB_yes (by omega) (by omega)]
  simp
theorem cbE_of_ok {c : Cb} (h : CbOk (fun _ => c) 0) : firstE (cbE (fun _ => c)) 1 = 0 := firstE_all fun i hi => by
  obtain rfl : i = 0 := by omega
  have h1 := h.id
  have h2 := h.fr
  have h3 := h.to
  have h4 := h.sz
  have h5 := h.ne
  unfold cbE
  rw [if_neg (by rw [h1]; decide), if_neg, if_neg h5, if_neg (by simp [idsL])]
  rw [inB_yes h2.1 h2.2, inB_yes h3.1 h3.2, inB_yes h4.1 h4.2]
  simp
theorem check1_of {n : Nat} {T : Nat → Tr} {c : Cb} (hn : n ≤ 64) (hT : ∀ i, i < n → (T i).ok) (hc : CbOk (fun _ => c) 0) : checkF n T 1 (fun _ => c) = 0 := by
  unfold checkF
  have h1 : firstE (fun i => trE (T i)) n = 0 := firstE_all fun i hi => trE_of_ok (hT i hi)
  rw [if_neg (by omega), if_neg (by rw [h1]; decide)]
  exact cbE_of_ok hc
theorem check1_c {n m : Nat} {T : Nat → Tr} {C : Nat → Cb} (h : checkF n T m C = 0) {k : Nat} (hk : k < m) : checkF n T 1 (fun _ => C k) = 0 := by
  obtain ⟨h1, -, h2, h3⟩ := checkF_ok h
  have hc := h3 k hk
  exact check1_of h1 h2 ⟨hc.id, hc.fr, hc.to, hc.sz, hc.ne⟩
theorem dist_symm {n : Nat} {T : Nat → Tr} {U : Nat → Bool} {a b : Int} (hT : ∀ i, i < n → (T i).ok) (ha : 0 ≤ a ∧ a ≤ 255) (hb : 0 ≤ b ∧ b ≤ 255) : distF n T U a b = distF n T U b a := by
  have hA := distF_is (U := U) (to := a) hT
  have hB := distF_is (U := U) (to := b) hT
  have la := hA.low b hb.1 hb.2
  have lb := hB.low a ha.1 ha.2
  by_cases h1 : 0 ≤ distF n T U a b
  · obtain ⟨p, hp⟩ := hA.walk b hb.1 hb.2 h1
    obtain ⟨q, hq⟩ := hp.back
    have h2 := hB.least _ _ _ hq
    obtain ⟨p2, hp2⟩ := hB.walk a ha.1 ha.2 h2.1
    obtain ⟨q2, hq2⟩ := hp2.back
    have h3 := hA.least _ _ _ hq2
    omega
  · by_cases h2 : 0 ≤ distF n T U b a
    · obtain ⟨p2, hp2⟩ := hB.walk a ha.1 ha.2 h2
      obtain ⟨q2, hq2⟩ := hp2.back
      have h3 := hA.least _ _ _ hq2
      omega
    · omega
theorem Wk.other {n : Nat} {T T' : Nat → Tr} {U U' : Nat → Bool} {to : Int} (h1 : ∀ i, i < n → (T' i).A = (T i).A ∧ (T' i).B = (T i).B ∧ (T' i).L = (T i).L) (hU : ∀ i, i < n → U i = true → U' i = true) {v : Int} {p : List Nat} {l : Int} (h : Wk n T U to v p l) : Wk n T' U' to v p l := by
  induction h with
  | nil => exact .nil
  | @cons v w i p l hi hu hg _ ih =>
    obtain ⟨a, b, c⟩ := h1 i hi
    rw [← c]
    refine .cons hi (hU i hi hu) ?_ ih
    unfold Goes at hg ⊢
    rw [a, b]
    exact hg
theorem dist_more {n : Nat} {T T' : Nat → Tr} {U U' : Nat → Bool} {to : Int} (hT : ∀ i, i < n → (T i).ok) (hT' : ∀ i, i < n → (T' i).ok) (h1 : ∀ i, i < n → (T' i).A = (T i).A ∧ (T' i).B = (T i).B ∧ (T' i).L = (T i).L) (hU : ∀ i, i < n → U i = true → U' i = true) {v : Int} (hv : 0 ≤ v ∧ v ≤ 255) (hd : 0 ≤ distF n T U to v) :
    0 ≤ distF n T' U' to v ∧ distF n T' U' to v ≤ distF n T U to v := by
  obtain ⟨p, hp⟩ := (distF_is (U := U) (to := to) hT).walk v hv.1 hv.2 hd
  exact (distF_is (U := U') (to := to) hT').least _ _ _ (hp.other h1 hU)
theorem route0 {n : Nat} {T : Nat → Tr} {c : Cb} (h : checkF n T 1 (fun _ => c) = 0) : routeErr n T n (fun _ => 0) c = (if distF n T (usU T (fun _ => 0) c) c.to c.fr < 0 then 8 else 0) ∧ routeD n T n (fun _ => 0) c = (if distF n T (usU T (fun _ => 0) c) c.to c.fr < 0 then 0 else distF n T (usU T (fun _ => 0) c) c.to c.fr) := by
  have h1 := routeErr_4 (F := fun _ => 0) h (fun i _ => by decide)
  refine ⟨h1, ?_⟩
  unfold routeD
  rw [h1]
  by_cases hd : distF n T (usU T (fun _ => 0) c) c.to c.fr < 0
  · rw [if_pos hd, if_pos hd, if_neg (by decide)]
  · rw [if_neg hd, if_neg hd, if_pos rfl]
def wideT (T : Nat → Tr) (nb : Nat) (fb : Nat → Int) (i : Nat) : Tr := if i < nb then ⟨(T i).A, (T i).B, (T i).L, if (T i).S + fb i < 1000000 then (T i).S + fb i else 1000000⟩ else T i
theorem wide_ok {n nb : Nat} {T : Nat → Tr} {fb : Nat → Int} (hT : ∀ i, i < n → (T i).ok) (hb : ∀ i, i < nb → 0 ≤ fb i ∧ fb i ≤ 255) {i : Nat} (hi : i < n) : (wideT T nb fb i).ok ∧ ((wideT T nb fb i).A = (T i).A ∧ (wideT T nb fb i).B = (T i).B ∧ (wideT T nb fb i).L = (T i).L) ∧ (T i).S ≤ (wideT T nb fb i).S := by
  have hok := hT i hi
  unfold wideT
  by_cases h : i < nb
  · rw [if_pos h]
    have hfb := hb i h
    unfold Tr.ok at hok ⊢
    dsimp only
    refine ⟨⟨by omega, by omega, by omega, by omega, by omega, by omega, ?_, ?_, by omega⟩, ⟨rfl, rfl, rfl⟩, ?_⟩ <;> split <;> omega
  · rw [if_neg h]
    exact ⟨hok, ⟨rfl, rfl, rfl⟩, Int.le_refl _⟩
/-- what CableBack says of the three routes -/
theorem back_all {n nb : Nat} {T : Nat → Tr} {fb : Nat → Int} {ci : ByteArray} {cf ct cs : Int} (h : checkF n T 1 (fun _ => ⟨ci, cf, ct, cs⟩) = 0) (hb : ∀ i, i < nb → 0 ≤ fb i ∧ fb i ≤ 255) :
    routeErr n T n (fun _ => 0) ⟨ci, ct, cf, cs⟩ = routeErr n T n (fun _ => 0) ⟨ci, cf, ct, cs⟩ ∧ routeD n T n (fun _ => 0) ⟨ci, ct, cf, cs⟩ = routeD n T n (fun _ => 0) ⟨ci, cf, ct, cs⟩ ∧
    (routeErr n T n (fun _ => 0) ⟨ci, cf, ct, cs⟩ = 0 → routeErr n (wideT T nb fb) n (fun _ => 0) ⟨ci, cf, ct, cs⟩ = 0 ∧ routeD n (wideT T nb fb) n (fun _ => 0) ⟨ci, cf, ct, cs⟩ ≤ routeD n T n (fun _ => 0) ⟨ci, cf, ct, cs⟩) ∧
    (routeErr n (wideT T nb fb) n (fun _ => 0) ⟨ci, cf, ct, cs⟩ = 0 ∨ routeErr n (wideT T nb fb) n (fun _ => 0) ⟨ci, cf, ct, cs⟩ = 8) ∧ (routeErr n T n (fun _ => 0) ⟨ci, cf, ct, cs⟩ = 0 ∨ routeErr n T n (fun _ => 0) ⟨ci, cf, ct, cs⟩ = 8) := by
  obtain ⟨hn, hT, hc⟩ := check1_ok h
  have c2 : checkF n T 1 (fun _ => ⟨ci, ct, cf, cs⟩) = 0 := check1_of hn hT ⟨hc.id, hc.to, hc.fr, hc.sz, fun e => hc.ne e.symm⟩
  have hT' : ∀ i, i < n → (wideT T nb fb i).ok := fun i hi => (wide_ok hT hb hi).1
  have c3 : checkF n (wideT T nb fb) 1 (fun _ => ⟨ci, cf, ct, cs⟩) = 0 := check1_of hn hT' hc
  obtain ⟨e1, d1⟩ := route0 h
  obtain ⟨e2, d2⟩ := route0 c2
  obtain ⟨e3, d3⟩ := route0 c3
  have hsym : distF n T (usU T (fun _ => 0) ⟨ci, ct, cf, cs⟩) cf ct = distF n T (usU T (fun _ => 0) ⟨ci, cf, ct, cs⟩) ct cf := dist_symm hT hc.fr hc.to
  dsimp only at e1 d1 e2 d2 e3 d3
  rw [hsym] at e2 d2
  rw [e1, d1, e2, d2, e3, d3]
  refine ⟨rfl, rfl, fun h0 => ?_, by split <;> simp, by split <;> simp⟩
  have hd : 0 ≤ distF n T (usU T (fun _ => 0) ⟨ci, cf, ct, cs⟩) ct cf := by
    split at h0
    · omega
    · omega
  have hm := dist_more (U' := usU (wideT T nb fb) (fun _ => 0) ⟨ci, cf, ct, cs⟩) (to := ct) hT hT' (fun i hi => (wide_ok hT hb hi).2.1) (fun i hi hu => by
    unfold usU at hu ⊢
    have h2 := of_decide_eq_true hu
    have h3 := (wide_ok hT hb hi).2.2
    exact decide_eq_true (by dsimp only at h2 ⊢; omega)) hc.fr hd
  dsimp only at hm
  rw [if_neg (by omega), if_neg (by omega), if_neg (by omega)]
  exact ⟨rfl, hm.2⟩
/-- rows of trays, as values -/
def flT (T : Nat → Tr) : Nat → List Value
  | 0 => []
  | j + 1 => flT T j ++ [.int .i64 (T j).A, .int .i64 (T j).B, .int .i64 (T j).L, .int .i64 (T j).S]
theorem flT_len (T : Nat → Tr) : ∀ n, (flT T n).length = n * 4
  | 0 => rfl
  | n + 1 => by rw [flT, List.length_append, flT_len T n]; simp; omega
theorem flT_at (T : Nat → Tr) : ∀ {n i j : Nat}, i < n → j < 4 → (flT T n)[i * 4 + j]? = some (trV (T i) j)
  | n + 1, i, j, hi, hj => by
    rw [flT]
    by_cases e : i = n
    · subst e
      rw [List.getElem?_append_right (by rw [flT_len]; omega), flT_len, show i * 4 + j - i * 4 = j by omega]
      match j, hj with
      | 0, _ => rfl
      | 1, _ => rfl
      | 2, _ => rfl
      | 3, _ => rfl
    · rw [List.getElem?_append_left (by rw [flT_len]; omega)]
      exact flT_at T (by omega) hj
theorem owns_T {w : World} {B : Nat} {t : TypeId} {v : Value} {n : Nat} {T : Nat → Tr} (h : w.ownsRow B t 4 v n (flT T n)) : TraysAt w v n T := owns_slice h _ (by decide) (fun i j hi hj => flT_at T hi hj)
theorem info_tray : (Tryd.prog.info? 28).map (fun i => (i.zero, i.size, i.bytes)) = some (some (.agg #[.int .i64 0, .int .i64 0, .int .i64 0, .int .i64 0]), 4, 32) := by kernel_rfl
theorem BytesAt.form {w : World} {v : Value} {n : Nat} {f : Nat → Int} (h : BytesAt w v n f) : ∃ (oa : Option Addr) (cap : Nat), v = .slice oa n cap ∧ n ≤ 9223372036854775807 ∧
    ∀ i, i < n → ∃ b off, oa = some ⟨b, off, none⟩ ∧ b < w.heap.size ∧ ∀ k, k < n → w.cell? ⟨b, off + k, none⟩ = some (.int .u8 (f k)) := by
  obtain ⟨⟨oa, cap, h1, h2, h3, h4⟩, -⟩ := h
  refine ⟨oa, cap, h1, by omega, fun i hi => ?_⟩
  obtain ⟨b, off, e, hlt, hc⟩ := h4 (by omega)
  exact ⟨b, off, e, hlt, fun k hk => by have := hc k 0 hk (by decide); simpa using this⟩
def mn3 (x y : Int) : Int := if y < x then y else x
theorem run_mn3 (ts : Array TypeId) (t : TypeId) (x y : Int) (w : World) : (Builtin.min_ ts t #[.int .i64 x, .int .i64 y]).run Tryd.prog w = .ok (.int .i64 (mn3 x y)) w := by
  simp [go_sem, mn3]
  split <;> omega
end Go.Proofs.YtpkgadjglidnaaaDoor
