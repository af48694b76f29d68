/-
  Plain laws of CableFits and CableShortest: a shortest way is a way; its length is its sum; what Lay uses fits. Conditions: none. By an AI agent.
-/
import Derived.Test.YtpkgadjglidnaaaDoorCabR
import Derived.Test.YtpkgadjglidnaaaDoorCabI
import Derived.Test.YtpkgadjglidnaaaDoorCabW
namespace Go.Proofs.YtpkgadjglidnaaaDoor
open Go Go.ChangeShapes Go.WideShapes Go.RowKit Go.ChangeAt
set_option linter.unusedVariables false
set_option linter.unusedSimpArgs false
theorem drop_cons {p : List Nat} {k : Nat} (h : k < p.length) : p.drop k = p.getD k 0 :: p.drop (k + 1) := by
  rw [List.drop_eq_getElem_cons h, List.getD_eq_getElem?_getD, List.getElem?_eq_getElem h]
  rfl
theorem pathF_toNat (p : List Nat) (k : Nat) : (pathF p k).toNat = p.getD k 0 := by simp [pathF]
theorem nodup_getD {p : List Nat} (h : p.Nodup) {q k : Nat} (hq : q < k) (hk : k < p.length) : p.getD q 0 ≠ p.getD k 0 := by
  rw [List.getD_eq_getElem?_getD, List.getElem?_eq_getElem (by omega : q < p.length), List.getD_eq_getElem?_getD, List.getElem?_eq_getElem hk]
  intro e
  have h2 := (List.nodup_iff_pairwise_ne.1 h)
  rw [List.pairwise_iff_getElem] at h2
  exact h2 q k (by omega) hk hq e
theorem way_of {n : Nat} {T : Nat → Tr} {U : Nat → Bool} {to v l : Int} {p : List Nat} (hT : ∀ i, i < n → (T i).ok) (hw : Wk n T U to v p l) (hnd : p.Nodup) : ∀ {k : Nat}, k ≤ p.length → (wayA T v (pathF p) k).2 = true ∧ ∃ l', Wk n T U to (wayA T v (pathF p) k).1 (p.drop k) l'
  | 0, _ => ⟨rfl, l, by rw [List.drop_zero]; exact hw⟩
  | k + 1, hk => by
    obtain ⟨h1, l', h2⟩ := way_of hT hw hnd (k := k) (by omega)
    rw [drop_cons (by omega : k < p.length)] at h2
    generalize hz : p.getD k 0 = z at h2
    cases h2 with
    | @cons _ w _ _ l2 hi hu hg hr =>
      obtain ⟨g1, g2⟩ := (oth_goes (hT _ hi).2.2.2.2.2.2.2.2).1 hg
      rw [wayA_step, pathF_toNat, hz]
      refine ⟨?_, l2, ?_⟩
      · dsimp only
        rw [h1, g1, allTo_iff.2 fun q hq => decide_eq_true (by unfold pathF; have := nodup_getD hnd hq (by omega : k < p.length); omega)]
        rfl
      · dsimp only
        rw [g2]; exact hr
theorem isWay_of {n : Nat} {T : Nat → Tr} {U : Nat → Bool} {to v l : Int} {p : List Nat} (hT : ∀ i, i < n → (T i).ok) (hw : Wk n T U to v p l) (hnd : p.Nodup) : isWayB T v to (pathF p) p.length = true := by
  obtain ⟨h1, l', h2⟩ := way_of hT hw hnd (Nat.le_refl _)
  rw [List.drop_length] at h2
  unfold isWayB
  rw [h1]
  generalize hz : (wayA T v (pathF p) p.length).1 = z at h2 ⊢
  cases h2 with
  | nil => simp
theorem sumF_congr {T : Nat → Tr} {f g : Nat → Int} : ∀ {k : Nat}, (∀ q, q < k → f q = g q) → sumF T f k = sumF T g k
  | 0, _ => rfl
  | k + 1, h => by
    unfold sumF
    rw [sumF_congr fun q hq => h q (by omega), h k (by omega)]
theorem sumF_cons {T : Nat → Tr} {f : Nat → Int} : ∀ {k : Nat}, sumF T f (k + 1) = (T (f 0).toNat).L + sumF T (fun q => f (q + 1)) k
  | 0 => by simp [sumF]
  | k + 1 => by
    rw [show sumF T f (k + 1 + 1) = sumF T f (k + 1) + (T (f (k + 1)).toNat).L from rfl, sumF_cons (k := k), show sumF T (fun q => f (q + 1)) (k + 1) = sumF T (fun q => f (q + 1)) k + (T (f (k + 1)).toNat).L from rfl]
    omega
theorem sum_wk {n : Nat} {T : Nat → Tr} {U : Nat → Bool} {to v l : Int} {p : List Nat} (hw : Wk n T U to v p l) : sumF T (pathF p) p.length = l := by
  induction hw with
  | nil => rfl
  | @cons v w i p l hi hu hg _ ih =>
    rw [List.length_cons, sumF_cons, ← ih]
    congr 1
theorem wk_use {n : Nat} {T : Nat → Tr} {U : Nat → Bool} {to v l : Int} {p : List Nat} (hw : Wk n T U to v p l) : ∀ i, i ∈ p → i < n ∧ U i = true := by
  induction hw with
  | nil => intro i hi; cases hi
  | @cons v w j p l hj hu hg _ ih =>
    intro i hi
    rcases List.mem_cons.1 hi with rfl | hi
    · exact ⟨hj, hu⟩
    · exact ih i hi
/-- a way through usable trays is a walk -/
theorem wk_of {n : Nat} {T : Nat → Tr} {U : Nat → Bool} {to fr : Int} {f : Nat → Int} {ln : Nat} (hT : ∀ i, i < n → (T i).ok) (h : isWayB T fr to f ln = true) (hix : ∀ q, q < ln → 0 ≤ f q ∧ f q < n) (hU : ∀ q, q < ln → U (f q).toNat = true) : Wk n T U to fr (trL f ln) (sumF T f ln) := by
  unfold isWayB at h
  simp only [Bool.and_eq_true, decide_eq_true_eq] at h
  have key : ∀ d k, k + d = ln → Wk n T U to (wayA T fr f k).1 ((trL f ln).drop k) (sumF T f ln - sumF T f k) := by
    intro d
    induction d with
    | zero =>
      intro k hk
      obtain rfl : k = ln := by omega
      rw [List.drop_of_length_le (by rw [trL_len]; omega), h.2, show sumF T f k - sumF T f k = 0 by omega]
      exact .nil
    | succ d ih =>
      intro k hk
      have h1 := ih (k + 1) (by omega)
      have hkl : k < ln := by omega
      have hx := hix k hkl
      have hok : (wayA T fr f (k + 1)).2 = true := by
        cases e : (wayA T fr f (k + 1)).2 with
        | true => rfl
        | false => rw [wayA_no e (m := ln) (by omega)] at h; cases h.1
      rw [wayA_step] at hok
      simp only [Bool.and_eq_true] at hok
      rw [drop_cons (by rw [trL_len]; omega), trL_at hkl]
      have hg : Goes (T (f k).toNat) (wayA T fr f k).1 (wayA T fr f (k + 1)).1 := (oth_goes (hT _ (by omega)).2.2.2.2.2.2.2.2).2 ⟨hok.1.2, rfl⟩
      have := Wk.cons (n := n) (T := T) (U := U) (to := to) (i := (f k).toNat) (by omega) (hU k hkl) hg h1
      have e : (T (f k).toNat).L + (sumF T f ln - sumF T f (k + 1)) = sumF T f ln - sumF T f k := by
        rw [show sumF T f (k + 1) = sumF T f k + (T (f k).toNat).L from rfl]
        omega
      rwa [e] at this
  have := key ln 0 (by omega)
  simpa [wayA, sumF] using this
theorem trL_path (p : List Nat) : trL (pathF p) p.length = p := by
  apply List.ext_getElem?
  intro i
  by_cases h : i < p.length
  · have h1 := trL_at (g := pathF p) h
    rw [pathF_toNat, List.getD_eq_getElem?_getD, List.getElem?_eq_getElem (by rw [trL_len]; exact h), List.getD_eq_getElem?_getD, List.getElem?_eq_getElem h] at h1
    rw [List.getElem?_eq_getElem (by rw [trL_len]; exact h), List.getElem?_eq_getElem h]
    simpa using h1
  · rw [List.getElem?_eq_none (by rw [trL_len]; omega), List.getElem?_eq_none (by omega)]
/-- what is known of a route -/
theorem route_facts {n nu : Nat} {T : Nat → Tr} {F : Nat → Int} {c : Cb} (h : routeErr n T nu F c = 0) : Wk n T (usU T F c) c.to c.fr (routeP n T nu F c) (routeD n T nu F c) ∧ (routeP n T nu F c).Nodup ∧ isWayB T c.fr c.to (pathF (routeP n T nu F c)) (routeP n T nu F c).length = true ∧
    sumF T (pathF (routeP n T nu F c)) (routeP n T nu F c).length = routeD n T nu F c ∧ idxB n (pathF (routeP n T nu F c)) (routeP n T nu F c).length = true := by
  obtain ⟨h1, -, -, h4⟩ := routeErr_ok h
  obtain ⟨-, hT, hc⟩ := check1_ok h1
  have hg := routeP_gr h
  have hD := distF_is (U := usU T F c) (to := c.to) hT
  have hw := hg.wk hT (hD.zero hT)
  rw [show distF n T (usU T F c) c.to c.fr = routeD n T nu F c from (if_pos h).symm] at hw
  have hnd := hg.nodup hT
  refine ⟨hw, hnd, isWay_of hT hw hnd, sum_wk hw, allTo_iff.2 fun q hq => decide_eq_true ?_⟩
  have := (wk_use hw ((routeP n T nu F c).getD q 0) (by rw [List.getD_eq_getElem?_getD, List.getElem?_eq_getElem hq]; exact List.getElem_mem hq)).1
  unfold pathF
  omega
theorem lay_usd {n : Nat} {T : Nat → Tr} {C : Nat → Cb} : ∀ k, usdU C (fun k => (layP n T C k).length) (fun k => pathF (layP n T C k)) k = layU n T C k
  | 0 => rfl
  | k + 1 => by rw [usdU_succ, lay_usd k, layU_succ, trL_path]
theorem layU_fit {n m : Nat} {T : Nat → Tr} {C : Nat → Cb} (hT : ∀ i, i < n → (T i).ok) (hC : ∀ i, i < m → CbOk C i) : ∀ {k : Nat}, k ≤ m → (∀ q, q < k → layR n T C q = 0) → ∀ i, i < n → 0 ≤ layU n T C k i ∧ layU n T C k i ≤ (T i).S
  | 0, _, _, i, hi => by have := (hT i hi).2.2.2.2.2.2.1; exact ⟨Int.le_refl _, this⟩
  | k + 1, hk, h, i, hi => by
    have ih := layU_fit hT hC (k := k) (by omega) (fun q hq => h q (by omega)) i hi
    have hsz := (hC k (by omega)).sz
    obtain ⟨hw, hnd, -, -, -⟩ := route_facts (h k (by omega))
    rw [layU_succ]
    have hnd : (layP n T C k).Nodup := hnd
    have hb := addQ_nodup (F := layU n T C k) (sz := (C k).sz) (q := (layP n T C k).length) (i := i) (by omega) hnd
    by_cases hi2 : i ∈ layP n T C k
    · have hu := (wk_use hw i hi2).2
      unfold usU at hu
      have := of_decide_eq_true hu
      exact ⟨by omega, by omega⟩
    · have h0 : (layP n T C k).count i = 0 := List.count_eq_zero.2 hi2
      unfold addQ
      rw [List.take_length, h0]
      simp
      exact ih
theorem fits_all {n m : Nat} {T : Nat → Tr} {C : Nat → Cb} (h : layErr n T m C = 0) : usedErr n T m C m (fun k => (layP n T C k).length) (fun k => pathF (layP n T C k)) = 0 ∧
    (∀ i, i < n → 0 ≤ usdU C (fun k => (layP n T C k).length) (fun k => pathF (layP n T C k)) m i ∧ usdU C (fun k => (layP n T C k).length) (fun k => pathF (layP n T C k)) m i ≤ (T i).S) ∧
    ∀ k, k < m → routeErr n T n (fun _ => 0) (C k) = 0 ∧ routeD n T n (fun _ => 0) (C k) ≤ sumF T (pathF (layP n T C k)) (layP n T C k).length ∧ idxB n (pathF (layP n T C k)) (layP n T C k).length = true ∧ (layP n T C k).length ≤ 255000000 := by
  have hc : checkF n T m C = 0 := by
    unfold layErr at h
    split at h
    · rename_i h1; exact absurd h h1
    · rename_i h1; simpa using h1
  have hl : firstE (layR n T C) m = 0 := by
    unfold layErr at h
    rw [if_neg (by simpa using hc)] at h
    exact h
  obtain ⟨hn, hm, hT, hC⟩ := checkF_ok hc
  have hR := firstE_zero hl
  have hfit := layU_fit hT hC (Nat.le_refl m) hR
  refine ⟨?_, fun i hi => by rw [lay_usd]; exact hfit i hi, fun k hk => ?_⟩
  · rw [usedErr_ok hc]
    have hp : firstE (pathE n T C (fun k => (layP n T C k).length) (fun k => pathF (layP n T C k))) m = 0 := firstE_all fun k hk => by
      obtain ⟨-, -, hw, -, hx⟩ := route_facts (hR k hk)
      rw [pathE_w fun q hq => by have := idxB_ix hx q hq; exact inB_yes (by exact this.1) (by have := this.2; unfold layP at *; omega), if_neg]
      have hw : isWayB T (C k).fr (C k).to (pathF (layP n T C k)) (layP n T C k).length = true := hw
      simp only [hw]; decide
    rw [hp, if_neg (by decide), lay_usd, allTo_iff.2 fun i hi => decide_eq_true (hfit i hi).2]
    rfl
  · obtain ⟨hw, -, -, hs, hx⟩ := route_facts (hR k hk)
    obtain ⟨-, -, -, hd0⟩ := routeErr_ok (hR k hk)
    have hc1 := check1_c hc hk
    have hcb := (check1_ok hc1).2.2
    obtain ⟨e0, d0⟩ := route0 hc1
    have hfk := layU_fit hT hC (k := k) (by omega) (fun q hq => hR q (by omega))
    have hm := dist_more (T' := T) (U' := usU T (fun _ => 0) (C k)) (to := (C k).to) hT hT (fun i hi => ⟨rfl, rfl, rfl⟩) (fun i hi hu => by
      unfold usU at hu ⊢
      have h2 := of_decide_eq_true hu
      have h3 := (hfk i hi).1
      exact decide_eq_true (by dsimp only; omega)) hcb.fr hd0
    have e1 : routeD n T n (layU n T C k) (C k) = distF n T (usU T (layU n T C k) (C k)) (C k).to (C k).fr := if_pos (hR k hk)
    rw [if_neg (by omega)] at e0 d0
    refine ⟨e0, ?_, hx, routeP_len (hR k hk)⟩
    have hs : sumF T (pathF (layP n T C k)) (layP n T C k).length = routeD n T n (layU n T C k) (C k) := hs
    rw [hs, d0, e1]
    exact hm.2
/-- what CableShortest says -/
theorem shortest {n : Nat} {T : Nat → Tr} {c : Cb} {f : Nat → Int} {ln : Nat} (hc : checkF n T 1 (fun _ => c) = 0) (hw : isWayB T c.fr c.to f ln = true) (hix : ∀ q, q < ln → 0 ≤ f q ∧ f q < n) (hU : ∀ q, q < ln → c.sz ≤ (T (f q).toNat).S) :
    routeErr n T n (fun _ => 0) c = 0 ∧ routeD n T n (fun _ => 0) c ≤ sumF T f ln ∧
    (sumF T f ln ≤ routeD n T n (fun _ => 0) c → ((routeP n T n (fun _ => 0) c).length = ln ∧ (∀ q, q < ln → pathF (routeP n T n (fun _ => 0) c) q = f q)) ∨
      ∃ k, k < (routeP n T n (fun _ => 0) c).length ∧ k < ln ∧ pathF (routeP n T n (fun _ => 0) c) k < f k ∧ ∀ q, q < k → pathF (routeP n T n (fun _ => 0) c) q = f q) := by
  obtain ⟨-, hT, hcb⟩ := check1_ok hc
  have hwk := wk_of (U := usU T (fun _ => 0) c) hT hw hix (fun q hq => by unfold usU; exact decide_eq_true (by have := hU q hq; dsimp only; omega))
  have hD := distF_is (U := usU T (fun _ => 0) c) (to := c.to) hT
  have hl := hD.least _ _ _ hwk
  obtain ⟨e0, d0⟩ := route0 hc
  rw [if_neg (by omega)] at e0 d0
  refine ⟨e0, by rw [d0]; exact hl.2, fun hle => ?_⟩
  rw [d0] at hle
  have heq : sumF T f ln = distF n T (usU T (fun _ => 0) c) c.to c.fr := by omega
  rw [heq] at hwk
  rcases gr_first hT hD (routeP_gr e0) hwk with h1 | ⟨k, k1, k2, k3, k4⟩
  · refine .inl ⟨by rw [h1, trL_len], fun q hq => ?_⟩
    rw [h1]
    unfold pathF
    rw [trL_at hq]
    have := hix q hq
    omega
  · rw [trL_len] at k2
    refine .inr ⟨k, k1, k2, ?_, fun q hq => ?_⟩
    · unfold pathF
      rw [trL_at k2] at k3
      have := hix k k2
      omega
    · unfold pathF
      rw [k4 q hq, trL_at (by omega)]
      have := hix q (by omega)
      omega
end Go.Proofs.YtpkgadjglidnaaaDoor
