/-
  What Lay returns (plain); lists of paths in memory. Conditions: as stated. By an AI agent.
-/
import Derived.Test.YtpkgadjglidnaaaDoorCabF
namespace Go.Proofs.YtpkgadjglidnaaaDoor
open Go Go.ChangeShapes Go.WideShapes Go.RowKit Go.ChangeAt
set_option linter.unusedVariables false
set_option linter.unusedSimpArgs false

theorem Gr.len {n : Nat} {T : Nat → Tr} {U : Nat → Bool} {to : Int} (hT : ∀ i, i < n → (T i).ok) {D : Int → Int} (h0 : D to = 0) {v : Int} {p : List Nat} (h : Gr n T U D to v p) : (p.length : Int) ≤ D v := by
  induction h with
  | nil => rw [h0]; simp
  | @cons v w i p hne hs _ _ ih =>
    have hok := hT i hs.1
    unfold Tr.ok at hok
    have := hs.2.2.2.2
    simp
    omega
theorem routeErr_ok {n nu : Nat} {T : Nat → Tr} {F : Nat → Int} {c : Cb} (h : routeErr n T nu F c = 0) : checkF n T 1 (fun _ => c) = 0 ∧ nu = n ∧ (∀ i, i < n → inB (F i) 0 1000000 = true) ∧ 0 ≤ distF n T (usU T F c) c.to c.fr := by
  by_cases h1 : checkF n T 1 (fun _ => c) = 0
  · by_cases h2 : nu = n
    · subst h2
      by_cases h3 : ∀ i, i < nu → inB (F i) 0 1000000 = true
      · refine ⟨h1, rfl, h3, ?_⟩
        rw [routeErr_4 h1 h3] at h
        split at h
        · omega
        · omega
      · exfalso
        simp only [Classical.not_forall] at h3
        obtain ⟨i, hi, hb⟩ := h3
        rw [routeErr_3 h1 hi (by simpa using hb)] at h
        omega
    · rw [routeErr_2 h1 h2] at h
      omega
  · rw [routeErr_1 h1] at h
    exact absurd h h1
theorem routeP_gr {n nu : Nat} {T : Nat → Tr} {F : Nat → Int} {c : Cb} (h : routeErr n T nu F c = 0) : Gr n T (usU T F c) (distF n T (usU T F c) c.to) c.to c.fr (routeP n T nu F c) := by
  obtain ⟨h1, -, -, h4⟩ := routeErr_ok h
  obtain ⟨-, hT, hc⟩ := check1_ok h1
  unfold routeP
  rw [if_pos h]
  exact routeL_gr hT hc.fr h4
theorem routeP_lt {n nu : Nat} {T : Nat → Tr} {F : Nat → Int} {c : Cb} (h : routeErr n T nu F c = 0) : ∀ i, i ∈ routeP n T nu F c → i < n := fun i hi => by
  obtain ⟨h1, -, -, h4⟩ := routeErr_ok h
  obtain ⟨x, y, hs, -⟩ := (routeP_gr h).dist_le (check1_ok h1).2.1 i hi
  exact hs.1
theorem routeP_len {n nu : Nat} {T : Nat → Tr} {F : Nat → Int} {c : Cb} (h : routeErr n T nu F c = 0) : (routeP n T nu F c).length ≤ 255000000 := by
  obtain ⟨h1, -, -, h4⟩ := routeErr_ok h
  obtain ⟨-, hT, hc⟩ := check1_ok h1
  have hD := distF_is (U := usU T F c) (to := c.to) hT
  have h2 := (routeP_gr h).len hT (hD.zero hT)
  have h3 := dist_bound hT hD (v := c.fr) hc.fr
  omega
/-- the numbers when the first q trays of a path have been added -/
def addQ (F : Nat → Int) (P : List Nat) (sz : Int) (q : Nat) (i : Nat) : Int := F i + sz * (((P.take q).count i : Nat) : Int)
theorem addQ_0 (F : Nat → Int) (P : List Nat) (sz : Int) : addQ F P sz 0 = F := by
  funext i
  simp [addQ]
theorem addQ_step {F : Nat → Int} {P : List Nat} {sz : Int} {q : Nat} (h : q < P.length) : updN (addQ F P sz q) (P.getD q 0) (addQ F P sz q (P.getD q 0) + sz) = addQ F P sz (q + 1) := by
  funext i
  have e : P.take (q + 1) = P.take q ++ [P.getD q 0] := by
    rw [List.take_add_one, List.getElem?_eq_getElem h, List.getD_eq_getElem?_getD, List.getElem?_eq_getElem h]
    rfl
  by_cases hi : i = P.getD q 0
  · rw [hi, updN_same]
    unfold addQ
    rw [e, List.count_append, List.count_singleton_self, Int.natCast_add, Int.mul_add]
    simp
    omega
  · rw [updN_other hi]
    unfold addQ
    have hz : [P.getD q 0].count i = 0 := List.count_eq_zero.2 (by simpa using hi)
    rw [e, List.count_append, hz]
    rfl
theorem addQ_bd {F : Nat → Int} {P : List Nat} {sz : Int} {q i : Nat} (h0 : 0 ≤ F i ∧ F i ≤ 1000000) (hs : 0 ≤ sz ∧ sz ≤ 1000000) (hl : P.length ≤ 255000000) : 0 ≤ addQ F P sz q i ∧ addQ F P sz q i ≤ 255000001000000 := by
  have hc : (P.take q).count i ≤ 255000000 := Nat.le_trans List.count_le_length (by rw [List.length_take]; omega)
  unfold addQ
  have h1 : 0 ≤ sz * (((P.take q).count i : Nat) : Int) := Int.mul_nonneg hs.1 (by omega)
  have h2 : sz * (((P.take q).count i : Nat) : Int) ≤ 1000000 * 255000000 := Int.mul_le_mul hs.2 (by omega) (by omega) (by omega)
  omega
noncomputable def layU (n : Nat) (T : Nat → Tr) (C : Nat → Cb) : Nat → Nat → Int
  | 0 => fun _ => 0
  | k + 1 => addQ (layU n T C k) (routeP n T n (layU n T C k) (C k)) (C k).sz (routeP n T n (layU n T C k) (C k)).length
noncomputable def layP (n : Nat) (T : Nat → Tr) (C : Nat → Cb) (k : Nat) : List Nat := routeP n T n (layU n T C k) (C k)
noncomputable def layR (n : Nat) (T : Nat → Tr) (C : Nat → Cb) (k : Nat) : Int := routeErr n T n (layU n T C k) (C k)
noncomputable def layErr (n : Nat) (T : Nat → Tr) (m : Nat) (C : Nat → Cb) : Int := if checkF n T m C ≠ 0 then checkF n T m C else firstE (layR n T C) m
def okN (e : Int) (m : Nat) : Nat := if e = 0 then m else 0
theorem okN_no {e : Int} {m : Nat} (h : e ≠ 0) : okN e m = 0 := if_neg h
theorem layU_succ (n : Nat) (T : Nat → Tr) (C : Nat → Cb) (k : Nat) : layU n T C (k + 1) = addQ (layU n T C k) (layP n T C k) (C k).sz (layP n T C k).length := rfl
theorem ints_of {W : World} {b n : Nat} {F : Nat → Int} {t : TypeId} (h : W.heap[b]? = some (.cells (arrI n F) t)) (hn : n ≤ 9223372036854775807) : IntsAt W (.slice (some ⟨b, 0, none⟩) n n) n F :=
  ⟨some ⟨b, 0, none⟩, n, rfl, Nat.le_refl _, hn, fun _ => ⟨b, 0, rfl, (Array.getElem?_eq_some_iff.1 h).1, fun i j hi hj => by
    obtain rfl : j = 0 := by omega
    have := arr_cell h hi
    simpa using this⟩⟩
/-- paths in memory -/
def PathsAt (w : World) (v : Value) (m : Nat) (P : Nat → List Nat) : Prop := ∃ pv : Nat → Value, SliceAt w v m 1 (fun k _ => pv k) ∧ ∀ k, k < m → PathAt w (pv k) (P k)
theorem PathsAt.below {w w' : World} {v : Value} {m : Nat} {P : Nat → List Nat} (h : PathsAt w v m P) (hb : Below w.heap.size w w') : PathsAt w' v m P := by
  obtain ⟨pv, h1, h2⟩ := h
  exact ⟨pv, SliceAt.below h1 hb, fun k hk => (h2 k hk).below hb⟩
theorem paths_nil (w : World) (P : Nat → List Nat) : PathsAt w (.slice none 0 0) 0 P := ⟨fun _ => .slice none 0 0, ⟨none, 0, rfl, by omega, by omega, fun h => by omega⟩, fun k hk => by omega⟩
theorem SliceAt.keptB {w w' : World} {v : Value} {n s : Nat} {f : Nat → Nat → Value} (h : SliceAt w v n s f) (hs : w.heap.size ≤ w'.heap.size) (hh : ∀ g, v.ownBlock = some g → w'.heap[g]? = w.heap[g]?) : SliceAt w' v n s f := by
  obtain ⟨oa, cap, rfl, h2, h3, h4⟩ := h
  refine ⟨oa, cap, rfl, h2, h3, fun h0 => ?_⟩
  obtain ⟨b, off, rfl, hlt, hc⟩ := h4 h0
  refine ⟨b, off, rfl, by omega, fun i j hi hj => ?_⟩
  rw [← hc i j hi hj]
  unfold World.cell?
  rw [hh b rfl]
theorem PathAt.kept {w w' : World} {v : Value} {xs : List Nat} (h : PathAt w v xs) (hs : w.heap.size ≤ w'.heap.size) (hh : ∀ g, v.ownBlock = some g → w'.heap[g]? = w.heap[g]?) : PathAt w' v xs := SliceAt.keptB h hs hh
theorem PathAt.own_lt {w : World} {v : Value} {xs : List Nat} (h : PathAt w v xs) (h0 : xs ≠ []) {g : Nat} (hg : v.ownBlock = some g) : g < w.heap.size := by
  obtain ⟨oa, cap, rfl, h2, h3, h4⟩ := h
  obtain ⟨b, off, rfl, hlt, -⟩ := h4 (List.length_pos_iff.2 h0)
  have : b = g := by simpa [Value.ownBlock] using hg
  omega
theorem owns_kept {w w' : World} {B : Nat} {t : TypeId} {k n : Nat} {v : Value} {xs : List Value} (h : w.ownsRow B t k v n xs) (hs : w.heap.size ≤ w'.heap.size) (hh : ∀ g, v.ownBlock = some g → w'.heap[g]? = w.heap[g]?) : w'.ownsRow B t k v n xs :=
  (OwnS.row B t k n xs).stab v w w' h hs hh
theorem owns_low {w : World} {B : Nat} {t : TypeId} {k n : Nat} {v : Value} {xs : List Value} (h : w.ownsRow B t k v n xs) {b : Nat} (hb : b < B) : some b ≠ v.ownBlock := fun e => by
  obtain ⟨-, ⟨rfl, -⟩ | ⟨g, cap, cur, rfl, hg, -⟩⟩ := h
  · cases e
  · simp [Value.ownBlock] at e; omega
theorem info_ints : (Tryd.prog.info? 32).map (fun i => (i.zero, i.size, i.bytes)) = some (some (.slice none 0 0), 1, 24) := by kernel_rfl
theorem listOf_congr {f g : Nat → Value} {n : Nat} (h : ∀ i, i < n → f i = g i) : listOf f n = listOf g n := List.map_congr_left fun i hi => h i (List.mem_range.1 hi)
theorem routeP_ne {n nu : Nat} {T : Nat → Tr} {F : Nat → Int} {c : Cb} (h : routeErr n T nu F c = 0) : routeP n T nu F c ≠ [] := fun e => by
  have hg := routeP_gr h
  rw [e] at hg
  have hc := (check1_ok (routeErr_ok h).1).2.2.ne
  generalize hf : c.fr = fr at hg hc
  cases hg with
  | nil => exact hc rfl
/-- the paths so far, each in memory of its own -/
def PathsSo (w : World) (B : Nat) (lv : Value) (k : Nat) (pv : Nat → Value) (P : Nat → List Nat) : Prop := ∀ q, q < k → PathAt w (pv q) (P q) ∧ P q ≠ [] ∧ NewFrom B (pv q) ∧ ∀ g, lv.ownBlock = some g → (pv q).ownBlock ≠ some g
theorem PathsSo.kept {w w' : World} {B k : Nat} {lv : Value} {pv : Nat → Value} {P : Nat → List Nat} (h : PathsSo w B lv k pv P) (hs : w.heap.size ≤ w'.heap.size) (hh : ∀ g, B ≤ g → g < w.heap.size → lv.ownBlock ≠ some g → w'.heap[g]? = w.heap[g]?) : PathsSo w' B lv k pv P := fun q hq => by
  obtain ⟨h1, h0, h2, h3⟩ := h q hq
  exact ⟨h1.kept hs fun g hg => hh g (h2 g hg) (h1.own_lt h0 hg) (fun e => h3 g e hg), h0, h2, h3⟩
end Go.Proofs.YtpkgadjglidnaaaDoor
