/-
  Closed surfaces, plainly: the reference's counting, reversed surfaces, surfaces without a face, divided faces, two surfaces together, boxes. Conditions: none; no program in sight. By an AI agent.
-/
import Derived.Test.YtpjdmjmgkdgfnaaMeshP
namespace Go.Proofs.Ytpjdmjmgkdgfnaa
open Go.RowKit
set_option linter.unusedVariables false
set_option linter.unusedSimpArgs false

/-- the reference counts -/
theorem closed_count {L : List E2} : (∀ e ∈ L, e.1 ≠ e.2 ∧ L.count e = 1 ∧ L.count (swp e) = 1) ↔ Closed L := by
  constructor
  · intro h
    refine ⟨fun e he => (h e he).1, List.nodup_iff_count.2 fun a => ?_, fun e he => List.count_pos_iff.1 (by rw [(h e he).2.2]; decide)⟩
    by_cases ha : a ∈ L
    · rw [(h a ha).2.1]; decide
    · rw [List.count_eq_zero.2 ha]; decide
  · intro h e he
    have h1 := List.nodup_iff_count.1 h.2.1
    have e1 := List.count_pos_iff.2 he
    have e2 := List.count_pos_iff.2 (h.2.2 e he)
    have := h1 e
    have := h1 (swp e)
    exact ⟨h.1 e he, by omega, by omega⟩
theorem Closed.of_perm {L M : List E2} (h : Closed L) (hp : L.Perm M) : Closed M :=
  ⟨fun e he => h.1 e (hp.mem_iff.2 he), hp.nodup_iff.1 h.2.1, fun e he => hp.mem_iff.1 (h.2.2 e (hp.mem_iff.2 he))⟩

/- reversed -/
def revF (f : V) : V := (f.1, f.2.2, f.2.1)
theorem det_rev (p q r : V) : detV p r q = -detV p q r := by simp only [detV]; grind
theorem vol_rev (P F : Nat → V) : ∀ n, volF P (fun j => revF (F j)) n = -volF P F n
  | 0 => rfl
  | n + 1 => by
    have h1 := vol_rev P F n
    unfold volF at h1 ⊢
    rw [sumTo, sumTo, h1]
    have := det_rev (pt P (F n).1) (pt P (F n).2.1) (pt P (F n).2.2)
    have e : fdet P (revF (F n)) = -fdet P (F n) := this
    rw [e]
    omega
theorem check_rev {np nf : Nat} {P F : Nat → V} (h : Good np P nf F) : checkM np P nf (fun j => revF (F j)) = 17 := by
  unfold checkM
  have h1 := h.n1
  have h2 := h.n2
  rw [if_neg (by omega), if_neg (by rw [Bool.not_eq_false, allTo_iff]; intro i hi; simpa [inB20] using h.ins i hi), if_neg (by
    rw [Bool.not_eq_false, allTo_iff]
    intro j hj
    obtain ⟨⟨a1, a2⟩, ⟨b1, b2⟩, c1, c2⟩ := h.idx j hj
    unfold idxB revF
    exact decide_eq_true ⟨⟨a1, a2⟩, ⟨c1, c2⟩, b1, b2⟩), if_pos]
  unfold shapeB
  rw [vol_rev]
  have := h.pos
  rw [decide_eq_false (show ¬ 0 < -volF P F nf by omega), Bool.and_false]

/- without a face -/
def dropF {α : Type} (F : Nat → α) (k : Nat) : Nat → α := fun j => if j < k then F j else F (j + 1)
theorem edges_drop (F : Nat → V) : ∀ (n k : Nat), k < n → (edgesL F n).Perm (e3 (F k) ++ edgesL (dropF F k) (n - 1))
  | 0, k, h => by omega
  | n + 1, k, h => by
    rw [edgesL, Nat.add_sub_cancel]
    by_cases hk : k = n
    · subst hk
      rw [edges_congr (F := dropF F k) (G := F) (fun j hj => by simp [dropF, hj])]
      exact List.perm_append_comm
    · obtain ⟨m, rfl⟩ : ∃ m, n = m + 1 := ⟨n - 1, by omega⟩
      have ih := edges_drop F (m + 1) k (by omega)
      rw [Nat.add_sub_cancel] at ih
      have e : dropF F k m = F (m + 1) := by simp [dropF, show ¬ m < k by omega]
      rw [edgesL.eq_2 (dropF F k) m, e, ← List.append_assoc]
      exact ih.append_right _
theorem sum_drop (f : Nat → Int) : ∀ (n k : Nat), k < n → sumTo f n = f k + sumTo (dropF f k) (n - 1)
  | 0, k, h => by omega
  | n + 1, k, h => by
    rw [sumTo, Nat.add_sub_cancel]
    by_cases hk : k = n
    · subst hk
      rw [sumTo_congr (f := dropF f k) (g := f) (fun j hj => by simp [dropF, hj])]
      omega
    · obtain ⟨m, rfl⟩ : ∃ m, n = m + 1 := ⟨n - 1, by omega⟩
      have ih := sum_drop f (m + 1) k (by omega)
      rw [Nat.add_sub_cancel] at ih
      have e : dropF f k m = f (m + 1) := by simp [dropF, show ¬ m < k by omega]
      rw [ih, sumTo.eq_2 (dropF f k) m, e]
      omega
theorem face_tri {n k : Nat} {F : Nat → V} (h : Closed (edgesL F n)) (hk : k < n) : (F k).1 ≠ (F k).2.1 ∧ (F k).2.1 ≠ (F k).2.2 ∧ (F k).2.2 ≠ (F k).1 :=
  ⟨h.1 ((F k).1, (F k).2.1) (mem_edges.2 ⟨k, hk, by simp [e3]⟩), h.1 ((F k).2.1, (F k).2.2) (mem_edges.2 ⟨k, hk, by simp [e3]⟩), h.1 ((F k).2.2, (F k).1) (mem_edges.2 ⟨k, hk, by simp [e3]⟩)⟩
theorem drop_open {n k : Nat} {F : Nat → V} (h : Closed (edgesL F n)) (hk : k < n) : ¬ Closed (edgesL (dropF F k) (n - 1)) := by
  intro hd
  have hp := edges_drop F n k hk
  obtain ⟨t1, t2, t3⟩ := face_tri h hk
  have hn := hp.nodup_iff.1 h.2.1
  rw [List.nodup_append] at hn
  have he : ((F k).1, (F k).2.1) ∈ edgesL F n := mem_edges.2 ⟨k, hk, by simp [e3]⟩
  have hs := hp.mem_iff.1 (h.2.2 _ he)
  rcases List.mem_append.1 hs with hs | hs
  · simp only [e3, swp, List.mem_cons, Prod.mk.injEq, List.not_mem_nil, or_false] at hs
    rcases hs with ⟨a, b⟩ | ⟨a, b⟩ | ⟨a, b⟩
    · exact t1 b
    · exact t3 b.symm
    · exact t2 a
  · have := hd.2.2 _ hs
    rw [swp_swp] at this
    exact hn.2.2 _ (by simp [e3]) _ this rfl
theorem check_drop {np nf k : Nat} {P F : Nat → V} (h : Good np P nf F) (hk : k < nf) : checkM np P (nf - 1) (dropF F k) = 17 := by
  unfold checkM
  have h1 := h.n1
  have h2 := h.n2
  rw [if_neg (by omega), if_neg (by rw [Bool.not_eq_false, allTo_iff]; intro i hi; simpa [inB20] using h.ins i hi), if_neg (by
    rw [Bool.not_eq_false, allTo_iff]
    intro j hj
    unfold dropF
    split
    · simpa [idxB] using h.idx j (by omega)
    · simpa [idxB] using h.idx (j + 1) (by omega)), if_pos]
  unfold shapeB
  rw [decide_eq_false (drop_open h.closed hk), Bool.false_and]

/- a divided face -/
def cutF (F : Nat → V) (n k : Nat) (d : Int) : Nat → V := fun j =>
  if j < n - 1 then dropF F k j else if j = n - 1 then ((F k).1, (F k).2.1, d) else if j = n then ((F k).2.1, (F k).2.2, d) else ((F k).2.2, (F k).1, d)
theorem cut_at {F : Nat → V} {m k : Nat} {d : Int} : cutF F (m + 1) k d m = ((F k).1, (F k).2.1, d) ∧ cutF F (m + 1) k d (m + 1) = ((F k).2.1, (F k).2.2, d) ∧ cutF F (m + 1) k d (m + 1 + 1) = ((F k).2.2, (F k).1, d) := by
  unfold cutF
  refine ⟨?_, ?_, ?_⟩
  · rw [if_neg (by omega), if_pos (by omega)]
  · rw [if_neg (by omega), if_neg (by omega), if_pos rfl]
  · rw [if_neg (by omega), if_neg (by omega), if_neg (by omega)]
def snocF {α : Type} (P : Nat → α) (n : Nat) (v : α) : Nat → α := fun i => if i < n then P i else v
theorem edges_cut (F : Nat → V) {n k : Nat} (d : Int) (hk : k < n) : edgesL (cutF F n k d) (n + 2) = edgesL (dropF F k) (n - 1) ++ e3 ((F k).1, (F k).2.1, d) ++ e3 ((F k).2.1, (F k).2.2, d) ++ e3 ((F k).2.2, (F k).1, d) := by
  obtain ⟨m, rfl⟩ : ∃ m, n = m + 1 := ⟨n - 1, by omega⟩
  rw [Nat.add_sub_cancel, edgesL, edgesL, edgesL, edges_congr (F := cutF F (m + 1) k d) (G := dropF F k) (fun j hj => by simp [cutF, hj])]
  obtain ⟨e0, e1, e2⟩ := cut_at (F := F) (m := m) (k := k) (d := d)
  rw [e0, e1, e2]
theorem sum_cut (F : Nat → V) (g : V → Int) {n k : Nat} (d : Int) (hk : k < n) : sumTo (fun j => g (cutF F n k d j)) (n + 2) = sumTo (fun j => g (F j)) n - g (F k) + g ((F k).1, (F k).2.1, d) + g ((F k).2.1, (F k).2.2, d) + g ((F k).2.2, (F k).1, d) := by
  have h1 := sum_drop (fun j => g (F j)) n k hk
  obtain ⟨m, rfl⟩ : ∃ m, n = m + 1 := ⟨n - 1, by omega⟩
  rw [Nat.add_sub_cancel] at h1
  rw [sumTo, sumTo, sumTo, sumTo_congr (f := fun j => g (cutF F (m + 1) k d j)) (g := dropF (fun j => g (F j)) k) (fun j hj => by simp only [cutF, dropF, Nat.add_sub_cancel, hj, if_true]; split <;> rfl)]
  obtain ⟨e0, e1, e2⟩ := cut_at (F := F) (m := m) (k := k) (d := d)
  rw [e0, e1, e2]
  omega
theorem closed_cut {n k : Nat} {F : Nat → V} {d : Int} (h : Closed (edgesL F n)) (hk : k < n) (hd : ∀ e ∈ edgesL F n, e.1 < d ∧ e.2 < d) : Closed (edgesL (cutF F n k d) (n + 2)) := by
  obtain ⟨t1, t2, t3⟩ := face_tri h hk
  rw [edges_cut F d hk]
  have hp := edges_drop F n k hk
  have ha := hd _ (mem_edges.2 ⟨k, hk, show ((F k).1, (F k).2.1) ∈ e3 (F k) by simp [e3]⟩)
  have hb := hd _ (mem_edges.2 ⟨k, hk, show ((F k).2.1, (F k).2.2) ∈ e3 (F k) by simp [e3]⟩)
  dsimp only at ha hb
  have hc : (F k).2.2 < d := (hd _ (mem_edges.2 ⟨k, hk, show ((F k).2.1, (F k).2.2) ∈ e3 (F k) by simp [e3]⟩)).2
  have hp2 : (edgesL F n ++ [((F k).2.1, d), (d, (F k).1), ((F k).2.2, d), (d, (F k).2.1), ((F k).1, d), (d, (F k).2.2)]).Perm (edgesL (dropF F k) (n - 1) ++ e3 ((F k).1, (F k).2.1, d) ++ e3 ((F k).2.1, (F k).2.2, d) ++ e3 ((F k).2.2, (F k).1, d)) := by
    refine (hp.append_right _).trans (List.perm_iff_count.2 fun x => ?_)
    simp only [e3, List.count_append, List.count_cons, List.count_nil]
    omega
  refine Closed.of_perm ?_ hp2
  generalize (F k).1 = a at *
  generalize (F k).2.1 = b at *
  generalize (F k).2.2 = c at *
  have ha1 := ha.1
  have hb1 := hb.1
  clear hp hp2
  refine ⟨fun e he => ?_, ?_, fun e he => ?_⟩
  · rcases List.mem_append.1 he with he | he
    · exact h.1 e he
    · simp only [List.mem_cons, List.not_mem_nil, or_false] at he
      rcases he with rfl | rfl | rfl | rfl | rfl | rfl <;> dsimp only <;> omega
  · rw [List.nodup_append]
    refine ⟨h.2.1, ?_, fun e he x hx hq => ?_⟩
    · simp only [List.nodup_cons, List.mem_cons, Prod.mk.injEq, List.not_mem_nil, or_false, not_or, List.nodup_nil, and_true, not_false_eq_true]
      refine ⟨?_, ?_, ?_, ?_, ?_⟩ <;> omega
    · subst hq
      have := hd e he
      simp only [List.mem_cons, List.not_mem_nil, or_false] at hx
      rcases hx with rfl | rfl | rfl | rfl | rfl | rfl <;> dsimp only at this <;> omega
  · rcases List.mem_append.1 he with he | he
    · exact List.mem_append_left _ (h.2.2 e he)
    · refine List.mem_append_right _ ?_
      simp only [List.mem_cons, List.not_mem_nil, or_false] at he
      rcases he with rfl | rfl | rfl | rfl | rfl | rfl <;> simp [swp]
theorem edges_lt {n np : Nat} {F : Nat → V} (h : ∀ j, j < n → (0 ≤ (F j).1 ∧ (F j).1 < np) ∧ (0 ≤ (F j).2.1 ∧ (F j).2.1 < np) ∧ 0 ≤ (F j).2.2 ∧ (F j).2.2 < np) : ∀ e ∈ edgesL F n, (0 ≤ e.1 ∧ e.1 < np) ∧ 0 ≤ e.2 ∧ e.2 < np := by
  intro e he
  obtain ⟨j, hj, h1⟩ := mem_edges.1 he
  obtain ⟨a, b, c⟩ := h j hj
  simp only [e3, List.mem_cons, List.not_mem_nil, or_false] at h1
  rcases h1 with rfl | rfl | rfl
  · exact ⟨a, b⟩
  · exact ⟨b, c⟩
  · exact ⟨c, a⟩
theorem pt_snoc {P : Nat → V} {np : Nat} {v : V} {i : Int} (h : 0 ≤ i ∧ i < np) : pt (snocF P np v) i = pt P i := by
  unfold pt snocF
  rw [if_pos (by omega)]
theorem pt_last {P : Nat → V} {np : Nat} {v : V} : pt (snocF P np v) (np : Int) = v := by
  unfold pt snocF
  rw [if_neg (by simp)]
theorem vol_cut {np nf k : Nat} {P F : Nat → V} {v : V} (h : Good np P nf F) (hk : k < nf) :
    volF (snocF P np v) (cutF F nf k (np : Int)) (nf + 2) = volF P F nf + detV (pt P (F k).1) (pt P (F k).2.1) v + detV (pt P (F k).2.1) (pt P (F k).2.2) v + detV (pt P (F k).2.2) (pt P (F k).1) v - detV (pt P (F k).1) (pt P (F k).2.1) (pt P (F k).2.2) := by
  unfold volF
  rw [sum_cut F (fdet (snocF P np v)) _ hk]
  have e : ∀ j, j < nf → fdet (snocF P np v) (F j) = fdet P (F j) := fun j hj => by
    obtain ⟨a, b, c⟩ := h.idx j hj
    unfold fdet
    rw [pt_snoc a, pt_snoc b, pt_snoc c]
  rw [sumTo_congr e, e k hk]
  obtain ⟨a, b, c⟩ := h.idx k hk
  unfold fdet
  dsimp only
  rw [pt_last, pt_snoc a, pt_snoc b, pt_snoc c]
  omega
theorem check_cut {np nf k : Nat} {P F : Nat → V} {v : V} (h : Good np P nf F) (hk : k < nf) (hn : np + 1 ≤ 1024) (hf : nf + 2 ≤ 2048) (hv : InB 1048576 v) :
    checkM (np + 1) (snocF P np v) (nf + 2) (cutF F nf k (np : Int)) = if volF (snocF P np v) (cutF F nf k (np : Int)) (nf + 2) ≤ 0 then 17 else 0 := by
  unfold checkM
  rw [if_neg (by omega), if_neg (by
    rw [Bool.not_eq_false, allTo_iff]
    intro i hi
    unfold snocF inB20
    split
    · simpa using h.ins i (by omega)
    · simpa using hv), if_neg (by
    rw [Bool.not_eq_false, allTo_iff]
    intro j hj
    obtain ⟨⟨a1, a2⟩, ⟨b1, b2⟩, c1, c2⟩ := h.idx k hk
    unfold cutF
    split
    · unfold dropF
      split
      · have := h.idx j (by omega)
        refine decide_eq_true ?_
        omega
      · have := h.idx (j + 1) (by omega)
        refine decide_eq_true ?_
        omega
    · split
      · refine decide_eq_true ?_
        dsimp only
        omega
      · split
        · refine decide_eq_true ?_
          dsimp only
          omega
        · refine decide_eq_true ?_
          dsimp only
          omega)]
  have hc := closed_cut h.closed hk (d := (np : Int)) (fun e he => by have := edges_lt h.idx e he; omega)
  unfold shapeB
  rw [decide_eq_true hc, Bool.true_and]
  split
  · rename_i h1
    rw [if_pos (by have := of_decide_eq_false h1; omega)]
  · rename_i h1
    rw [if_neg (by rw [Bool.not_eq_false] at h1; have := of_decide_eq_true h1; omega)]

/- two surfaces together -/
def glueF {α : Type} (f g : Nat → α) (n : Nat) : Nat → α := fun i => if i < n then f i else g (i - n)
def liftV (n : Int) (f : V) : V := (f.1 + n, f.2.1 + n, f.2.2 + n)
def liftE (n : Int) (e : E2) : E2 := (e.1 + n, e.2 + n)
theorem edges_lift (F : Nat → V) (d : Int) : ∀ n, edgesL (fun j => liftV d (F j)) n = (edgesL F n).map (liftE d)
  | 0 => rfl
  | n + 1 => by rw [edgesL, edgesL, edges_lift F d n, List.map_append]; rfl
theorem edges_join (F G : Nat → V) (n : Nat) : ∀ m, edgesL (glueF F G n) (n + m) = edgesL F n ++ edgesL G m
  | 0 => by
    rw [Nat.add_zero, edges_congr (G := F) (fun j hj => by simp [glueF, hj])]
    simp [edgesL]
  | m + 1 => by
    have e : glueF F G n (n + m) = G m := by unfold glueF; rw [if_neg (by omega)]; congr 1; omega
    rw [← Nat.add_assoc, edgesL, edges_join F G n m, e, edgesL, List.append_assoc]
theorem closed_join {np n m : Nat} {F G : Nat → V} (h : Closed (edgesL F n)) (h' : Closed (edgesL G m)) (hd : ∀ e ∈ edgesL F n, e.1 < np) (hg : ∀ e ∈ edgesL G m, 0 ≤ e.1) : Closed (edgesL (glueF F (fun j => liftV np (G j)) n) (n + m)) := by
  rw [edges_join, edges_lift]
  refine ⟨fun e he => ?_, ?_, fun e he => ?_⟩
  · rcases List.mem_append.1 he with he | he
    · exact h.1 e he
    · obtain ⟨x, hx, rfl⟩ := List.mem_map.1 he
      have := h'.1 x hx
      simp only [liftE]
      omega
  · rw [List.nodup_append]
    refine ⟨h.2.1, ?_, fun e he x hx hq => ?_⟩
    · refine List.Pairwise.map _ (fun a b hab heq => hab ?_) h'.2.1
      simp only [liftE, Prod.mk.injEq] at heq
      exact Prod.ext (by omega) (by omega)
    · subst hq
      obtain ⟨x, hx2, rfl⟩ := List.mem_map.1 hx
      have h1 := hd _ he
      have h2 := hg x hx2
      simp only [liftE] at h1
      omega
  · rcases List.mem_append.1 he with he | he
    · exact List.mem_append_left _ (h.2.2 e he)
    · obtain ⟨x, hx, rfl⟩ := List.mem_map.1 he
      exact List.mem_append_right _ (List.mem_map.2 ⟨swp x, h'.2.2 x hx, rfl⟩)
theorem pt_left {P Q : Nat → V} {np : Nat} {i : Int} (h : 0 ≤ i ∧ i < np) : pt (glueF P Q np) i = pt P i := by
  unfold pt glueF
  rw [if_pos (by omega)]
theorem pt_right {P Q : Nat → V} {np : Nat} {i : Int} (h : 0 ≤ i) : pt (glueF P Q np) (i + np) = pt Q i := by
  unfold pt glueF
  rw [if_neg (by omega)]
  congr 1
  omega
theorem sum_join {np nf mp mf : Nat} {P F Q G : Nat → V} (h : Good np P nf F) (h' : Good mp Q mf G) (g : (Nat → V) → V → Int)
    (hg : ∀ (P P' : Nat → V) (f f' : V), pt P f.1 = pt P' f'.1 → pt P f.2.1 = pt P' f'.2.1 → pt P f.2.2 = pt P' f'.2.2 → g P f = g P' f') :
    sumTo (fun j => g (glueF P Q np) (glueF F (fun j => liftV np (G j)) nf j)) (nf + mf) = sumTo (fun j => g P (F j)) nf + sumTo (fun j => g Q (G j)) mf := by
  rw [← sumTo_app]
  refine sumTo_congr fun j hj => ?_
  unfold glueF
  by_cases hlt : j < nf
  · rw [if_pos hlt, if_pos hlt]
    obtain ⟨a, b, c⟩ := h.idx j hlt
    exact hg _ _ _ _ (pt_left a) (pt_left b) (pt_left c)
  · rw [if_neg hlt, if_neg hlt]
    obtain ⟨a, b, c⟩ := h'.idx (j - nf) (by omega)
    exact hg _ _ _ _ (pt_right a.1) (pt_right b.1) (pt_right c.1)
theorem vol_join {np nf mp mf : Nat} {P F Q G : Nat → V} (h : Good np P nf F) (h' : Good mp Q mf G) : volF (glueF P Q np) (glueF F (fun j => liftV np (G j)) nf) (nf + mf) = volF P F nf + volF Q G mf :=
  sum_join h h' fdet (fun P P' f f' e1 e2 e3 => by unfold fdet; rw [e1, e2, e3])
theorem mom_join (c : Nat) {np nf mp mf : Nat} {P F Q G : Nat → V} (h : Good np P nf F) (h' : Good mp Q mf G) : momF c (glueF P Q np) (glueF F (fun j => liftV np (G j)) nf) (nf + mf) = momF c P F nf + momF c Q G mf :=
  sum_join h h' (fun P f => fdet P f * fsum c P f) (fun P P' f f' e1 e2 e3 => by unfold fdet fsum; rw [e1, e2, e3])
theorem good_join {np nf mp mf : Nat} {P F Q G : Nat → V} (h : Good np P nf F) (h' : Good mp Q mf G) (h1 : np + mp ≤ 1024) (h2 : nf + mf ≤ 2048) : Good (np + mp) (glueF P Q np) (nf + mf) (glueF F (fun j => liftV np (G j)) nf) where
  n1 := h1
  n2 := h2
  ins := fun i hi => by
    unfold glueF
    split
    · exact h.ins i (by omega)
    · exact h'.ins _ (by omega)
  idx := fun j hj => by
    unfold glueF liftV
    split
    · have := h.idx j (by omega)
      omega
    · have := h'.idx (j - nf) (by omega)
      dsimp only
      omega
  closed := closed_join h.closed h'.closed (fun e he => (edges_lt h.idx e he).1.2) (fun e he => (edges_lt h'.idx e he).1.1)
  pos := by
    rw [vol_join h h']
    have := h.pos
    have := h'.pos
    omega

/- boxes -/
def boxP (x s : V) : Nat → V := fun i => (x.1 + (i % 2 : Nat) * s.1, x.2.1 + (i / 2 % 2 : Nat) * s.2.1, x.2.2 + (i / 4 : Nat) * s.2.2)
def boxF : Nat → V := fun j => ([(0, 2, 3), (0, 3, 1), (4, 5, 7), (4, 7, 6), (0, 1, 5), (0, 5, 4), (2, 6, 7), (2, 7, 3), (0, 4, 6), (0, 6, 2), (1, 3, 7), (1, 7, 5)] : List V).getD j (0, 0, 0)
theorem box_closed : Closed (edgesL boxF 12) := by decide
theorem box_pt (x s : V) : boxP x s 0 = x ∧ boxP x s 1 = (x.1 + s.1, x.2.1, x.2.2) ∧ boxP x s 2 = (x.1, x.2.1 + s.2.1, x.2.2) ∧ boxP x s 3 = (x.1 + s.1, x.2.1 + s.2.1, x.2.2) ∧
    boxP x s 4 = (x.1, x.2.1, x.2.2 + s.2.2) ∧ boxP x s 5 = (x.1 + s.1, x.2.1, x.2.2 + s.2.2) ∧ boxP x s 6 = (x.1, x.2.1 + s.2.1, x.2.2 + s.2.2) ∧ boxP x s 7 = (x.1 + s.1, x.2.1 + s.2.1, x.2.2 + s.2.2) := by
  simp [boxP]
theorem box_vol (x s : V) : volF (boxP x s) boxF 12 = 6 * (s.1 * s.2.1 * s.2.2) := by
  obtain ⟨p0, p1, p2, p3, p4, p5, p6, p7⟩ := box_pt x s
  simp only [volF, sumTo, boxF, List.getD_cons_zero, List.getD_cons_succ, fdet, pt, show (0 : Int).toNat = 0 from rfl, show (1 : Int).toNat = 1 from rfl, show (2 : Int).toNat = 2 from rfl, show (3 : Int).toNat = 3 from rfl, show (4 : Int).toNat = 4 from rfl, show (5 : Int).toNat = 5 from rfl, show (6 : Int).toNat = 6 from rfl, show (7 : Int).toNat = 7 from rfl, p0, p1, p2, p3, p4, p5, p6, p7]
  obtain ⟨x, y, z⟩ := x
  obtain ⟨a, b, c⟩ := s
  simp only [detV]
  grind
theorem box_mom (k : Nat) (x s : V) : momF k (boxP x s) boxF 12 = 12 * (s.1 * s.2.1 * s.2.2) * (2 * cmp3 k x + cmp3 k s) := by
  obtain ⟨p0, p1, p2, p3, p4, p5, p6, p7⟩ := box_pt x s
  simp only [momF, fsum, sumTo, boxF, List.getD_cons_zero, List.getD_cons_succ, fdet, pt, show (0 : Int).toNat = 0 from rfl, show (1 : Int).toNat = 1 from rfl, show (2 : Int).toNat = 2 from rfl, show (3 : Int).toNat = 3 from rfl, show (4 : Int).toNat = 4 from rfl, show (5 : Int).toNat = 5 from rfl, show (6 : Int).toNat = 6 from rfl, show (7 : Int).toNat = 7 from rfl, p0, p1, p2, p3, p4, p5, p6, p7]
  obtain ⟨x, y, z⟩ := x
  obtain ⟨a, b, c⟩ := s
  match k with
  | 0 => simp only [detV, cmp3]; grind
  | 1 => simp only [detV, cmp3]; grind
  | k + 2 => simp only [detV, cmp3]; grind
end Go.Proofs.Ytpjdmjmgkdgfnaa
