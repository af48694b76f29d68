/-
  The law MeshPieces. Conditions: none. By an AI agent.
-/
import Derived.Test.YtpjdmjmgkdgfnaaMeshYP
namespace Go.Proofs.Ytpjdmjmgkdgfnaa
open Go Go.ChangeShapes Go.WideShapes Go.RowKit Go.ChangeAt
set_option linter.unusedVariables false
set_option linter.unusedSimpArgs false
set_option maxRecDepth 100000

theorem RowAt.kept {w w' : World} {v : Value} {n : Nat} {F : Nat → V} (h : RowAt w v n F) (hs : w.heap.size ≤ w'.heap.size) (hh : ∀ g, v.ownBlock = some g → w'.heap[g]? = w.heap[g]?) : RowAt w' v n F := by
  obtain ⟨oa, cap, rfl, h2, h3, h4⟩ := h
  refine ⟨oa, cap, rfl, h2, h3, fun h0 => ?_⟩
  obtain ⟨b, off, rfl, hlt, hc⟩ := h4 h0
  refine ⟨b, off, rfl, by omega, fun i j hi hj => ?_⟩
  rw [← hc i j hi hj]
  unfold World.cell?
  rw [hh b rfl]
theorem Below.gnone {w w' : World} (h : w.grownBy w' none) : Below w.heap.size w w' := ⟨h.os, h.tape, h.output, h.size, fun i hi => h.block i hi (by simp)⟩
theorem src_below {w w' : World} {oa : Option Addr} {xs : List Value} (h : ∀ ad, oa = some ad → ∀ j u, xs[j]? = some u → w.cell? (ad.add j) = some u) (hb : Below w.heap.size w w') : ∀ ad, oa = some ad → ∀ j u, xs[j]? = some u → w'.cell? (ad.add j) = some u := fun ad had j u hj => by
  have h1 := h ad had j u hj
  refine (hb.cell (p := ad.add j) ?_).trans h1
  rcases Nat.lt_or_ge (ad.add j).block w.heap.size with h' | h'
  · exact h'
  · simp [World.cell?, Array.getElem?_eq_none h'] at h1
theorem cellK {w w' : World} {b : Nat} (o : Nat) (h : w'.heap[b]? = w.heap[b]?) : w'.cell? ⟨b, o, none⟩ = w.cell? ⟨b, o, none⟩ := by
  unfold World.cell?
  dsimp only
  rw [h]
theorem glue_step {F G : Nat → V} {n j : Nat} : glueF F G n (n + j) = G j := by
  unfold glueF
  rw [if_neg (by omega), show n + j - n = j by omega]

theorem flV_take {F : Nat → V} {q n : Nat} (h : q ≤ n) : flV F n = flV F q ++ flV (fun i => F (q + i)) (n - q) := by
  rw [flV_app]
  have e : q + (n - q) = n := by omega
  rw [e]
  exact flV_congr fun i hi => by
    unfold glueF
    split
    · rfl
    · exact congrArg F (by omega)
theorem head_F {w : World} {oa : Option Addr} {n c q : Nat} {F : Nat → V} (h : RowAt w (.slice oa n c) n F) (hq : q ≤ n) :
    ∃ (o1 : Option Addr) (c1 : Nat), (∀ W, (Instr.slice 23 (.slice oa n c) none (some (.int .i64 q)) none).run Try.prog W = .ok (.slice o1 q c1) W) ∧ (o1 = none → q = 0) ∧ ∀ ad, o1 = some ad → ∀ j u, (flV F q)[j]? = some u → w.cell? (ad.add j) = some u := by
  obtain ⟨oa', c', he, h0, h1⟩ := h.src
  cases he
  obtain ⟨oa', c', he, hc, hc2, hel⟩ := h.form
  cases he
  have hpre : ∀ j u, (flV F q)[j]? = some u → (flV F n)[j]? = some u := fun j u hj => by
    rw [flV_take hq, List.getElem?_append_left (by
      rcases Nat.lt_or_ge j (flV F q).length with h | h
      · exact h
      · rw [List.getElem?_eq_none h] at hj; cases hj)]
    exact hj
  refine ⟨if c = 0 then oa else oa.map (·.add (0 * 3)), c, fun W => ?_, fun hn => ?_, fun ad had j u hj => ?_⟩
  · rw [run_slice_h W 23 oa n c Try.underlying23 .i64 (q : Int) (by omega) (by omega)]
    show Result.ok (sliced oa 0 (q : Int).toNat c 3) W = _
    simp [sliced]
  · split at hn
    · have := h0 hn
      omega
    · have := h0 (by simpa using hn)
      omega
  · split at had
    · exact h1 ad had j u (hpre j u hj)
    · cases oa with
      | none => cases had
      | some a =>
        simp only [Option.map_some, Option.some.injEq] at had
        subst had
        have := h1 a rfl j u (hpre j u hj)
        rwa [Nat.zero_mul, Addr.add_add, Nat.zero_add]
theorem tail_F {w : World} {oa : Option Addr} {n c q : Nat} {F : Nat → V} (h : RowAt w (.slice oa n c) n F) (hq : q ≤ n) :
    ∃ (o1 : Option Addr) (c1 : Nat), (∀ W, (Instr.slice 23 (.slice oa n c) (some (.int .i64 q)) none none).run Try.prog W = .ok (.slice o1 (n - q) c1) W) ∧ (o1 = none → n - q = 0) ∧ ∀ ad, o1 = some ad → ∀ j u, (flV (fun i => F (q + i)) (n - q))[j]? = some u → w.cell? (ad.add j) = some u := by
  obtain ⟨oa', c', he, h0, h1⟩ := h.src
  cases he
  obtain ⟨oa', c', he, hc, hc2, hel⟩ := h.form
  cases he
  refine ⟨if c = q then oa else oa.map (·.add (q * 3)), c - q, fun W => ?_, fun hn => ?_, fun ad had j u hj => ?_⟩
  · rw [run_slice_l W 23 oa n c Try.underlying23 .i64 (q : Int) (by omega) (by omega)]
    show Result.ok (sliced oa (q : Int).toNat n c 3) W = _
    simp [sliced]
  · split at hn
    · have := h0 hn
      omega
    · have := h0 (by simpa using hn)
      omega
  · split at had
    · rw [List.getElem?_eq_none (by rw [flV_len]; omega)] at hj
      cases hj
    · cases oa with
      | none => cases had
      | some a =>
        simp only [Option.map_some, Option.some.injEq] at had
        subst had
        have := h1 a rfl (q * 3 + j) u (by
          rw [flV_take hq, List.getElem?_append_right (by rw [flV_len]; omega), flV_len, show q * 3 + j - q * 3 = j by omega]
          exact hj)
        rwa [Addr.add_add]
theorem flV_snoc (P : Nat → V) (n : Nat) (a b c : Int) : flV P n ++ [.int .i64 a, .int .i64 b, .int .i64 c] = flV (snocF P n (a, b, c)) (n + 1) := by
  have e : flV (snocF P n (a, b, c)) n = flV P n := flV_congr fun i hi => by unfold snocF; rw [if_pos hi]
  rw [flV, e]
  have e2 : snocF P n (a, b, c) n = (a, b, c) := by unfold snocF; rw [if_neg (by omega)]
  rw [e2]
theorem flV_drop (F : Nat → V) {q n : Nat} (h : q < n) : flV F q ++ flV (fun i => F (q + 1 + i)) (n - (q + 1)) = flV (dropF F q) (n - 1) := by
  rw [flV_app]
  have e : q + (n - (q + 1)) = n - 1 := by omega
  rw [e]
  exact flV_congr fun i hi => by
    unfold glueF dropF
    split
    · rfl
    · exact congrArg F (by omega)
theorem flV_cut (F : Nat → V) {q n : Nat} (d x y z : Int) (h : q < n) (hx : F q = (x, y, z)) : flV (dropF F q) (n - 1) ++ [.int .i64 x, .int .i64 y, .int .i64 d, .int .i64 y, .int .i64 z, .int .i64 d, .int .i64 z, .int .i64 x, .int .i64 d] = flV (cutF F n q d) (n - 1 + 3) := by
  obtain ⟨m, rfl⟩ : ∃ m, n = m + 1 := ⟨n - 1, by omega⟩
  rw [Nat.add_sub_cancel]
  obtain ⟨e0, e1, e2⟩ := cut_at (F := F) (m := m) (k := q) (d := d)
  have e : flV (cutF F (m + 1) q d) m = flV (dropF F q) m := flV_congr fun i hi => by
    unfold cutF
    rw [if_pos (by omega)]
  rw [show m + 3 = m + 1 + 1 + 1 by omega, flV, flV, flV, e, e0, e1, e2, hx]
  simp
theorem mat_keptW {w w' : World} {p v : Value} {n m B : Nat} {P F : Nat → V} (h : MAt w (.agg #[p, v]) n P m F) (hb : Below B w w') (hB : ∀ g, p.ownBlock = some g ∨ v.ownBlock = some g → g < B) : MAt w' (.agg #[p, v]) n P m F := by
  obtain ⟨vp, vf, e, h1, h2⟩ := h
  cases e
  exact ⟨_, _, rfl, h1.kept hb.size (fun g hg => hb.block g (hB g (.inl hg))), h2.kept hb.size (fun g hg => hb.block g (hB g (.inr hg)))⟩
theorem row9_one (x y z d : Int) : ∀ u ∈ ([.int .i64 x, .int .i64 y, .int .i64 d, .int .i64 y, .int .i64 z, .int .i64 d, .int .i64 z, .int .i64 x, .int .i64 d] : List Value), u.oneCell' = true := fun u hu => by
  simp only [List.mem_cons, List.not_mem_nil, or_false] at hu
  rcases hu with rfl | rfl | rfl | rfl | rfl | rfl | rfl | rfl | rfl <;> rfl
theorem det20 {p q r : V} (hp : InB 1048576 p) (hq : InB 1048576 q) (hr : InB 1048576 r) : -6917529027641081856 ≤ detV p q r ∧ detV p q r ≤ 6917529027641081856 := by
  have := det_bd (B := 1048576) (by decide) hp hq hr
  omega

set_option maxHeartbeats 20000000 in
theorem meshPieces_walk (v : Value) (np nf : Nat) (P F : Nat → V) (k a b c : Int) (w : World) (h : MAt w v np P nf F) (hk : 0 ≤ k ∧ k ≤ 65535) : Calls Try.prog 8 #[v, .int .u16 k, .agg #[.int .i64 a, .int .i64 b, .int .i64 c]] w fun e w' => e = .returned (.bool true) ∧ Below w.heap.size w w' := by
  have HMA := Lib.hid h
  obtain ⟨vp, vf, rfl, g1, g2⟩ := h
  obtain ⟨op, cp, rfl, -, -, help⟩ := g1.form
  obtain ⟨of', cf, rfl, hfc, hfc2, helg⟩ := g2.form
  have HPA := Lib.hid g1
  have HFA := Lib.hid g2
  have HEP := Lib.hid help
  have HEG := Lib.hid helg
  clear g1 g2 helg help
  obtain ⟨E1, hE1⟩ : ∃ E, checkM np P nf F = E := ⟨_, rfl⟩
  have HE1 := Lib.hid hE1
  obtain ⟨sv, hsv⟩ : ∃ b, decide (vol6 np P nf F < 0) = b := ⟨_, rfl⟩
  obtain ⟨X0, hX0⟩ : ∃ X, wdF (vol6 np P nf F) = X := ⟨_, rfl⟩
  have HS1 := Lib.hid (And.intro hsv hX0)
  have HV1 : Hid (∀ W, MAt W (.agg #[.slice op np cp, .slice of' nf cf]) np P nf F → Calls Try.prog 15 #[.agg #[.slice op np cp, .slice of' nf cf]] W fun e w' => e = .returned (.tuple #[.agg #[.bool sv, .int .u64 (X0 0), .int .u64 (X0 1), .int .u64 (X0 2), .int .u64 (X0 3)], .int .i64 E1]) ∧ Below W.heap.size W w') := fun W h => by
    have h := Volume6_any _ np nf P F W h
    rw [hsv, hX0, hE1] at h
    exact h
  clear hE1 hsv hX0
  by_cases b0 : (1000 : Int) < np
  · have kb0 : decide ((1000 : Int) < np) = true := decide_eq_true b0
    go_enter Try.func8, Try.ntmps8
    go_wp2_with fail
    (go_at_call 12; refine (awake_any _).mono ?_; rintro e_ w1 ⟨rfl, hb⟩)
    have hBz : Below w.heap.size w w1 := below_step (w := w) (by first | assumption | go_grown) hb
    go_wp2
    go_returns
    exact ⟨rfl, hBz⟩
  have kb0 : decide ((1000 : Int) < np) = false := decide_eq_false b0
  by_cases b1 : (290 : Int) < nf
  · have kb1 : decide ((290 : Int) < nf) = true := decide_eq_true b1
    go_enter Try.func8, Try.ntmps8
    go_wp2_with fail
    (go_at_call 12; refine (awake_any _).mono ?_; rintro e_ w1 ⟨rfl, hb⟩)
    have hBz : Below w.heap.size w w1 := below_step (w := w) (by first | assumption | go_grown) hb
    go_wp2
    go_returns
    exact ⟨rfl, hBz⟩
  have kb1 : decide ((290 : Int) < nf) = false := decide_eq_false b1
  by_cases b2 : nf = 0
  · subst b2
    go_enter Try.func8, Try.ntmps8
    go_wp2_with fail
    (go_at_call 12; refine (awake_any _).mono ?_; rintro e_ w1 ⟨rfl, hb⟩)
    have hBz : Below w.heap.size w w1 := below_step (w := w) (by first | assumption | go_grown) hb
    go_wp2
    go_returns
    exact ⟨rfl, hBz⟩
  have kb2 : ((nf : Int) == 0) = false := by simp; omega
  by_cases b3 : a < -1048576
  · have kb3 : decide (a < -1048576) = true := decide_eq_true b3
    go_enter Try.func8, Try.ntmps8
    go_wp2_with fail
    (go_at_call 12; refine (awake_any _).mono ?_; rintro e_ w1 ⟨rfl, hb⟩)
    have hBz : Below w.heap.size w w1 := below_step (w := w) (by first | assumption | go_grown) hb
    go_wp2
    go_returns
    exact ⟨rfl, hBz⟩
  have kb3 : decide (a < -1048576) = false := decide_eq_false b3
  by_cases b4 : (1048576 : Int) < a
  · have kb4 : decide ((1048576 : Int) < a) = true := decide_eq_true b4
    go_enter Try.func8, Try.ntmps8
    go_wp2_with fail
    (go_at_call 12; refine (awake_any _).mono ?_; rintro e_ w1 ⟨rfl, hb⟩)
    have hBz : Below w.heap.size w w1 := below_step (w := w) (by first | assumption | go_grown) hb
    go_wp2
    go_returns
    exact ⟨rfl, hBz⟩
  have kb4 : decide ((1048576 : Int) < a) = false := decide_eq_false b4
  by_cases b5 : b < -1048576
  · have kb5 : decide (b < -1048576) = true := decide_eq_true b5
    go_enter Try.func8, Try.ntmps8
    go_wp2_with fail
    (go_at_call 12; refine (awake_any _).mono ?_; rintro e_ w1 ⟨rfl, hb⟩)
    have hBz : Below w.heap.size w w1 := below_step (w := w) (by first | assumption | go_grown) hb
    go_wp2
    go_returns
    exact ⟨rfl, hBz⟩
  have kb5 : decide (b < -1048576) = false := decide_eq_false b5
  by_cases b6 : (1048576 : Int) < b
  · have kb6 : decide ((1048576 : Int) < b) = true := decide_eq_true b6
    go_enter Try.func8, Try.ntmps8
    go_wp2_with fail
    (go_at_call 12; refine (awake_any _).mono ?_; rintro e_ w1 ⟨rfl, hb⟩)
    have hBz : Below w.heap.size w w1 := below_step (w := w) (by first | assumption | go_grown) hb
    go_wp2
    go_returns
    exact ⟨rfl, hBz⟩
  have kb6 : decide ((1048576 : Int) < b) = false := decide_eq_false b6
  by_cases b7 : c < -1048576
  · have kb7 : decide (c < -1048576) = true := decide_eq_true b7
    go_enter Try.func8, Try.ntmps8
    go_wp2_with fail
    (go_at_call 12; refine (awake_any _).mono ?_; rintro e_ w1 ⟨rfl, hb⟩)
    have hBz : Below w.heap.size w w1 := below_step (w := w) (by first | assumption | go_grown) hb
    go_wp2
    go_returns
    exact ⟨rfl, hBz⟩
  have kb7 : decide (c < -1048576) = false := decide_eq_false b7
  by_cases b8 : (1048576 : Int) < c
  · have kb8 : decide ((1048576 : Int) < c) = true := decide_eq_true b8
    go_enter Try.func8, Try.ntmps8
    go_wp2_with fail
    (go_at_call 12; refine (awake_any _).mono ?_; rintro e_ w1 ⟨rfl, hb⟩)
    have hBz : Below w.heap.size w w1 := below_step (w := w) (by first | assumption | go_grown) hb
    go_wp2
    go_returns
    exact ⟨rfl, hBz⟩
  have kb8 : decide ((1048576 : Int) < c) = false := decide_eq_false b8
  by_cases he1 : E1 = 0
  rotate_left
  · have kE : (E1 == 0) = false := by simpa using he1
    have kE2 : (E1 != 0) = true := by simpa using he1
    clear he1
    go_enter Try.func8, Try.ntmps8
    go_wp2_with fail
    (go_at_call 15; refine (HV1.out _ (HMA.out.below (by first | assumption | go_grown))).mono ?_; rintro e_ w1 ⟨rfl, hb⟩)
    have hsw1 := hb.size
    (try simp only [World.size_alloc, World.size_setCell] at hsw1)
    have zzw1 : w.heap.size < w1.heap.size := by omega
    have hPw1 : Below w.heap.size w w1 := below_step (w := w) (by first | exact Below.refl _ _ | go_grown) hb
    have zmw1 : w.heap.size < w1.heap.size := by omega
    have m0w1 : w1.cell? ⟨w.heap.size, 0, none⟩ = some (.slice op np cp) := (hb.cell (p := ⟨_, _, none⟩) (by simp <;> omega)).trans (by simp [go_sem])
    have m1w1 : w1.cell? ⟨w.heap.size, 1, none⟩ = some (.slice of' nf cf) := (hb.cell (p := ⟨_, _, none⟩) (by simp <;> omega)).trans (by simp [go_sem])
    have zpw1 : w.heap.size + 1 < w1.heap.size := by omega
    have p0w1 : w1.cell? ⟨w.heap.size + 1, 0, none⟩ = some (.int .i64 a) := (hb.cell (p := ⟨_, _, none⟩) (by simp <;> omega)).trans (by simp [go_sem])
    have p1w1 : w1.cell? ⟨w.heap.size + 1, 1, none⟩ = some (.int .i64 b) := (hb.cell (p := ⟨_, _, none⟩) (by simp <;> omega)).trans (by simp [go_sem])
    have p2w1 : w1.cell? ⟨w.heap.size + 1, 2, none⟩ = some (.int .i64 c) := (hb.cell (p := ⟨_, _, none⟩) (by simp <;> omega)).trans (by simp [go_sem])
    have hBw1 : Below w.heap.size w w1 := below_step (w := w) (by first | assumption | go_grown) hb
    clear hb hsw1 hPw1
    go_wp2_with fail
    (go_at_call 12; refine (awake_any _).mono ?_; rintro e_ w3 ⟨rfl, hb⟩)
    have hBz : Below w.heap.size w w3 := below_step (w := w) (by first | assumption | go_grown) hb
    go_wp2
    go_returns
    exact ⟨rfl, hBz⟩
  subst he1
  have HG : Hid (Good np P nf F) := check_iff.1 HE1.out
  have hn2048 := HG.out.n2
  obtain ⟨q, hqm, hqn⟩ : ∃ q : Nat, (k.tmod (nf : Int)) = (q : Int) ∧ q < nf := by
    have h1 := Int.emod_lt_of_pos k (show (0 : Int) < nf by omega)
    have h2 := Int.emod_nonneg k (show (nf : Int) ≠ 0 by omega)
    refine ⟨(k.tmod nf).toNat, ?_, ?_⟩ <;> rw [Int.tmod_eq_emod_of_nonneg hk.1] <;> omega
  have e1 : IntKind.i64.wrap k = k := IntWalk.i64_in _ (by omega)
  have e2 : IntKind.i64.wrap (q : Int) = (q : Int) := IntWalk.i64_in _ (by omega)
  obtain ⟨hix, hiy, hiz⟩ := HG.out.idx q hqn
  obtain ⟨x, hFx⟩ : ∃ x : Nat, (F q).1 = (x : Int) := ⟨(F q).1.toNat, by omega⟩
  obtain ⟨y, hFy⟩ : ∃ x : Nat, (F q).2.1 = (x : Int) := ⟨(F q).2.1.toNat, by omega⟩
  obtain ⟨z, hFz⟩ : ∃ x : Nat, (F q).2.2 = (x : Int) := ⟨(F q).2.2.toNat, by omega⟩
  rw [hFx] at hix
  rw [hFy] at hiy
  rw [hFz] at hiz
  have HFQ : Hid (F q = ((x : Int), (y : Int), (z : Int))) := by show _ = _; rw [← hFx, ← hFy, ← hFz]
  have HFxyz := Lib.hid (And.intro hFx (And.intro hFy hFz))
  obtain ⟨iv, hiv, hziv0, hziv1, hziv2⟩ := infoR_parts info_vec
  obtain ⟨it, hit, hzit0, hzit1, hzit2⟩ := infoR_parts info_i3
  have huiv : Try.prog.underlying 22 = some (.slice 40) := Try.underlying22
  have huit : Try.prog.underlying 23 = some (.slice 56) := Try.underlying23
  obtain ⟨xa, xc, hxa, hxn, hxc⟩ := HPA.out.src
  cases hxa
  have HXA := Lib.hid hxc
  have HXN := Lib.hid hxn
  obtain ⟨hd1, hd2, hdr, hdn, hdc⟩ := head_F HFA.out (Nat.le_of_lt hqn)
  obtain ⟨q1, hq1⟩ : ∃ q1 : Nat, q + 1 = q1 := ⟨_, rfl⟩
  obtain ⟨tl1, tl2, tlr, tln, tlc⟩ := tail_F HFA.out (show q1 ≤ nf by omega)
  have e3 : IntKind.i64.wrap ((q : Int) + 1) = (q1 : Int) := by rw [IntWalk.i64_in _ (by omega)]; omega
  have HQ1 := Lib.hid hq1
  clear hq1
  have HDC := Lib.hid hdc
  have HDN := Lib.hid hdn
  have HTC := Lib.hid tlc
  have HTN := Lib.hid tln
  have HDR := Lib.hid hdr
  have HTR := Lib.hid tlr
  clear hxc hxn hFx hFy hFz hdc hdn tlc tln hdr tlr
  go_enter Try.func8, Try.ntmps8
  go_wp2_with fail
  (go_at_call 15; refine (HV1.out _ (HMA.out.below (by first | assumption | go_grown))).mono ?_; rintro e_ w1 ⟨rfl, hb⟩)
  have hsw1 := hb.size
  (try simp only [World.size_alloc, World.size_setCell] at hsw1)
  have zzw1 : w.heap.size < w1.heap.size := by omega
  have hPw1 : Below w.heap.size w w1 := below_step (w := w) (by first | exact Below.refl _ _ | go_grown) hb
  have zmw1 : w.heap.size < w1.heap.size := by omega
  have m0w1 : w1.cell? ⟨w.heap.size, 0, none⟩ = some (.slice op np cp) := (hb.cell (p := ⟨_, _, none⟩) (by simp <;> omega)).trans (by simp [go_sem])
  have m1w1 : w1.cell? ⟨w.heap.size, 1, none⟩ = some (.slice of' nf cf) := (hb.cell (p := ⟨_, _, none⟩) (by simp <;> omega)).trans (by simp [go_sem])
  have zpw1 : w.heap.size + 1 < w1.heap.size := by omega
  have p0w1 : w1.cell? ⟨w.heap.size + 1, 0, none⟩ = some (.int .i64 a) := (hb.cell (p := ⟨_, _, none⟩) (by simp <;> omega)).trans (by simp [go_sem])
  have p1w1 : w1.cell? ⟨w.heap.size + 1, 1, none⟩ = some (.int .i64 b) := (hb.cell (p := ⟨_, _, none⟩) (by simp <;> omega)).trans (by simp [go_sem])
  have p2w1 : w1.cell? ⟨w.heap.size + 1, 2, none⟩ = some (.int .i64 c) := (hb.cell (p := ⟨_, _, none⟩) (by simp <;> omega)).trans (by simp [go_sem])
  have hBw1 : Below w.heap.size w w1 := below_step (w := w) (by first | assumption | go_grown) hb
  clear hb hsw1 hPw1
  go_wp2_with fail
  obtain ⟨w2, hw2⟩ : ∃ x, (w1.alloc (.cells #[.bool sv, .int .u64 (X0 0), .int .u64 (X0 1), .int .u64 (X0 2), .int .u64 (X0 3)] 33)) = x := ⟨_, rfl⟩
  have HW2 : Hid (w2.heap[w1.heap.size]? = some (.cells #[.bool sv, .int .u64 (X0 0), .int .u64 (X0 1), .int .u64 (X0 2), .int .u64 (X0 3)] 33)) := by
    show _ = _
    rw [← hw2]
    exact heapA_at _ _ _ rfl
  have hP12 : Below w1.heap.size w1 w2 := by rw [← hw2]; exact (Below.refl _ _).alloc (Nat.le_refl _) _
  have hBw2 : Below w.heap.size w w2 := below_step hBw1 hP12
  have zv2 : w1.heap.size < w2.heap.size := by rw [← hw2]; simp
  rw [hw2]
  clear hw2
  have zmw2 : w.heap.size < w2.heap.size := by have := hP12.size; omega
  have m0w2 : w2.cell? ⟨w.heap.size, 0, none⟩ = some (.slice op np cp) := (hP12.cell (p := ⟨w.heap.size, 0, none⟩) (by show w.heap.size < _; omega)).trans m0w1
  have m1w2 : w2.cell? ⟨w.heap.size, 1, none⟩ = some (.slice of' nf cf) := (hP12.cell (p := ⟨w.heap.size, 1, none⟩) (by show w.heap.size < _; omega)).trans m1w1
  have zpw2 : w.heap.size + 1 < w2.heap.size := by have := hP12.size; omega
  have p0w2 : w2.cell? ⟨w.heap.size + 1, 0, none⟩ = some (.int .i64 a) := (hP12.cell (p := ⟨w.heap.size + 1, 0, none⟩) (by show w.heap.size + 1 < _; omega)).trans p0w1
  have p1w2 : w2.cell? ⟨w.heap.size + 1, 1, none⟩ = some (.int .i64 b) := (hP12.cell (p := ⟨w.heap.size + 1, 1, none⟩) (by show w.heap.size + 1 < _; omega)).trans p1w1
  have p2w2 : w2.cell? ⟨w.heap.size + 1, 2, none⟩ = some (.int .i64 c) := (hP12.cell (p := ⟨w.heap.size + 1, 2, none⟩) (by show w.heap.size + 1 < _; omega)).trans p2w1
  clear m0w1 m1w1 p0w1 p1w1 p2w1
  obtain ⟨b1, f1, hof, hbl1, hcl1⟩ := HEG.out q hqn
  subst hof
  have c0 : w2.cell? ⟨b1, f1 + q * 3, none⟩ = some (.int .i64 (F q).1) := (hBw2.cell (p := ⟨_, _, none⟩) hbl1).trans (hcl1 q hqn).1
  have c1 : w2.cell? ⟨b1, f1 + q * 3 + 1, none⟩ = some (.int .i64 (F q).2.1) := (hBw2.cell (p := ⟨_, _, none⟩) hbl1).trans (hcl1 q hqn).2.1
  have c2 : w2.cell? ⟨b1, f1 + q * 3 + 2, none⟩ = some (.int .i64 (F q).2.2) := (hBw2.cell (p := ⟨_, _, none⟩) hbl1).trans (hcl1 q hqn).2.2
  rw [HFxyz.out.1] at c0
  rw [HFxyz.out.2.1] at c1
  rw [HFxyz.out.2.2] at c2
  have hbr : b1 < w2.heap.size := by have := hBw2.size; omega
  have k0 : (0 : Int) ≤ (q : Int) := by omega
  have k1 : (q : Int) < (nf : Int) := by omega
  clear hcl1 hP12
  refine wp_region_seq 11 [⟨8, 9, #[.int .i64 0, .int .i64 0, .int .i64 0], 56⟩] [] (by kernel_rfl) (by kernel_rfl) (by kernel_rfl) (by kernel_rfl) (by kernel_rfl) ?_ ?_ ?_
  · intro r hr; cases hr
  · intro r hr; cases hr
  simp only [List.take_succ_cons, List.take_zero, fillL, Act.put, List.setIfInBounds_toArray, List.set_cons_zero, List.set_cons_succ]
  apply seq_is (by kernel_rfl)
  · intro u wx hb hd
    replace hb := hb.nil
    have hz := hb.size
    (try simp only [World.size_alloc, World.size_setCell] at hz)
    have hz0 : w.heap.size < wx.heap.size := by omega
    have hz1 : b1 < wx.heap.size := by omega
    obtain ⟨hc, hf⟩ := bcell hb
    clear hb hz
    simp [depsE, Region.binds, updE, kindOf, Prp.is, Prp.any] at hd
    go_simp
    first | exact ⟨Below.refl _ _, rfl⟩ | rfl
  apply seq_is (by kernel_rfl)
  · intro u wx hb hd
    replace hb := hb.nil
    have hz := hb.size
    (try simp only [World.size_alloc, World.size_setCell] at hz)
    have hz0 : w.heap.size < wx.heap.size := by omega
    have hz1 : b1 < wx.heap.size := by omega
    obtain ⟨hc, hf⟩ := bcell hb
    clear hb hz
    simp [depsE, Region.binds, updE, kindOf, Prp.is, Prp.any] at hd
    go_simp
    first | exact ⟨Below.refl _ _, rfl⟩ | rfl
  apply seq_is (by kernel_rfl)
  · intro u wx hb hd
    replace hb := hb.nil
    have hz := hb.size
    (try simp only [World.size_alloc, World.size_setCell] at hz)
    have hz0 : w.heap.size < wx.heap.size := by omega
    have hz1 : b1 < wx.heap.size := by omega
    obtain ⟨hc, hf⟩ := bcell hb
    clear hb hz
    simp [depsE, Region.binds, updE, kindOf, Prp.is, Prp.any] at hd
    go_simp
    first | exact ⟨Below.refl _ _, rfl⟩ | rfl
  apply seq_is (by kernel_rfl)
  · intro u wx hb hd
    replace hb := hb.nil
    have hz := hb.size
    (try simp only [World.size_alloc, World.size_setCell] at hz)
    have hz0 : w.heap.size < wx.heap.size := by omega
    have hz1 : b1 < wx.heap.size := by omega
    obtain ⟨hc, hf⟩ := bcell hb
    clear hb hz
    simp [depsE, Region.binds, updE, kindOf, Prp.is, Prp.any] at hd
    go_simp
    first | exact ⟨Below.refl _ _, rfl⟩ | rfl
  apply seq_is (by kernel_rfl)
  · intro u wx hb hd
    replace hb := hb.nil
    have hz := hb.size
    (try simp only [World.size_alloc, World.size_setCell] at hz)
    have hz0 : w.heap.size < wx.heap.size := by omega
    have hz1 : b1 < wx.heap.size := by omega
    obtain ⟨hc, hf⟩ := bcell hb
    clear hb hz
    simp [depsE, Region.binds, updE, kindOf, Prp.is, Prp.any] at hd
    go_simp
    first | exact ⟨Below.refl _ _, rfl⟩ | rfl
  apply seq_is (by kernel_rfl)
  · intro u wx hb hd
    replace hb := hb.nil
    have hz := hb.size
    (try simp only [World.size_alloc, World.size_setCell] at hz)
    have hz0 : w.heap.size < wx.heap.size := by omega
    have hz1 : b1 < wx.heap.size := by omega
    obtain ⟨hc, hf⟩ := bcell hb
    clear hb hz
    simp [depsE, Region.binds, updE, kindOf, Prp.is, Prp.any] at hd
    go_simp
    first | exact ⟨Below.refl _ _, rfl⟩ | rfl
  apply seq_is (by kernel_rfl)
  · intro u wx hb hd
    replace hb := hb.nil
    have hz := hb.size
    (try simp only [World.size_alloc, World.size_setCell] at hz)
    have hz0 : w.heap.size < wx.heap.size := by omega
    have hz1 : b1 < wx.heap.size := by omega
    obtain ⟨hc, hf⟩ := bcell hb
    clear hb hz
    simp [depsE, Region.binds, updE, kindOf, Prp.is, Prp.any] at hd
    go_simp
    first | exact ⟨Below.refl _ _, rfl⟩ | rfl
  apply seq_is (by kernel_rfl)
  · intro u wx hb hd
    replace hb := hb.nil
    have hz := hb.size
    (try simp only [World.size_alloc, World.size_setCell] at hz)
    have hz0 : w.heap.size < wx.heap.size := by omega
    have hz1 : b1 < wx.heap.size := by omega
    obtain ⟨hc, hf⟩ := bcell hb
    clear hb hz
    simp [depsE, Region.binds, updE, kindOf, Prp.is, Prp.any] at hd
    go_simp
    first | exact ⟨Below.refl _ _, rfl⟩ | rfl
  refine seq_var ⟨8, 9, #[.int .i64 0, .int .i64 0, .int .i64 0], 56⟩ (by simp) rfl ?_ ?_
  · intro u wx hb
    refine ⟨by simp [Region.wanted], ?_⟩
    go_simp
    first | done | rfl | exact ⟨rfl, rfl⟩
  apply seq_sto_agg ⟨8, 9, #[.int .i64 0, .int .i64 0, .int .i64 0], 56⟩ (by simp) rfl (by kernel_rfl) rfl (by kernel_rfl)
  · intro u wx hb hd
    replace hb := hb.nil
    have hz := hb.size
    (try simp only [World.size_alloc, World.size_setCell] at hz)
    have hz0 : w.heap.size < wx.heap.size := by omega
    have hz1 : b1 < wx.heap.size := by omega
    obtain ⟨hc, hf⟩ := bcell hb
    clear hb hz
    simp [depsE, Region.binds, updE, kindOf, Prp.is, Prp.any] at hd
    refine ⟨by simp [Region.wanted], fun b' hub hlb hcells => ?_⟩
    have hub' : u 8 = .pointer (some ⟨b', 0, none⟩) := hub
    have hcells' : wx.heap[b']? = some (.cells #[.int .i64 0, .int .i64 0, .int .i64 0] 56) := hcells
    have hat := cells_at3 hcells'
    have HCL := Lib.hid hcells'
    clear hcells hcells' hub
    go_simp
    exact Stored.c3 HCL.out _ _ _
  apply seq_is (by kernel_rfl)
  · intro u wx hb hd
    replace hb := hb.nil
    have hz := hb.size
    (try simp only [World.size_alloc, World.size_setCell] at hz)
    have hz0 : w.heap.size < wx.heap.size := by omega
    have hz1 : b1 < wx.heap.size := by omega
    obtain ⟨hc, hf⟩ := bcell hb
    clear hb hz
    simp [depsE, Region.binds, updE, kindOf, Prp.is, Prp.any] at hd
    go_simp
    first | exact ⟨Below.refl _ _, rfl⟩ | rfl
  intro u w3 hb hE hV hP
  replace hb := hb.nil
  clear hP
  have e0 : u 0 = _ := endE_get hE 0 (by decide) (by simp [kindOf])
  have e1 : u 1 = _ := endE_get hE 1 (by decide) (by simp [kindOf])
  have e2 : u 2 = _ := endE_get hE 2 (by decide) (by simp [kindOf])
  have e3 : u 3 = _ := endE_get hE 3 (by decide) (by simp [kindOf])
  have e4 : u 4 = _ := endE_get hE 4 (by decide) (by simp [kindOf])
  have e5 : u 5 = _ := endE_get hE 5 (by decide) (by simp [kindOf])
  have e6 : u 6 = _ := endE_get hE 6 (by decide) (by simp [kindOf])
  have e7 : u 7 = _ := endE_get hE 7 (by decide) (by simp [kindOf])
  have e9 : u 9 = _ := endE_get hE 9 (by decide) (by simp [kindOf])
  have e10 : u 10 = _ := endE_get hE 10 (by decide) (by simp [kindOf])
  obtain ⟨⟨V0, pv0, lv0, qv0⟩, -, -⟩ := hV
  replace qv0 : w3.heap[V0]? = some (.cells (u 9).cells 56) := qv0
  rw [e9] at qv0
  replace pv0 : u 8 = .pointer (some ⟨V0, 0, none⟩) := pv0
  obtain ⟨mV00, mV01, mV02, mfV0, msV0⟩ := cells_at3 qv0
  have HQV0 := Lib.hid qv0
  clear qv0
  (try simp only [World.size_alloc, World.size_setCell] at lv0)
  have dV0w30 : V0 ≠ w.heap.size := by omega
  have dV0w31 : V0 ≠ b1 := by omega
  (try have lbV0 : w2.heap.size ≤ V0 := by omega)
  clear lv0
  simp only [List.drop_succ_cons, List.drop_zero, List.take_succ_cons, List.take_zero, fillL, Act.put, List.setIfInBounds_toArray, List.set_cons_zero, List.set_cons_succ, e0, e1, e2, e3, e4, e5, e6, e7, e9, e10, pv0]
  clear e0 e1 e2 e3 e4 e5 e6 e7 e9 e10 pv0 hE
  have HBWw3 := Lib.hid hb
  have hw3 := below_step (w := w2) (by first | assumption | go_grown) hb
  have hzw3 := hb.size
  (try simp only [World.size_alloc, World.size_setCell] at hzw3)
  have hzw30 : w.heap.size < w3.heap.size := by omega
  have hzw31 : b1 < w3.heap.size := by omega
  have HHw3 := Lib.hid hb.block
  obtain ⟨hcw3, hfw3⟩ := bcell hb
  clear hb hzw3
  have hP23 : Below w2.heap.size w2 w3 := HBWw3.out
  have hBw3 : Below w.heap.size w w3 := below_step hBw2 hP23
  have HW3 : Hid (w3.heap[w1.heap.size]? = some (.cells #[.bool sv, .int .u64 (X0 0), .int .u64 (X0 1), .int .u64 (X0 2), .int .u64 (X0 3)] 33)) := (hP23.block _ zv2).trans HW2.out
  have HV03 : Hid (w3.heap[V0]? = some (.cells #[.int .i64 (x : Int), .int .i64 (y : Int), .int .i64 (z : Int)] 56)) := HQV0.out
  have zv3 : w1.heap.size < w3.heap.size := by have := hP23.size; omega
  have zV0 : V0 < w3.heap.size := msV0
  have bV0 : w2.heap.size ≤ V0 := lbV0
  have zmw3 : w.heap.size < w3.heap.size := by have := hP23.size; omega
  have m0w3 : w3.cell? ⟨w.heap.size, 0, none⟩ = some (.slice op np cp) := (hP23.cell (p := ⟨w.heap.size, 0, none⟩) (by show w.heap.size < _; omega)).trans m0w2
  have m1w3 : w3.cell? ⟨w.heap.size, 1, none⟩ = some (.slice (some ⟨b1, f1, none⟩) nf cf) := (hP23.cell (p := ⟨w.heap.size, 1, none⟩) (by show w.heap.size < _; omega)).trans m1w2
  have zpw3 : w.heap.size + 1 < w3.heap.size := by have := hP23.size; omega
  have p0w3 : w3.cell? ⟨w.heap.size + 1, 0, none⟩ = some (.int .i64 a) := (hP23.cell (p := ⟨w.heap.size + 1, 0, none⟩) (by show w.heap.size + 1 < _; omega)).trans p0w2
  have p1w3 : w3.cell? ⟨w.heap.size + 1, 1, none⟩ = some (.int .i64 b) := (hP23.cell (p := ⟨w.heap.size + 1, 1, none⟩) (by show w.heap.size + 1 < _; omega)).trans p1w2
  have p2w3 : w3.cell? ⟨w.heap.size + 1, 2, none⟩ = some (.int .i64 c) := (hP23.cell (p := ⟨w.heap.size + 1, 2, none⟩) (by show w.heap.size + 1 < _; omega)).trans p2w2
  clear m0w2 m1w2 p0w2 p1w2 p2w2
  clear hcw3 hfw3 HBWw3 HHw3 HQV0 mfV0 msV0 lbV0 c0 c1 c2 hP23
  have kx0 : decide ((x : Int) < 0) = false := decide_eq_false (by omega)
  have ky0 : decide ((y : Int) < 0) = false := decide_eq_false (by omega)
  have kz0 : decide ((z : Int) < 0) = false := decide_eq_false (by omega)
  have kx1 : decide ((np : Int) ≤ (x : Int)) = false := decide_eq_false (by omega)
  have ky1 : decide ((np : Int) ≤ (y : Int)) = false := decide_eq_false (by omega)
  have kz1 : decide ((np : Int) ≤ (z : Int)) = false := decide_eq_false (by omega)
  go_wp2
  go_loopw [12] (fun i wr => ∃ j : Nat, j ≤ 3 ∧ i = .int .i64 j ∧ w3 = wr) (fun i _ => 3 - (intOf i).toNat)
  case atStart => exact ⟨0, by omega, rfl, rfl⟩
  case round =>
    obtain ⟨j, hj, rfl, hw⟩ := hrel
    subst hw
    rcases (by omega : j = 0 ∨ j = 1 ∨ j = 2 ∨ j = 3) with rfl | rfl | rfl | rfl
    · go_wp2
      go_roundw
      case rel => exact ⟨1, by omega, by go_num, by first | rfl | trivial⟩
      case measure => simp [intOf]
    · go_wp2
      go_roundw
      case rel => exact ⟨2, by omega, by go_num, by first | rfl | trivial⟩
      case measure => simp [intOf]
    · go_wp2
      go_roundw
      case rel => exact ⟨3, by omega, by go_num, by first | rfl | trivial⟩
      case measure => simp [intOf]
    · clear kx0 kx1 ky0 ky1 kz0 kz1
      have hn1 := HG.out.n1
      go_wp2_with (at_builtin; refine wpList_append2 rfl _ _ 22 rfl (w3.heap.size + 1) 40 iv _ 3 24 huiv hiv hziv0 hziv1 hziv2 rfl (by decide) _ (0) ([]) rfl (World.ownsRow_nil _ _ _ _) op np cp (flV P np) rfl (flV_len _ _) HXN.out ?d2 (flV_one _ _) (by unfold maxLen; omega) (by omega) ?d6 ?_)
      case d2 => exact src_below HXA.out (by go_grown)
      case d6 => simp <;> omega
      intro s1 w4 hown hgrow hnew
      replace hown : w4.ownsRow (w3.heap.size + 1) 40 3 s1 np (flV P np) := by simpa using hown
      have hG4 := Below.gnone hgrow
      have hB34 : Below w3.heap.size w3 w4 := below_step (w := w3) (by go_grown) hG4
      have hBw4 : Below w.heap.size w w4 := below_step hBw3 hB34
      have hz4 := hG4.size
      simp only [World.size_alloc] at hz4
      have HM4 : Hid (w4.heap[w3.heap.size]? = some (.cells #[.slice none 0 0, .slice none 0 0] 25)) := (hG4.block _ (by simp)).trans (heapA_at _ _ _ rfl)
      have HW4 : Hid (w4.heap[w1.heap.size]? = some (.cells #[.bool sv, .int .u64 (X0 0), .int .u64 (X0 1), .int .u64 (X0 2), .int .u64 (X0 3)] 33)) := (hB34.block _ (by omega)).trans HW3.out
      have HV04 : Hid (w4.heap[V0]? = some (.cells #[.int .i64 (x : Int), .int .i64 (y : Int), .int .i64 (z : Int)] 56)) := (hB34.block _ (by omega)).trans HV03.out
      clear HW3 HV03
      have zmw4 : w.heap.size < w4.heap.size := by have := hB34.size; omega
      have m0w4 : w4.cell? ⟨w.heap.size, 0, none⟩ = some (.slice op np cp) := (hB34.cell (p := ⟨w.heap.size, 0, none⟩) (by show w.heap.size < _; omega)).trans m0w3
      have m1w4 : w4.cell? ⟨w.heap.size, 1, none⟩ = some (.slice (some ⟨b1, f1, none⟩) nf cf) := (hB34.cell (p := ⟨w.heap.size, 1, none⟩) (by show w.heap.size < _; omega)).trans m1w3
      have zpw4 : w.heap.size + 1 < w4.heap.size := by have := hB34.size; omega
      have p0w4 : w4.cell? ⟨w.heap.size + 1, 0, none⟩ = some (.int .i64 a) := (hB34.cell (p := ⟨w.heap.size + 1, 0, none⟩) (by show w.heap.size + 1 < _; omega)).trans p0w3
      have p1w4 : w4.cell? ⟨w.heap.size + 1, 1, none⟩ = some (.int .i64 b) := (hB34.cell (p := ⟨w.heap.size + 1, 1, none⟩) (by show w.heap.size + 1 < _; omega)).trans p1w3
      have p2w4 : w4.cell? ⟨w.heap.size + 1, 2, none⟩ = some (.int .i64 c) := (hB34.cell (p := ⟨w.heap.size + 1, 2, none⟩) (by show w.heap.size + 1 < _; omega)).trans p2w3
      clear m0w3 m1w3 p0w3 p1w3 p2w3
      obtain ⟨o1, k1', rfl, -, -, -⟩ := (owns_R (F := P) hown).form
      have HO1 := Lib.hid hown
      obtain ⟨m0, m1, mz, ms⟩ := cells_at2 HM4.out
      have HN1 : Hid (∀ b, b < w3.heap.size + 1 → some b ≠ (Value.slice o1 np k1').ownBlock) := fun b hb => owns_low HO1.out hb
      clear hown hgrow hnew hG4 hB34
      go_wp2_with (at_builtin; refine wpList_append2 rfl _ _ 22 rfl (w3.heap.size + 1) 40 iv _ 3 24 huiv hiv hziv0 hziv1 hziv2 rfl (by decide) _ np (flV P np) rfl (owns_kept HO1.out (by simp) (fun g hg => by have hlt := (HO1.out.lt g hg).2; rw [heapA_old _ _ _ (by simp <;> omega), heapS_other _ _ _ _ _ (fun e => HN1.out g (by omega) hg.symm)])) (some ⟨w4.heap.size, 0, none⟩) 1 1 [.int .i64 a, .int .i64 b, .int .i64 c] rfl rfl (fun h => by cases h) ?d2 (ints3_one _ _ _) (by unfold maxLen; omega) (by omega) ?d6 ?_)
      case d2 => exact row3_cells (heapA_at _ _ _ (by simp))
      case d6 => simp <;> omega
      intro s2 w5 hown hgrow hnew
      obtain ⟨PP, hPP⟩ : ∃ X, snocF P np (a, b, c) = X := ⟨_, rfl⟩
      have HPP := Lib.hid hPP
      replace hown : w5.ownsRow (w3.heap.size + 1) 40 3 s2 (np + 1) (flV PP (np + 1)) := by
        rw [← hPP, ← flV_snoc]
        exact hown
      have hz5 := hgrow.size
      simp only [World.size_setCell, World.size_alloc] at hz5
      have hK45 : Below w3.heap.size w4 w5 := Below.grown (by go_grown) hgrow (by simp <;> omega) (fun g hg => by
        rcases Nat.lt_or_ge g (w3.heap.size + 1) with h' | h'
        · exact absurd hg.symm (HN1.out _ h')
        · omega)
      have HM5 : Hid (w5.heap[w3.heap.size]? = some (.cells #[.slice o1 np k1', .slice none 0 0] 25)) := by
        show _ = _
        rw [hgrow.block _ (by simp <;> omega) (HN1.out _ (by omega)), heapA_old _ _ _ (by simp <;> omega), heapS_same, HM4.out]
        rfl
      have hBw5 : Below w.heap.size w w5 := hBw4.trans (hK45.mono (by omega))
      have HW5 : Hid (w5.heap[w1.heap.size]? = some (.cells #[.bool sv, .int .u64 (X0 0), .int .u64 (X0 1), .int .u64 (X0 2), .int .u64 (X0 3)] 33)) := (hK45.block _ (by omega)).trans HW4.out
      have HV05 : Hid (w5.heap[V0]? = some (.cells #[.int .i64 (x : Int), .int .i64 (y : Int), .int .i64 (z : Int)] 56)) := (hK45.block _ (by omega)).trans HV04.out
      clear HW4 HV04
      have zmw5 : w.heap.size < w5.heap.size := by have := hK45.size; omega
      have m0w5 : w5.cell? ⟨w.heap.size, 0, none⟩ = some (.slice op np cp) := (hK45.cell (p := ⟨w.heap.size, 0, none⟩) (by show w.heap.size < _; omega)).trans m0w4
      have m1w5 : w5.cell? ⟨w.heap.size, 1, none⟩ = some (.slice (some ⟨b1, f1, none⟩) nf cf) := (hK45.cell (p := ⟨w.heap.size, 1, none⟩) (by show w.heap.size < _; omega)).trans m1w4
      have zpw5 : w.heap.size + 1 < w5.heap.size := by have := hK45.size; omega
      have p0w5 : w5.cell? ⟨w.heap.size + 1, 0, none⟩ = some (.int .i64 a) := (hK45.cell (p := ⟨w.heap.size + 1, 0, none⟩) (by show w.heap.size + 1 < _; omega)).trans p0w4
      have p1w5 : w5.cell? ⟨w.heap.size + 1, 1, none⟩ = some (.int .i64 b) := (hK45.cell (p := ⟨w.heap.size + 1, 1, none⟩) (by show w.heap.size + 1 < _; omega)).trans p1w4
      have p2w5 : w5.cell? ⟨w.heap.size + 1, 2, none⟩ = some (.int .i64 c) := (hK45.cell (p := ⟨w.heap.size + 1, 2, none⟩) (by show w.heap.size + 1 < _; omega)).trans p2w4
      clear m0w4 m1w4 p0w4 p1w4 p2w4
      obtain ⟨o2, k2, rfl, -, -, -⟩ := (owns_R (F := PP) hown).form
      have HO2 := Lib.hid hown
      have HN2 : Hid (∀ b, b < w3.heap.size + 1 → some b ≠ (Value.slice o2 (np + 1) k2).ownBlock) := fun b hb => owns_low HO2.out hb
      clear hown hgrow hnew m0 m1 mz ms hK45 hPP
      obtain ⟨m0, m1, mz, ms5⟩ := cells_at2 HM5.out
      go_wp2_with fail
      obtain ⟨w6, hw6⟩ : ∃ X, w5.setCell ⟨w3.heap.size, 0, none⟩ (.slice o2 (np + 1) k2) = X := ⟨_, rfl⟩
      have HM6 : Hid (w6.heap[w3.heap.size]? = some (.cells #[.slice o2 (np + 1) k2, .slice none 0 0] 25)) := by
        show _ = _
        rw [← hw6, heapS_same, HM5.out]
        rfl
      have HO6 : Hid (w6.ownsRow (w3.heap.size + 1) 40 3 (.slice o2 (np + 1) k2) (np + 1) (flV PP (np + 1))) := by
        rw [← hw6]
        exact owns_kept HO2.out (by simp) (fun g hg => heapS_other _ _ _ _ _ (fun e => HN2.out g (by omega) hg.symm))
      have hK56 : Below w3.heap.size w5 w6 := by rw [← hw6]; go_grown
      have hz6 : w6.heap.size ≤ w5.heap.size ∧ w5.heap.size ≤ w6.heap.size := by rw [← hw6]; simp
      have hBw6 : Below w.heap.size w w6 := hBw5.trans (hK56.mono (by omega))
      rw [hw6]
      clear hw6 HM5 HO2 m0 m1 mz
      have HW6 : Hid (w6.heap[w1.heap.size]? = some (.cells #[.bool sv, .int .u64 (X0 0), .int .u64 (X0 1), .int .u64 (X0 2), .int .u64 (X0 3)] 33)) := (hK56.block _ (by omega)).trans HW5.out
      have HV06 : Hid (w6.heap[V0]? = some (.cells #[.int .i64 (x : Int), .int .i64 (y : Int), .int .i64 (z : Int)] 56)) := (hK56.block _ (by omega)).trans HV05.out
      clear HW5 HV05
      have zmw6 : w.heap.size < w6.heap.size := by have := hK56.size; omega
      have m0w6 : w6.cell? ⟨w.heap.size, 0, none⟩ = some (.slice op np cp) := (hK56.cell (p := ⟨w.heap.size, 0, none⟩) (by show w.heap.size < _; omega)).trans m0w5
      have m1w6 : w6.cell? ⟨w.heap.size, 1, none⟩ = some (.slice (some ⟨b1, f1, none⟩) nf cf) := (hK56.cell (p := ⟨w.heap.size, 1, none⟩) (by show w.heap.size < _; omega)).trans m1w5
      have zpw6 : w.heap.size + 1 < w6.heap.size := by have := hK56.size; omega
      have p0w6 : w6.cell? ⟨w.heap.size + 1, 0, none⟩ = some (.int .i64 a) := (hK56.cell (p := ⟨w.heap.size + 1, 0, none⟩) (by show w.heap.size + 1 < _; omega)).trans p0w5
      have p1w6 : w6.cell? ⟨w.heap.size + 1, 1, none⟩ = some (.int .i64 b) := (hK56.cell (p := ⟨w.heap.size + 1, 1, none⟩) (by show w.heap.size + 1 < _; omega)).trans p1w5
      have p2w6 : w6.cell? ⟨w.heap.size + 1, 2, none⟩ = some (.int .i64 c) := (hK56.cell (p := ⟨w.heap.size + 1, 2, none⟩) (by show w.heap.size + 1 < _; omega)).trans p2w5
      clear m0w5 m1w5 p0w5 p1w5 p2w5
      obtain ⟨m0, m1, mz, ms6⟩ := cells_at2 HM6.out
      clear hK56
      obtain ⟨i0, hi0, hz00, hz01, hz02⟩ := infoR_parts info_i3
      have hu0 := huit
      have hdr := HDR.out
      refine wp_region_relm 8 6 [0, 1, 2, 3, 4, 5] (by kernel_rfl) (by kernel_rfl) (by kernel_rfl) (by decide) (by kernel_rfl) ?_
      simp only [List.take_succ_cons, List.take_zero, fillL, Act.put, List.setIfInBounds_toArray, List.set_cons_zero, List.set_cons_succ]
      apply relm_is (by decide) (by decide)
      · intro u wx hb hd
        have hz := hb.size
        (try simp only [World.size_alloc, World.size_setCell] at hz)
        have hz0 : w3.heap.size < wx.heap.size := by omega
        have hz1 : w.heap.size < wx.heap.size := by omega
        obtain ⟨hc, hf⟩ := bcell hb
        have HBX := Lib.hid hb
        clear hb hz
        simp [depsS, Region.binds, updS, Stay.is, Stay.any] at hd
        go_simp
        first | exact ⟨Below.refl _ _, rfl⟩ | rfl
      apply relm_is (by decide) (by decide)
      · intro u wx hb hd
        have hz := hb.size
        (try simp only [World.size_alloc, World.size_setCell] at hz)
        have hz0 : w3.heap.size < wx.heap.size := by omega
        have hz1 : w.heap.size < wx.heap.size := by omega
        obtain ⟨hc, hf⟩ := bcell hb
        have HBX := Lib.hid hb
        clear hb hz
        simp [depsS, Region.binds, updS, Stay.is, Stay.any] at hd
        go_simp
        first | exact ⟨Below.refl _ _, rfl⟩ | rfl
      apply relm_is (by decide) (by decide)
      · intro u wx hb hd
        have hz := hb.size
        (try simp only [World.size_alloc, World.size_setCell] at hz)
        have hz0 : w3.heap.size < wx.heap.size := by omega
        have hz1 : w.heap.size < wx.heap.size := by omega
        obtain ⟨hc, hf⟩ := bcell hb
        have HBX := Lib.hid hb
        clear hb hz
        simp [depsS, Region.binds, updS, Stay.is, Stay.any] at hd
        go_simp
        first | exact ⟨Below.refl _ _, rfl⟩ | rfl
      apply relm_is (by decide) (by decide)
      · intro u wx hb hd
        have hz := hb.size
        (try simp only [World.size_alloc, World.size_setCell] at hz)
        have hz0 : w3.heap.size < wx.heap.size := by omega
        have hz1 : w.heap.size < wx.heap.size := by omega
        obtain ⟨hc, hf⟩ := bcell hb
        have HBX := Lib.hid hb
        clear hb hz
        simp [depsS, Region.binds, updS, Stay.is, Stay.any] at hd
        go_simp
        first | exact ⟨Below.refl _ _, rfl⟩ | rfl
      apply relm_is (by decide) (by decide)
      · intro u wx hb hd
        have hz := hb.size
        (try simp only [World.size_alloc, World.size_setCell] at hz)
        have hz0 : w3.heap.size < wx.heap.size := by omega
        have hz1 : w.heap.size < wx.heap.size := by omega
        obtain ⟨hc, hf⟩ := bcell hb
        have HBX := Lib.hid hb
        clear hb hz
        simp [depsS, Region.binds, updS, Stay.is, Stay.any] at hd
        go_simp
        first | exact ⟨Below.refl _ _, rfl⟩ | rfl
      apply relm_is (by decide) (by decide)
      · intro u wx hb hd
        have hz := hb.size
        (try simp only [World.size_alloc, World.size_setCell] at hz)
        have hz0 : w3.heap.size < wx.heap.size := by omega
        have hz1 : w.heap.size < wx.heap.size := by omega
        obtain ⟨hc, hf⟩ := bcell hb
        have HBX := Lib.hid hb
        clear hb hz
        simp [depsS, Region.binds, updS, Stay.is, Stay.any] at hd
        go_simp
        first | exact ⟨Below.refl _ _, rfl⟩ | rfl
      refine relm_append (w6.heap.size) (.tmp 117) (.tmp 121) 23 rfl rfl 56 i0 (.agg #[.int .i64 0, .int .i64 0, .int .i64 0]) 3 24 (0) (q) [] (flV F q) hu0 hi0 hz00 hz01 hz02 rfl (by decide) (.slice none 0 0) (by decide) (World.ownsRow_nil _ _ _ _) (by omega) (by unfold maxLen; omega) (by omega) (flV_len _ _) (flV_one _ _) ?_ ?_
      · intro u wx hb hd
        have hz := hb.size
        (try simp only [World.size_alloc, World.size_setCell] at hz)
        have hz0 : w3.heap.size < wx.heap.size := by omega
        have hz1 : w.heap.size < wx.heap.size := by omega
        obtain ⟨hc, hf⟩ := bcell hb
        have HBX := Lib.hid hb
        clear hb hz
        simp [depsS, Region.binds, updS, Stay.is, Stay.any] at hd
        refine ⟨by have h := hd.1; first | exact h | simpa [Act.eval] using h, hd1, hd2, by have h := hd.2; first | exact h | simpa [Act.eval] using h, HDN.out, fun ad had j u hj => src_below HDC.out (below_step hBw6 HBX.out) ad had j u hj⟩
      apply relm_free (by decide) (by decide)
      · intro u wx
        refine ⟨by simp [Region.wanted], ?_⟩
        go_simp
        first | exact ⟨rfl, rfl⟩ | rfl
      intro u w7 hq5 hE
      replace hq5 : (Stay.app _ _ _ _ _ _ _).p (u 6) w7 := hq5
      have e0 : u 0 = _ := hE 0 (by decide) (by decide) (Const.is _)
      have e1 : u 1 = _ := hE 1 (by decide) (by decide) (Const.is _)
      have e2 : u 2 = _ := hE 2 (by decide) (by decide) (Const.is _)
      have e3 : u 3 = _ := hE 3 (by decide) (by decide) (Const.is _)
      have e4 : u 4 = _ := hE 4 (by decide) (by decide) (Const.is _)
      have e5 : u 5 = _ := hE 5 (by decide) (by decide) (Const.is _)
      have e7 : u 7 = _ := hE 7 (by decide) (by decide) (Const.is _)
      obtain ⟨HOw7, hgw7, hsw7, hnw7⟩ := hq5
      (try simp only [World.size_alloc, World.size_setCell] at hsw7 hnw7)
      simp only [List.drop_succ_cons, List.drop_zero, List.take_succ_cons, List.take_zero, fillL, Act.put, List.setIfInBounds_toArray, List.set_cons_zero, List.set_cons_succ, e0, e1, e2, e3, e4, e5, e7]
      clear e0 e1 e2 e3 e4 e5 e7 hE
      generalize u 6 = vw7 at *
      replace HOw7 := Lib.hid HOw7
      replace HOw7 : Hid (w7.ownsRow w6.heap.size 56 3 vw7 q (flV F q)) := by
        have h := HOw7.out
        simp only [Nat.zero_add, List.nil_append] at h
        exact h
      obtain ⟨o3, k3, rfl, -, -, -⟩ := (owns_R (F := F) HOw7.out).form
      have hG7 := Below.gnone hgw7
      have hB67 : Below w6.heap.size w6 w7 := hG7
      have HM7 : Hid (w7.heap[w3.heap.size]? = some (.cells #[.slice o2 (np + 1) k2, .slice none 0 0] 25)) := (hG7.block _ (by omega)).trans HM6.out
      have HO7 := Lib.hid (owns_on HO6.out hB67)
      have hBw7 : Below w.heap.size w w7 := below_step hBw6 hB67
      have HN3 : Hid (∀ b, b < w6.heap.size → some b ≠ (Value.slice o3 q k3).ownBlock) := fun b hb => owns_low HOw7.out hb
      have HPL : Hid (∀ g, (Value.slice o2 (np + 1) k2).ownBlock = some g → g < w6.heap.size ∧ g ≠ w3.heap.size) := fun g hg => ⟨(HO6.out.lt g hg).2, fun e => HN2.out w3.heap.size (by omega) (by rw [hg, e])⟩
      have HW7 : Hid (w7.heap[w1.heap.size]? = some (.cells #[.bool sv, .int .u64 (X0 0), .int .u64 (X0 1), .int .u64 (X0 2), .int .u64 (X0 3)] 33)) := (hB67.block _ (by omega)).trans HW6.out
      have HV07 : Hid (w7.heap[V0]? = some (.cells #[.int .i64 (x : Int), .int .i64 (y : Int), .int .i64 (z : Int)] 56)) := (hB67.block _ (by omega)).trans HV06.out
      clear HW6 HV06
      have zmw7 : w.heap.size < w7.heap.size := by have := hB67.size; omega
      have m0w7 : w7.cell? ⟨w.heap.size, 0, none⟩ = some (.slice op np cp) := (hB67.cell (p := ⟨w.heap.size, 0, none⟩) (by show w.heap.size < _; omega)).trans m0w6
      have m1w7 : w7.cell? ⟨w.heap.size, 1, none⟩ = some (.slice (some ⟨b1, f1, none⟩) nf cf) := (hB67.cell (p := ⟨w.heap.size, 1, none⟩) (by show w.heap.size < _; omega)).trans m1w6
      have zpw7 : w.heap.size + 1 < w7.heap.size := by have := hB67.size; omega
      have p0w7 : w7.cell? ⟨w.heap.size + 1, 0, none⟩ = some (.int .i64 a) := (hB67.cell (p := ⟨w.heap.size + 1, 0, none⟩) (by show w.heap.size + 1 < _; omega)).trans p0w6
      have p1w7 : w7.cell? ⟨w.heap.size + 1, 1, none⟩ = some (.int .i64 b) := (hB67.cell (p := ⟨w.heap.size + 1, 1, none⟩) (by show w.heap.size + 1 < _; omega)).trans p1w6
      have p2w7 : w7.cell? ⟨w.heap.size + 1, 2, none⟩ = some (.int .i64 c) := (hB67.cell (p := ⟨w.heap.size + 1, 2, none⟩) (by show w.heap.size + 1 < _; omega)).trans p2w6
      clear m0w6 m1w6 p0w6 p1w6 p2w6
      clear hgw7 hnw7 hG7 hB67 m0 m1 mz ms6 HM6 HO6 hdr
      obtain ⟨m0, m1, mz, ms7⟩ := cells_at2 HM7.out
      go_wp2_with fail
      obtain ⟨w8, hw8⟩ : ∃ X, w7.setCell ⟨w3.heap.size, 1, none⟩ (.slice o3 q k3) = X := ⟨_, rfl⟩
      have HM8 : Hid (w8.heap[w3.heap.size]? = some (.cells #[.slice o2 (np + 1) k2, .slice o3 q k3] 25)) := by
        show _ = _
        rw [← hw8, heapS_same, HM7.out]
        rfl
      have HO8 : Hid (w8.ownsRow (w3.heap.size + 1) 40 3 (.slice o2 (np + 1) k2) (np + 1) (flV PP (np + 1))) := by
        rw [← hw8]
        exact owns_kept HO7.out (by simp) (fun g hg => heapS_other _ _ _ _ _ (fun e => HN2.out g (by omega) hg.symm))
      have HT8 : Hid (w8.ownsRow w6.heap.size 56 3 (.slice o3 q k3) q (flV F q)) := by
        rw [← hw8]
        exact owns_kept HOw7.out (by simp) (fun g hg => heapS_other _ _ _ _ _ (fun e => HN3.out g (by omega) hg.symm))
      have hK78 : Below w3.heap.size w7 w8 := by rw [← hw8]; go_grown
      have hz8 : w8.heap.size ≤ w7.heap.size ∧ w7.heap.size ≤ w8.heap.size := by rw [← hw8]; simp
      have hBw8 : Below w.heap.size w w8 := hBw7.trans (hK78.mono (by omega))
      rw [hw8]
      clear hw8 HM7 HO7 HOw7 m0 m1 mz
      have HW8 : Hid (w8.heap[w1.heap.size]? = some (.cells #[.bool sv, .int .u64 (X0 0), .int .u64 (X0 1), .int .u64 (X0 2), .int .u64 (X0 3)] 33)) := (hK78.block _ (by omega)).trans HW7.out
      have HV08 : Hid (w8.heap[V0]? = some (.cells #[.int .i64 (x : Int), .int .i64 (y : Int), .int .i64 (z : Int)] 56)) := (hK78.block _ (by omega)).trans HV07.out
      clear HW7 HV07
      have zmw8 : w.heap.size < w8.heap.size := by have := hK78.size; omega
      have m0w8 : w8.cell? ⟨w.heap.size, 0, none⟩ = some (.slice op np cp) := (hK78.cell (p := ⟨w.heap.size, 0, none⟩) (by show w.heap.size < _; omega)).trans m0w7
      have m1w8 : w8.cell? ⟨w.heap.size, 1, none⟩ = some (.slice (some ⟨b1, f1, none⟩) nf cf) := (hK78.cell (p := ⟨w.heap.size, 1, none⟩) (by show w.heap.size < _; omega)).trans m1w7
      have zpw8 : w.heap.size + 1 < w8.heap.size := by have := hK78.size; omega
      have p0w8 : w8.cell? ⟨w.heap.size + 1, 0, none⟩ = some (.int .i64 a) := (hK78.cell (p := ⟨w.heap.size + 1, 0, none⟩) (by show w.heap.size + 1 < _; omega)).trans p0w7
      have p1w8 : w8.cell? ⟨w.heap.size + 1, 1, none⟩ = some (.int .i64 b) := (hK78.cell (p := ⟨w.heap.size + 1, 1, none⟩) (by show w.heap.size + 1 < _; omega)).trans p1w7
      have p2w8 : w8.cell? ⟨w.heap.size + 1, 2, none⟩ = some (.int .i64 c) := (hK78.cell (p := ⟨w.heap.size + 1, 2, none⟩) (by show w.heap.size + 1 < _; omega)).trans p2w7
      clear m0w7 m1w7 p0w7 p1w7 p2w7
      obtain ⟨m0, m1, mz, ms8⟩ := cells_at2 HM8.out
      clear hK78
      have hsz67 : w6.heap.size ≤ w8.heap.size := by omega
      have tlr := HTR.out
      refine wp_region_relm 9 7 [0, 1, 2, 3, 4, 5, 6] (by kernel_rfl) (by kernel_rfl) (by kernel_rfl) (by decide) (by kernel_rfl) ?_
      simp only [List.take_succ_cons, List.take_zero, fillL, Act.put, List.setIfInBounds_toArray, List.set_cons_zero, List.set_cons_succ]
      apply relm_is (by decide) (by decide)
      · intro u wx hb hd
        have hz := hb.size
        (try simp only [World.size_alloc, World.size_setCell] at hz)
        have hz0 : w3.heap.size < wx.heap.size := by omega
        have hz1 : w.heap.size < wx.heap.size := by omega
        obtain ⟨hc, hf⟩ := bcell hb
        have HBX := Lib.hid hb
        clear hb hz
        simp [depsS, Region.binds, updS, Stay.is, Stay.any] at hd
        go_simp
        first | exact ⟨Below.refl _ _, rfl⟩ | rfl
      apply relm_is (by decide) (by decide)
      · intro u wx hb hd
        have hz := hb.size
        (try simp only [World.size_alloc, World.size_setCell] at hz)
        have hz0 : w3.heap.size < wx.heap.size := by omega
        have hz1 : w.heap.size < wx.heap.size := by omega
        obtain ⟨hc, hf⟩ := bcell hb
        have HBX := Lib.hid hb
        clear hb hz
        simp [depsS, Region.binds, updS, Stay.is, Stay.any] at hd
        go_simp
        first | exact ⟨Below.refl _ _, rfl⟩ | rfl
      apply relm_is (by decide) (by decide)
      · intro u wx hb hd
        have hz := hb.size
        (try simp only [World.size_alloc, World.size_setCell] at hz)
        have hz0 : w3.heap.size < wx.heap.size := by omega
        have hz1 : w.heap.size < wx.heap.size := by omega
        obtain ⟨hc, hf⟩ := bcell hb
        have HBX := Lib.hid hb
        clear hb hz
        simp [depsS, Region.binds, updS, Stay.is, Stay.any] at hd
        go_simp
        first | exact ⟨Below.refl _ _, rfl⟩ | rfl
      apply relm_is (by decide) (by decide)
      · intro u wx hb hd
        have hz := hb.size
        (try simp only [World.size_alloc, World.size_setCell] at hz)
        have hz0 : w3.heap.size < wx.heap.size := by omega
        have hz1 : w.heap.size < wx.heap.size := by omega
        obtain ⟨hc, hf⟩ := bcell hb
        have HBX := Lib.hid hb
        clear hb hz
        simp [depsS, Region.binds, updS, Stay.is, Stay.any] at hd
        go_simp
        first | exact ⟨Below.refl _ _, rfl⟩ | rfl
      apply relm_is (by decide) (by decide)
      · intro u wx hb hd
        have hz := hb.size
        (try simp only [World.size_alloc, World.size_setCell] at hz)
        have hz0 : w3.heap.size < wx.heap.size := by omega
        have hz1 : w.heap.size < wx.heap.size := by omega
        obtain ⟨hc, hf⟩ := bcell hb
        have HBX := Lib.hid hb
        clear hb hz
        simp [depsS, Region.binds, updS, Stay.is, Stay.any] at hd
        go_simp
        first | exact ⟨Below.refl _ _, rfl⟩ | rfl
      apply relm_is (by decide) (by decide)
      · intro u wx hb hd
        have hz := hb.size
        (try simp only [World.size_alloc, World.size_setCell] at hz)
        have hz0 : w3.heap.size < wx.heap.size := by omega
        have hz1 : w.heap.size < wx.heap.size := by omega
        obtain ⟨hc, hf⟩ := bcell hb
        have HBX := Lib.hid hb
        clear hb hz
        simp [depsS, Region.binds, updS, Stay.is, Stay.any] at hd
        go_simp
        first | exact ⟨Below.refl _ _, rfl⟩ | rfl
      apply relm_is (by decide) (by decide)
      · intro u wx hb hd
        have hz := hb.size
        (try simp only [World.size_alloc, World.size_setCell] at hz)
        have hz0 : w3.heap.size < wx.heap.size := by omega
        have hz1 : w.heap.size < wx.heap.size := by omega
        obtain ⟨hc, hf⟩ := bcell hb
        have HBX := Lib.hid hb
        clear hb hz
        simp [depsS, Region.binds, updS, Stay.is, Stay.any] at hd
        go_simp
        first | exact ⟨Below.refl _ _, rfl⟩ | rfl
      refine relm_append (w6.heap.size) (.tmp 125) (.tmp 130) 23 rfl rfl 56 i0 (.agg #[.int .i64 0, .int .i64 0, .int .i64 0]) 3 24 (q) (nf - q1) (flV F q) (flV (fun i => F (q1 + i)) (nf - q1)) hu0 hi0 hz00 hz01 hz02 rfl (by decide) (.slice o3 q k3) (by decide) (HT8.out) (hsz67) (by unfold maxLen; omega) (by omega) (flV_len _ _) (flV_one _ _) ?_ ?_
      · intro u wx hb hd
        have hz := hb.size
        (try simp only [World.size_alloc, World.size_setCell] at hz)
        have hz0 : w3.heap.size < wx.heap.size := by omega
        have hz1 : w.heap.size < wx.heap.size := by omega
        obtain ⟨hc, hf⟩ := bcell hb
        have HBX := Lib.hid hb
        clear hb hz
        simp [depsS, Region.binds, updS, Stay.is, Stay.any] at hd
        refine ⟨by have h := hd.1; first | exact h | simpa [Act.eval] using h, tl1, tl2, by have h := hd.2; first | exact h | simpa [Act.eval] using h, HTN.out, fun ad had j u hj => src_below HTC.out (below_step hBw8 HBX.out) ad had j u hj⟩
      apply relm_free (by decide) (by decide)
      · intro u wx
        refine ⟨by simp [Region.wanted], ?_⟩
        go_simp
        first | exact ⟨rfl, rfl⟩ | rfl
      intro u w9 hq5 hE
      replace hq5 : (Stay.app _ _ _ _ _ _ _).p (u 7) w9 := hq5
      have e0 : u 0 = _ := hE 0 (by decide) (by decide) (Const.is _)
      have e1 : u 1 = _ := hE 1 (by decide) (by decide) (Const.is _)
      have e2 : u 2 = _ := hE 2 (by decide) (by decide) (Const.is _)
      have e3 : u 3 = _ := hE 3 (by decide) (by decide) (Const.is _)
      have e4 : u 4 = _ := hE 4 (by decide) (by decide) (Const.is _)
      have e5 : u 5 = _ := hE 5 (by decide) (by decide) (Const.is _)
      have e6 : u 6 = _ := hE 6 (by decide) (by decide) (Const.is _)
      have e8 : u 8 = _ := hE 8 (by decide) (by decide) (Const.is _)
      obtain ⟨HOw9, hgw9, hsw9, hnw9⟩ := hq5
      (try simp only [World.size_alloc, World.size_setCell] at hsw9 hnw9)
      simp only [List.drop_succ_cons, List.drop_zero, List.take_succ_cons, List.take_zero, fillL, Act.put, List.setIfInBounds_toArray, List.set_cons_zero, List.set_cons_succ, e0, e1, e2, e3, e4, e5, e6, e8]
      clear e0 e1 e2 e3 e4 e5 e6 e8 hE
      generalize u 7 = vw9 at *
      replace HOw9 := Lib.hid HOw9
      obtain ⟨DF, hDF⟩ : ∃ X, dropF F q = X := ⟨_, rfl⟩
      have HDF := Lib.hid hDF
      replace HOw9 : Hid (w9.ownsRow w6.heap.size 56 3 vw9 (nf - 1) (flV DF (nf - 1))) := by
        have h := HOw9.out
        have hq1 : q + 1 = q1 := HQ1.out
        rw [← hq1, flV_drop F hqn, hDF, show q + (nf - (q + 1)) = nf - 1 by omega] at h
        exact h
      obtain ⟨o4, k4, rfl, -, -, -⟩ := (owns_R (F := DF) HOw9.out).form
      have hB89 : Below w6.heap.size w8 w9 := Below.grown ((Below.refl _ _).mono hsz67) hgw9 hsz67 (fun g hg => (HT8.out.lt g hg).1)
      have HM9 : Hid (w9.heap[w3.heap.size]? = some (.cells #[.slice o2 (np + 1) k2, .slice o3 q k3] 25)) := (hB89.block _ (by omega)).trans HM8.out
      have HP9 : Hid (RowAt w9 (.slice o2 (np + 1) k2) (np + 1) PP) := (owns_R HO8.out).kept hsw9 (fun g hg => hgw9.block g (by have := (HPL.out g hg).1; omega) (HN3.out g (HPL.out g hg).1))
      have hBw9 : Below w.heap.size w w9 := hBw8.trans (hB89.mono (by omega))
      have HN4 : Hid (∀ b, b < w6.heap.size → some b ≠ (Value.slice o4 (nf - 1) k4).ownBlock) := fun b hb => owns_low HOw9.out hb
      have HW9 : Hid (w9.heap[w1.heap.size]? = some (.cells #[.bool sv, .int .u64 (X0 0), .int .u64 (X0 1), .int .u64 (X0 2), .int .u64 (X0 3)] 33)) := (hB89.block _ (by omega)).trans HW8.out
      have HV09 : Hid (w9.heap[V0]? = some (.cells #[.int .i64 (x : Int), .int .i64 (y : Int), .int .i64 (z : Int)] 56)) := (hB89.block _ (by omega)).trans HV08.out
      clear HW8 HV08
      have zmw9 : w.heap.size < w9.heap.size := by have := hB89.size; omega
      have m0w9 : w9.cell? ⟨w.heap.size, 0, none⟩ = some (.slice op np cp) := (hB89.cell (p := ⟨w.heap.size, 0, none⟩) (by show w.heap.size < _; omega)).trans m0w8
      have m1w9 : w9.cell? ⟨w.heap.size, 1, none⟩ = some (.slice (some ⟨b1, f1, none⟩) nf cf) := (hB89.cell (p := ⟨w.heap.size, 1, none⟩) (by show w.heap.size < _; omega)).trans m1w8
      have zpw9 : w.heap.size + 1 < w9.heap.size := by have := hB89.size; omega
      have p0w9 : w9.cell? ⟨w.heap.size + 1, 0, none⟩ = some (.int .i64 a) := (hB89.cell (p := ⟨w.heap.size + 1, 0, none⟩) (by show w.heap.size + 1 < _; omega)).trans p0w8
      have p1w9 : w9.cell? ⟨w.heap.size + 1, 1, none⟩ = some (.int .i64 b) := (hB89.cell (p := ⟨w.heap.size + 1, 1, none⟩) (by show w.heap.size + 1 < _; omega)).trans p1w8
      have p2w9 : w9.cell? ⟨w.heap.size + 1, 2, none⟩ = some (.int .i64 c) := (hB89.cell (p := ⟨w.heap.size + 1, 2, none⟩) (by show w.heap.size + 1 < _; omega)).trans p2w8
      clear m0w8 m1w8 p0w8 p1w8 p2w8
      clear hgw9 hnw9 m0 m1 mz ms8 tlr hDF HM8 HO8 HT8 hB89
      obtain ⟨m0, m1, mz, ms9⟩ := cells_at2 HM9.out
      obtain ⟨y0, y1, y2, yf, ys⟩ := cells_at3 HV09.out
      go_wp2_with (at_builtin; refine wpList_append2 rfl _ _ 23 rfl (w6.heap.size) 56 it _ 3 24 huit hit hzit0 hzit1 hzit2 rfl (by decide) _ (nf - 1) (flV DF (nf - 1)) rfl (owns_kept HOw9.out (by simp) (fun g hg => by have hlt := (HOw9.out.lt g hg).2; rw [heapA_old _ _ _ (by simp <;> omega), heapS_other _ _ _ _ _ (fun e => HN4.out g (by omega) hg.symm)])) (some ⟨w9.heap.size, 0, none⟩) 3 3 [.int .i64 (x : Int), .int .i64 (y : Int), .int .i64 (np : Int), .int .i64 (y : Int), .int .i64 (z : Int), .int .i64 (np : Int), .int .i64 (z : Int), .int .i64 (x : Int), .int .i64 (np : Int)] rfl rfl (fun h => by cases h) ?d2 (row9_one _ _ _ _) (by unfold maxLen; omega) (by omega) ?d6 ?_)
      case d2 => exact fun ad had j u hj => by cases had; exact built_cells (heapA_at _ _ _ (by simp)) j u hj
      case d6 => simp <;> omega
      intro s5 w11 hown hgrow hnew
      obtain ⟨CF, hCF⟩ : ∃ X, cutF F nf q (np : Int) = X := ⟨_, rfl⟩
      have HCF := Lib.hid hCF
      replace hown : w11.ownsRow w6.heap.size 56 3 s5 (nf + 2) (flV CF (nf + 2)) := by
        have h := hown
        rw [← HDF.out, flV_cut F (np : Int) x y z hqn HFQ.out, hCF, show nf - 1 + 3 = nf + 2 by omega] at h
        exact h
      have hz11 := hgrow.size
      simp only [World.size_setCell, World.size_alloc] at hz11
      have hK911 : Below w3.heap.size w9 w11 := Below.grown (by go_grown) hgrow (by simp <;> omega) (fun g hg => by
        rcases Nat.lt_or_ge g w6.heap.size with h' | h'
        · exact absurd hg.symm (HN4.out _ h')
        · omega)
      have HM11 : Hid (w11.heap[w3.heap.size]? = some (.cells #[.slice o2 (np + 1) k2, .slice o4 (nf - 1) k4] 25)) := by
        show _ = _
        rw [hgrow.block _ (by simp <;> omega) (HN4.out _ (by omega)), heapA_old _ _ _ (by simp <;> omega), heapS_same, HM9.out]
        rfl
      have HP11 : Hid (RowAt w11 (.slice o2 (np + 1) k2) (np + 1) PP) := HP9.out.kept (by omega) (fun g hg => by
        have h1 := HPL.out g hg
        rw [hgrow.block g (by simp <;> omega) (HN4.out g h1.1), heapA_old _ _ _ (by simp <;> omega), heapS_other _ _ _ _ _ h1.2])
      have hBw11 : Below w.heap.size w w11 := hBw9.trans (hK911.mono (by omega))
      have HW11 : Hid (w11.heap[w1.heap.size]? = some (.cells #[.bool sv, .int .u64 (X0 0), .int .u64 (X0 1), .int .u64 (X0 2), .int .u64 (X0 3)] 33)) := (hK911.block _ (by omega)).trans HW9.out
      have HV011 : Hid (w11.heap[V0]? = some (.cells #[.int .i64 (x : Int), .int .i64 (y : Int), .int .i64 (z : Int)] 56)) := (hK911.block _ (by omega)).trans HV09.out
      clear HW9 HV09
      have zmw11 : w.heap.size < w11.heap.size := by have := hK911.size; omega
      have m0w11 : w11.cell? ⟨w.heap.size, 0, none⟩ = some (.slice op np cp) := (hK911.cell (p := ⟨w.heap.size, 0, none⟩) (by show w.heap.size < _; omega)).trans m0w9
      have m1w11 : w11.cell? ⟨w.heap.size, 1, none⟩ = some (.slice (some ⟨b1, f1, none⟩) nf cf) := (hK911.cell (p := ⟨w.heap.size, 1, none⟩) (by show w.heap.size < _; omega)).trans m1w9
      have zpw11 : w.heap.size + 1 < w11.heap.size := by have := hK911.size; omega
      have p0w11 : w11.cell? ⟨w.heap.size + 1, 0, none⟩ = some (.int .i64 a) := (hK911.cell (p := ⟨w.heap.size + 1, 0, none⟩) (by show w.heap.size + 1 < _; omega)).trans p0w9
      have p1w11 : w11.cell? ⟨w.heap.size + 1, 1, none⟩ = some (.int .i64 b) := (hK911.cell (p := ⟨w.heap.size + 1, 1, none⟩) (by show w.heap.size + 1 < _; omega)).trans p1w9
      have p2w11 : w11.cell? ⟨w.heap.size + 1, 2, none⟩ = some (.int .i64 c) := (hK911.cell (p := ⟨w.heap.size + 1, 2, none⟩) (by show w.heap.size + 1 < _; omega)).trans p2w9
      clear m0w9 m1w9 p0w9 p1w9 p2w9
      obtain ⟨o5, k5, rfl, -, -, -⟩ := (owns_R (F := CF) hown).form
      have HO11 := Lib.hid hown
      have HN5 : Hid (∀ b, b < w6.heap.size → some b ≠ (Value.slice o5 (nf + 2) k5).ownBlock) := fun b hb => owns_low HO11.out hb
      clear hown hgrow hnew m0 m1 mz ms9 hK911 hCF y0 y1 y2 yf ys HM9 HP9 HOw9
      obtain ⟨m0, m1, mz, ms11⟩ := cells_at2 HM11.out
      go_wp2_with fail
      obtain ⟨w12, hw12⟩ : ∃ X, w11.setCell ⟨w3.heap.size, 1, none⟩ (.slice o5 (nf + 2) k5) = X := ⟨_, rfl⟩
      have HM12 : Hid (w12.heap[w3.heap.size]? = some (.cells #[.slice o2 (np + 1) k2, .slice o5 (nf + 2) k5] 25)) := by
        show _ = _
        rw [← hw12, heapS_same, HM11.out]
        rfl
      have HMJ : Hid (MAt w12 (.agg #[.slice o2 (np + 1) k2, .slice o5 (nf + 2) k5]) (np + 1) PP (nf + 2) CF) := by
        rw [← hw12]
        exact ⟨_, _, rfl, HP11.out.kept (by simp) (fun g hg => heapS_other _ _ _ _ _ (HPL.out g hg).2), owns_R (owns_kept HO11.out (by simp) (fun g hg => heapS_other _ _ _ _ _ (fun e => HN5.out g (by omega) hg.symm)))⟩
      have hK1112 : Below w3.heap.size w11 w12 := by rw [← hw12]; go_grown
      have hz12 : w12.heap.size ≤ w11.heap.size ∧ w11.heap.size ≤ w12.heap.size := by rw [← hw12]; simp
      have hBw12 : Below w.heap.size w w12 := hBw11.trans (hK1112.mono (by omega))
      rw [hw12]
      have HW12 : Hid (w12.heap[w1.heap.size]? = some (.cells #[.bool sv, .int .u64 (X0 0), .int .u64 (X0 1), .int .u64 (X0 2), .int .u64 (X0 3)] 33)) := (hK1112.block _ (by omega)).trans HW11.out
      have HV012 : Hid (w12.heap[V0]? = some (.cells #[.int .i64 (x : Int), .int .i64 (y : Int), .int .i64 (z : Int)] 56)) := (hK1112.block _ (by omega)).trans HV011.out
      clear HW11 HV011
      have zmw12 : w.heap.size < w12.heap.size := by have := hK1112.size; omega
      have m0w12 : w12.cell? ⟨w.heap.size, 0, none⟩ = some (.slice op np cp) := (hK1112.cell (p := ⟨w.heap.size, 0, none⟩) (by show w.heap.size < _; omega)).trans m0w11
      have m1w12 : w12.cell? ⟨w.heap.size, 1, none⟩ = some (.slice (some ⟨b1, f1, none⟩) nf cf) := (hK1112.cell (p := ⟨w.heap.size, 1, none⟩) (by show w.heap.size < _; omega)).trans m1w11
      have zpw12 : w.heap.size + 1 < w12.heap.size := by have := hK1112.size; omega
      have p0w12 : w12.cell? ⟨w.heap.size + 1, 0, none⟩ = some (.int .i64 a) := (hK1112.cell (p := ⟨w.heap.size + 1, 0, none⟩) (by show w.heap.size + 1 < _; omega)).trans p0w11
      have p1w12 : w12.cell? ⟨w.heap.size + 1, 1, none⟩ = some (.int .i64 b) := (hK1112.cell (p := ⟨w.heap.size + 1, 1, none⟩) (by show w.heap.size + 1 < _; omega)).trans p1w11
      have p2w12 : w12.cell? ⟨w.heap.size + 1, 2, none⟩ = some (.int .i64 c) := (hK1112.cell (p := ⟨w.heap.size + 1, 2, none⟩) (by show w.heap.size + 1 < _; omega)).trans p2w11
      clear m0w11 m1w11 p0w11 p1w11 p2w11
      have HMJB : Hid (∀ g, (Value.slice o2 (np + 1) k2).ownBlock = some g ∨ (Value.slice o5 (nf + 2) k5).ownBlock = some g → g < w12.heap.size) := fun g hg => by
        rcases hg with hg | hg
        · have := (HPL.out g hg).1; omega
        · have := (HO11.out.lt g hg).2; omega
      clear hw12 HM11 HP11 HO11 m0 m1 mz ms11 hK1112 HN1 HN2 HN3 HN4 HN5 HPL HDC HDN HTC HTN HDR HTR HXA HXN
      obtain ⟨b2, f2, hop, hbl2, hcl2⟩ := HEP.out x (by omega)
      subst hop
      obtain ⟨⟨x1, x2, x3⟩, hPx⟩ : ∃ p, P x = p := ⟨_, rfl⟩
      obtain ⟨⟨y1, y2, y3⟩, hPy⟩ : ∃ p, P y = p := ⟨_, rfl⟩
      obtain ⟨⟨z1, z2, z3⟩, hPz⟩ : ∃ p, P z = p := ⟨_, rfl⟩
      have qx0 : w12.cell? ⟨b2, f2 + x * 3, none⟩ = some (.int .i64 x1) := by
        have h := (hBw12.cell (p := ⟨b2, f2 + x * 3, none⟩) hbl2).trans (hcl2 x (by omega)).1
        rw [hPx] at h
        exact h
      have qx1 : w12.cell? ⟨b2, f2 + x * 3 + 1, none⟩ = some (.int .i64 x2) := by
        have h := (hBw12.cell (p := ⟨b2, f2 + x * 3 + 1, none⟩) hbl2).trans (hcl2 x (by omega)).2.1
        rw [hPx] at h
        exact h
      have qx2 : w12.cell? ⟨b2, f2 + x * 3 + 2, none⟩ = some (.int .i64 x3) := by
        have h := (hBw12.cell (p := ⟨b2, f2 + x * 3 + 2, none⟩) hbl2).trans (hcl2 x (by omega)).2.2
        rw [hPx] at h
        exact h
      have qy0 : w12.cell? ⟨b2, f2 + y * 3, none⟩ = some (.int .i64 y1) := by
        have h := (hBw12.cell (p := ⟨b2, f2 + y * 3, none⟩) hbl2).trans (hcl2 y (by omega)).1
        rw [hPy] at h
        exact h
      have qy1 : w12.cell? ⟨b2, f2 + y * 3 + 1, none⟩ = some (.int .i64 y2) := by
        have h := (hBw12.cell (p := ⟨b2, f2 + y * 3 + 1, none⟩) hbl2).trans (hcl2 y (by omega)).2.1
        rw [hPy] at h
        exact h
      have qy2 : w12.cell? ⟨b2, f2 + y * 3 + 2, none⟩ = some (.int .i64 y3) := by
        have h := (hBw12.cell (p := ⟨b2, f2 + y * 3 + 2, none⟩) hbl2).trans (hcl2 y (by omega)).2.2
        rw [hPy] at h
        exact h
      have qz0 : w12.cell? ⟨b2, f2 + z * 3, none⟩ = some (.int .i64 z1) := by
        have h := (hBw12.cell (p := ⟨b2, f2 + z * 3, none⟩) hbl2).trans (hcl2 z (by omega)).1
        rw [hPz] at h
        exact h
      have qz1 : w12.cell? ⟨b2, f2 + z * 3 + 1, none⟩ = some (.int .i64 z2) := by
        have h := (hBw12.cell (p := ⟨b2, f2 + z * 3 + 1, none⟩) hbl2).trans (hcl2 z (by omega)).2.1
        rw [hPz] at h
        exact h
      have qz2 : w12.cell? ⟨b2, f2 + z * 3 + 2, none⟩ = some (.int .i64 z3) := by
        have h := (hBw12.cell (p := ⟨b2, f2 + z * 3 + 2, none⟩) hbl2).trans (hcl2 z (by omega)).2.2
        rw [hPz] at h
        exact h
      have hbi := HG.out.ins
      have hIx := hbi x (by omega)
      have hIy := hbi y (by omega)
      have hIz := hbi z (by omega)
      rw [hPx] at hIx
      rw [hPy] at hIy
      rw [hPz] at hIz
      have hIv : InB 1048576 (a, b, c) := by unfold InB; dsimp only; omega
      have HPxyz := Lib.hid (And.intro hPx (And.intro hPy hPz))
      have HI := Lib.hid (And.intro hIx (And.intro hIy (And.intro hIz hIv)))
      have hbr2 : b2 < w12.heap.size := by have := hBw12.size; omega
      obtain ⟨y0, y1, y2, yf, ys⟩ := cells_at3 HV012.out
      clear hcl2 hPx hPy hPz hbi hIx hIy hIz hIv
      have xi0 : (0 : Int) ≤ (x : Int) := by omega
      have yi0 : (0 : Int) ≤ (y : Int) := by omega
      have zi0 : (0 : Int) ≤ (z : Int) := by omega
      have xi1 : (x : Int) < (np : Int) := by omega
      have yi1 : (y : Int) < (np : Int) := by omega
      have zi1 : (z : Int) < (np : Int) := by omega
      refine wp_region_seq 24 [⟨18, 21, #[.int .i64 0, .int .i64 0, .int .i64 0], 40⟩, ⟨19, 22, #[.int .i64 0, .int .i64 0, .int .i64 0], 40⟩, ⟨20, 23, #[.int .i64 0, .int .i64 0, .int .i64 0], 40⟩] [] (by kernel_rfl) (by kernel_rfl) (by kernel_rfl) (by kernel_rfl) (by kernel_rfl) ?_ ?_ ?_
      · intro r hr; cases hr
      · intro r hr; cases hr
      simp only [List.take_succ_cons, List.take_zero, fillL, Act.put, List.setIfInBounds_toArray, List.set_cons_zero, List.set_cons_succ]
      apply seq_is (by kernel_rfl)
      · intro u wx hb hd
        replace hb := hb.nil
        have hz := hb.size
        (try simp only [World.size_alloc, World.size_setCell] at hz)
        have hz0 : w.heap.size < wx.heap.size := by omega
        have hz1 : V0 < wx.heap.size := by omega
        have hz2 : b2 < wx.heap.size := by omega
        obtain ⟨hc, hf⟩ := bcell hb
        clear hb hz
        simp [depsE, Region.binds, updE, kindOf, Prp.is, Prp.any] at hd
        go_simp
        first | exact ⟨Below.refl _ _, rfl⟩ | rfl
      apply seq_is (by kernel_rfl)
      · intro u wx hb hd
        replace hb := hb.nil
        have hz := hb.size
        (try simp only [World.size_alloc, World.size_setCell] at hz)
        have hz0 : w.heap.size < wx.heap.size := by omega
        have hz1 : V0 < wx.heap.size := by omega
        have hz2 : b2 < wx.heap.size := by omega
        obtain ⟨hc, hf⟩ := bcell hb
        clear hb hz
        simp [depsE, Region.binds, updE, kindOf, Prp.is, Prp.any] at hd
        go_simp
        first | exact ⟨Below.refl _ _, rfl⟩ | rfl
      apply seq_is (by kernel_rfl)
      · intro u wx hb hd
        replace hb := hb.nil
        have hz := hb.size
        (try simp only [World.size_alloc, World.size_setCell] at hz)
        have hz0 : w.heap.size < wx.heap.size := by omega
        have hz1 : V0 < wx.heap.size := by omega
        have hz2 : b2 < wx.heap.size := by omega
        obtain ⟨hc, hf⟩ := bcell hb
        clear hb hz
        simp [depsE, Region.binds, updE, kindOf, Prp.is, Prp.any] at hd
        go_simp
        first | exact ⟨Below.refl _ _, rfl⟩ | rfl
      apply seq_is (by kernel_rfl)
      · intro u wx hb hd
        replace hb := hb.nil
        have hz := hb.size
        (try simp only [World.size_alloc, World.size_setCell] at hz)
        have hz0 : w.heap.size < wx.heap.size := by omega
        have hz1 : V0 < wx.heap.size := by omega
        have hz2 : b2 < wx.heap.size := by omega
        obtain ⟨hc, hf⟩ := bcell hb
        clear hb hz
        simp [depsE, Region.binds, updE, kindOf, Prp.is, Prp.any] at hd
        go_simp
        first | exact ⟨Below.refl _ _, rfl⟩ | rfl
      apply seq_is (by kernel_rfl)
      · intro u wx hb hd
        replace hb := hb.nil
        have hz := hb.size
        (try simp only [World.size_alloc, World.size_setCell] at hz)
        have hz0 : w.heap.size < wx.heap.size := by omega
        have hz1 : V0 < wx.heap.size := by omega
        have hz2 : b2 < wx.heap.size := by omega
        obtain ⟨hc, hf⟩ := bcell hb
        clear hb hz
        simp [depsE, Region.binds, updE, kindOf, Prp.is, Prp.any] at hd
        go_simp
        first | exact ⟨Below.refl _ _, rfl⟩ | rfl
      apply seq_is (by kernel_rfl)
      · intro u wx hb hd
        replace hb := hb.nil
        have hz := hb.size
        (try simp only [World.size_alloc, World.size_setCell] at hz)
        have hz0 : w.heap.size < wx.heap.size := by omega
        have hz1 : V0 < wx.heap.size := by omega
        have hz2 : b2 < wx.heap.size := by omega
        obtain ⟨hc, hf⟩ := bcell hb
        clear hb hz
        simp [depsE, Region.binds, updE, kindOf, Prp.is, Prp.any] at hd
        go_simp
        first | exact ⟨Below.refl _ _, rfl⟩ | rfl
      apply seq_is (by kernel_rfl)
      · intro u wx hb hd
        replace hb := hb.nil
        have hz := hb.size
        (try simp only [World.size_alloc, World.size_setCell] at hz)
        have hz0 : w.heap.size < wx.heap.size := by omega
        have hz1 : V0 < wx.heap.size := by omega
        have hz2 : b2 < wx.heap.size := by omega
        obtain ⟨hc, hf⟩ := bcell hb
        clear hb hz
        simp [depsE, Region.binds, updE, kindOf, Prp.is, Prp.any] at hd
        go_simp
        first | exact ⟨Below.refl _ _, rfl⟩ | rfl
      apply seq_is (by kernel_rfl)
      · intro u wx hb hd
        replace hb := hb.nil
        have hz := hb.size
        (try simp only [World.size_alloc, World.size_setCell] at hz)
        have hz0 : w.heap.size < wx.heap.size := by omega
        have hz1 : V0 < wx.heap.size := by omega
        have hz2 : b2 < wx.heap.size := by omega
        obtain ⟨hc, hf⟩ := bcell hb
        clear hb hz
        simp [depsE, Region.binds, updE, kindOf, Prp.is, Prp.any] at hd
        go_simp
        first | exact ⟨Below.refl _ _, rfl⟩ | rfl
      apply seq_is (by kernel_rfl)
      · intro u wx hb hd
        replace hb := hb.nil
        have hz := hb.size
        (try simp only [World.size_alloc, World.size_setCell] at hz)
        have hz0 : w.heap.size < wx.heap.size := by omega
        have hz1 : V0 < wx.heap.size := by omega
        have hz2 : b2 < wx.heap.size := by omega
        obtain ⟨hc, hf⟩ := bcell hb
        clear hb hz
        simp [depsE, Region.binds, updE, kindOf, Prp.is, Prp.any] at hd
        go_simp
        first | exact ⟨Below.refl _ _, rfl⟩ | rfl
      apply seq_is (by kernel_rfl)
      · intro u wx hb hd
        replace hb := hb.nil
        have hz := hb.size
        (try simp only [World.size_alloc, World.size_setCell] at hz)
        have hz0 : w.heap.size < wx.heap.size := by omega
        have hz1 : V0 < wx.heap.size := by omega
        have hz2 : b2 < wx.heap.size := by omega
        obtain ⟨hc, hf⟩ := bcell hb
        clear hb hz
        simp [depsE, Region.binds, updE, kindOf, Prp.is, Prp.any] at hd
        go_simp
        first | exact ⟨Below.refl _ _, rfl⟩ | rfl
      apply seq_is (by kernel_rfl)
      · intro u wx hb hd
        replace hb := hb.nil
        have hz := hb.size
        (try simp only [World.size_alloc, World.size_setCell] at hz)
        have hz0 : w.heap.size < wx.heap.size := by omega
        have hz1 : V0 < wx.heap.size := by omega
        have hz2 : b2 < wx.heap.size := by omega
        obtain ⟨hc, hf⟩ := bcell hb
        clear hb hz
        simp [depsE, Region.binds, updE, kindOf, Prp.is, Prp.any] at hd
        go_simp
        first | exact ⟨Below.refl _ _, rfl⟩ | rfl
      apply seq_is (by kernel_rfl)
      · intro u wx hb hd
        replace hb := hb.nil
        have hz := hb.size
        (try simp only [World.size_alloc, World.size_setCell] at hz)
        have hz0 : w.heap.size < wx.heap.size := by omega
        have hz1 : V0 < wx.heap.size := by omega
        have hz2 : b2 < wx.heap.size := by omega
        obtain ⟨hc, hf⟩ := bcell hb
        clear hb hz
        simp [depsE, Region.binds, updE, kindOf, Prp.is, Prp.any] at hd
        go_simp
        first | exact ⟨Below.refl _ _, rfl⟩ | rfl
      apply seq_is (by kernel_rfl)
      · intro u wx hb hd
        replace hb := hb.nil
        have hz := hb.size
        (try simp only [World.size_alloc, World.size_setCell] at hz)
        have hz0 : w.heap.size < wx.heap.size := by omega
        have hz1 : V0 < wx.heap.size := by omega
        have hz2 : b2 < wx.heap.size := by omega
        obtain ⟨hc, hf⟩ := bcell hb
        clear hb hz
        simp [depsE, Region.binds, updE, kindOf, Prp.is, Prp.any] at hd
        go_simp
        first | exact ⟨Below.refl _ _, rfl⟩ | rfl
      apply seq_is (by kernel_rfl)
      · intro u wx hb hd
        replace hb := hb.nil
        have hz := hb.size
        (try simp only [World.size_alloc, World.size_setCell] at hz)
        have hz0 : w.heap.size < wx.heap.size := by omega
        have hz1 : V0 < wx.heap.size := by omega
        have hz2 : b2 < wx.heap.size := by omega
        obtain ⟨hc, hf⟩ := bcell hb
        clear hb hz
        simp [depsE, Region.binds, updE, kindOf, Prp.is, Prp.any] at hd
        go_simp
        first | exact ⟨Below.refl _ _, rfl⟩ | rfl
      apply seq_is (by kernel_rfl)
      · intro u wx hb hd
        replace hb := hb.nil
        have hz := hb.size
        (try simp only [World.size_alloc, World.size_setCell] at hz)
        have hz0 : w.heap.size < wx.heap.size := by omega
        have hz1 : V0 < wx.heap.size := by omega
        have hz2 : b2 < wx.heap.size := by omega
        obtain ⟨hc, hf⟩ := bcell hb
        clear hb hz
        simp [depsE, Region.binds, updE, kindOf, Prp.is, Prp.any] at hd
        go_simp
        first | exact ⟨Below.refl _ _, rfl⟩ | rfl
      apply seq_is (by kernel_rfl)
      · intro u wx hb hd
        replace hb := hb.nil
        have hz := hb.size
        (try simp only [World.size_alloc, World.size_setCell] at hz)
        have hz0 : w.heap.size < wx.heap.size := by omega
        have hz1 : V0 < wx.heap.size := by omega
        have hz2 : b2 < wx.heap.size := by omega
        obtain ⟨hc, hf⟩ := bcell hb
        clear hb hz
        simp [depsE, Region.binds, updE, kindOf, Prp.is, Prp.any] at hd
        go_simp
        first | exact ⟨Below.refl _ _, rfl⟩ | rfl
      apply seq_is (by kernel_rfl)
      · intro u wx hb hd
        replace hb := hb.nil
        have hz := hb.size
        (try simp only [World.size_alloc, World.size_setCell] at hz)
        have hz0 : w.heap.size < wx.heap.size := by omega
        have hz1 : V0 < wx.heap.size := by omega
        have hz2 : b2 < wx.heap.size := by omega
        obtain ⟨hc, hf⟩ := bcell hb
        clear hb hz
        simp [depsE, Region.binds, updE, kindOf, Prp.is, Prp.any] at hd
        go_simp
        first | exact ⟨Below.refl _ _, rfl⟩ | rfl
      apply seq_is (by kernel_rfl)
      · intro u wx hb hd
        replace hb := hb.nil
        have hz := hb.size
        (try simp only [World.size_alloc, World.size_setCell] at hz)
        have hz0 : w.heap.size < wx.heap.size := by omega
        have hz1 : V0 < wx.heap.size := by omega
        have hz2 : b2 < wx.heap.size := by omega
        obtain ⟨hc, hf⟩ := bcell hb
        clear hb hz
        simp [depsE, Region.binds, updE, kindOf, Prp.is, Prp.any] at hd
        go_simp
        first | exact ⟨Below.refl _ _, rfl⟩ | rfl
      refine seq_var ⟨18, 21, #[.int .i64 0, .int .i64 0, .int .i64 0], 40⟩ (by simp) rfl ?_ ?_
      · intro u wx hb
        refine ⟨by simp [Region.wanted], ?_⟩
        go_simp
        first | done | rfl | exact ⟨rfl, rfl⟩
      refine seq_var ⟨19, 22, #[.int .i64 0, .int .i64 0, .int .i64 0], 40⟩ (by simp) rfl ?_ ?_
      · intro u wx hb
        refine ⟨by simp [Region.wanted], ?_⟩
        go_simp
        first | done | rfl | exact ⟨rfl, rfl⟩
      refine seq_var ⟨20, 23, #[.int .i64 0, .int .i64 0, .int .i64 0], 40⟩ (by simp) rfl ?_ ?_
      · intro u wx hb
        refine ⟨by simp [Region.wanted], ?_⟩
        go_simp
        first | done | rfl | exact ⟨rfl, rfl⟩
      apply seq_sto_agg ⟨18, 21, #[.int .i64 0, .int .i64 0, .int .i64 0], 40⟩ (by simp) rfl (by kernel_rfl) rfl (by kernel_rfl)
      · intro u wx hb hd
        replace hb := hb.nil
        have hz := hb.size
        (try simp only [World.size_alloc, World.size_setCell] at hz)
        have hz0 : w.heap.size < wx.heap.size := by omega
        have hz1 : V0 < wx.heap.size := by omega
        have hz2 : b2 < wx.heap.size := by omega
        obtain ⟨hc, hf⟩ := bcell hb
        clear hb hz
        simp [depsE, Region.binds, updE, kindOf, Prp.is, Prp.any] at hd
        refine ⟨by simp [Region.wanted], fun b' hub hlb hcells => ?_⟩
        have hub' : u 18 = .pointer (some ⟨b', 0, none⟩) := hub
        have hcells' : wx.heap[b']? = some (.cells #[.int .i64 0, .int .i64 0, .int .i64 0] 40) := hcells
        have hat := cells_at3 hcells'
        have HCL := Lib.hid hcells'
        clear hcells hcells' hub
        go_simp
        exact Stored.c3 HCL.out _ _ _
      apply seq_sto_agg ⟨19, 22, #[.int .i64 0, .int .i64 0, .int .i64 0], 40⟩ (by simp) rfl (by kernel_rfl) rfl (by kernel_rfl)
      · intro u wx hb hd
        replace hb := hb.nil
        have hz := hb.size
        (try simp only [World.size_alloc, World.size_setCell] at hz)
        have hz0 : w.heap.size < wx.heap.size := by omega
        have hz1 : V0 < wx.heap.size := by omega
        have hz2 : b2 < wx.heap.size := by omega
        obtain ⟨hc, hf⟩ := bcell hb
        clear hb hz
        simp [depsE, Region.binds, updE, kindOf, Prp.is, Prp.any] at hd
        refine ⟨by simp [Region.wanted], fun b' hub hlb hcells => ?_⟩
        have hub' : u 19 = .pointer (some ⟨b', 0, none⟩) := hub
        have hcells' : wx.heap[b']? = some (.cells #[.int .i64 0, .int .i64 0, .int .i64 0] 40) := hcells
        have hat := cells_at3 hcells'
        have HCL := Lib.hid hcells'
        clear hcells hcells' hub
        go_simp
        exact Stored.c3 HCL.out _ _ _
      apply seq_sto_agg ⟨20, 23, #[.int .i64 0, .int .i64 0, .int .i64 0], 40⟩ (by simp) rfl (by kernel_rfl) rfl (by kernel_rfl)
      · intro u wx hb hd
        replace hb := hb.nil
        have hz := hb.size
        (try simp only [World.size_alloc, World.size_setCell] at hz)
        have hz0 : w.heap.size < wx.heap.size := by omega
        have hz1 : V0 < wx.heap.size := by omega
        have hz2 : b2 < wx.heap.size := by omega
        obtain ⟨hc, hf⟩ := bcell hb
        clear hb hz
        simp [depsE, Region.binds, updE, kindOf, Prp.is, Prp.any] at hd
        refine ⟨by simp [Region.wanted], fun b' hub hlb hcells => ?_⟩
        have hub' : u 20 = .pointer (some ⟨b', 0, none⟩) := hub
        have hcells' : wx.heap[b']? = some (.cells #[.int .i64 0, .int .i64 0, .int .i64 0] 40) := hcells
        have hat := cells_at3 hcells'
        have HCL := Lib.hid hcells'
        clear hcells hcells' hub
        go_simp
        exact Stored.c3 HCL.out _ _ _
      intro u w13 hb hE hV hP
      replace hb := hb.nil
      clear hP
      have e0 : u 0 = _ := endE_get hE 0 (by decide) (by simp [kindOf])
      have e1 : u 1 = _ := endE_get hE 1 (by decide) (by simp [kindOf])
      have e2 : u 2 = _ := endE_get hE 2 (by decide) (by simp [kindOf])
      have e3 : u 3 = _ := endE_get hE 3 (by decide) (by simp [kindOf])
      have e4 : u 4 = _ := endE_get hE 4 (by decide) (by simp [kindOf])
      have e5 : u 5 = _ := endE_get hE 5 (by decide) (by simp [kindOf])
      have e6 : u 6 = _ := endE_get hE 6 (by decide) (by simp [kindOf])
      have e7 : u 7 = _ := endE_get hE 7 (by decide) (by simp [kindOf])
      have e8 : u 8 = _ := endE_get hE 8 (by decide) (by simp [kindOf])
      have e9 : u 9 = _ := endE_get hE 9 (by decide) (by simp [kindOf])
      have e10 : u 10 = _ := endE_get hE 10 (by decide) (by simp [kindOf])
      have e11 : u 11 = _ := endE_get hE 11 (by decide) (by simp [kindOf])
      have e12 : u 12 = _ := endE_get hE 12 (by decide) (by simp [kindOf])
      have e13 : u 13 = _ := endE_get hE 13 (by decide) (by simp [kindOf])
      have e14 : u 14 = _ := endE_get hE 14 (by decide) (by simp [kindOf])
      have e15 : u 15 = _ := endE_get hE 15 (by decide) (by simp [kindOf])
      have e16 : u 16 = _ := endE_get hE 16 (by decide) (by simp [kindOf])
      have e17 : u 17 = _ := endE_get hE 17 (by decide) (by simp [kindOf])
      have e21 : u 21 = _ := endE_get hE 21 (by decide) (by simp [kindOf])
      have e22 : u 22 = _ := endE_get hE 22 (by decide) (by simp [kindOf])
      have e23 : u 23 = _ := endE_get hE 23 (by decide) (by simp [kindOf])
      obtain ⟨⟨VP, pv0, lv0, qv0⟩, ⟨nq01, nq02, -⟩, ⟨⟨VQ, pv1, lv1, qv1⟩, ⟨nq12, -⟩, ⟨⟨VR, pv2, lv2, qv2⟩, -, -⟩⟩⟩ := hV
      replace qv0 : w13.heap[VP]? = some (.cells (u 21).cells 40) := qv0
      rw [e21] at qv0
      replace pv0 : u 18 = .pointer (some ⟨VP, 0, none⟩) := pv0
      obtain ⟨mVP0, mVP1, mVP2, mfVP, msVP⟩ := cells_at3 qv0
      have HQVP := Lib.hid qv0
      clear qv0
      replace qv1 : w13.heap[VQ]? = some (.cells (u 22).cells 40) := qv1
      rw [e22] at qv1
      replace pv1 : u 19 = .pointer (some ⟨VQ, 0, none⟩) := pv1
      obtain ⟨mVQ0, mVQ1, mVQ2, mfVQ, msVQ⟩ := cells_at3 qv1
      have HQVQ := Lib.hid qv1
      clear qv1
      replace qv2 : w13.heap[VR]? = some (.cells (u 23).cells 40) := qv2
      rw [e23] at qv2
      replace pv2 : u 20 = .pointer (some ⟨VR, 0, none⟩) := pv2
      obtain ⟨mVR0, mVR1, mVR2, mfVR, msVR⟩ := cells_at3 qv2
      have HQVR := Lib.hid qv2
      clear qv2
      have dVPVQ : VP ≠ VQ := fun e => nq01 (by show u _ = u _; rw [pv0, pv1, e])
      clear nq01
      have dVPVR : VP ≠ VR := fun e => nq02 (by show u _ = u _; rw [pv0, pv2, e])
      clear nq02
      have dVQVR : VQ ≠ VR := fun e => nq12 (by show u _ = u _; rw [pv1, pv2, e])
      clear nq12
      (try simp only [World.size_alloc, World.size_setCell] at lv0)
      have dVPw130 : VP ≠ w.heap.size := by omega
      have dVPw131 : VP ≠ V0 := by omega
      have dVPw132 : VP ≠ b2 := by omega
      (try have lbVP : w12.heap.size ≤ VP := by omega)
      clear lv0
      (try simp only [World.size_alloc, World.size_setCell] at lv1)
      have dVQw130 : VQ ≠ w.heap.size := by omega
      have dVQw131 : VQ ≠ V0 := by omega
      have dVQw132 : VQ ≠ b2 := by omega
      (try have lbVQ : w12.heap.size ≤ VQ := by omega)
      clear lv1
      (try simp only [World.size_alloc, World.size_setCell] at lv2)
      have dVRw130 : VR ≠ w.heap.size := by omega
      have dVRw131 : VR ≠ V0 := by omega
      have dVRw132 : VR ≠ b2 := by omega
      (try have lbVR : w12.heap.size ≤ VR := by omega)
      clear lv2
      simp only [List.drop_succ_cons, List.drop_zero, List.take_succ_cons, List.take_zero, fillL, Act.put, List.setIfInBounds_toArray, List.set_cons_zero, List.set_cons_succ, e0, e1, e2, e3, e4, e5, e6, e7, e8, e9, e10, e11, e12, e13, e14, e15, e16, e17, e21, e22, e23, pv0, pv1, pv2]
      clear e0 e1 e2 e3 e4 e5 e6 e7 e8 e9 e10 e11 e12 e13 e14 e15 e16 e17 e21 e22 e23 pv0 pv1 pv2 hE
      have HBWw13 := Lib.hid hb
      have hw13 := below_step (w := w12) (by first | assumption | go_grown) hb
      have hzw13 := hb.size
      (try simp only [World.size_alloc, World.size_setCell] at hzw13)
      have hzw130 : w.heap.size < w13.heap.size := by omega
      have hzw131 : V0 < w13.heap.size := by omega
      have hzw132 : b2 < w13.heap.size := by omega
      have HHw13 := Lib.hid hb.block
      obtain ⟨hcw13, hfw13⟩ := bcell hb
      clear hb hzw13
      have hP1213 := HBWw13.out
      have hBw13 : Below w.heap.size w w13 := below_step hBw12 hP1213
      have HM13 : Hid (w13.heap[w3.heap.size]? = some (.cells #[.slice o2 (np + 1) k2, .slice o5 (nf + 2) k5] 25)) := (hP1213.block _ (by omega)).trans HM12.out
      replace HMJ := Lib.hid (HMJ.out.below hP1213)
      replace HMJB : Hid (∀ g, (Value.slice o2 (np + 1) k2).ownBlock = some g ∨ (Value.slice o5 (nf + 2) k5).ownBlock = some g → g < w13.heap.size) := fun g hg => by
        have := HMJB.out g hg
        have := hP1213.size
        omega
      have zVP : VP < w13.heap.size := msVP
      have zVQ : VQ < w13.heap.size := msVQ
      have zVR : VR < w13.heap.size := msVR
      have HW13 : Hid (w13.heap[w1.heap.size]? = some (.cells #[.bool sv, .int .u64 (X0 0), .int .u64 (X0 1), .int .u64 (X0 2), .int .u64 (X0 3)] 33)) := (hP1213.block _ (by omega)).trans HW12.out
      have HV013 : Hid (w13.heap[V0]? = some (.cells #[.int .i64 (x : Int), .int .i64 (y : Int), .int .i64 (z : Int)] 56)) := (hP1213.block _ (by omega)).trans HV012.out
      clear HW12 HV012
      have zmw13 : w.heap.size < w13.heap.size := by have := hP1213.size; omega
      have m0w13 : w13.cell? ⟨w.heap.size, 0, none⟩ = some (.slice (some ⟨b2, f2, none⟩) np cp) := (hP1213.cell (p := ⟨w.heap.size, 0, none⟩) (by show w.heap.size < _; omega)).trans m0w12
      have m1w13 : w13.cell? ⟨w.heap.size, 1, none⟩ = some (.slice (some ⟨b1, f1, none⟩) nf cf) := (hP1213.cell (p := ⟨w.heap.size, 1, none⟩) (by show w.heap.size < _; omega)).trans m1w12
      have zpw13 : w.heap.size + 1 < w13.heap.size := by have := hP1213.size; omega
      have p0w13 : w13.cell? ⟨w.heap.size + 1, 0, none⟩ = some (.int .i64 a) := (hP1213.cell (p := ⟨w.heap.size + 1, 0, none⟩) (by show w.heap.size + 1 < _; omega)).trans p0w12
      have p1w13 : w13.cell? ⟨w.heap.size + 1, 1, none⟩ = some (.int .i64 b) := (hP1213.cell (p := ⟨w.heap.size + 1, 1, none⟩) (by show w.heap.size + 1 < _; omega)).trans p1w12
      have p2w13 : w13.cell? ⟨w.heap.size + 1, 2, none⟩ = some (.int .i64 c) := (hP1213.cell (p := ⟨w.heap.size + 1, 2, none⟩) (by show w.heap.size + 1 < _; omega)).trans p2w12
      clear m0w12 m1w12 p0w12 p1w12 p2w12
      have zMw13 : w3.heap.size < w13.heap.size := by omega
      clear hcw13 hfw13 HHw13 HBWw13 mfVP mfVQ mfVR msVP msVQ msVR y0 y1 y2 yf ys HM12 hP1213 qx0 qx1 qx2 qy0 qy1 qy2 qz0 qz1 qz2
      have hvA : vol6 np P nf F = volF P F nf := if_pos HE1.out
      have hvb := vol_bd HG.out
      obtain ⟨W0, hW0⟩ : ∃ e, vol6 np P nf F = e := ⟨_, rfl⟩
      obtain ⟨D1, hD1⟩ : ∃ e, detV (x1, x2, x3) (y1, y2, y3) (a, b, c) = e := ⟨_, rfl⟩
      have hd1b := det20 HI.out.1 HI.out.2.1 HI.out.2.2.2
      have HDT1 : Hid (∀ X, Calls Try.prog 27 #[.agg #[.int .i64 x1, .int .i64 x2, .int .i64 x3], .agg #[.int .i64 y1, .int .i64 y2, .int .i64 y3], .agg #[.int .i64 a, .int .i64 b, .int .i64 c]] X fun e w' => e = .returned (.int .i64 D1) ∧ Below X.heap.size X w') := fun X => by
        have h := rDet_pt (x1, x2, x3) (y1, y2, y3) (a, b, c) X HI.out.1 HI.out.2.1 HI.out.2.2.2
        rw [hD1] at h
        exact h
      rw [hD1] at hd1b
      obtain ⟨D2, hD2⟩ : ∃ e, detV (y1, y2, y3) (z1, z2, z3) (a, b, c) = e := ⟨_, rfl⟩
      have hd2b := det20 HI.out.2.1 HI.out.2.2.1 HI.out.2.2.2
      have HDT2 : Hid (∀ X, Calls Try.prog 27 #[.agg #[.int .i64 y1, .int .i64 y2, .int .i64 y3], .agg #[.int .i64 z1, .int .i64 z2, .int .i64 z3], .agg #[.int .i64 a, .int .i64 b, .int .i64 c]] X fun e w' => e = .returned (.int .i64 D2) ∧ Below X.heap.size X w') := fun X => by
        have h := rDet_pt (y1, y2, y3) (z1, z2, z3) (a, b, c) X HI.out.2.1 HI.out.2.2.1 HI.out.2.2.2
        rw [hD2] at h
        exact h
      rw [hD2] at hd2b
      obtain ⟨D3, hD3⟩ : ∃ e, detV (z1, z2, z3) (x1, x2, x3) (a, b, c) = e := ⟨_, rfl⟩
      have hd3b := det20 HI.out.2.2.1 HI.out.1 HI.out.2.2.2
      have HDT3 : Hid (∀ X, Calls Try.prog 27 #[.agg #[.int .i64 z1, .int .i64 z2, .int .i64 z3], .agg #[.int .i64 x1, .int .i64 x2, .int .i64 x3], .agg #[.int .i64 a, .int .i64 b, .int .i64 c]] X fun e w' => e = .returned (.int .i64 D3) ∧ Below X.heap.size X w') := fun X => by
        have h := rDet_pt (z1, z2, z3) (x1, x2, x3) (a, b, c) X HI.out.2.2.1 HI.out.1 HI.out.2.2.2
        rw [hD3] at h
        exact h
      rw [hD3] at hd3b
      obtain ⟨D4, hD4⟩ : ∃ e, detV (x1, x2, x3) (y1, y2, y3) (z1, z2, z3) = e := ⟨_, rfl⟩
      have hd4b := det20 HI.out.1 HI.out.2.1 HI.out.2.2.1
      have HDT4 : Hid (∀ X, Calls Try.prog 27 #[.agg #[.int .i64 x1, .int .i64 x2, .int .i64 x3], .agg #[.int .i64 y1, .int .i64 y2, .int .i64 y3], .agg #[.int .i64 z1, .int .i64 z2, .int .i64 z3]] X fun e w' => e = .returned (.int .i64 D4) ∧ Below X.heap.size X w') := fun X => by
        have h := rDet_pt (x1, x2, x3) (y1, y2, y3) (z1, z2, z3) X HI.out.1 HI.out.2.1 HI.out.2.2.1
        rw [hD4] at h
        exact h
      rw [hD4] at hd4b
      obtain ⟨W1, hW1⟩ : ∃ e, W0 + D1 * 1 = e := ⟨_, rfl⟩
      obtain ⟨W2, hW2⟩ : ∃ e, W1 + D2 * 1 = e := ⟨_, rfl⟩
      obtain ⟨W3, hW3⟩ : ∃ e, W2 + D3 * 1 = e := ⟨_, rfl⟩
      obtain ⟨W4, hW4⟩ : ∃ e, W3 + D4 * (-1) = e := ⟨_, rfl⟩
      obtain ⟨u1, hu1⟩ : ∃ b, decide (D1 < 0) = b := ⟨_, rfl⟩
      obtain ⟨U1, hU1⟩ : ∃ X, wdF (D1) = X := ⟨_, rfl⟩
      obtain ⟨u2, hu2⟩ : ∃ b, decide (D2 < 0) = b := ⟨_, rfl⟩
      obtain ⟨U2, hU2⟩ : ∃ X, wdF (D2) = X := ⟨_, rfl⟩
      obtain ⟨u3, hu3⟩ : ∃ b, decide (D3 < 0) = b := ⟨_, rfl⟩
      obtain ⟨U3, hU3⟩ : ∃ X, wdF (D3) = X := ⟨_, rfl⟩
      obtain ⟨u4, hu4⟩ : ∃ b, decide (D4 < 0) = b := ⟨_, rfl⟩
      obtain ⟨U4, hU4⟩ : ∃ X, wdF (D4) = X := ⟨_, rfl⟩
      obtain ⟨s1, hs1⟩ : ∃ b, decide (W1 < 0) = b := ⟨_, rfl⟩
      obtain ⟨X1, hX1⟩ : ∃ X, wdF (W1) = X := ⟨_, rfl⟩
      obtain ⟨s2, hs2⟩ : ∃ b, decide (W2 < 0) = b := ⟨_, rfl⟩
      obtain ⟨X2, hX2⟩ : ∃ X, wdF (W2) = X := ⟨_, rfl⟩
      obtain ⟨s3, hs3⟩ : ∃ b, decide (W3 < 0) = b := ⟨_, rfl⟩
      obtain ⟨X3, hX3⟩ : ∃ X, wdF (W3) = X := ⟨_, rfl⟩
      obtain ⟨s4, hs4⟩ : ∃ b, decide (W4 < 0) = b := ⟨_, rfl⟩
      obtain ⟨X4, hX4⟩ : ∃ X, wdF (W4) = X := ⟨_, rfl⟩
      have hS0 := HS1.out
      rw [hW0] at hS0
      rw [hW0] at hvA
      have HOF1 : Hid (∀ X, Calls Try.prog 26 #[.int .i64 D1] X fun e w' => e = .returned (.agg #[.bool u1, .int .u64 (U1 0), .int .u64 (U1 1), .int .u64 (U1 2), .int .u64 (U1 3)]) ∧ Below X.heap.size X w') := fun X => by
        have h := of_wd D1 X (by omega)
        rw [hu1, hU1] at h
        exact h
      have HSC1 : Hid (∀ X, Calls Try.prog 24 #[.agg #[.bool sv, .int .u64 (X0 0), .int .u64 (X0 1), .int .u64 (X0 2), .int .u64 (X0 3)], .agg #[.bool u1, .int .u64 (U1 0), .int .u64 (U1 1), .int .u64 (U1 2), .int .u64 (U1 3)], .int .i64 1] X fun e w' => e = .returned (.agg #[.bool s1, .int .u64 (X1 0), .int .u64 (X1 1), .int .u64 (X1 2), .int .u64 (X1 3)]) ∧ Below X.heap.size X w') := fun X => by
        have h := scaled_any W0 D1 1 X (by omega) (by omega) (by decide) (by omega) (by omega)
        rw [hW1, hS0.1, hS0.2, hu1, hU1, hs1, hX1] at h
        exact h
      have HOF2 : Hid (∀ X, Calls Try.prog 26 #[.int .i64 D2] X fun e w' => e = .returned (.agg #[.bool u2, .int .u64 (U2 0), .int .u64 (U2 1), .int .u64 (U2 2), .int .u64 (U2 3)]) ∧ Below X.heap.size X w') := fun X => by
        have h := of_wd D2 X (by omega)
        rw [hu2, hU2] at h
        exact h
      have HSC2 : Hid (∀ X, Calls Try.prog 24 #[.agg #[.bool s1, .int .u64 (X1 0), .int .u64 (X1 1), .int .u64 (X1 2), .int .u64 (X1 3)], .agg #[.bool u2, .int .u64 (U2 0), .int .u64 (U2 1), .int .u64 (U2 2), .int .u64 (U2 3)], .int .i64 1] X fun e w' => e = .returned (.agg #[.bool s2, .int .u64 (X2 0), .int .u64 (X2 1), .int .u64 (X2 2), .int .u64 (X2 3)]) ∧ Below X.heap.size X w') := fun X => by
        have h := scaled_any W1 D2 1 X (by omega) (by omega) (by decide) (by omega) (by omega)
        rw [hW2, hs1, hX1, hu2, hU2, hs2, hX2] at h
        exact h
      have HOF3 : Hid (∀ X, Calls Try.prog 26 #[.int .i64 D3] X fun e w' => e = .returned (.agg #[.bool u3, .int .u64 (U3 0), .int .u64 (U3 1), .int .u64 (U3 2), .int .u64 (U3 3)]) ∧ Below X.heap.size X w') := fun X => by
        have h := of_wd D3 X (by omega)
        rw [hu3, hU3] at h
        exact h
      have HSC3 : Hid (∀ X, Calls Try.prog 24 #[.agg #[.bool s2, .int .u64 (X2 0), .int .u64 (X2 1), .int .u64 (X2 2), .int .u64 (X2 3)], .agg #[.bool u3, .int .u64 (U3 0), .int .u64 (U3 1), .int .u64 (U3 2), .int .u64 (U3 3)], .int .i64 1] X fun e w' => e = .returned (.agg #[.bool s3, .int .u64 (X3 0), .int .u64 (X3 1), .int .u64 (X3 2), .int .u64 (X3 3)]) ∧ Below X.heap.size X w') := fun X => by
        have h := scaled_any W2 D3 1 X (by omega) (by omega) (by decide) (by omega) (by omega)
        rw [hW3, hs2, hX2, hu3, hU3, hs3, hX3] at h
        exact h
      have HOF4 : Hid (∀ X, Calls Try.prog 26 #[.int .i64 D4] X fun e w' => e = .returned (.agg #[.bool u4, .int .u64 (U4 0), .int .u64 (U4 1), .int .u64 (U4 2), .int .u64 (U4 3)]) ∧ Below X.heap.size X w') := fun X => by
        have h := of_wd D4 X (by omega)
        rw [hu4, hU4] at h
        exact h
      have HSC4 : Hid (∀ X, Calls Try.prog 24 #[.agg #[.bool s3, .int .u64 (X3 0), .int .u64 (X3 1), .int .u64 (X3 2), .int .u64 (X3 3)], .agg #[.bool u4, .int .u64 (U4 0), .int .u64 (U4 1), .int .u64 (U4 2), .int .u64 (U4 3)], .int .i64 (-1)] X fun e w' => e = .returned (.agg #[.bool s4, .int .u64 (X4 0), .int .u64 (X4 1), .int .u64 (X4 2), .int .u64 (X4 3)]) ∧ Below X.heap.size X w') := fun X => by
        have h := scaled_any W3 D4 (-1) X (by omega) (by omega) (by decide) (by omega) (by omega)
        rw [hW4, hs3, hX3, hu4, hU4, hs4, hX4] at h
        exact h
      have hvc : volF PP CF (nf + 2) = W4 := by
        have h := vol_cut (v := (a, b, c)) HG.out hqn
        rw [HPP.out, HCF.out, HFQ.out] at h
        rw [h]
        show volF P F nf + detV (P x) (P y) (a, b, c) + detV (P y) (P z) (a, b, c) + detV (P z) (P x) (a, b, c) - detV (P x) (P y) (P z) = W4
        rw [HPxyz.out.1, HPxyz.out.2.1, HPxyz.out.2.2, hD1, hD2, hD3, hD4, ← hvA]
        omega
      have hck := check_cut (v := (a, b, c)) HG.out hqn (by omega) (by omega) HI.out.2.2.2
      rw [HPP.out, HCF.out, hvc] at hck
      have HVC := Lib.hid hvc
      have HCK := Lib.hid hck
      have HSX4 := Lib.hid (And.intro hs4 hX4)
      have hW4b : -115792089237316195423570985008687907853269984665640564039457584007913129639935 < W4 ∧ W4 < 115792089237316195423570985008687907853269984665640564039457584007913129639935 := by omega
      have HW4B := Lib.hid hW4b
      clear hvc hck hvA hvb hS0 hW0 hW4b hD1 hd1b hW1 hu1 hU1 hs1 hX1 hD2 hd2b hW2 hu2 hU2 hs2 hX2 hD3 hd3b hW3 hu3 hU3 hs3 hX3 hD4 hd4b hW4 hu4 hU4 hs4 hX4
      have zww13 : w1.heap.size < w13.heap.size := by omega
      clear kb0 kb1 kb2 kb3 kb4 kb5 kb6 kb7 kb8 e1 e2 e3 hqm hix hiy hiz xi0 xi1 yi0 yi1 zi0 zi1 zmw1 zpw1 zmw2 zpw2 zmw3 zpw3 zmw4 zpw4 zmw5 zpw5 zmw6 zpw6 zmw7 zpw7 zmw8 zpw8 zmw9 zpw9 zmw11 zpw11 zmw12 zpw12 zv2 zv3 zV0 bV0 hz4 hz5 hz6 hz8 hz11 hz12 hsz67 hbr hbr2 k0 k1 HPA HFA HEP HEG HFQ HFxyz HPP HCF HDF HPxyz HI HQ1 HE1 HS1 hu0 huit huiv hi0 hz00 hz01 hz02 hit hzit0 hzit1 hzit2 hiv hziv0 hziv1 hziv2
      obtain ⟨v0, v1, v2, v3, v4, vf, vs⟩ := cells_at5 HW13.out
      go_wp2_with fail
      refine wp_region_seq 9 [⟨7, 8, #[.bool false, .int .u64 0, .int .u64 0, .int .u64 0, .int .u64 0], 33⟩] [] (by kernel_rfl) (by kernel_rfl) (by kernel_rfl) (by kernel_rfl) (by kernel_rfl) ?_ ?_ ?_
      · intro r hr; cases hr
      · intro r hr; cases hr
      simp only [List.take_succ_cons, List.take_zero, fillL, Act.put, List.setIfInBounds_toArray, List.set_cons_zero, List.set_cons_succ]
      apply seq_is (by kernel_rfl)
      · intro u wx hb hd
        replace hb := hb.nil
        have hz := hb.size
        (try simp only [World.size_alloc, World.size_setCell] at hz)
        have hz0 : w.heap.size < wx.heap.size := by omega
        have hz1 : w.heap.size + 1 < wx.heap.size := by omega
        have hz2 : w1.heap.size < wx.heap.size := by omega
        have hz3 : VP < wx.heap.size := by omega
        have hz4 : VQ < wx.heap.size := by omega
        obtain ⟨hc, hf⟩ := bcell hb
        clear hb hz
        simp [depsE, Region.binds, updE, kindOf, Prp.is, Prp.any] at hd
        go_simp
        first | exact ⟨Below.refl _ _, rfl⟩ | rfl
      apply seq_is (by kernel_rfl)
      · intro u wx hb hd
        replace hb := hb.nil
        have hz := hb.size
        (try simp only [World.size_alloc, World.size_setCell] at hz)
        have hz0 : w.heap.size < wx.heap.size := by omega
        have hz1 : w.heap.size + 1 < wx.heap.size := by omega
        have hz2 : w1.heap.size < wx.heap.size := by omega
        have hz3 : VP < wx.heap.size := by omega
        have hz4 : VQ < wx.heap.size := by omega
        obtain ⟨hc, hf⟩ := bcell hb
        clear hb hz
        simp [depsE, Region.binds, updE, kindOf, Prp.is, Prp.any] at hd
        go_simp
        first | exact ⟨Below.refl _ _, rfl⟩ | rfl
      apply seq_is (by kernel_rfl)
      · intro u wx hb hd
        replace hb := hb.nil
        have hz := hb.size
        (try simp only [World.size_alloc, World.size_setCell] at hz)
        have hz0 : w.heap.size < wx.heap.size := by omega
        have hz1 : w.heap.size + 1 < wx.heap.size := by omega
        have hz2 : w1.heap.size < wx.heap.size := by omega
        have hz3 : VP < wx.heap.size := by omega
        have hz4 : VQ < wx.heap.size := by omega
        obtain ⟨hc, hf⟩ := bcell hb
        clear hb hz
        simp [depsE, Region.binds, updE, kindOf, Prp.is, Prp.any] at hd
        go_simp
        first | exact ⟨Below.refl _ _, rfl⟩ | rfl
      apply seq_is (by kernel_rfl)
      · intro u wx hb hd
        replace hb := hb.nil
        have hz := hb.size
        (try simp only [World.size_alloc, World.size_setCell] at hz)
        have hz0 : w.heap.size < wx.heap.size := by omega
        have hz1 : w.heap.size + 1 < wx.heap.size := by omega
        have hz2 : w1.heap.size < wx.heap.size := by omega
        have hz3 : VP < wx.heap.size := by omega
        have hz4 : VQ < wx.heap.size := by omega
        obtain ⟨hc, hf⟩ := bcell hb
        clear hb hz
        simp [depsE, Region.binds, updE, kindOf, Prp.is, Prp.any] at hd
        go_simp
        first | exact ⟨Below.refl _ _, rfl⟩ | rfl
      apply seq_is (by kernel_rfl)
      · intro u wx hb hd
        replace hb := hb.nil
        have hz := hb.size
        (try simp only [World.size_alloc, World.size_setCell] at hz)
        have hz0 : w.heap.size < wx.heap.size := by omega
        have hz1 : w.heap.size + 1 < wx.heap.size := by omega
        have hz2 : w1.heap.size < wx.heap.size := by omega
        have hz3 : VP < wx.heap.size := by omega
        have hz4 : VQ < wx.heap.size := by omega
        obtain ⟨hc, hf⟩ := bcell hb
        clear hb hz
        simp [depsE, Region.binds, updE, kindOf, Prp.is, Prp.any] at hd
        go_simp
        first | rfl | (go_at_call 27; refine (HDT1.out _).mono ?_; rintro e w1 ⟨rfl, hb1⟩; first | exact ⟨rfl, hb1⟩ | exact ⟨_, rfl, hb1, rfl⟩)
      apply seq_is (by kernel_rfl)
      · intro u wx hb hd
        replace hb := hb.nil
        have hz := hb.size
        (try simp only [World.size_alloc, World.size_setCell] at hz)
        have hz0 : w.heap.size < wx.heap.size := by omega
        have hz1 : w.heap.size + 1 < wx.heap.size := by omega
        have hz2 : w1.heap.size < wx.heap.size := by omega
        have hz3 : VP < wx.heap.size := by omega
        have hz4 : VQ < wx.heap.size := by omega
        obtain ⟨hc, hf⟩ := bcell hb
        clear hb hz
        simp [depsE, Region.binds, updE, kindOf, Prp.is, Prp.any] at hd
        go_simp
        first | rfl | (go_at_call 26; refine (HOF1.out _).mono ?_; rintro e w1 ⟨rfl, hb1⟩; first | exact ⟨rfl, hb1⟩ | exact ⟨_, rfl, hb1, rfl⟩)
      apply seq_is (by kernel_rfl)
      · intro u wx hb hd
        replace hb := hb.nil
        have hz := hb.size
        (try simp only [World.size_alloc, World.size_setCell] at hz)
        have hz0 : w.heap.size < wx.heap.size := by omega
        have hz1 : w.heap.size + 1 < wx.heap.size := by omega
        have hz2 : w1.heap.size < wx.heap.size := by omega
        have hz3 : VP < wx.heap.size := by omega
        have hz4 : VQ < wx.heap.size := by omega
        obtain ⟨hc, hf⟩ := bcell hb
        clear hb hz
        simp [depsE, Region.binds, updE, kindOf, Prp.is, Prp.any] at hd
        go_simp
        first | rfl | (go_at_call 24; refine (HSC1.out _).mono ?_; rintro e w1 ⟨rfl, hb1⟩; first | exact ⟨rfl, hb1⟩ | exact ⟨_, rfl, hb1, rfl⟩)
      refine seq_var ⟨7, 8, #[.bool false, .int .u64 0, .int .u64 0, .int .u64 0, .int .u64 0], 33⟩ (by simp) rfl ?_ ?_
      · intro u wx hb
        refine ⟨by simp [Region.wanted], ?_⟩
        go_simp
        first | done | rfl | exact ⟨rfl, rfl⟩
      apply seq_sto_agg ⟨7, 8, #[.bool false, .int .u64 0, .int .u64 0, .int .u64 0, .int .u64 0], 33⟩ (by simp) rfl (by kernel_rfl) rfl (by kernel_rfl)
      · intro u wx hb hd
        replace hb := hb.nil
        have hz := hb.size
        (try simp only [World.size_alloc, World.size_setCell] at hz)
        have hz0 : w.heap.size < wx.heap.size := by omega
        have hz1 : w.heap.size + 1 < wx.heap.size := by omega
        have hz2 : w1.heap.size < wx.heap.size := by omega
        have hz3 : VP < wx.heap.size := by omega
        have hz4 : VQ < wx.heap.size := by omega
        obtain ⟨hc, hf⟩ := bcell hb
        clear hb hz
        simp [depsE, Region.binds, updE, kindOf, Prp.is, Prp.any] at hd
        refine ⟨by simp [Region.wanted], fun b' hub hlb hcells => ?_⟩
        have hub' : u 7 = .pointer (some ⟨b', 0, none⟩) := hub
        have hcells' : wx.heap[b']? = some (.cells #[.bool false, .int .u64 0, .int .u64 0, .int .u64 0, .int .u64 0] 33) := hcells
        have hat := cells_at5 hcells'
        have HCL := Lib.hid hcells'
        clear hcells hcells' hub
        go_simp
        exact Stored.c5 HCL.out _ _ _ _ _
      intro u w14 hb hE hV hP
      replace hb := hb.nil
      clear hP
      have e0 : u 0 = _ := endE_get hE 0 (by decide) (by simp [kindOf])
      have e1 : u 1 = _ := endE_get hE 1 (by decide) (by simp [kindOf])
      have e2 : u 2 = _ := endE_get hE 2 (by decide) (by simp [kindOf])
      have e3 : u 3 = _ := endE_get hE 3 (by decide) (by simp [kindOf])
      have e4 : u 4 = _ := endE_get hE 4 (by decide) (by simp [kindOf])
      have e5 : u 5 = _ := endE_get hE 5 (by decide) (by simp [kindOf])
      have e6 : u 6 = _ := endE_get hE 6 (by decide) (by simp [kindOf])
      have e8 : u 8 = _ := endE_get hE 8 (by decide) (by simp [kindOf])
      obtain ⟨⟨VW, pv0, lv0, qv0⟩, -, -⟩ := hV
      replace qv0 : w14.heap[VW]? = some (.cells (u 8).cells 33) := qv0
      rw [e8] at qv0
      replace pv0 : u 7 = .pointer (some ⟨VW, 0, none⟩) := pv0
      obtain ⟨mVW0, mVW1, mVW2, mVW3, mVW4, mfVW, msVW⟩ := cells_at5 qv0
      have HQVW := Lib.hid qv0
      clear qv0
      (try simp only [World.size_alloc, World.size_setCell] at lv0)
      have dVWw140 : VW ≠ w.heap.size := by omega
      have dVWw141 : VW ≠ w.heap.size + 1 := by omega
      have dVWw142 : VW ≠ w1.heap.size := by omega
      have dVWw143 : VW ≠ VP := by omega
      have dVWw144 : VW ≠ VQ := by omega
      (try have lbVW : w13.heap.size ≤ VW := by omega)
      clear lv0
      simp only [List.drop_succ_cons, List.drop_zero, List.take_succ_cons, List.take_zero, fillL, Act.put, List.setIfInBounds_toArray, List.set_cons_zero, List.set_cons_succ, e0, e1, e2, e3, e4, e5, e6, e8, pv0]
      clear e0 e1 e2 e3 e4 e5 e6 e8 pv0 hE
      have HBWw14 := Lib.hid hb
      have hw14 := below_step (w := w13) (by first | assumption | go_grown) hb
      have hzw14 := hb.size
      (try simp only [World.size_alloc, World.size_setCell] at hzw14)
      have hzw140 : w.heap.size < w14.heap.size := by omega
      have hzw141 : w.heap.size + 1 < w14.heap.size := by omega
      have hzw142 : w1.heap.size < w14.heap.size := by omega
      have hzw143 : VP < w14.heap.size := by omega
      have hzw144 : VQ < w14.heap.size := by omega
      have HHw14 := Lib.hid hb.block
      obtain ⟨hcw14, hfw14⟩ := bcell hb
      clear hb hzw14
      have hP1314 := HBWw14.out
      have zMw14 : w3.heap.size < w14.heap.size := by have := hP1314.size; omega
      have hBw14 : Below w.heap.size w w14 := below_step hBw13 hP1314
      have HM14 : Hid (w14.heap[w3.heap.size]? = some (.cells #[.slice o2 (np + 1) k2, .slice o5 (nf + 2) k5] 25)) := (hP1314.block _ (by omega)).trans HM13.out
      replace HMJ := Lib.hid (HMJ.out.below hP1314)
      have zVW : VW < w14.heap.size := msVW
      have bVW : w13.heap.size ≤ VW := lbVW
      have HVW14 : Hid (w14.heap[VW]? = some (.cells #[.bool s1, .int .u64 (X1 0), .int .u64 (X1 1), .int .u64 (X1 2), .int .u64 (X1 3)] 33)) := HQVW.out
      clear mVP0 mVP1 mVP2 mVQ0 mVQ1 mVQ2 mVR0 mVR1 mVR2
      have HQVPw14 : Hid (w14.heap[VP]? = some (.cells #[.int .i64 x1, .int .i64 x2, .int .i64 x3] 40)) := (hP1314.block _ (by omega)).trans HQVP.out
      clear HQVP
      have HQVP := HQVPw14
      clear HQVPw14
      have HQVQw14 : Hid (w14.heap[VQ]? = some (.cells #[.int .i64 y1, .int .i64 y2, .int .i64 y3] 40)) := (hP1314.block _ (by omega)).trans HQVQ.out
      clear HQVQ
      have HQVQ := HQVQw14
      clear HQVQw14
      have HQVRw14 : Hid (w14.heap[VR]? = some (.cells #[.int .i64 z1, .int .i64 z2, .int .i64 z3] 40)) := (hP1314.block _ (by omega)).trans HQVR.out
      clear HQVR
      have HQVR := HQVRw14
      clear HQVRw14
      have zmw14 : w.heap.size < w14.heap.size := by have := hP1314.size; omega
      have m0w14 : w14.cell? ⟨w.heap.size, 0, none⟩ = some (.slice (some ⟨b2, f2, none⟩) np cp) := (hP1314.cell (p := ⟨w.heap.size, 0, none⟩) (by show w.heap.size < _; omega)).trans m0w13
      have m1w14 : w14.cell? ⟨w.heap.size, 1, none⟩ = some (.slice (some ⟨b1, f1, none⟩) nf cf) := (hP1314.cell (p := ⟨w.heap.size, 1, none⟩) (by show w.heap.size < _; omega)).trans m1w13
      have zpw14 : w.heap.size + 1 < w14.heap.size := by have := hP1314.size; omega
      have p0w14 : w14.cell? ⟨w.heap.size + 1, 0, none⟩ = some (.int .i64 a) := (hP1314.cell (p := ⟨w.heap.size + 1, 0, none⟩) (by show w.heap.size + 1 < _; omega)).trans p0w13
      have p1w14 : w14.cell? ⟨w.heap.size + 1, 1, none⟩ = some (.int .i64 b) := (hP1314.cell (p := ⟨w.heap.size + 1, 1, none⟩) (by show w.heap.size + 1 < _; omega)).trans p1w13
      have p2w14 : w14.cell? ⟨w.heap.size + 1, 2, none⟩ = some (.int .i64 c) := (hP1314.cell (p := ⟨w.heap.size + 1, 2, none⟩) (by show w.heap.size + 1 < _; omega)).trans p2w13
      clear m0w13 m1w13 p0w13 p1w13 p2w13
      clear hcw14 hfw14 HHw14 HBWw14 mfVW msVW lbVW HQVW v0 v1 v2 v3 v4 vf vs HM13 hP1314 mVW0 mVW1 mVW2 mVW3 mVW4 HW13 HV013
      obtain ⟨mVP0, mVP1, mVP2, mfVP, msVP⟩ := cells_at3 HQVP.out
      obtain ⟨mVQ0, mVQ1, mVQ2, mfVQ, msVQ⟩ := cells_at3 HQVQ.out
      obtain ⟨mVR0, mVR1, mVR2, mfVR, msVR⟩ := cells_at3 HQVR.out
      obtain ⟨v0, v1, v2, v3, v4, vf, vs⟩ := cells_at5 HVW14.out
      go_wp2_with fail
      refine wp_region_relw 7 (by kernel_rfl) (by kernel_rfl) (by kernel_rfl) ?_
      simp only [List.take_succ_cons, List.take_zero, fillL, Act.put, List.setIfInBounds_toArray, List.set_cons_zero, List.set_cons_succ]
      iterate 4
        apply rel_is
        · intro u wx hb hd
          have hz := hb.size
          (try simp only [World.size_alloc, World.size_setCell] at hz)
          have hz0 : w.heap.size < wx.heap.size := by omega
          have hz1 : w.heap.size + 1 < wx.heap.size := by omega
          have hz2 : VW < wx.heap.size := by omega
          have hz3 : VP < wx.heap.size := by omega
          have hz4 : VQ < wx.heap.size := by omega
          have hz5 : VR < wx.heap.size := by omega
          obtain ⟨hc, hf⟩ := bcell hb
          have HBX := Lib.hid hb
          clear hb hz
          simp [depsS, Region.binds, updS, Stay.is, Stay.any] at hd
          go_simp
          first | exact ⟨Below.refl _ _, rfl⟩ | rfl
      apply rel_is
      · intro u wx hb hd
        have hz := hb.size
        (try simp only [World.size_alloc, World.size_setCell] at hz)
        have hz0 : w.heap.size < wx.heap.size := by omega
        have hz1 : w.heap.size + 1 < wx.heap.size := by omega
        have hz2 : VW < wx.heap.size := by omega
        have hz3 : VP < wx.heap.size := by omega
        have hz4 : VQ < wx.heap.size := by omega
        have hz5 : VR < wx.heap.size := by omega
        obtain ⟨hc, hf⟩ := bcell hb
        have HBX := Lib.hid hb
        clear hb hz
        simp [depsS, Region.binds, updS, Stay.is, Stay.any] at hd
        go_simp
        first | rfl | (go_at_call 27; refine (HDT2.out _).mono ?_; rintro e w1 ⟨rfl, hb1⟩; first | exact ⟨rfl, hb1⟩ | exact ⟨_, rfl, hb1, rfl⟩)
      apply rel_is
      · intro u wx hb hd
        have hz := hb.size
        (try simp only [World.size_alloc, World.size_setCell] at hz)
        have hz0 : w.heap.size < wx.heap.size := by omega
        have hz1 : w.heap.size + 1 < wx.heap.size := by omega
        have hz2 : VW < wx.heap.size := by omega
        have hz3 : VP < wx.heap.size := by omega
        have hz4 : VQ < wx.heap.size := by omega
        have hz5 : VR < wx.heap.size := by omega
        obtain ⟨hc, hf⟩ := bcell hb
        have HBX := Lib.hid hb
        clear hb hz
        simp [depsS, Region.binds, updS, Stay.is, Stay.any] at hd
        go_simp
        first | rfl | (go_at_call 26; refine (HOF2.out _).mono ?_; rintro e w1 ⟨rfl, hb1⟩; first | exact ⟨rfl, hb1⟩ | exact ⟨_, rfl, hb1, rfl⟩)
      apply rel_is
      · intro u wx hb hd
        have hz := hb.size
        (try simp only [World.size_alloc, World.size_setCell] at hz)
        have hz0 : w.heap.size < wx.heap.size := by omega
        have hz1 : w.heap.size + 1 < wx.heap.size := by omega
        have hz2 : VW < wx.heap.size := by omega
        have hz3 : VP < wx.heap.size := by omega
        have hz4 : VQ < wx.heap.size := by omega
        have hz5 : VR < wx.heap.size := by omega
        obtain ⟨hc, hf⟩ := bcell hb
        have HBX := Lib.hid hb
        clear hb hz
        simp [depsS, Region.binds, updS, Stay.is, Stay.any] at hd
        go_simp
        first | rfl | (go_at_call 24; refine (HSC2.out _).mono ?_; rintro e w1 ⟨rfl, hb1⟩; first | exact ⟨rfl, hb1⟩ | exact ⟨_, rfl, hb1, rfl⟩)
      intro u w15 hb hE
      have e0 : u 0 = _ := endS_get hE 0 (by decide)
      have e1 : u 1 = _ := endS_get hE 1 (by decide)
      have e2 : u 2 = _ := endS_get hE 2 (by decide)
      have e3 : u 3 = _ := endS_get hE 3 (by decide)
      have e4 : u 4 = _ := endS_get hE 4 (by decide)
      have e5 : u 5 = _ := endS_get hE 5 (by decide)
      have e6 : u 6 = _ := endS_get hE 6 (by decide)
      simp only [List.drop_succ_cons, List.drop_zero, List.take_succ_cons, List.take_zero, fillL, Act.put, List.setIfInBounds_toArray, List.set_cons_zero, List.set_cons_succ, e0, e1, e2, e3, e4, e5, e6]
      clear e0 e1 e2 e3 e4 e5 e6 hE
      have HBw15 := Lib.hid (below_step (w := w14) (by first | assumption | go_grown) hb)
      have HBXw15 := Lib.hid hb
      have hzw15 := hb.size
      (try simp only [World.size_alloc, World.size_setCell] at hzw15)
      have hzw150 : w.heap.size < w15.heap.size := by omega
      have hzw151 : w.heap.size + 1 < w15.heap.size := by omega
      have hzw152 : VW < w15.heap.size := by omega
      have hzw153 : VP < w15.heap.size := by omega
      have hzw154 : VQ < w15.heap.size := by omega
      have hzw155 : VR < w15.heap.size := by omega
      obtain ⟨hcw15, hfw15⟩ := bcell hb
      clear hb hzw15
      have hP15 := HBXw15.out
      have zMw15 : w3.heap.size < w15.heap.size := by have := hP15.size; omega
      have HVW15 : Hid (w15.heap[VW]? = some (.cells #[.bool s1, .int .u64 (X1 0), .int .u64 (X1 1), .int .u64 (X1 2), .int .u64 (X1 3)] 33)) := (hP15.block _ (by omega)).trans HVW14.out
      have HM15 : Hid (w15.heap[w3.heap.size]? = some (.cells #[.slice o2 (np + 1) k2, .slice o5 (nf + 2) k5] 25)) := (hP15.block _ (by omega)).trans HM14.out
      have hBw15 : Below w.heap.size w w15 := below_step hBw14 hP15
      replace HMJ := Lib.hid (HMJ.out.below hP15)
      clear mVP0 mVP1 mVP2 mfVP msVP mVQ0 mVQ1 mVQ2 mfVQ msVQ mVR0 mVR1 mVR2 mfVR msVR
      have HQVPw15 : Hid (w15.heap[VP]? = some (.cells #[.int .i64 x1, .int .i64 x2, .int .i64 x3] 40)) := (hP15.block _ (by omega)).trans HQVP.out
      clear HQVP
      have HQVP := HQVPw15
      clear HQVPw15
      have HQVQw15 : Hid (w15.heap[VQ]? = some (.cells #[.int .i64 y1, .int .i64 y2, .int .i64 y3] 40)) := (hP15.block _ (by omega)).trans HQVQ.out
      clear HQVQ
      have HQVQ := HQVQw15
      clear HQVQw15
      have HQVRw15 : Hid (w15.heap[VR]? = some (.cells #[.int .i64 z1, .int .i64 z2, .int .i64 z3] 40)) := (hP15.block _ (by omega)).trans HQVR.out
      clear HQVR
      have HQVR := HQVRw15
      clear HQVRw15
      have zmw15 : w.heap.size < w15.heap.size := by have := hP15.size; omega
      have m0w15 : w15.cell? ⟨w.heap.size, 0, none⟩ = some (.slice (some ⟨b2, f2, none⟩) np cp) := (hP15.cell (p := ⟨w.heap.size, 0, none⟩) (by show w.heap.size < _; omega)).trans m0w14
      have m1w15 : w15.cell? ⟨w.heap.size, 1, none⟩ = some (.slice (some ⟨b1, f1, none⟩) nf cf) := (hP15.cell (p := ⟨w.heap.size, 1, none⟩) (by show w.heap.size < _; omega)).trans m1w14
      have zpw15 : w.heap.size + 1 < w15.heap.size := by have := hP15.size; omega
      have p0w15 : w15.cell? ⟨w.heap.size + 1, 0, none⟩ = some (.int .i64 a) := (hP15.cell (p := ⟨w.heap.size + 1, 0, none⟩) (by show w.heap.size + 1 < _; omega)).trans p0w14
      have p1w15 : w15.cell? ⟨w.heap.size + 1, 1, none⟩ = some (.int .i64 b) := (hP15.cell (p := ⟨w.heap.size + 1, 1, none⟩) (by show w.heap.size + 1 < _; omega)).trans p1w14
      have p2w15 : w15.cell? ⟨w.heap.size + 1, 2, none⟩ = some (.int .i64 c) := (hP15.cell (p := ⟨w.heap.size + 1, 2, none⟩) (by show w.heap.size + 1 < _; omega)).trans p2w14
      clear m0w14 m1w14 p0w14 p1w14 p2w14
      clear hcw15 hfw15 v0 v1 v2 v3 v4 vf vs HM14 HVW14
      obtain ⟨v0, v1, v2, v3, v4, vf, vs⟩ := cells_at5 HVW15.out
      go_wp2_with fail
      obtain ⟨w16, hw16⟩ : ∃ Y, (((((w15.setCell ⟨VW, 0, none⟩ (.bool s2)).setCell ⟨VW, 1, none⟩ (.int .u64 (X2 0))).setCell ⟨VW, 2, none⟩ (.int .u64 (X2 1))).setCell ⟨VW, 3, none⟩ (.int .u64 (X2 2))).setCell ⟨VW, 4, none⟩ (.int .u64 (X2 3))) = Y := ⟨_, rfl⟩
      have HVW16 : Hid (w16.heap[VW]? = some (.cells #[.bool s2, .int .u64 (X2 0), .int .u64 (X2 1), .int .u64 (X2 2), .int .u64 (X2 3)] 33)) := by
        show _ = _
        rw [← hw16]
        simp only [heapS_same, HVW15.out, Option.map_some, setObj]
        rfl
      have hK16 : Below w13.heap.size w15 w16 := by rw [← hw16]; go_grown
      have hz16 : w16.heap.size ≤ w15.heap.size ∧ w15.heap.size ≤ w16.heap.size := by rw [← hw16]; simp
      have HM16 : Hid (w16.heap[w3.heap.size]? = some (.cells #[.slice o2 (np + 1) k2, .slice o5 (nf + 2) k5] 25)) := (hK16.block _ (by omega)).trans HM15.out
      have hBw16 : Below w.heap.size w w16 := hBw15.trans (hK16.mono (by omega))
      replace HMJ := Lib.hid (mat_keptW HMJ.out hK16 HMJB.out)
      rw [hw16]
      have HQVPw16 : Hid (w16.heap[VP]? = some (.cells #[.int .i64 x1, .int .i64 x2, .int .i64 x3] 40)) := (hK16.block _ (by omega)).trans HQVP.out
      clear HQVP
      have HQVP := HQVPw16
      clear HQVPw16
      have HQVQw16 : Hid (w16.heap[VQ]? = some (.cells #[.int .i64 y1, .int .i64 y2, .int .i64 y3] 40)) := (hK16.block _ (by omega)).trans HQVQ.out
      clear HQVQ
      have HQVQ := HQVQw16
      clear HQVQw16
      have HQVRw16 : Hid (w16.heap[VR]? = some (.cells #[.int .i64 z1, .int .i64 z2, .int .i64 z3] 40)) := (hK16.block _ (by omega)).trans HQVR.out
      clear HQVR
      have HQVR := HQVRw16
      clear HQVRw16
      have zmw16 : w.heap.size < w16.heap.size := by have := hK16.size; omega
      have m0w16 : w16.cell? ⟨w.heap.size, 0, none⟩ = some (.slice (some ⟨b2, f2, none⟩) np cp) := (hK16.cell (p := ⟨w.heap.size, 0, none⟩) (by show w.heap.size < _; omega)).trans m0w15
      have m1w16 : w16.cell? ⟨w.heap.size, 1, none⟩ = some (.slice (some ⟨b1, f1, none⟩) nf cf) := (hK16.cell (p := ⟨w.heap.size, 1, none⟩) (by show w.heap.size < _; omega)).trans m1w15
      have zpw16 : w.heap.size + 1 < w16.heap.size := by have := hK16.size; omega
      have p0w16 : w16.cell? ⟨w.heap.size + 1, 0, none⟩ = some (.int .i64 a) := (hK16.cell (p := ⟨w.heap.size + 1, 0, none⟩) (by show w.heap.size + 1 < _; omega)).trans p0w15
      have p1w16 : w16.cell? ⟨w.heap.size + 1, 1, none⟩ = some (.int .i64 b) := (hK16.cell (p := ⟨w.heap.size + 1, 1, none⟩) (by show w.heap.size + 1 < _; omega)).trans p1w15
      have p2w16 : w16.cell? ⟨w.heap.size + 1, 2, none⟩ = some (.int .i64 c) := (hK16.cell (p := ⟨w.heap.size + 1, 2, none⟩) (by show w.heap.size + 1 < _; omega)).trans p2w15
      clear m0w15 m1w15 p0w15 p1w15 p2w15
      clear hw16 v0 v1 v2 v3 v4 vf vs HM15 HVW15 hK16 hP15
      obtain ⟨mVP0, mVP1, mVP2, mfVP, msVP⟩ := cells_at3 HQVP.out
      obtain ⟨mVQ0, mVQ1, mVQ2, mfVQ, msVQ⟩ := cells_at3 HQVQ.out
      obtain ⟨mVR0, mVR1, mVR2, mfVR, msVR⟩ := cells_at3 HQVR.out
      obtain ⟨v0, v1, v2, v3, v4, vf, vs⟩ := cells_at5 HVW16.out
      go_wp2_with fail
      refine wp_region_relw 7 (by kernel_rfl) (by kernel_rfl) (by kernel_rfl) ?_
      simp only [List.take_succ_cons, List.take_zero, fillL, Act.put, List.setIfInBounds_toArray, List.set_cons_zero, List.set_cons_succ]
      iterate 4
        apply rel_is
        · intro u wx hb hd
          have hz := hb.size
          (try simp only [World.size_alloc, World.size_setCell] at hz)
          have hz0 : w.heap.size < wx.heap.size := by omega
          have hz1 : w.heap.size + 1 < wx.heap.size := by omega
          have hz2 : VW < wx.heap.size := by omega
          have hz3 : VP < wx.heap.size := by omega
          have hz4 : VQ < wx.heap.size := by omega
          have hz5 : VR < wx.heap.size := by omega
          obtain ⟨hc, hf⟩ := bcell hb
          have HBX := Lib.hid hb
          clear hb hz
          simp [depsS, Region.binds, updS, Stay.is, Stay.any] at hd
          go_simp
          first | exact ⟨Below.refl _ _, rfl⟩ | rfl
      apply rel_is
      · intro u wx hb hd
        have hz := hb.size
        (try simp only [World.size_alloc, World.size_setCell] at hz)
        have hz0 : w.heap.size < wx.heap.size := by omega
        have hz1 : w.heap.size + 1 < wx.heap.size := by omega
        have hz2 : VW < wx.heap.size := by omega
        have hz3 : VP < wx.heap.size := by omega
        have hz4 : VQ < wx.heap.size := by omega
        have hz5 : VR < wx.heap.size := by omega
        obtain ⟨hc, hf⟩ := bcell hb
        have HBX := Lib.hid hb
        clear hb hz
        simp [depsS, Region.binds, updS, Stay.is, Stay.any] at hd
        go_simp
        first | rfl | (go_at_call 27; refine (HDT3.out _).mono ?_; rintro e w1 ⟨rfl, hb1⟩; first | exact ⟨rfl, hb1⟩ | exact ⟨_, rfl, hb1, rfl⟩)
      apply rel_is
      · intro u wx hb hd
        have hz := hb.size
        (try simp only [World.size_alloc, World.size_setCell] at hz)
        have hz0 : w.heap.size < wx.heap.size := by omega
        have hz1 : w.heap.size + 1 < wx.heap.size := by omega
        have hz2 : VW < wx.heap.size := by omega
        have hz3 : VP < wx.heap.size := by omega
        have hz4 : VQ < wx.heap.size := by omega
        have hz5 : VR < wx.heap.size := by omega
        obtain ⟨hc, hf⟩ := bcell hb
        have HBX := Lib.hid hb
        clear hb hz
        simp [depsS, Region.binds, updS, Stay.is, Stay.any] at hd
        go_simp
        first | rfl | (go_at_call 26; refine (HOF3.out _).mono ?_; rintro e w1 ⟨rfl, hb1⟩; first | exact ⟨rfl, hb1⟩ | exact ⟨_, rfl, hb1, rfl⟩)
      apply rel_is
      · intro u wx hb hd
        have hz := hb.size
        (try simp only [World.size_alloc, World.size_setCell] at hz)
        have hz0 : w.heap.size < wx.heap.size := by omega
        have hz1 : w.heap.size + 1 < wx.heap.size := by omega
        have hz2 : VW < wx.heap.size := by omega
        have hz3 : VP < wx.heap.size := by omega
        have hz4 : VQ < wx.heap.size := by omega
        have hz5 : VR < wx.heap.size := by omega
        obtain ⟨hc, hf⟩ := bcell hb
        have HBX := Lib.hid hb
        clear hb hz
        simp [depsS, Region.binds, updS, Stay.is, Stay.any] at hd
        go_simp
        first | rfl | (go_at_call 24; refine (HSC3.out _).mono ?_; rintro e w1 ⟨rfl, hb1⟩; first | exact ⟨rfl, hb1⟩ | exact ⟨_, rfl, hb1, rfl⟩)
      intro u w17 hb hE
      have e0 : u 0 = _ := endS_get hE 0 (by decide)
      have e1 : u 1 = _ := endS_get hE 1 (by decide)
      have e2 : u 2 = _ := endS_get hE 2 (by decide)
      have e3 : u 3 = _ := endS_get hE 3 (by decide)
      have e4 : u 4 = _ := endS_get hE 4 (by decide)
      have e5 : u 5 = _ := endS_get hE 5 (by decide)
      have e6 : u 6 = _ := endS_get hE 6 (by decide)
      simp only [List.drop_succ_cons, List.drop_zero, List.take_succ_cons, List.take_zero, fillL, Act.put, List.setIfInBounds_toArray, List.set_cons_zero, List.set_cons_succ, e0, e1, e2, e3, e4, e5, e6]
      clear e0 e1 e2 e3 e4 e5 e6 hE
      have HBw17 := Lib.hid (below_step (w := w16) (by first | assumption | go_grown) hb)
      have HBXw17 := Lib.hid hb
      have hzw17 := hb.size
      (try simp only [World.size_alloc, World.size_setCell] at hzw17)
      have hzw170 : w.heap.size < w17.heap.size := by omega
      have hzw171 : w.heap.size + 1 < w17.heap.size := by omega
      have hzw172 : VW < w17.heap.size := by omega
      have hzw173 : VP < w17.heap.size := by omega
      have hzw174 : VQ < w17.heap.size := by omega
      have hzw175 : VR < w17.heap.size := by omega
      obtain ⟨hcw17, hfw17⟩ := bcell hb
      clear hb hzw17
      have hP17 := HBXw17.out
      have zMw17 : w3.heap.size < w17.heap.size := by have := hP17.size; omega
      have HVW17 : Hid (w17.heap[VW]? = some (.cells #[.bool s2, .int .u64 (X2 0), .int .u64 (X2 1), .int .u64 (X2 2), .int .u64 (X2 3)] 33)) := (hP17.block _ (by omega)).trans HVW16.out
      have HM17 : Hid (w17.heap[w3.heap.size]? = some (.cells #[.slice o2 (np + 1) k2, .slice o5 (nf + 2) k5] 25)) := (hP17.block _ (by omega)).trans HM16.out
      have hBw17 : Below w.heap.size w w17 := below_step hBw16 hP17
      replace HMJ := Lib.hid (HMJ.out.below hP17)
      clear mVP0 mVP1 mVP2 mfVP msVP mVQ0 mVQ1 mVQ2 mfVQ msVQ mVR0 mVR1 mVR2 mfVR msVR
      have HQVPw17 : Hid (w17.heap[VP]? = some (.cells #[.int .i64 x1, .int .i64 x2, .int .i64 x3] 40)) := (hP17.block _ (by omega)).trans HQVP.out
      clear HQVP
      have HQVP := HQVPw17
      clear HQVPw17
      have HQVQw17 : Hid (w17.heap[VQ]? = some (.cells #[.int .i64 y1, .int .i64 y2, .int .i64 y3] 40)) := (hP17.block _ (by omega)).trans HQVQ.out
      clear HQVQ
      have HQVQ := HQVQw17
      clear HQVQw17
      have HQVRw17 : Hid (w17.heap[VR]? = some (.cells #[.int .i64 z1, .int .i64 z2, .int .i64 z3] 40)) := (hP17.block _ (by omega)).trans HQVR.out
      clear HQVR
      have HQVR := HQVRw17
      clear HQVRw17
      have zmw17 : w.heap.size < w17.heap.size := by have := hP17.size; omega
      have m0w17 : w17.cell? ⟨w.heap.size, 0, none⟩ = some (.slice (some ⟨b2, f2, none⟩) np cp) := (hP17.cell (p := ⟨w.heap.size, 0, none⟩) (by show w.heap.size < _; omega)).trans m0w16
      have m1w17 : w17.cell? ⟨w.heap.size, 1, none⟩ = some (.slice (some ⟨b1, f1, none⟩) nf cf) := (hP17.cell (p := ⟨w.heap.size, 1, none⟩) (by show w.heap.size < _; omega)).trans m1w16
      have zpw17 : w.heap.size + 1 < w17.heap.size := by have := hP17.size; omega
      have p0w17 : w17.cell? ⟨w.heap.size + 1, 0, none⟩ = some (.int .i64 a) := (hP17.cell (p := ⟨w.heap.size + 1, 0, none⟩) (by show w.heap.size + 1 < _; omega)).trans p0w16
      have p1w17 : w17.cell? ⟨w.heap.size + 1, 1, none⟩ = some (.int .i64 b) := (hP17.cell (p := ⟨w.heap.size + 1, 1, none⟩) (by show w.heap.size + 1 < _; omega)).trans p1w16
      have p2w17 : w17.cell? ⟨w.heap.size + 1, 2, none⟩ = some (.int .i64 c) := (hP17.cell (p := ⟨w.heap.size + 1, 2, none⟩) (by show w.heap.size + 1 < _; omega)).trans p2w16
      clear m0w16 m1w16 p0w16 p1w16 p2w16
      clear hcw17 hfw17 v0 v1 v2 v3 v4 vf vs HM16 HVW16
      obtain ⟨v0, v1, v2, v3, v4, vf, vs⟩ := cells_at5 HVW17.out
      go_wp2_with fail
      obtain ⟨w18, hw18⟩ : ∃ Y, (((((w17.setCell ⟨VW, 0, none⟩ (.bool s3)).setCell ⟨VW, 1, none⟩ (.int .u64 (X3 0))).setCell ⟨VW, 2, none⟩ (.int .u64 (X3 1))).setCell ⟨VW, 3, none⟩ (.int .u64 (X3 2))).setCell ⟨VW, 4, none⟩ (.int .u64 (X3 3))) = Y := ⟨_, rfl⟩
      have HVW18 : Hid (w18.heap[VW]? = some (.cells #[.bool s3, .int .u64 (X3 0), .int .u64 (X3 1), .int .u64 (X3 2), .int .u64 (X3 3)] 33)) := by
        show _ = _
        rw [← hw18]
        simp only [heapS_same, HVW17.out, Option.map_some, setObj]
        rfl
      have hK18 : Below w13.heap.size w17 w18 := by rw [← hw18]; go_grown
      have hz18 : w18.heap.size ≤ w17.heap.size ∧ w17.heap.size ≤ w18.heap.size := by rw [← hw18]; simp
      have HM18 : Hid (w18.heap[w3.heap.size]? = some (.cells #[.slice o2 (np + 1) k2, .slice o5 (nf + 2) k5] 25)) := (hK18.block _ (by omega)).trans HM17.out
      have hBw18 : Below w.heap.size w w18 := hBw17.trans (hK18.mono (by omega))
      replace HMJ := Lib.hid (mat_keptW HMJ.out hK18 HMJB.out)
      rw [hw18]
      have HQVPw18 : Hid (w18.heap[VP]? = some (.cells #[.int .i64 x1, .int .i64 x2, .int .i64 x3] 40)) := (hK18.block _ (by omega)).trans HQVP.out
      clear HQVP
      have HQVP := HQVPw18
      clear HQVPw18
      have HQVQw18 : Hid (w18.heap[VQ]? = some (.cells #[.int .i64 y1, .int .i64 y2, .int .i64 y3] 40)) := (hK18.block _ (by omega)).trans HQVQ.out
      clear HQVQ
      have HQVQ := HQVQw18
      clear HQVQw18
      have HQVRw18 : Hid (w18.heap[VR]? = some (.cells #[.int .i64 z1, .int .i64 z2, .int .i64 z3] 40)) := (hK18.block _ (by omega)).trans HQVR.out
      clear HQVR
      have HQVR := HQVRw18
      clear HQVRw18
      have zmw18 : w.heap.size < w18.heap.size := by have := hK18.size; omega
      have m0w18 : w18.cell? ⟨w.heap.size, 0, none⟩ = some (.slice (some ⟨b2, f2, none⟩) np cp) := (hK18.cell (p := ⟨w.heap.size, 0, none⟩) (by show w.heap.size < _; omega)).trans m0w17
      have m1w18 : w18.cell? ⟨w.heap.size, 1, none⟩ = some (.slice (some ⟨b1, f1, none⟩) nf cf) := (hK18.cell (p := ⟨w.heap.size, 1, none⟩) (by show w.heap.size < _; omega)).trans m1w17
      have zpw18 : w.heap.size + 1 < w18.heap.size := by have := hK18.size; omega
      have p0w18 : w18.cell? ⟨w.heap.size + 1, 0, none⟩ = some (.int .i64 a) := (hK18.cell (p := ⟨w.heap.size + 1, 0, none⟩) (by show w.heap.size + 1 < _; omega)).trans p0w17
      have p1w18 : w18.cell? ⟨w.heap.size + 1, 1, none⟩ = some (.int .i64 b) := (hK18.cell (p := ⟨w.heap.size + 1, 1, none⟩) (by show w.heap.size + 1 < _; omega)).trans p1w17
      have p2w18 : w18.cell? ⟨w.heap.size + 1, 2, none⟩ = some (.int .i64 c) := (hK18.cell (p := ⟨w.heap.size + 1, 2, none⟩) (by show w.heap.size + 1 < _; omega)).trans p2w17
      clear m0w17 m1w17 p0w17 p1w17 p2w17
      clear hw18 v0 v1 v2 v3 v4 vf vs HM17 HVW17 hK18 hP17
      obtain ⟨mVP0, mVP1, mVP2, mfVP, msVP⟩ := cells_at3 HQVP.out
      obtain ⟨mVQ0, mVQ1, mVQ2, mfVQ, msVQ⟩ := cells_at3 HQVQ.out
      obtain ⟨mVR0, mVR1, mVR2, mfVR, msVR⟩ := cells_at3 HQVR.out
      obtain ⟨v0, v1, v2, v3, v4, vf, vs⟩ := cells_at5 HVW18.out
      go_wp2_with fail
      refine wp_region_relw 7 (by kernel_rfl) (by kernel_rfl) (by kernel_rfl) ?_
      simp only [List.take_succ_cons, List.take_zero, fillL, Act.put, List.setIfInBounds_toArray, List.set_cons_zero, List.set_cons_succ]
      iterate 4
        apply rel_is
        · intro u wx hb hd
          have hz := hb.size
          (try simp only [World.size_alloc, World.size_setCell] at hz)
          have hz0 : VW < wx.heap.size := by omega
          have hz1 : VP < wx.heap.size := by omega
          have hz2 : VQ < wx.heap.size := by omega
          have hz3 : VR < wx.heap.size := by omega
          obtain ⟨hc, hf⟩ := bcell hb
          have HBX := Lib.hid hb
          clear hb hz
          simp [depsS, Region.binds, updS, Stay.is, Stay.any] at hd
          go_simp
          first | exact ⟨Below.refl _ _, rfl⟩ | rfl
      apply rel_is
      · intro u wx hb hd
        have hz := hb.size
        (try simp only [World.size_alloc, World.size_setCell] at hz)
        have hz0 : VW < wx.heap.size := by omega
        have hz1 : VP < wx.heap.size := by omega
        have hz2 : VQ < wx.heap.size := by omega
        have hz3 : VR < wx.heap.size := by omega
        obtain ⟨hc, hf⟩ := bcell hb
        have HBX := Lib.hid hb
        clear hb hz
        simp [depsS, Region.binds, updS, Stay.is, Stay.any] at hd
        go_simp
        first | rfl | (go_at_call 27; refine (HDT4.out _).mono ?_; rintro e w1 ⟨rfl, hb1⟩; first | exact ⟨rfl, hb1⟩ | exact ⟨_, rfl, hb1, rfl⟩)
      apply rel_is
      · intro u wx hb hd
        have hz := hb.size
        (try simp only [World.size_alloc, World.size_setCell] at hz)
        have hz0 : VW < wx.heap.size := by omega
        have hz1 : VP < wx.heap.size := by omega
        have hz2 : VQ < wx.heap.size := by omega
        have hz3 : VR < wx.heap.size := by omega
        obtain ⟨hc, hf⟩ := bcell hb
        have HBX := Lib.hid hb
        clear hb hz
        simp [depsS, Region.binds, updS, Stay.is, Stay.any] at hd
        go_simp
        first | rfl | (go_at_call 26; refine (HOF4.out _).mono ?_; rintro e w1 ⟨rfl, hb1⟩; first | exact ⟨rfl, hb1⟩ | exact ⟨_, rfl, hb1, rfl⟩)
      apply rel_is
      · intro u wx hb hd
        have hz := hb.size
        (try simp only [World.size_alloc, World.size_setCell] at hz)
        have hz0 : VW < wx.heap.size := by omega
        have hz1 : VP < wx.heap.size := by omega
        have hz2 : VQ < wx.heap.size := by omega
        have hz3 : VR < wx.heap.size := by omega
        obtain ⟨hc, hf⟩ := bcell hb
        have HBX := Lib.hid hb
        clear hb hz
        simp [depsS, Region.binds, updS, Stay.is, Stay.any] at hd
        go_simp
        first | rfl | (go_at_call 24; refine (HSC4.out _).mono ?_; rintro e w1 ⟨rfl, hb1⟩; first | exact ⟨rfl, hb1⟩ | exact ⟨_, rfl, hb1, rfl⟩)
      intro u w19 hb hE
      have e0 : u 0 = _ := endS_get hE 0 (by decide)
      have e1 : u 1 = _ := endS_get hE 1 (by decide)
      have e2 : u 2 = _ := endS_get hE 2 (by decide)
      have e3 : u 3 = _ := endS_get hE 3 (by decide)
      have e4 : u 4 = _ := endS_get hE 4 (by decide)
      have e5 : u 5 = _ := endS_get hE 5 (by decide)
      have e6 : u 6 = _ := endS_get hE 6 (by decide)
      simp only [List.drop_succ_cons, List.drop_zero, List.take_succ_cons, List.take_zero, fillL, Act.put, List.setIfInBounds_toArray, List.set_cons_zero, List.set_cons_succ, e0, e1, e2, e3, e4, e5, e6]
      clear e0 e1 e2 e3 e4 e5 e6 hE
      have HBw19 := Lib.hid (below_step (w := w18) (by first | assumption | go_grown) hb)
      have HBXw19 := Lib.hid hb
      have hzw19 := hb.size
      (try simp only [World.size_alloc, World.size_setCell] at hzw19)
      have hzw190 : VW < w19.heap.size := by omega
      have hzw191 : VP < w19.heap.size := by omega
      have hzw192 : VQ < w19.heap.size := by omega
      have hzw193 : VR < w19.heap.size := by omega
      obtain ⟨hcw19, hfw19⟩ := bcell hb
      clear hb hzw19
      have hP19 := HBXw19.out
      have hKM := hP19.size
      have HVW19 : Hid (w19.heap[VW]? = some (.cells #[.bool s3, .int .u64 (X3 0), .int .u64 (X3 1), .int .u64 (X3 2), .int .u64 (X3 3)] 33)) := (hP19.block _ (by omega)).trans HVW18.out
      have HM19 : Hid (w19.heap[w3.heap.size]? = some (.cells #[.slice o2 (np + 1) k2, .slice o5 (nf + 2) k5] 25)) := (hP19.block _ (by omega)).trans HM18.out
      have hBw19 : Below w.heap.size w w19 := below_step hBw18 hP19
      replace HMJ := Lib.hid (HMJ.out.below hP19)
      have zVW19 : VW < w19.heap.size := by omega
      have zM19 : w3.heap.size < w19.heap.size := by omega
      have bMV : w3.heap.size ≠ VW := by omega
      have bmV : w.heap.size ≤ VW := by omega
      clear mVP0 mVP1 mVP2 mfVP msVP mVQ0 mVQ1 mVQ2 mfVQ msVQ mVR0 mVR1 mVR2 mfVR msVR
      clear hcw19 hfw19 v0 v1 v2 v3 v4 vf vs HM18 HVW18 HQVP HQVQ HQVR hP19 hKM m0w18 m1w18 p0w18 p1w18 p2w18
      obtain ⟨v0, v1, v2, v3, v4, vf, vs⟩ := cells_at5 HVW19.out
      obtain ⟨m0, m1, mz, ms⟩ := cells_at2 HM19.out
      have HOF0 : Hid (∀ X, Calls Try.prog 26 #[.int .i64 0] X fun e w' => e = .returned (.agg #[.bool (decide ((0 : Int) < 0)), .int .u64 ((wdF ((0 : Int))) 0), .int .u64 ((wdF ((0 : Int))) 1), .int .u64 ((wdF ((0 : Int))) 2), .int .u64 ((wdF ((0 : Int))) 3)]) ∧ Below X.heap.size X w') := fun X => of_wd 0 X (by decide)
      obtain ⟨sn, hsn⟩ : ∃ b, decide ((0 : Int) < 0) = b := ⟨_, rfl⟩
      obtain ⟨N0, hN0⟩ : ∃ X, wdF ((0 : Int)) = X := ⟨_, rfl⟩
      have HN0 := Lib.hid (And.intro hsn hN0)
      rw [hsn, hN0] at HOF0
      obtain ⟨cm, hcm⟩ : ∃ c, cmpI W4 0 = c := ⟨_, rfl⟩
      have HCMP : Hid (∀ X, Calls Try.prog 28 #[.agg #[.bool s4, .int .u64 (X4 0), .int .u64 (X4 1), .int .u64 (X4 2), .int .u64 (X4 3)], .agg #[.bool sn, .int .u64 (N0 0), .int .u64 (N0 1), .int .u64 (N0 2), .int .u64 (N0 3)]] X fun e w' => e = .returned (.int .i64 cm) ∧ Below X.heap.size X w') := fun X => by
        have h := Cmp_any W4 0 _ _ _ _ X (wdF_is (z := W4) (by have := HW4B.out; omega)) (wdF_is (z := (0 : Int)) (by decide))
        rw [HSX4.out.1, HSX4.out.2, HN0.out.1, HN0.out.2, hcm] at h
        exact h
      have hcm2 : decide (cm ≤ 0) = decide (W4 ≤ 0) := by
        rw [← hcm]
        unfold cmpI
        split
        · rw [decide_eq_true (show (-1 : Int) ≤ 0 by decide), decide_eq_true (by omega)]
        · split
          · rw [decide_eq_false (show ¬ (1 : Int) ≤ 0 by decide), decide_eq_false (by omega)]
          · rw [decide_eq_true (show (0 : Int) ≤ 0 by decide), decide_eq_true (by omega)]
      clear hsn hN0 hcm
      by_cases hW4 : W4 ≤ 0
      · have kcm : decide (cm ≤ 0) = true := by rw [hcm2]; exact decide_eq_true hW4
        have hck : checkM (np + 1) PP (nf + 2) CF = 17 := by rw [HCK.out, if_pos hW4]
        obtain ⟨s5, hs5⟩ : ∃ b, decide (vol6 (np + 1) PP (nf + 2) CF < 0) = b := ⟨_, rfl⟩
        obtain ⟨X5, hX5⟩ : ∃ X, wdF (vol6 (np + 1) PP (nf + 2) CF) = X := ⟨_, rfl⟩
        have HVJ : Hid (∀ X, MAt X (.agg #[.slice o2 (np + 1) k2, .slice o5 (nf + 2) k5]) (np + 1) PP (nf + 2) CF → Calls Try.prog 15 #[.agg #[.slice o2 (np + 1) k2, .slice o5 (nf + 2) k5]] X fun e w' => e = .returned (.tuple #[.agg #[.bool s5, .int .u64 (X5 0), .int .u64 (X5 1), .int .u64 (X5 2), .int .u64 (X5 3)], .int .i64 17]) ∧ Below X.heap.size X w') := fun X h => by
          have h := Volume6_any _ _ _ PP CF X h
          rw [hs5, hX5, hck] at h
          exact h
        clear hcm2 hck hW4 hs5 hX5
        go_wp2_with fail
        (go_at_call 15; refine (HVJ.out _ (mat_keptW HMJ.out (show Below w13.heap.size w19 _ by go_grown) HMJB.out)).mono ?_; rintro e_ w21 ⟨rfl, hb⟩)
        have hs21 := hb.size
        simp only [World.size_setCell] at hs21
        have hBw21 : Below w.heap.size w w21 := below_step (w := w) (by go_grown) hb
        have HVW21 : Hid (w21.heap[VW]? = some (.cells #[.bool s4, .int .u64 (X4 0), .int .u64 (X4 1), .int .u64 (X4 2), .int .u64 (X4 3)] 33)) := (hb.block VW (by simp <;> omega)).trans (by
          simp only [heapS_same, HVW19.out, Option.map_some, setObj]
          rfl)
        have zVW21 : VW < w21.heap.size := by omega
        clear hb v0 v1 v2 v3 v4 vf vs m0 m1 mz ms HVW19 HM19
        go_wp2_with fail
        obtain ⟨w22, hw22⟩ : ∃ X, (w21.alloc (.cells #[.bool s5, .int .u64 (X5 0), .int .u64 (X5 1), .int .u64 (X5 2), .int .u64 (X5 3)] 33)) = X := ⟨_, rfl⟩
        have HVA22 : Hid (w22.heap[w21.heap.size]? = some (.cells #[.bool s5, .int .u64 (X5 0), .int .u64 (X5 1), .int .u64 (X5 2), .int .u64 (X5 3)] 33)) := by
          show _ = _
          rw [← hw22]
          exact heapA_at _ _ _ rfl
        have hP22 : Below w21.heap.size w21 w22 := by rw [← hw22]; exact (Below.refl _ _).alloc (Nat.le_refl _) _
        have HVW22 : Hid (w22.heap[VW]? = some (.cells #[.bool s4, .int .u64 (X4 0), .int .u64 (X4 1), .int .u64 (X4 2), .int .u64 (X4 3)] 33)) := (hP22.block _ zVW21).trans HVW21.out
        have hBw22 : Below w.heap.size w w22 := below_step hBw21 hP22
        rw [hw22]
        have zVW22 : VW < w22.heap.size := by have := hP22.size; omega
        have zVA22 : w21.heap.size < w22.heap.size := by rw [← hw22]; simp
        clear hw22 hP22 HVW21
        obtain ⟨v0, v1, v2, v3, v4, vf, vs⟩ := cells_at5 HVW22.out
        go_wp2_with fail
        refine wp_region_relw 4 (by kernel_rfl) (by kernel_rfl) (by kernel_rfl) ?_
        simp only [List.take_succ_cons, List.take_zero, fillL, Act.put, List.setIfInBounds_toArray, List.set_cons_zero, List.set_cons_succ]
        apply rel_is
        · intro u wx hb hd
          have hz := hb.size
          (try simp only [World.size_alloc, World.size_setCell] at hz)
          have hz0 : VW < wx.heap.size := by omega
          have hz1 : w21.heap.size < wx.heap.size := by omega
          obtain ⟨hc, hf⟩ := bcell hb
          have HBX := Lib.hid hb
          clear hb hz
          simp [depsS, Region.binds, updS, Stay.is, Stay.any] at hd
          go_simp
          first | exact ⟨Below.refl _ _, rfl⟩ | rfl
        apply rel_is
        · intro u wx hb hd
          have hz := hb.size
          (try simp only [World.size_alloc, World.size_setCell] at hz)
          have hz0 : VW < wx.heap.size := by omega
          have hz1 : w21.heap.size < wx.heap.size := by omega
          obtain ⟨hc, hf⟩ := bcell hb
          have HBX := Lib.hid hb
          clear hb hz
          simp [depsS, Region.binds, updS, Stay.is, Stay.any] at hd
          go_simp
          first | rfl | (go_at_call 26; refine (HOF0.out _).mono ?_; rintro e w1 ⟨rfl, hb1⟩; first | exact ⟨rfl, hb1⟩ | exact ⟨_, rfl, hb1, rfl⟩)
        apply rel_is
        · intro u wx hb hd
          have hz := hb.size
          (try simp only [World.size_alloc, World.size_setCell] at hz)
          have hz0 : VW < wx.heap.size := by omega
          have hz1 : w21.heap.size < wx.heap.size := by omega
          obtain ⟨hc, hf⟩ := bcell hb
          have HBX := Lib.hid hb
          clear hb hz
          simp [depsS, Region.binds, updS, Stay.is, Stay.any] at hd
          go_simp
          first | rfl | (go_at_call 28; refine (HCMP.out _).mono ?_; rintro e w1 ⟨rfl, hb1⟩; first | exact ⟨rfl, hb1⟩ | exact ⟨_, rfl, hb1, rfl⟩)
        apply rel_is
        · intro u wx hb hd
          have hz := hb.size
          (try simp only [World.size_alloc, World.size_setCell] at hz)
          have hz0 : VW < wx.heap.size := by omega
          have hz1 : w21.heap.size < wx.heap.size := by omega
          obtain ⟨hc, hf⟩ := bcell hb
          have HBX := Lib.hid hb
          clear hb hz
          simp [depsS, Region.binds, updS, Stay.is, Stay.any] at hd
          go_simp
          first | exact ⟨Below.refl _ _, rfl⟩ | rfl
        intro u w23 hb hE
        have e0 : u 0 = _ := endS_get hE 0 (by decide)
        have e1 : u 1 = _ := endS_get hE 1 (by decide)
        have e2 : u 2 = _ := endS_get hE 2 (by decide)
        have e3 : u 3 = _ := endS_get hE 3 (by decide)
        simp only [List.drop_succ_cons, List.drop_zero, List.take_succ_cons, List.take_zero, fillL, Act.put, List.setIfInBounds_toArray, List.set_cons_zero, List.set_cons_succ, e0, e1, e2, e3]
        clear e0 e1 e2 e3 hE
        have HBw23 := Lib.hid (below_step (w := w22) (by first | assumption | go_grown) hb)
        have HBXw23 := Lib.hid hb
        have hzw23 := hb.size
        (try simp only [World.size_alloc, World.size_setCell] at hzw23)
        have hzw230 : VW < w23.heap.size := by omega
        have hzw231 : w21.heap.size < w23.heap.size := by omega
        obtain ⟨hcw23, hfw23⟩ := bcell hb
        clear hb hzw23
        have hP23 := HBXw23.out
        have hBw23 : Below w.heap.size w w23 := below_step hBw22 hP23
        have HVA23 : Hid (w23.heap[w21.heap.size]? = some (.cells #[.bool s5, .int .u64 (X5 0), .int .u64 (X5 1), .int .u64 (X5 2), .int .u64 (X5 3)] 33)) := (hP23.block _ zVA22).trans HVA22.out
        have HVW23 : Hid (w23.heap[VW]? = some (.cells #[.bool s4, .int .u64 (X4 0), .int .u64 (X4 1), .int .u64 (X4 2), .int .u64 (X4 3)] 33)) := (hP23.block _ zVW22).trans HVW22.out
        clear hcw23 hfw23 v0 v1 v2 v3 v4 vf vs hP23
        go_wp2_with fail
        (go_at_call 12; refine (awake_any _).mono ?_; rintro e_ w24 ⟨rfl, hb⟩)
        have hBz : Below w.heap.size w w24 := below_step (w := w) (by first | assumption | go_grown) hb
        go_wp2
        go_returns
        exact ⟨rfl, hBz⟩
      · have kcm : decide (cm ≤ 0) = false := by rw [hcm2]; exact decide_eq_false hW4
        have hck : checkM (np + 1) PP (nf + 2) CF = 0 := by rw [HCK.out, if_neg hW4]
        have hv6 : vol6 (np + 1) PP (nf + 2) CF = W4 := by unfold vol6; rw [if_pos hck]; exact HVC.out
        have HVJ : Hid (∀ X, MAt X (.agg #[.slice o2 (np + 1) k2, .slice o5 (nf + 2) k5]) (np + 1) PP (nf + 2) CF → Calls Try.prog 15 #[.agg #[.slice o2 (np + 1) k2, .slice o5 (nf + 2) k5]] X fun e w' => e = .returned (.tuple #[.agg #[.bool s4, .int .u64 (X4 0), .int .u64 (X4 1), .int .u64 (X4 2), .int .u64 (X4 3)], .int .i64 0]) ∧ Below X.heap.size X w') := fun X h => by
          have h := Volume6_any _ _ _ PP CF X h
          rw [hv6, HSX4.out.1, HSX4.out.2, hck] at h
          exact h
        clear hcm2 hck hW4 hv6
        go_wp2_with fail
        (go_at_call 15; refine (HVJ.out _ (mat_keptW HMJ.out (show Below w13.heap.size w19 _ by go_grown) HMJB.out)).mono ?_; rintro e_ w21 ⟨rfl, hb⟩)
        have hs21 := hb.size
        simp only [World.size_setCell] at hs21
        have hBw21 : Below w.heap.size w w21 := below_step (w := w) (by go_grown) hb
        have HVW21 : Hid (w21.heap[VW]? = some (.cells #[.bool s4, .int .u64 (X4 0), .int .u64 (X4 1), .int .u64 (X4 2), .int .u64 (X4 3)] 33)) := (hb.block VW (by simp <;> omega)).trans (by
          simp only [heapS_same, HVW19.out, Option.map_some, setObj]
          rfl)
        have zVW21 : VW < w21.heap.size := by omega
        clear hb v0 v1 v2 v3 v4 vf vs m0 m1 mz ms HVW19 HM19
        go_wp2_with fail
        obtain ⟨w22, hw22⟩ : ∃ X, (w21.alloc (.cells #[.bool s4, .int .u64 (X4 0), .int .u64 (X4 1), .int .u64 (X4 2), .int .u64 (X4 3)] 33)) = X := ⟨_, rfl⟩
        have HVA22 : Hid (w22.heap[w21.heap.size]? = some (.cells #[.bool s4, .int .u64 (X4 0), .int .u64 (X4 1), .int .u64 (X4 2), .int .u64 (X4 3)] 33)) := by
          show _ = _
          rw [← hw22]
          exact heapA_at _ _ _ rfl
        have hP22 : Below w21.heap.size w21 w22 := by rw [← hw22]; exact (Below.refl _ _).alloc (Nat.le_refl _) _
        have HVW22 : Hid (w22.heap[VW]? = some (.cells #[.bool s4, .int .u64 (X4 0), .int .u64 (X4 1), .int .u64 (X4 2), .int .u64 (X4 3)] 33)) := (hP22.block _ zVW21).trans HVW21.out
        have hBw22 : Below w.heap.size w w22 := below_step hBw21 hP22
        rw [hw22]
        have zVW22 : VW < w22.heap.size := by have := hP22.size; omega
        have zVA22 : w21.heap.size < w22.heap.size := by rw [← hw22]; simp
        clear hw22 hP22 HVW21
        obtain ⟨v0, v1, v2, v3, v4, vf, vs⟩ := cells_at5 HVW22.out
        go_wp2_with fail
        refine wp_region_relw 4 (by kernel_rfl) (by kernel_rfl) (by kernel_rfl) ?_
        simp only [List.take_succ_cons, List.take_zero, fillL, Act.put, List.setIfInBounds_toArray, List.set_cons_zero, List.set_cons_succ]
        apply rel_is
        · intro u wx hb hd
          have hz := hb.size
          (try simp only [World.size_alloc, World.size_setCell] at hz)
          have hz0 : VW < wx.heap.size := by omega
          have hz1 : w21.heap.size < wx.heap.size := by omega
          obtain ⟨hc, hf⟩ := bcell hb
          have HBX := Lib.hid hb
          clear hb hz
          simp [depsS, Region.binds, updS, Stay.is, Stay.any] at hd
          go_simp
          first | exact ⟨Below.refl _ _, rfl⟩ | rfl
        apply rel_is
        · intro u wx hb hd
          have hz := hb.size
          (try simp only [World.size_alloc, World.size_setCell] at hz)
          have hz0 : VW < wx.heap.size := by omega
          have hz1 : w21.heap.size < wx.heap.size := by omega
          obtain ⟨hc, hf⟩ := bcell hb
          have HBX := Lib.hid hb
          clear hb hz
          simp [depsS, Region.binds, updS, Stay.is, Stay.any] at hd
          go_simp
          first | rfl | (go_at_call 26; refine (HOF0.out _).mono ?_; rintro e w1 ⟨rfl, hb1⟩; first | exact ⟨rfl, hb1⟩ | exact ⟨_, rfl, hb1, rfl⟩)
        apply rel_is
        · intro u wx hb hd
          have hz := hb.size
          (try simp only [World.size_alloc, World.size_setCell] at hz)
          have hz0 : VW < wx.heap.size := by omega
          have hz1 : w21.heap.size < wx.heap.size := by omega
          obtain ⟨hc, hf⟩ := bcell hb
          have HBX := Lib.hid hb
          clear hb hz
          simp [depsS, Region.binds, updS, Stay.is, Stay.any] at hd
          go_simp
          first | rfl | (go_at_call 28; refine (HCMP.out _).mono ?_; rintro e w1 ⟨rfl, hb1⟩; first | exact ⟨rfl, hb1⟩ | exact ⟨_, rfl, hb1, rfl⟩)
        apply rel_is
        · intro u wx hb hd
          have hz := hb.size
          (try simp only [World.size_alloc, World.size_setCell] at hz)
          have hz0 : VW < wx.heap.size := by omega
          have hz1 : w21.heap.size < wx.heap.size := by omega
          obtain ⟨hc, hf⟩ := bcell hb
          have HBX := Lib.hid hb
          clear hb hz
          simp [depsS, Region.binds, updS, Stay.is, Stay.any] at hd
          go_simp
          first | exact ⟨Below.refl _ _, rfl⟩ | rfl
        intro u w23 hb hE
        have e0 : u 0 = _ := endS_get hE 0 (by decide)
        have e1 : u 1 = _ := endS_get hE 1 (by decide)
        have e2 : u 2 = _ := endS_get hE 2 (by decide)
        have e3 : u 3 = _ := endS_get hE 3 (by decide)
        simp only [List.drop_succ_cons, List.drop_zero, List.take_succ_cons, List.take_zero, fillL, Act.put, List.setIfInBounds_toArray, List.set_cons_zero, List.set_cons_succ, e0, e1, e2, e3]
        clear e0 e1 e2 e3 hE
        have HBw23 := Lib.hid (below_step (w := w22) (by first | assumption | go_grown) hb)
        have HBXw23 := Lib.hid hb
        have hzw23 := hb.size
        (try simp only [World.size_alloc, World.size_setCell] at hzw23)
        have hzw230 : VW < w23.heap.size := by omega
        have hzw231 : w21.heap.size < w23.heap.size := by omega
        obtain ⟨hcw23, hfw23⟩ := bcell hb
        clear hb hzw23
        have hP23 := HBXw23.out
        have hBw23 : Below w.heap.size w w23 := below_step hBw22 hP23
        have HVA23 : Hid (w23.heap[w21.heap.size]? = some (.cells #[.bool s4, .int .u64 (X4 0), .int .u64 (X4 1), .int .u64 (X4 2), .int .u64 (X4 3)] 33)) := (hP23.block _ zVA22).trans HVA22.out
        have HVW23 : Hid (w23.heap[VW]? = some (.cells #[.bool s4, .int .u64 (X4 0), .int .u64 (X4 1), .int .u64 (X4 2), .int .u64 (X4 3)] 33)) := (hP23.block _ zVW22).trans HVW22.out
        clear hcw23 hfw23 v0 v1 v2 v3 v4 vf vs hP23
        obtain ⟨v0, v1, v2, v3, v4, vf, vs⟩ := cells_at5 HVW23.out
        obtain ⟨y0, y1, y2, y3, y4, yf, ys⟩ := cells_at5 HVA23.out
        have qeq := eql_wide s4 (X4 0) (X4 1) (X4 2) (X4 3)
        go_wp2_with fail
        (go_at_call 12; refine (awake_any _).mono ?_; rintro e_ w24 ⟨rfl, hb⟩)
        have hBz : Below w.heap.size w w24 := below_step (w := w) (by first | assumption | go_grown) hb
        go_wp2
        go_returns
        exact ⟨rfl, hBz⟩

set_option maxRecDepth 100000 in
theorem meshPieces_contract (H : Type) (enc : TypeId × Value → H) (W : World) (base : Nat) (args : Array Value) (ds gs : List (DataW H)) (before : List MemPlace)
    (hval : ∀ (j : Nat) t v, Try.f8.params[j]? = some t → args[j]? = some v → Value.okWide Try.prog W .any base t v)
    (hW : DataW.Whole enc Try.prog Try.f8.params.toList Rows.meshPiecesSpec.vars false W args.toList ds gs before) (hL : laidMetH Try.prog Rows.meshPiecesRow.laid W) (hSh : W.ShapedOpen Try.prog) :
    Calls Try.prog 8 args W fun e W' => ∃ v, e = .returned v ∧ Rows.meshPiecesSpec.post enc Try.prog Try.f8 false true false false W args v W' := by
  have hW' := hW
  obtain ⟨p, q, hA0, hV, rfl, hfz, hnd⟩ := hW
  have hA : DataW.TrodAll enc Try.prog W 0 (fun _ => true) true Try.f8.params.toList args.toList ds p := hA0
  rw [Try.params8] at hA hval
  obtain ⟨v0, vs0, d0, ds0, p0, q0, hargs, rfl, rfl, h0, r0⟩ := trodAll_cons hA
  obtain ⟨v1, vs1, d1, ds1, p1, q1, rfl, rfl, rfl, h1, r1⟩ := trodAll_cons r0
  obtain ⟨v2, vs2, d2, ds2, p2, q2, rfl, rfl, rfl, h2, r2⟩ := trodAll_cons r1
  obtain ⟨rfl, rfl, rfl⟩ := trodAll_nil r2
  obtain rfl : args = #[v0, v1, v2] := by cases args; simp_all
  obtain ⟨np, P, nf, F, hm⟩ := mesh_arg (hval 0 25 v0 rfl rfl) h0
  obtain ⟨kk, rfl, rfl, rfl, _w1⟩ := open_int Try.underlying52 (hval 1 52 v1 rfl rfl) h1
  obtain ⟨va, vb, vc, rfl, ba, bb, bc⟩ := vec_arg (hval 2 40 v2 rfl rfl) h2
  refine (meshPieces_walk _ np nf P F kk va vb vc W hm (by simpa [Lit.wf, IntKind.min, IntKind.max, IntKind.signed, IntKind.bits] using _w1)).mono fun e W' ⟨he, hb⟩ => ?_
  subst he
  exact ⟨_, rfl, law_post laidOut (by kernel_rfl) (by kernel_rfl) Try.underlying4 rfl hW' (fun _ => rfl) hb⟩
theorem meshPieces_reads (os : Os) {H : Type} (enc : TypeId × Value → H) : ∃ places, DataW.whole enc Try.prog ((World.settled Try.prog os).forCall (fun _ _ => 0) ⟨#[], #[.agg #[.slice none 0 0, .slice none 0 0], .int .u16 0, .agg #[.int .i64 0, .int .i64 0, .int .i64 0]], []⟩).memory Try.f8.params.toList Rows.meshPiecesSpec.vars false (#[.agg #[.slice none 0 0, .slice none 0 0], .int .u16 0, .agg #[.int .i64 0, .int .i64 0, .int .i64 0]] : Array Value).toList 8 = some ([.agg [.nil, .nil], .lit (.int .u16 0), .agg [.lit (.int .i64 0), .lit (.int .i64 0), .lit (.int .i64 0)]], [], places) := ⟨[], by kernel_rfl⟩
set_option maxRecDepth 100000 in
theorem meshPieces_lifted (os : Os) (started : os.Started) (H : Type) (enc : TypeId × Value → H) (F : Stop.Interp) :
    ReturnsInHanded {} Try.checked os 8 .any ((OpenSpec.ofChange Rows.meshPiecesSpec).preRow enc Try.prog Try.f8 Rows.meshPiecesRow.domain false Rows.meshPiecesRow.laid) (((OpenSpec.ofChange Rows.meshPiecesSpec).at F).post enc Try.prog Try.f8 false true false false) := by
  obtain ⟨places, hx⟩ := meshPieces_reads os enc
  refine returnsInHanded_of_row (C := Try.checked) (s := OpenSpec.ofChange Rows.meshPiecesSpec) own started (by kernel_rfl) Try.func8
    (witness_row_at (enc := enc) (C := Try.checked) false (World.settled Try.prog os) #[.agg #[.slice none 0 0, .slice none 0 0], .int .u16 0, .agg #[.int .i64 0, .int .i64 0, .int .i64 0]] rfl (by kernel_rfl) (by kernel_rfl) (by kernel_rfl)
      (OpenSpec.preRow_of_cond 8 hx (by kernel_rfl) (fun k hk => by cases hk) (by kernel_rfl) (laidMet_nil _ _))) ?_
  intro W base args ds gs before hval hW _ _ _ hL hSh _
  exact meshPieces_contract H enc W base args ds gs before hval hW hL hSh
theorem meshPieces_said : Rows.MeshPiecesSaid :=
  OpenClaim.holds_of_cond 8 Try.f8 rfl rfl rfl rfl rfl rfl rfl ⟨rfl, rfl, rfl, rfl, rfl⟩ rfl rfl rfl rfl rfl (by kernel_rfl) Try.func8 (by kernel_rfl)
    (of_decide_eq_true (by kernel_rfl)) (by unfold Func.isWrapper; rw [if_neg (of_decide_eq_false (by kernel_rfl))]; exact ⟨rfl, rfl⟩)
    (fun os started H enc _ F => by rw [OpenClaim.pre_eq_preRow]; exact meshPieces_lifted os started H enc F)
#print axioms meshPieces_said
end Go.Proofs.Ytpjdmjmgkdgfnaa
