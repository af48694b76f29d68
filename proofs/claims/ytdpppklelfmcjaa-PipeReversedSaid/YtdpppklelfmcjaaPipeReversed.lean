/-
  The law PipeReversed. Conditions: none. By an AI agent.
-/
import Derived.Test.YtdpppklelfmcjaaPipeL
import Derived.Test.YtdpppklelfmcjaaOpen
import Derived.Test.YtdpppklelfmcjaaRows
namespace Go.Proofs.Ytdpppklelfmcjaa
open Go Go.ChangeShapes Go.WideShapes Go.RowKit Go.ChangeAt
set_option linter.unusedSimpArgs false
set_option linter.unusedVariables false

def rev (x : Nat → Int) (n i : Nat) : Int := x (n - 1 - i)
theorem allTo_rev {f : Nat → Bool} {n : Nat} : allTo (fun i => f (n - 1 - i)) n = allTo f n := by
  cases e : allTo f n with
  | true => exact allTo_iff.2 fun i hi => allTo_iff.1 e _ (by omega)
  | false =>
    obtain ⟨i, hi, hf⟩ := allTo_not e
    exact allTo_no (i := n - 1 - i) (by omega) (by show f (n - 1 - (n - 1 - i)) = false; rw [show n - 1 - (n - 1 - i) = i by omega]; exact hf)
theorem sum_head (f : Nat → Int) : ∀ n, sumTo f (n + 1) = f 0 + sumTo (fun i => f (i + 1)) n
  | 0 => by simp [sumTo]
  | n + 1 => by
    rw [show sumTo f (n + 1 + 1) = sumTo f (n + 1) + f (n + 1) from rfl, sum_head f n]
    rw [show sumTo (fun i => f (i + 1)) (n + 1) = sumTo (fun i => f (i + 1)) n + f (n + 1) from rfl]
    omega
theorem sum_congr {f g : Nat → Int} : ∀ {n : Nat}, (∀ i, i < n → f i = g i) → sumTo f n = sumTo g n
  | 0, _ => rfl
  | n + 1, h => by unfold sumTo; rw [sum_congr (fun i hi => h i (by omega)), h n (by omega)]
theorem sum_rev {f : Nat → Int} : ∀ {n : Nat}, sumTo (fun i => f (n - 1 - i)) n = sumTo f n
  | 0 => rfl
  | n + 1 => by
    rw [sum_head, show sumTo f (n + 1) = sumTo f n + f n from rfl, ← sum_rev (f := f) (n := n)]
    rw [sum_congr (f := fun i => f (n + 1 - 1 - (i + 1))) (g := fun i => f (n - 1 - i)) (fun i hi => by show f _ = f _; congr 1; omega)]
    rw [show n + 1 - 1 - 0 = n by omega]
    omega
theorem axis_neg (a b c : Int) : axisF (-a) (-b) (-c) = axisF a b c := by
  have e : ∀ d : Int, (-d = 0) = (d = 0) := fun d => propext ⟨fun h => by omega, fun h => by omega⟩
  unfold axisF
  simp only [ne_eq, e]
theorem axis_rev {x y z : Nat → Int} {n i : Nat} (hi : i < n - 1) : axI (rev x n) (rev y n) (rev z n) i = axI x y z (n - 1 - 1 - i) := by
  unfold axI rev
  rw [show n - 1 - (i + 1) = n - 1 - 1 - i by omega, show n - 1 - i = n - 1 - 1 - i + 1 by omega]
  rw [show x (n - 1 - 1 - i) - x (n - 1 - 1 - i + 1) = -(x (n - 1 - 1 - i + 1) - x (n - 1 - 1 - i)) by omega, show y (n - 1 - 1 - i) - y (n - 1 - 1 - i + 1) = -(y (n - 1 - 1 - i + 1) - y (n - 1 - 1 - i)) by omega, show z (n - 1 - 1 - i) - z (n - 1 - 1 - i + 1) = -(z (n - 1 - 1 - i + 1) - z (n - 1 - 1 - i)) by omega, axis_neg]
theorem mx_neg (d : Int) : mx (-d) (- -d) = mx d (-d) := by unfold mx; split <;> split <;> omega
theorem leg_rev {x y z : Nat → Int} {n i : Nat} (hi : i < n - 1) : legV (rev x n) (rev y n) (rev z n) i = legV x y z (n - 1 - 1 - i) := by
  unfold legV rev
  rw [show n - 1 - (i + 1) = n - 1 - 1 - i by omega, show n - 1 - i = n - 1 - 1 - i + 1 by omega]
  rw [show x (n - 1 - 1 - i) - x (n - 1 - 1 - i + 1) = -(x (n - 1 - 1 - i + 1) - x (n - 1 - 1 - i)) by omega, show y (n - 1 - 1 - i) - y (n - 1 - 1 - i + 1) = -(y (n - 1 - 1 - i + 1) - y (n - 1 - 1 - i)) by omega, show z (n - 1 - 1 - i) - z (n - 1 - 1 - i + 1) = -(z (n - 1 - 1 - i + 1) - z (n - 1 - 1 - i)) by omega, mx_neg, mx_neg, mx_neg]
theorem bad_no {x y z : Nat → Int} {i : Nat} : badB x y z i = false ↔ axI x y z i ≠ 0 ∧ (0 < i → axI x y z i ≠ axI x y z (i - 1)) := by
  unfold badB
  simp only [Bool.or_eq_false_iff, Bool.and_eq_false_iff, beq_eq_false_iff_ne, decide_eq_false_iff_not]
  constructor
  · rintro ⟨h1, h2⟩
    exact ⟨h1, fun h => h2.resolve_left (fun h3 => h3 h)⟩
  · rintro ⟨h1, h2⟩
    refine ⟨h1, ?_⟩
    by_cases h : 0 < i
    · exact .inr (h2 h)
    · exact .inl h
theorem bad_all {x y z : Nat → Int} {m : Nat} : allTo (fun i => !badB x y z i) m = true ↔ (∀ i, i < m → axI x y z i ≠ 0) ∧ ∀ i, i + 1 < m → axI x y z (i + 1) ≠ axI x y z i := by
  rw [allTo_iff]
  constructor
  · intro h
    have h2 : ∀ i, i < m → badB x y z i = false := fun i hi => by have := h i hi; simpa using this
    refine ⟨fun i hi => (bad_no.1 (h2 i hi)).1, fun i hi => ?_⟩
    have := (bad_no.1 (h2 (i + 1) hi)).2 (by omega)
    rwa [show i + 1 - 1 = i by omega] at this
  · rintro ⟨h1, h2⟩ i hi
    have : badB x y z i = false := bad_no.2 ⟨h1 i hi, fun h0 => by
      have := h2 (i - 1) (by omega)
      rwa [show i - 1 + 1 = i by omega] at this⟩
    simp [this]
theorem bad_rev {x y z : Nat → Int} {n : Nat} : allTo (fun i => !badB (rev x n) (rev y n) (rev z n) i) (n - 1) = allTo (fun i => !badB x y z i) (n - 1) := by
  have iff : allTo (fun i => !badB (rev x n) (rev y n) (rev z n) i) (n - 1) = true ↔ allTo (fun i => !badB x y z i) (n - 1) = true := by
    rw [bad_all, bad_all]
    constructor
    · rintro ⟨h1, h2⟩
      refine ⟨fun i hi => ?_, fun i hi => ?_⟩
      · have := h1 (n - 1 - 1 - i) (by omega)
        rw [axis_rev (by omega), show n - 1 - 1 - (n - 1 - 1 - i) = i by omega] at this
        exact this
      · have := h2 (n - 1 - 1 - (i + 1)) (by omega)
        rw [axis_rev (by omega), axis_rev (by omega), show n - 1 - 1 - (n - 1 - 1 - (i + 1) + 1) = i by omega, show n - 1 - 1 - (n - 1 - 1 - (i + 1)) = i + 1 by omega] at this
        exact this.symm
    · rintro ⟨h1, h2⟩
      refine ⟨fun i hi => ?_, fun i hi => ?_⟩
      · rw [axis_rev (by omega)]; exact h1 _ (by omega)
      · rw [axis_rev (by omega), axis_rev (by omega)]
        have := h2 (n - 1 - 1 - (i + 1)) (by omega)
        rw [show n - 1 - 1 - (i + 1) + 1 = n - 1 - 1 - i by omega] at this
        exact this.symm
  cases e : allTo (fun i => !badB x y z i) (n - 1) with
  | true => exact iff.2 e
  | false =>
    cases e2 : allTo (fun i => !badB (rev x n) (rev y n) (rev z n) i) (n - 1) with
    | false => rfl
    | true => rw [iff.1 e2] at e; cases e
theorem short_rev {x y z : Nat → Int} {n : Nat} {r : Int} : allTo (fun i => !shortB (rev x n) (rev y n) (rev z n) n r i) (n - 1) = allTo (fun i => !shortB x y z n r i) (n - 1) := by
  rw [← allTo_rev (f := fun i => !shortB x y z n r i) (n := n - 1)]
  refine allTo_congr fun i hi => ?_
  unfold shortB
  rw [leg_rev hi]
  have : bendsI n i = bendsI n (n - 1 - 1 - i) := by
    unfold bendsI
    by_cases h1 : 0 < i <;> by_cases h2 : i + 2 < n <;> simp only [h1, h2, if_true, if_false] <;> (repeat' split) <;> omega
  rw [this]
theorem inP_rev {x y z : Nat → Int} {n : Nat} : allTo (inP (rev x n) (rev y n) (rev z n)) n = allTo (inP x y z) n := by
  rw [← allTo_rev (f := inP x y z) (n := n)]
  rfl
theorem check_rev {x y z : Nat → Int} {n : Nat} {r : Int} : checkF n (rev x n) (rev y n) (rev z n) r = checkF n x y z r := by
  unfold checkF
  rw [inP_rev, bad_rev, short_rev]
theorem length_rev {x y z : Nat → Int} {n : Nat} {r : Int} : lengthF n (rev x n) (rev y n) (rev z n) r = lengthF n x y z r := by
  unfold lengthF
  rw [check_rev, sum_congr (fun i hi => leg_rev hi), sum_rev (f := legV x y z) (n := n - 1)]
def cellR (x y z : Nat → Int) (n q : Nat) : Value := match q % 3 with
  | 0 => .int .i64 (rev x n (q / 3))
  | 1 => .int .i64 (rev y n (q / 3))
  | _ => .int .i64 (rev z n (q / 3))
theorem cellR_snoc (x y z : Nat → Int) (n k : Nat) : listOf (cellR x y z n) (k * 3) ++ [.int .i64 (rev x n k), .int .i64 (rev y n k), .int .i64 (rev z n k)] = listOf (cellR x y z n) ((k + 1) * 3) := by
  rw [show (k + 1) * 3 = k * 3 + 1 + 1 + 1 by omega, ← listOf_snoc, ← listOf_snoc, ← listOf_snoc]
  have e0 : cellR x y z n (k * 3) = .int .i64 (rev x n k) := by unfold cellR; rw [show k * 3 % 3 = 0 by omega, show k * 3 / 3 = k by omega]; rfl
  have e1 : cellR x y z n (k * 3 + 1) = .int .i64 (rev y n k) := by unfold cellR; rw [show (k * 3 + 1) % 3 = 1 by omega, show (k * 3 + 1) / 3 = k by omega]; rfl
  have e2 : cellR x y z n (k * 3 + 1 + 1) = .int .i64 (rev z n k) := by unfold cellR; rw [show (k * 3 + 1 + 1) % 3 = 2 by omega, show (k * 3 + 1 + 1) / 3 = k by omega]; rfl
  rw [e0, e1, e2]
  simp
theorem owns_rev {w : World} {base : Nat} {e : TypeId} {v : Value} {x y z : Nat → Int} {n : Nat} (h : w.ownsRow base e 3 v n (listOf (cellR x y z n) (n * 3))) : VecsAt w v n (rev x n) (rev y n) (rev z n) :=
  owns_slice h _ (by decide) fun i j hi hj => by
    rw [listOf_at _ _ _ (by omega)]
    unfold cellR
    rw [show (i * 3 + j) / 3 = i by omega, show (i * 3 + j) % 3 = j by omega]
    rcases (by omega : j = 0 ∨ j = 1 ∨ j = 2) with rfl | rfl | rfl <;> rfl
theorem info_vec : (Try.prog.info? 40).map (fun i => (i.zero, i.size, i.bytes)) = some (some (.agg #[.int .i64 0, .int .i64 0, .int .i64 0]), 3, 24) := by kernel_rfl
set_option maxRecDepth 20000 in
set_option maxHeartbeats 4000000 in
theorem pipeReversed_walk (v : Value) (n : Nat) (x y z : Nat → Int) (r : Int) (w : World) (h : VecsAt w v n x y z) :
    Calls Try.prog 6 #[v, .int .i64 r] w fun e w' => e = .returned (.bool true) ∧ Below w.heap.size w w' := by
  obtain ⟨oa, cap, rfl, hn0, -⟩ := h.form
  have HV := Lib.hid h
  clear h
  by_cases hs : n ≤ 60
  · obtain ⟨C, hC⟩ : ∃ C, checkF n x y z r = C := ⟨_, rfl⟩
    obtain ⟨T, hT⟩ : ∃ T, lengthF n x y z r = T := ⟨_, rfl⟩
    obtain ⟨B, hB⟩ : ∃ B, mx ((n : Int) - 2) 0 = B := ⟨_, rfl⟩
    have HC := Lib.hid hC
    have HT := Lib.hid hT
    have HN := Lib.hid hB
    have HC2 : Hid (checkF n (rev x n) (rev y n) (rev z n) r = C) := check_rev.trans hC
    have HT2 : Hid (lengthF n (rev x n) (rev y n) (rev z n) r = T) := length_rev.trans hT
    clear hC hT hB
    obtain ⟨oa', cap', hoa, -, hel⟩ := HV.out.form
    obtain ⟨rfl, -, rfl⟩ : oa' = oa ∧ True ∧ cap' = cap := by simpa [eq_comm] using hoa
    have HEL := Lib.hid hel
    clear hel hoa
    obtain ⟨i0, hi, hz0, hz1, hz2⟩ := info_parts info_vec
    go_enter Try.func6, Try.ntmps6
    go_wp2
    go_loopw [5, 6] (fun v i wr => ∃ (a : Int) (j : Nat), j ≤ n ∧ i = .int .i64 a ∧ a = (j : Int) - 1 ∧ wr.ownsRow w.heap.size 40 3 v (n - j) (listOf (cellR x y z n) ((n - j) * 3)) ∧ Below w.heap.size w wr) (fun _ i _ => (intOf i + 1).toNat)
    case atStart => exact ⟨_, n, Nat.le_refl _, rfl, rfl, by rw [Nat.sub_self]; exact World.ownsRow_nil _ _ _ _, Below.refl _ _⟩
    case round =>
      obtain ⟨a, j, hj, rfl, ha, hown, hb⟩ := hrel
      by_cases hlt : 0 < j
      · obtain ⟨q, hq⟩ : ∃ q, j = q + 1 := ⟨j - 1, by omega⟩
        subst hq
        have haq : a = (q : Int) := by omega
        subst haq
        obtain ⟨b, off, rfl, hbl, hcl⟩ := HEL.out q (by omega)
        have c0 : wr.cell? ⟨b, off + q * 3, none⟩ = some (.int .i64 (x q)) := (hb.cell (p := ⟨_, _, none⟩) hbl).trans (hcl q (by omega)).1
        have c1 : wr.cell? ⟨b, off + q * 3 + 1, none⟩ = some (.int .i64 (y q)) := (hb.cell (p := ⟨_, _, none⟩) hbl).trans (hcl q (by omega)).2.1
        have c2 : wr.cell? ⟨b, off + q * 3 + 2, none⟩ = some (.int .i64 (z q)) := (hb.cell (p := ⟨_, _, none⟩) hbl).trans (hcl q (by omega)).2.2
        have hbr : b < wr.heap.size := Nat.lt_of_lt_of_le hbl hb.size
        have k4 : (q : Int) < n := by omega
        have k6 : q < n := by omega
        have HBr := Lib.hid hb
        have HO := Lib.hid hown
        have HNJ : Hid (n - (q + 1) + 1 = n - q) := by show _ = _; omega
        have rx : rev x n (n - (q + 1)) = x q := by unfold rev; congr 1; omega
        have ry : rev y n (n - (q + 1)) = y q := by unfold rev; congr 1; omega
        have rz : rev z n (n - (q + 1)) = z q := by unfold rev; congr 1; omega
        have HRX := Lib.hid rx
        have HRY := Lib.hid ry
        have HRZ := Lib.hid rz
        clear hcl hb hown rx ry rz ha
        go_wp2_with (first | (at_builtin; refine wpList_append_own _ rfl _ _ 22 rfl w.heap.size 40 i0 (.agg #[.int .i64 0, .int .i64 0, .int .i64 0]) 3 24 Try.underlying22 hi hz0 hz1 hz2 rfl (by decide) _ _ _ rfl (HO.out.alloc _) ⟨wr.heap.size, 0, none⟩ 1 1 [.int .i64 (x q), .int .i64 (y q), .int .i64 (z q)] rfl rfl ?c1 ?c2 ?c3 ?c4 ?c5 ?_) | go_in)
        case c1 =>
          intro i u hu
          have hat := cells_at3 (MapKept.heap_alloc wr (.cells #[.int .i64 (x q), .int .i64 (y q), .int .i64 (z q)] 40)).1
          match i, hu with
          | 0, hu => simp at hu; subst hu; simp [Addr.add]
          | 1, hu => simp at hu; subst hu; simp [Addr.add]
          | 2, hu => simp at hu; subst hu; simp [Addr.add]
        case c2 => intro u hu; simp at hu; rcases hu with rfl | rfl | rfl <;> rfl
        case c3 => unfold maxLen; omega
        case c4 => omega
        case c5 => have := HBr.out.size; simp; omega
        intro v' w7 hown' hgrow _
        have hB7 : Below w.heap.size w w7 := Below.grown (HBr.out.alloc HBr.out.size _) hgrow (by have := HBr.out.size; simp; omega) (fun q hq => owns_new HO.out q hq)
        have HB7 := Lib.hid hB7
        rw [← HRX.out, ← HRY.out, ← HRZ.out, cellR_snoc, HNJ.out] at hown'
        have HO7 := Lib.hid hown'
        clear hown' hgrow hB7
        go_wp2
        go_roundw
        case rel => exact ⟨_, q, by omega, rfl, rfl, HO7.out, HB7.out⟩
        case measure => first | (simp [intOf]; done) | (simp [intOf]; omega)
      · have e : j = 0 := by omega
        subst e
        have haq : a = -1 := by omega
        subst haq
        rw [Nat.sub_zero] at hown
        have HVR := Lib.hid (owns_rev hown)
        obtain ⟨ol, cl, rfl, hln, -⟩ := HVR.out.form
        have HBr := Lib.hid hb
        clear hb hown ha hlt
        go_wp2_with fail
        (go_at_call 13; refine (length_pts _ _ _ _ _ _ _ (HV.out.below HBr.out)).mono ?_; rintro e w1 ⟨rfl, hb⟩)
        rw [HC.out, HT.out]
        have HB1 := Lib.hid (below_step HBr.out hb)
        have HV1 := Lib.hid (HVR.out.below hb)
        clear hb
        go_wp2_with fail
        (go_at_call 13; refine (length_pts _ _ _ _ _ _ _ HV1.out).mono ?_; rintro e w2 ⟨rfl, hb⟩)
        rw [HC2.out, HT2.out]
        have HB2 := Lib.hid (below_step HB1.out hb)
        have HV2 := Lib.hid (HV1.out.below hb)
        clear hb
        go_wp2_with fail
        (go_at_call 15; refine (bends_val _ (HV.out.below HB2.out) HN.out).mono ?_; rintro e w3 ⟨rfl, hb⟩)
        have HB3 := Lib.hid (below_step HB2.out hb)
        have HV3 := Lib.hid (HV2.out.below hb)
        clear hb
        go_wp2_with fail
        (go_at_call 15; refine (bends_val _ HV3.out HN.out).mono ?_; rintro e w4 ⟨rfl, hb⟩)
        have HB4 := Lib.hid (below_step HB3.out hb)
        clear hb
        go_wp2_with fail
        (go_at_call 10; refine (awake_any _).mono ?_; rintro e w5 ⟨rfl, hb⟩)
        have HB5 := Lib.hid (below_step HB4.out hb)
        clear hb
        go_wp2
        go_returns
        exact ⟨rfl, HB5.out⟩
  · have hb60 : 60 < n := by omega
    clear hs
    go_enter Try.func6, Try.ntmps6
    go_wp2_with fail
    (go_at_call 10; refine (awake_any _).mono ?_; rintro e w1 ⟨rfl, hb⟩)
    have HB1 := Lib.hid (hb)
    clear hb
    go_wp2
    go_returns
    exact ⟨rfl, HB1.out⟩

set_option maxRecDepth 100000 in
theorem pipeReversed_contract (H : Type) (enc : TypeId × Value → H) (W : World) (base : Nat) (args : Array Value) (ds gs : List (DataW H)) (before : List MemPlace)
    (hval : ∀ (j : Nat) t v, Try.f6.params[j]? = some t → args[j]? = some v → Value.okWide Try.prog W .any base t v)
    (hW : DataW.Whole enc Try.prog Try.f6.params.toList Rows.pipeReversedSpec.vars false W args.toList ds gs before) (hL : laidMetH Try.prog Rows.pipeReversedRow.laid W) :
    Calls Try.prog 6 args W fun e W' => ∃ v, e = .returned v ∧ Rows.pipeReversedSpec.post enc Try.prog Try.f6 false true false false W args v W' := by
  have hW' := hW
  obtain ⟨p, q, hA0, hV, rfl, hfz, hnd⟩ := hW
  have hA : DataW.TrodAll enc Try.prog W 0 (fun _ => true) true Try.f6.params.toList args.toList ds p := hA0
  rw [Try.params6] at hA hval
  obtain ⟨v0, vs0, d0, ds0, p0, q0, hargs, rfl, rfl, h0, r0⟩ := trodAll_cons hA
  obtain ⟨v1, vs1, d1, ds1, p1, q1, rfl, rfl, rfl, h1, r1⟩ := trodAll_cons r0
  obtain ⟨rfl, rfl, rfl⟩ := trodAll_nil r1
  obtain rfl : args = #[v0, v1] := by cases args; simp_all
  obtain ⟨n, ff, hff, hbd⟩ := flat_slice (n := 8) (e := 40) (sz := 3) (by kernel_rfl) (by kernel_rfl) (by decide) (by kernel_rfl) (hval 0 22 v0 rfl rfl) h0
  have hvv := vecs_of_flat hff
  obtain ⟨r, rfl, rfl, rfl, _w1⟩ := open_int Try.underlying3 (hval 1 3 v1 rfl rfl) h1
  refine (pipeReversed_walk _ n _ _ _ r W hvv).mono fun e W' ⟨he, hb⟩ => ?_
  subst he
  exact ⟨_, rfl, law_post laidOut (by kernel_rfl) (by kernel_rfl) Try.underlying4 rfl hW' (fun _ => rfl) hb⟩
theorem pipeReversed_reads (os : Os) {H : Type} (enc : TypeId × Value → H) : ∃ places, DataW.whole enc Try.prog ((World.settled Try.prog os).forCall (fun _ _ => 0) ⟨#[], #[.slice none 0 0, .int .i64 0], []⟩).memory Try.f6.params.toList Rows.pipeReversedSpec.vars false (#[.slice none 0 0, .int .i64 0] : Array Value).toList 8 = some ([.nil, .lit (.int .i64 0)], [], places) := ⟨[], by kernel_rfl⟩
set_option maxRecDepth 100000 in
theorem pipeReversed_lifted (os : Os) (started : os.Started) (H : Type) (enc : TypeId × Value → H) (F : Stop.Interp) :
    ReturnsInHanded {} Try.checked os 6 .any ((OpenSpec.ofChange Rows.pipeReversedSpec).preRow enc Try.prog Try.f6 Rows.pipeReversedRow.domain false Rows.pipeReversedRow.laid) (((OpenSpec.ofChange Rows.pipeReversedSpec).at F).post enc Try.prog Try.f6 false true false false) := by
  obtain ⟨places, hx⟩ := pipeReversed_reads os enc
  refine returnsInHanded_of_row (C := Try.checked) (s := OpenSpec.ofChange Rows.pipeReversedSpec) own started (by kernel_rfl) Try.func6
    (witness_row_at (enc := enc) (C := Try.checked) false (World.settled Try.prog os) #[.slice none 0 0, .int .i64 0] rfl (by kernel_rfl) (by kernel_rfl) (by kernel_rfl)
      (OpenSpec.preRow_of_cond 8 hx (by kernel_rfl) (fun k hk => by cases hk) (by kernel_rfl) (laidMet_nil _ _))) ?_
  intro W base args ds gs before hval hW _ _ _ hL _ _
  exact pipeReversed_contract H enc W base args ds gs before hval hW hL
theorem pipeReversed_said : Rows.PipeReversedSaid :=
  OpenClaim.holds_of_cond 6 Try.f6 rfl rfl rfl rfl rfl rfl rfl ⟨rfl, rfl, rfl, rfl, rfl⟩ rfl rfl rfl rfl rfl (by kernel_rfl) Try.func6 (by kernel_rfl)
    (of_decide_eq_true (by kernel_rfl)) (by unfold Func.isWrapper; rw [if_neg (of_decide_eq_false (by kernel_rfl))]; exact ⟨rfl, rfl⟩)
    (fun os started H enc _ F => by rw [OpenClaim.pre_eq_preRow]; exact pipeReversed_lifted os started H enc F)
#print axioms pipeReversed_said
end Go.Proofs.Ytdpppklelfmcjaa
