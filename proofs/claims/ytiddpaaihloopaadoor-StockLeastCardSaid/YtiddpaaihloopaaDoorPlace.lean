/-
  The place of an identifier on a shelf of plates or bars, by walks. Conditions: an ascending shelf, at most 10^6 elements. By an AI agent.
-/
import Derived.Test.YtiddpaaihloopaaDoorStockP
import Derived.Lib.Bytealg
import Derived.Laws.Shifts
namespace Go.Proofs.YtiddpaaihloopaaDoor
open Go Go.RowKit
set_option linter.unusedVariables false
set_option linter.unusedSimpArgs false
set_option maxRecDepth 100000
/-- how two strings compare -/
def cmpF (a b : ByteArray) : Int := Lib.compareBytes a.data.toList b.data.toList
theorem cmp_lt : ∀ x y : List UInt8, decide (Lib.compareBytes x y < 0) = Op.bytesLess x y
  | [], [] => rfl
  | [], _ :: _ => rfl
  | _ :: _, [] => rfl
  | a :: x, b :: y => by
    rw [bl_cons]
    unfold Lib.compareBytes
    by_cases h : a < b
    · rw [if_pos h]; simp [h]
    · rw [if_neg h]
      by_cases h2 : b < a
      · rw [if_pos h2]
        have hne : (a == b) = false := by
          rw [beq_eq_false_iff_ne]
          rintro rfl
          exact absurd h2 (by simp)
        simp [h, hne]
      · rw [if_neg h2, cmp_lt x y]
        have hab : a = b := by
          have h4 : ¬ a.toNat < b.toNat := fun q => h (UInt8.lt_iff_toNat_lt.2 q)
          have h5 : ¬ b.toNat < a.toNat := fun q => h2 (UInt8.lt_iff_toNat_lt.2 q)
          exact UInt8.toNat_inj.1 (by omega)
        simp [h, hab]
theorem cmp_eq : ∀ x y : List UInt8, (Lib.compareBytes x y == 0) = (x == y)
  | [], [] => rfl
  | [], _ :: _ => rfl
  | _ :: _, [] => rfl
  | a :: x, b :: y => by
    unfold Lib.compareBytes
    by_cases h : a < b
    · rw [if_pos h]
      have hne : (a == b) = false := by
        rw [beq_eq_false_iff_ne]
        rintro rfl
        exact absurd h (by simp)
      simp [List.cons_beq_cons, hne]
    · rw [if_neg h]
      by_cases h2 : b < a
      · rw [if_pos h2]
        have hne : (a == b) = false := by
          rw [beq_eq_false_iff_ne]
          rintro rfl
          exact absurd h2 (by simp)
        simp [List.cons_beq_cons, hne]
      · rw [if_neg h2, cmp_eq x y]
        have hab : a = b := by
          have h4 : ¬ a.toNat < b.toNat := fun q => h (UInt8.lt_iff_toNat_lt.2 q)
          have h5 : ¬ b.toNat < a.toNat := fun q => h2 (UInt8.lt_iff_toNat_lt.2 q)
          exact UInt8.toNat_inj.1 (by omega)
        simp [List.cons_beq_cons, hab]
theorem cmpF_lt (a b : ByteArray) : decide (cmpF a b < 0) = ltB a b := by unfold cmpF ltB; rw [cmp_lt, ByteArray.toList_eq, ByteArray.toList_eq]
theorem cmpF_eq (a b : ByteArray) : (cmpF a b == 0) = (a.toList == b.toList) := by unfold cmpF; rw [cmp_eq, ByteArray.toList_eq, ByteArray.toList_eq]
theorem cmpstr_any (a b : ByteArray) (w : World) : Calls Tryd.prog 86 #[.string a, .string b] w fun e w' => e = .returned (.int .i64 (cmpF a b)) ∧ Below w.heap.size w w' := by
  go_enter Tryd.func86, Tryd.ntmps86
  go_wp2
  rw [run_callFunc_extern Tryd.func92 (by kernel_rfl) (by kernel_rfl) (by kernel_rfl) (e := Extern.BytealgCompare.compare) (by kernel_rfl), Lib.run_compareString]
  simp only [Result.andThen]
  rw [Oper.upon_value]
  go_wp2
  go_returns
  exact ⟨rfl, by go_grown⟩
theorem compare_any (a b : ByteArray) (w : World) : Calls Tryd.prog 74 #[.string a, .string b] w fun e w' => e = .returned (.int .i64 (cmpF a b)) ∧ Below w.heap.size w w' := by
  go_enter Tryd.func74, Tryd.ntmps74
  go_wp2_with fail
  (go_at_call 86; refine (cmpstr_any _ _ _).mono ?_; rintro e w1 ⟨rfl, hB1⟩)
  have HB1 := Lib.hid hB1
  clear hB1
  go_wp2
  go_returns
  exact ⟨rfl, HB1.out⟩

theorem id_Sheet (x : Sh) (w : World) : Calls Tryd.prog 42 #[x.val] w fun e w' => e = .returned (.string x.id) ∧ Below w.heap.size w w' := by
  obtain ⟨id', grade', thick', len', wid', heat'⟩ := x
  show Calls Tryd.prog 42 #[.agg #[.string id', .string grade', .int .i64 thick', .int .i64 len', .int .i64 wid', .string heat']] w _
  go_enter Tryd.func42, Tryd.ntmps42
  go_wp2
  go_returns
  exact ⟨rfl, by go_grown⟩
set_option maxHeartbeats 2000000 in
theorem shelf_Sheet (vs vb : Value) (oa ob : Option Addr) (na ca nb cb : Nat) (w : World) (ha : vs = .slice oa na ca) (hb : vb = .slice ob nb cb) :
    Calls Tryd.prog 25 #[.agg #[vs, vb]] w fun e w' => e = .returned (.agg #[vs, .func (.func 42) #[] #[]]) ∧ Below w.heap.size w w' := by
  subst ha hb
  have hst := fun (W : World) (a : Addr) (m : Mode) => run_store Tryd.prog W a (.func (.func 42) #[] #[]) m rfl
  go_enter Tryd.func25, Tryd.ntmps25
  go_wp2
  all_goals (refine bodyPost_ret (v := .agg #[.slice oa na ca, .func (.func 42) #[] #[]]) (by simp [results, Tryd.results25, go_sem, *]) rfl ⟨rfl, by go_grown⟩)
set_option maxHeartbeats 2000000 in
theorem place1_Sheet (x : Sh) (s : ByteArray) (b : Nat) (w : World) (hb : b < w.heap.size) (hc : w.cell? ⟨b, 1, none⟩ = some (.func (.func 42) #[] #[])) :
    Calls Tryd.prog 73 #[x.val, .string s, .pointer (some ⟨b, 0, none⟩)] w fun e w' => e = .returned (.int .i64 (cmpF x.id s)) ∧ Below w.heap.size w w' := by
  have eg : ∀ args w, (callFunc 42 args).run Tryd.prog w = .ok (.enter 42 args) w := enters_of Tryd.func42 (by kernel_rfl) rfl
  have hid := id_Sheet x
  obtain ⟨y, hy⟩ : ∃ y, x.id = y := ⟨_, rfl⟩
  rw [hy] at hid
  rw [hy]
  obtain ⟨id', grade', thick', len', wid', heat'⟩ := x
  clear hy
  replace hid : ∀ w, Calls Tryd.prog 42 #[.agg #[.string id', .string grade', .int .i64 thick', .int .i64 len', .int .i64 wid', .string heat']] w fun e w' => e = .returned (.string y) ∧ Below w.heap.size w w' := hid
  show Calls Tryd.prog 73 #[.agg #[.string id', .string grade', .int .i64 thick', .int .i64 len', .int .i64 wid', .string heat'], .string s, .pointer (some ⟨b, 0, none⟩)] w _
  go_enter Tryd.func73, Tryd.ntmps73
  go_wp2_with fail
  (go_at_fn 42; refine (hid _).mono ?_; rintro e w1 ⟨rfl, hB1⟩)
  have HB1 : Hid (Below w.heap.size w w1) := by
    show Below _ _ _
    exact below_step (w := w) (by go_grown) hB1
  clear hB1 hid
  go_wp2_with fail
  (go_at_call 74; refine (compare_any _ _ _).mono ?_; rintro e w2 ⟨rfl, hB2⟩)
  have HB2 := Lib.hid (below_step HB1.out hB2)
  clear hB2
  go_wp2
  go_returns
  exact ⟨rfl, HB2.out⟩
set_option maxHeartbeats 4000000 in
theorem search_Sheet (v : Value) (n : Nat) (e : Nat → Sh) (s : ByteArray) (b : Nat) (w : World) (h : ShAt w v n e) (ha : AscB Sh.id e n) (hn : n ≤ 1000000) (hb : b < w.heap.size) (hc : w.cell? ⟨b, 1, none⟩ = some (.func (.func 42) #[] #[])) :
    Calls Tryd.prog 72 #[v, .string s, .func (.func 73) #[] #[.pointer (some ⟨b, 0, none⟩)]] w fun e' w' => e' = .returned (.tuple #[.int .i64 (placeI Sh.id e n s), .bool (foundB Sh.id e n s)]) ∧ Below w.heap.size w w' := by
  have eg : ∀ args w, (callFunc 73 args).run Tryd.prog w = .ok (.enter 73 args) w := enters_of Tryd.func73 (by kernel_rfl) rfl
  obtain ⟨oa, cap, rfl, hnc, hcm, hel⟩ := h.form
  have HEL := Lib.hid hel
  have HA := Lib.hid ha
  clear h hel ha hnc hcm
  obtain ⟨PI, hPI⟩ : ∃ p, placeI Sh.id e n s = p := ⟨_, rfl⟩
  obtain ⟨FB, hFB⟩ : ∃ p, foundB Sh.id e n s = p := ⟨_, rfl⟩
  have HPI := Lib.hid hPI
  have HFB := Lib.hid hFB
  rw [hPI, hFB]
  clear hPI hFB
  go_enter Tryd.func72, Tryd.ntmps72
  go_wp2
  go_loopw [9, 10, 11] (fun i j _ wr => ∃ p q : Nat, p ≤ q ∧ q ≤ n ∧ i = .int .i64 p ∧ j = .int .i64 q ∧ Hid ((∀ k, k < p → ltB (e k).id s = true) ∧ (∀ k, q ≤ k → k < n → ltB (e k).id s = false)) ∧ Below w.heap.size w wr) (fun i j _ _ => (intOf j).toNat - (intOf i).toNat)
  case atStart => exact ⟨0, n, by omega, by omega, rfl, rfl, ⟨fun k hk => by omega, fun k h1 h2 => by omega⟩, Below.refl _ _⟩
  case round =>
    obtain ⟨p, q, hpq, hq, rfl, rfl, hinv, hB⟩ := hrel
    have HBr := Lib.hid hB
    have hb2 : b < wr.heap.size := by have := hB.size; omega
    have cb : wr.cell? ⟨b, 1, none⟩ = some (.func (.func 42) #[] #[]) := (hB.cell (p := ⟨_, _, none⟩) hb).trans hc
    by_cases hlt : p < q
    · obtain ⟨h, hh⟩ : ∃ h, h = (p + q) / 2 := ⟨_, rfl⟩
      have hh1 : p ≤ h := by omega
      have hh2 : h < q := by omega
      obtain ⟨b1, f1, rfl, hbl1, hcl1⟩ := HEL.out h (by omega)
      have c0 : wr.cell? ⟨b1, f1 + h * 6, none⟩ = some (.string (e h).id) := (hB.cell (p := ⟨_, _, none⟩) hbl1).trans (hcl1 h (by omega)).1
      have c1 : wr.cell? ⟨b1, f1 + h * 6 + 1, none⟩ = some (.string (e h).grade) := (hB.cell (p := ⟨_, _, none⟩) hbl1).trans (hcl1 h (by omega)).2.1
      have c2 : wr.cell? ⟨b1, f1 + h * 6 + 2, none⟩ = some (.int .i64 (e h).thick) := (hB.cell (p := ⟨_, _, none⟩) hbl1).trans (hcl1 h (by omega)).2.2.1
      have c3 : wr.cell? ⟨b1, f1 + h * 6 + 3, none⟩ = some (.int .i64 (e h).len) := (hB.cell (p := ⟨_, _, none⟩) hbl1).trans (hcl1 h (by omega)).2.2.2.1
      have c4 : wr.cell? ⟨b1, f1 + h * 6 + 4, none⟩ = some (.int .i64 (e h).wid) := (hB.cell (p := ⟨_, _, none⟩) hbl1).trans (hcl1 h (by omega)).2.2.2.2.1
      have c5 : wr.cell? ⟨b1, f1 + h * 6 + 5, none⟩ = some (.string (e h).heat) := (hB.cell (p := ⟨_, _, none⟩) hbl1).trans (hcl1 h (by omega)).2.2.2.2.2
      have hbr : b1 < wr.heap.size := by have := hB.size; omega
      have k1 : IntKind.i64.wrap ((p : Int) + q) = (p : Int) + q := IntWalk.i64_in _ (by omega)
      have k2 : IntKind.u64.wrap ((p : Int) + q) = (p : Int) + q := by rw [IntKind.wrap_u64]; omega
      have hn1 : h ≤ 1000000 := by omega
      have hn2 : h < n := by omega
      have hcall := place1_Sheet (e h) s b wr hb2 cb
      obtain ⟨y, hy⟩ : ∃ y, (e h).id = y := ⟨_, rfl⟩
      have HY := Lib.hid hy
      have hd : ((p : Int) + q) / 2 = (h : Int) := by omega
      have hd' : (p + q) / 2 = h := hh.symm
      have k3 : IntKind.i64.wrap (h : Int) = (h : Int) := IntWalk.i64_in _ (by omega)
      clear hcl1 hB hc hh
      by_cases hlq : ltB (e h).id s = true
      · have hq2 : Hid ((∀ k, k < h + 1 → ltB (e k).id s = true) ∧ (∀ k, q ≤ k → k < n → ltB (e k).id s = false)) := ⟨fun k hk => asc_yes HA.out (by omega : k ≤ h) hn2 hlq, hinv.out.2⟩
        have hlt9 : cmpF y s < 0 := by rw [← cmpF_lt, HY.out] at hlq; simpa using hlq
        rw [HY.out] at hcall
        obtain ⟨Y, hYc⟩ : ∃ Y, cmpF y s = Y := ⟨_, rfl⟩
        rw [hYc] at hcall hlt9
        clear hlq hy hYc
        go_wp2_with fail
        (go_at_fn 73; refine hcall.mono ?_; rintro e' w1 ⟨rfl, hB1⟩)
        have HB1 := Lib.hid (below_step HBr.out hB1)
        clear hB1
        go_wp2
        go_roundw
        case rel => exact ⟨h + 1, q, by omega, by omega, by go_num, rfl, hq2, HB1.out⟩
        case measure => simp [intOf]; omega
      · have hlq : ltB (e h).id s = false := by simpa using hlq
        have hq2 : Hid ((∀ k, k < p → ltB (e k).id s = true) ∧ (∀ k, h ≤ k → k < n → ltB (e k).id s = false)) := ⟨hinv.out.1, fun k h1 h2 => asc_not HA.out h1 h2 hlq⟩
        have hlt9 : ¬ cmpF y s < 0 := by rw [← cmpF_lt, HY.out] at hlq; simpa using hlq
        rw [HY.out] at hcall
        obtain ⟨Y, hYc⟩ : ∃ Y, cmpF y s = Y := ⟨_, rfl⟩
        rw [hYc] at hcall hlt9
        clear hlq hy hYc
        go_wp2_with fail
        (go_at_fn 73; refine hcall.mono ?_; rintro e' w1 ⟨rfl, hB1⟩)
        have HB1 := Lib.hid (below_step HBr.out hB1)
        clear hB1
        go_wp2
        go_roundw
        case rel => exact ⟨p, h, by omega, by omega, rfl, rfl, hq2, HB1.out⟩
        case measure => simp [intOf]; omega
    · obtain rfl : p = q := by omega
      have hPp : PI = p := by rw [← HPI.out]; exact placeI_is (by omega) hinv.out.1 (fun h => hinv.out.2 p (Nat.le_refl _) h)
      have HPp := Lib.hid hPp
      by_cases hpn : p < n
      · obtain ⟨b1, f1, rfl, hbl1, hcl1⟩ := HEL.out p (by omega)
        have c0 : wr.cell? ⟨b1, f1 + p * 6, none⟩ = some (.string (e p).id) := (hB.cell (p := ⟨_, _, none⟩) hbl1).trans (hcl1 p (by omega)).1
        have c1 : wr.cell? ⟨b1, f1 + p * 6 + 1, none⟩ = some (.string (e p).grade) := (hB.cell (p := ⟨_, _, none⟩) hbl1).trans (hcl1 p (by omega)).2.1
        have c2 : wr.cell? ⟨b1, f1 + p * 6 + 2, none⟩ = some (.int .i64 (e p).thick) := (hB.cell (p := ⟨_, _, none⟩) hbl1).trans (hcl1 p (by omega)).2.2.1
        have c3 : wr.cell? ⟨b1, f1 + p * 6 + 3, none⟩ = some (.int .i64 (e p).len) := (hB.cell (p := ⟨_, _, none⟩) hbl1).trans (hcl1 p (by omega)).2.2.2.1
        have c4 : wr.cell? ⟨b1, f1 + p * 6 + 4, none⟩ = some (.int .i64 (e p).wid) := (hB.cell (p := ⟨_, _, none⟩) hbl1).trans (hcl1 p (by omega)).2.2.2.2.1
        have c5 : wr.cell? ⟨b1, f1 + p * 6 + 5, none⟩ = some (.string (e p).heat) := (hB.cell (p := ⟨_, _, none⟩) hbl1).trans (hcl1 p (by omega)).2.2.2.2.2
        have hbr : b1 < wr.heap.size := by have := hB.size; omega
        have hcall := place1_Sheet (e p) s b wr hb2 cb
        have hFp : FB = (cmpF (e p).id s == 0) := by
          rw [← HFB.out, cmpF_eq]
          unfold foundB
          rw [HPI.out, hPp, decide_eq_true hpn, Bool.true_and]
        have HFp := Lib.hid hFp
        obtain ⟨Y, hYc⟩ : ∃ Y, cmpF (e p).id s = Y := ⟨_, rfl⟩
        rw [hYc] at hcall HFp
        clear hcl1 hB hc hPp hFp hYc
        go_wp2_with fail
        (go_at_fn 73; refine hcall.mono ?_; rintro e' w1 ⟨rfl, hB1⟩)
        have HB1 := Lib.hid (below_step HBr.out hB1)
        clear hB1
        go_wp2
        go_returns
        rw [HPp.out, HFp.out]
        exact ⟨rfl, HB1.out⟩
      · have hFp : FB = false := by
          rw [← HFB.out]
          unfold foundB
          rw [HPI.out, hPp, decide_eq_false hpn, Bool.false_and]
        have HFp := Lib.hid hFp
        clear hB hc hPp hFp
        go_wp2
        go_returns
        rw [HPp.out, HFp.out]
        exact ⟨rfl, HBr.out⟩
set_option maxHeartbeats 2000000 in
theorem place_Sheet (v : Value) (n : Nat) (e : Nat → Sh) (s : ByteArray) (w : World) (h : ShAt w v n e) (ha : AscB Sh.id e n) (hn : n ≤ 1000000) :
    Calls Tryd.prog 54 #[.agg #[v, .func (.func 42) #[] #[]], .string s] w fun e' w' => e' = .returned (.tuple #[.int .i64 (placeI Sh.id e n s), .bool (foundB Sh.id e n s)]) ∧ Below w.heap.size w w' := by
  obtain ⟨oa, cap, rfl, -, -, -⟩ := h.form
  have hsz : w.heap.size < (w.alloc (.cells #[.slice oa n cap, .func (.func 42) #[] #[]] 65)).heap.size := by simp
  have hbx : (w.alloc (.cells #[.slice oa n cap, .func (.func 42) #[] #[]] 65)).cell? ⟨w.heap.size, 1, none⟩ = some (.func (.func 42) #[] #[]) := by simp [go_sem]
  have hsearch := search_Sheet _ n e s w.heap.size _ (h.below ((Below.refl _ w).alloc (Nat.le_refl _) (.cells #[.slice oa n cap, .func (.func 42) #[] #[]] 65))) ha hn hsz hbx
  have HS := Lib.hid hsearch
  clear h ha hsearch hsz hbx
  go_enter Tryd.func54, Tryd.ntmps54
  go_wp2_with fail
  (go_at_call 72; refine HS.out.mono ?_; rintro e' w1 ⟨rfl, hB1⟩)
  have HB1 : Hid (Below w.heap.size w w1) := by
    show Below _ _ _
    exact below_step (w := w) (by go_grown) hB1
  clear hB1
  go_wp2
  go_returns
  exact ⟨rfl, HB1.out⟩

theorem id_Bar (x : Br) (w : World) : Calls Tryd.prog 46 #[x.val] w fun e w' => e = .returned (.string x.id) ∧ Below w.heap.size w w' := by
  obtain ⟨id', sect', grade', len', heat'⟩ := x
  show Calls Tryd.prog 46 #[.agg #[.string id', .string sect', .string grade', .int .i64 len', .string heat']] w _
  go_enter Tryd.func46, Tryd.ntmps46
  go_wp2
  go_returns
  exact ⟨rfl, by go_grown⟩
set_option maxHeartbeats 2000000 in
theorem shelf_Bar (vs vb : Value) (oa ob : Option Addr) (na ca nb cb : Nat) (w : World) (ha : vs = .slice oa na ca) (hb : vb = .slice ob nb cb) :
    Calls Tryd.prog 29 #[.agg #[vs, vb]] w fun e w' => e = .returned (.agg #[vb, .func (.func 46) #[] #[]]) ∧ Below w.heap.size w w' := by
  subst ha hb
  have hst := fun (W : World) (a : Addr) (m : Mode) => run_store Tryd.prog W a (.func (.func 46) #[] #[]) m rfl
  go_enter Tryd.func29, Tryd.ntmps29
  go_wp2
  all_goals (refine bodyPost_ret (v := .agg #[.slice ob nb cb, .func (.func 46) #[] #[]]) (by simp [results, Tryd.results29, go_sem, *]) rfl ⟨rfl, by go_grown⟩)
set_option maxHeartbeats 2000000 in
theorem place1_Bar (x : Br) (s : ByteArray) (b : Nat) (w : World) (hb : b < w.heap.size) (hc : w.cell? ⟨b, 1, none⟩ = some (.func (.func 46) #[] #[])) :
    Calls Tryd.prog 78 #[x.val, .string s, .pointer (some ⟨b, 0, none⟩)] w fun e w' => e = .returned (.int .i64 (cmpF x.id s)) ∧ Below w.heap.size w w' := by
  have eg : ∀ args w, (callFunc 46 args).run Tryd.prog w = .ok (.enter 46 args) w := enters_of Tryd.func46 (by kernel_rfl) rfl
  have hid := id_Bar x
  obtain ⟨y, hy⟩ : ∃ y, x.id = y := ⟨_, rfl⟩
  rw [hy] at hid
  rw [hy]
  obtain ⟨id', sect', grade', len', heat'⟩ := x
  clear hy
  replace hid : ∀ w, Calls Tryd.prog 46 #[.agg #[.string id', .string sect', .string grade', .int .i64 len', .string heat']] w fun e w' => e = .returned (.string y) ∧ Below w.heap.size w w' := hid
  show Calls Tryd.prog 78 #[.agg #[.string id', .string sect', .string grade', .int .i64 len', .string heat'], .string s, .pointer (some ⟨b, 0, none⟩)] w _
  go_enter Tryd.func78, Tryd.ntmps78
  go_wp2_with fail
  (go_at_fn 46; refine (hid _).mono ?_; rintro e w1 ⟨rfl, hB1⟩)
  have HB1 : Hid (Below w.heap.size w w1) := by
    show Below _ _ _
    exact below_step (w := w) (by go_grown) hB1
  clear hB1 hid
  go_wp2_with fail
  (go_at_call 74; refine (compare_any _ _ _).mono ?_; rintro e w2 ⟨rfl, hB2⟩)
  have HB2 := Lib.hid (below_step HB1.out hB2)
  clear hB2
  go_wp2
  go_returns
  exact ⟨rfl, HB2.out⟩
set_option maxHeartbeats 4000000 in
theorem search_Bar (v : Value) (n : Nat) (e : Nat → Br) (s : ByteArray) (b : Nat) (w : World) (h : BrAt w v n e) (ha : AscB Br.id e n) (hn : n ≤ 1000000) (hb : b < w.heap.size) (hc : w.cell? ⟨b, 1, none⟩ = some (.func (.func 46) #[] #[])) :
    Calls Tryd.prog 77 #[v, .string s, .func (.func 78) #[] #[.pointer (some ⟨b, 0, none⟩)]] w fun e' w' => e' = .returned (.tuple #[.int .i64 (placeI Br.id e n s), .bool (foundB Br.id e n s)]) ∧ Below w.heap.size w w' := by
  have eg : ∀ args w, (callFunc 78 args).run Tryd.prog w = .ok (.enter 78 args) w := enters_of Tryd.func78 (by kernel_rfl) rfl
  obtain ⟨oa, cap, rfl, hnc, hcm, hel⟩ := h.form
  have HEL := Lib.hid hel
  have HA := Lib.hid ha
  clear h hel ha hnc hcm
  obtain ⟨PI, hPI⟩ : ∃ p, placeI Br.id e n s = p := ⟨_, rfl⟩
  obtain ⟨FB, hFB⟩ : ∃ p, foundB Br.id e n s = p := ⟨_, rfl⟩
  have HPI := Lib.hid hPI
  have HFB := Lib.hid hFB
  rw [hPI, hFB]
  clear hPI hFB
  go_enter Tryd.func77, Tryd.ntmps77
  go_wp2
  go_loopw [9, 10, 11] (fun i j _ wr => ∃ p q : Nat, p ≤ q ∧ q ≤ n ∧ i = .int .i64 p ∧ j = .int .i64 q ∧ Hid ((∀ k, k < p → ltB (e k).id s = true) ∧ (∀ k, q ≤ k → k < n → ltB (e k).id s = false)) ∧ Below w.heap.size w wr) (fun i j _ _ => (intOf j).toNat - (intOf i).toNat)
  case atStart => exact ⟨0, n, by omega, by omega, rfl, rfl, ⟨fun k hk => by omega, fun k h1 h2 => by omega⟩, Below.refl _ _⟩
  case round =>
    obtain ⟨p, q, hpq, hq, rfl, rfl, hinv, hB⟩ := hrel
    have HBr := Lib.hid hB
    have hb2 : b < wr.heap.size := by have := hB.size; omega
    have cb : wr.cell? ⟨b, 1, none⟩ = some (.func (.func 46) #[] #[]) := (hB.cell (p := ⟨_, _, none⟩) hb).trans hc
    by_cases hlt : p < q
    · obtain ⟨h, hh⟩ : ∃ h, h = (p + q) / 2 := ⟨_, rfl⟩
      have hh1 : p ≤ h := by omega
      have hh2 : h < q := by omega
      obtain ⟨b1, f1, rfl, hbl1, hcl1⟩ := HEL.out h (by omega)
      have c0 : wr.cell? ⟨b1, f1 + h * 5, none⟩ = some (.string (e h).id) := (hB.cell (p := ⟨_, _, none⟩) hbl1).trans (hcl1 h (by omega)).1
      have c1 : wr.cell? ⟨b1, f1 + h * 5 + 1, none⟩ = some (.string (e h).sect) := (hB.cell (p := ⟨_, _, none⟩) hbl1).trans (hcl1 h (by omega)).2.1
      have c2 : wr.cell? ⟨b1, f1 + h * 5 + 2, none⟩ = some (.string (e h).grade) := (hB.cell (p := ⟨_, _, none⟩) hbl1).trans (hcl1 h (by omega)).2.2.1
      have c3 : wr.cell? ⟨b1, f1 + h * 5 + 3, none⟩ = some (.int .i64 (e h).len) := (hB.cell (p := ⟨_, _, none⟩) hbl1).trans (hcl1 h (by omega)).2.2.2.1
      have c4 : wr.cell? ⟨b1, f1 + h * 5 + 4, none⟩ = some (.string (e h).heat) := (hB.cell (p := ⟨_, _, none⟩) hbl1).trans (hcl1 h (by omega)).2.2.2.2
      have hbr : b1 < wr.heap.size := by have := hB.size; omega
      have k1 : IntKind.i64.wrap ((p : Int) + q) = (p : Int) + q := IntWalk.i64_in _ (by omega)
      have k2 : IntKind.u64.wrap ((p : Int) + q) = (p : Int) + q := by rw [IntKind.wrap_u64]; omega
      have hn1 : h ≤ 1000000 := by omega
      have hn2 : h < n := by omega
      have hcall := place1_Bar (e h) s b wr hb2 cb
      obtain ⟨y, hy⟩ : ∃ y, (e h).id = y := ⟨_, rfl⟩
      have HY := Lib.hid hy
      have hd : ((p : Int) + q) / 2 = (h : Int) := by omega
      have hd' : (p + q) / 2 = h := hh.symm
      have k3 : IntKind.i64.wrap (h : Int) = (h : Int) := IntWalk.i64_in _ (by omega)
      clear hcl1 hB hc hh
      by_cases hlq : ltB (e h).id s = true
      · have hq2 : Hid ((∀ k, k < h + 1 → ltB (e k).id s = true) ∧ (∀ k, q ≤ k → k < n → ltB (e k).id s = false)) := ⟨fun k hk => asc_yes HA.out (by omega : k ≤ h) hn2 hlq, hinv.out.2⟩
        have hlt9 : cmpF y s < 0 := by rw [← cmpF_lt, HY.out] at hlq; simpa using hlq
        rw [HY.out] at hcall
        obtain ⟨Y, hYc⟩ : ∃ Y, cmpF y s = Y := ⟨_, rfl⟩
        rw [hYc] at hcall hlt9
        clear hlq hy hYc
        go_wp2_with fail
        (go_at_fn 78; refine hcall.mono ?_; rintro e' w1 ⟨rfl, hB1⟩)
        have HB1 := Lib.hid (below_step HBr.out hB1)
        clear hB1
        go_wp2
        go_roundw
        case rel => exact ⟨h + 1, q, by omega, by omega, by go_num, rfl, hq2, HB1.out⟩
        case measure => simp [intOf]; omega
      · have hlq : ltB (e h).id s = false := by simpa using hlq
        have hq2 : Hid ((∀ k, k < p → ltB (e k).id s = true) ∧ (∀ k, h ≤ k → k < n → ltB (e k).id s = false)) := ⟨hinv.out.1, fun k h1 h2 => asc_not HA.out h1 h2 hlq⟩
        have hlt9 : ¬ cmpF y s < 0 := by rw [← cmpF_lt, HY.out] at hlq; simpa using hlq
        rw [HY.out] at hcall
        obtain ⟨Y, hYc⟩ : ∃ Y, cmpF y s = Y := ⟨_, rfl⟩
        rw [hYc] at hcall hlt9
        clear hlq hy hYc
        go_wp2_with fail
        (go_at_fn 78; refine hcall.mono ?_; rintro e' w1 ⟨rfl, hB1⟩)
        have HB1 := Lib.hid (below_step HBr.out hB1)
        clear hB1
        go_wp2
        go_roundw
        case rel => exact ⟨p, h, by omega, by omega, rfl, rfl, hq2, HB1.out⟩
        case measure => simp [intOf]; omega
    · obtain rfl : p = q := by omega
      have hPp : PI = p := by rw [← HPI.out]; exact placeI_is (by omega) hinv.out.1 (fun h => hinv.out.2 p (Nat.le_refl _) h)
      have HPp := Lib.hid hPp
      by_cases hpn : p < n
      · obtain ⟨b1, f1, rfl, hbl1, hcl1⟩ := HEL.out p (by omega)
        have c0 : wr.cell? ⟨b1, f1 + p * 5, none⟩ = some (.string (e p).id) := (hB.cell (p := ⟨_, _, none⟩) hbl1).trans (hcl1 p (by omega)).1
        have c1 : wr.cell? ⟨b1, f1 + p * 5 + 1, none⟩ = some (.string (e p).sect) := (hB.cell (p := ⟨_, _, none⟩) hbl1).trans (hcl1 p (by omega)).2.1
        have c2 : wr.cell? ⟨b1, f1 + p * 5 + 2, none⟩ = some (.string (e p).grade) := (hB.cell (p := ⟨_, _, none⟩) hbl1).trans (hcl1 p (by omega)).2.2.1
        have c3 : wr.cell? ⟨b1, f1 + p * 5 + 3, none⟩ = some (.int .i64 (e p).len) := (hB.cell (p := ⟨_, _, none⟩) hbl1).trans (hcl1 p (by omega)).2.2.2.1
        have c4 : wr.cell? ⟨b1, f1 + p * 5 + 4, none⟩ = some (.string (e p).heat) := (hB.cell (p := ⟨_, _, none⟩) hbl1).trans (hcl1 p (by omega)).2.2.2.2
        have hbr : b1 < wr.heap.size := by have := hB.size; omega
        have hcall := place1_Bar (e p) s b wr hb2 cb
        have hFp : FB = (cmpF (e p).id s == 0) := by
          rw [← HFB.out, cmpF_eq]
          unfold foundB
          rw [HPI.out, hPp, decide_eq_true hpn, Bool.true_and]
        have HFp := Lib.hid hFp
        obtain ⟨Y, hYc⟩ : ∃ Y, cmpF (e p).id s = Y := ⟨_, rfl⟩
        rw [hYc] at hcall HFp
        clear hcl1 hB hc hPp hFp hYc
        go_wp2_with fail
        (go_at_fn 78; refine hcall.mono ?_; rintro e' w1 ⟨rfl, hB1⟩)
        have HB1 := Lib.hid (below_step HBr.out hB1)
        clear hB1
        go_wp2
        go_returns
        rw [HPp.out, HFp.out]
        exact ⟨rfl, HB1.out⟩
      · have hFp : FB = false := by
          rw [← HFB.out]
          unfold foundB
          rw [HPI.out, hPp, decide_eq_false hpn, Bool.false_and]
        have HFp := Lib.hid hFp
        clear hB hc hPp hFp
        go_wp2
        go_returns
        rw [HPp.out, HFp.out]
        exact ⟨rfl, HBr.out⟩
set_option maxHeartbeats 2000000 in
theorem place_Bar (v : Value) (n : Nat) (e : Nat → Br) (s : ByteArray) (w : World) (h : BrAt w v n e) (ha : AscB Br.id e n) (hn : n ≤ 1000000) :
    Calls Tryd.prog 59 #[.agg #[v, .func (.func 46) #[] #[]], .string s] w fun e' w' => e' = .returned (.tuple #[.int .i64 (placeI Br.id e n s), .bool (foundB Br.id e n s)]) ∧ Below w.heap.size w w' := by
  obtain ⟨oa, cap, rfl, -, -, -⟩ := h.form
  have hsz : w.heap.size < (w.alloc (.cells #[.slice oa n cap, .func (.func 46) #[] #[]] 72)).heap.size := by simp
  have hbx : (w.alloc (.cells #[.slice oa n cap, .func (.func 46) #[] #[]] 72)).cell? ⟨w.heap.size, 1, none⟩ = some (.func (.func 46) #[] #[]) := by simp [go_sem]
  have hsearch := search_Bar _ n e s w.heap.size _ (h.below ((Below.refl _ w).alloc (Nat.le_refl _) (.cells #[.slice oa n cap, .func (.func 46) #[] #[]] 72))) ha hn hsz hbx
  have HS := Lib.hid hsearch
  clear h ha hsearch hsz hbx
  go_enter Tryd.func59, Tryd.ntmps59
  go_wp2_with fail
  (go_at_call 77; refine HS.out.mono ?_; rintro e' w1 ⟨rfl, hB1⟩)
  have HB1 : Hid (Below w.heap.size w w1) := by
    show Below _ _ _
    exact below_step (w := w) (by go_grown) hB1
  clear hB1
  go_wp2
  go_returns
  exact ⟨rfl, HB1.out⟩
end Go.Proofs.YtiddpaaihloopaaDoor
