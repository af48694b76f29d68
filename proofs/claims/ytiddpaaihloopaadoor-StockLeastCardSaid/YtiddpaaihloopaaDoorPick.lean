/-
  PickSheet and PickBar, by walks. Conditions: lengths and widths from 1 to 2^15. By an AI agent.
-/
import Derived.Test.YtiddpaaihloopaaDoorChkB
namespace Go.Proofs.YtiddpaaihloopaaDoor
open Go Go.ChangeShapes Go.WideShapes Go.RowKit Go.ChangeAt
set_option linter.unusedVariables false
set_option linter.unusedSimpArgs false
set_option maxRecDepth 100000
def mx (x y : Int) : Int := if y > x then y else x
def mn (x y : Int) : Int := if y < x then y else x
theorem run_mx (ts : Array TypeId) (t : TypeId) (x y : Int) (w : World) : (Builtin.max_ ts t #[.int .i64 x, .int .i64 y]).run Tryd.prog w = .ok (.int .i64 (mx x y)) w := by
  simp [go_sem, mx]
  omega
theorem run_mn (ts : Array TypeId) (t : TypeId) (x y : Int) (w : World) : (Builtin.min_ ts t #[.int .i64 x, .int .i64 y]).run Tryd.prog w = .ok (.int .i64 (mn x y)) w := by
  simp [go_sem, mn]
  omega

def stepS (g : ByteArray) (t l d : Int) (s : ByteArray × Bool × Int) (x : Sh) : ByteArray × Bool × Int := if x.grade.toList == g.toList && (x.thick == t && (decide (mx l d ≤ mx x.len x.wid) && (decide (mn l d ≤ mn x.len x.wid) && (!s.2.1 || decide (x.len * x.wid < s.2.2))))) then (x.id, true, x.len * x.wid) else s
def pickS (g : ByteArray) (t l d : Int) (e : Nat → Sh) : Nat → ByteArray × Bool × Int
  | 0 => (⟨#[]⟩, false, 0)
  | j + 1 => stepS g t l d (pickS g t l d e j) (e j)
def pickFS (g : ByteArray) (t l d : Int) (e : Nat → Sh) (n : Nat) : ByteArray × Bool := if l < 1 ∨ d < 1 then (⟨#[]⟩, false) else ((pickS g t l d e n).1, (pickS g t l d e n).2.1)
set_option maxHeartbeats 8000000 in
theorem PickSheet_any (v : Value) (ns : Nat) (es : Nat → Sh) (nb : Nat) (eb : Nat → Br) (g : ByteArray) (t l d : Int) (w : World) (h : StAt w v ns es nb eb) (hsz : ∀ i, i < ns → (1 ≤ (es i).len ∧ (es i).len ≤ 32768) ∧ (1 ≤ (es i).wid ∧ (es i).wid ≤ 32768)) :
    Calls Tryd.prog 20 #[v, .string g, .int .i64 t, .int .i64 l, .int .i64 d] w fun e w' => e = .returned (.tuple #[.string (pickFS g t l d es ns).1, .bool (pickFS g t l d es ns).2]) ∧ Below w.heap.size w w' := by
  obtain ⟨va, vb, rfl, hSh, hBr⟩ := h
  have HSH := Lib.hid hSh
  have HBR := Lib.hid hBr
  obtain ⟨oa, ca, rfl, hna, hca, hela⟩ := hSh.form
  obtain ⟨ob, cb, rfl, hnb, hcb, helb⟩ := hBr.form
  have HELA := Lib.hid hela
  have HELB := Lib.hid helb
  have hmx := run_mx
  have hmn := run_mn
  clear HSH HBR hSh hBr hela helb
  obtain ⟨ID0, hID⟩ : ∃ x, (pickFS g t l d es ns).1 = x := ⟨_, rfl⟩
  obtain ⟨OK0, hOK⟩ : ∃ x, (pickFS g t l d es ns).2 = x := ⟨_, rfl⟩
  rw [hID, hOK]
  have hR : pickFS g t l d es ns = (ID0, OK0) := by rw [← hID, ← hOK]
  clear hID hOK
  by_cases h1 : l < 1
  · have k1 : decide (l < 1) = true := decide_eq_true h1
    have E : Hid ((ID0, OK0) = (⟨#[]⟩, false)) := by show _ = _; rw [← hR]; exact if_pos (.inl h1)
    clear hR h1
    go_enter Tryd.func20, Tryd.ntmps20
    go_wp2
    go_returns
    have := E.out
    cases this
    exact ⟨rfl, by go_grown⟩
  have k1 : decide (l < 1) = false := decide_eq_false h1
  by_cases h2 : d < 1
  · have k2 : decide (d < 1) = true := decide_eq_true h2
    have E : Hid ((ID0, OK0) = (⟨#[]⟩, false)) := by show _ = _; rw [← hR]; exact if_pos (.inr h2)
    clear hR h1 h2
    go_enter Tryd.func20, Tryd.ntmps20
    go_wp2
    go_returns
    have := E.out
    cases this
    exact ⟨rfl, by go_grown⟩
  have k2 : decide (d < 1) = false := decide_eq_false h2
  have hR2 : Hid (((pickS g t l d es ns).1, (pickS g t l d es ns).2.1) = (ID0, OK0)) := by show _ = _; rw [← hR]; exact (if_neg (by omega)).symm
  clear hR h1 h2
  go_enter Tryd.func20, Tryd.ntmps20
  go_wp2
  go_loopw [10, 11, 12, 14, 15, 25] (fun a b c _ _ i wr => ∃ (j : Nat) (ID : ByteArray) (OK : Bool) (AR : Int), j ≤ ns ∧ i = .int .i64 j ∧ a = .string ID ∧ b = .bool OK ∧ c = .int .i64 AR ∧ Hid (pickS g t l d es j = (ID, OK, AR)) ∧ Below (w.alloc (.cells #[.slice oa ns ca, .slice ob nb cb] 25)).heap.size (w.alloc (.cells #[.slice oa ns ca, .slice ob nb cb] 25)) wr) (fun _ _ _ _ _ i _ => ns - (intOf i).toNat)
  case atStart => exact ⟨0, ⟨#[]⟩, false, 0, by omega, rfl, rfl, rfl, rfl, rfl, Below.refl _ _⟩
  case round =>
    obtain ⟨j, ID, OK, AR, hj, rfl, rfl, rfl, rfl, hq, hB⟩ := hrel
    have HBr : Hid (Below w.heap.size w wr) := by
      show Below _ _ _
      exact below_step (w := w) (by go_grown) hB
    have hs0 := hB.size
    (try simp only [World.size_alloc, World.size_setCell] at hs0)
    have z0 : w.heap.size < wr.heap.size := by omega
    have s0 : wr.cell? ⟨w.heap.size, 0, none⟩ = some (.slice oa ns ca) := (hB.cell (p := ⟨_, _, none⟩) (by simp <;> omega)).trans (by simp [go_sem])
    have s1 : wr.cell? ⟨w.heap.size, 1, none⟩ = some (.slice ob nb cb) := (hB.cell (p := ⟨_, _, none⟩) (by simp <;> omega)).trans (by simp [go_sem])
    clear hs0
    by_cases hlt : j < ns
    · obtain ⟨b1, f1, rfl, hbl1, hcl1⟩ := HELA.out j hlt
      have c0 : wr.cell? ⟨b1, f1 + j * 6, none⟩ = some (.string (es j).id) := (HBr.out.cell (p := ⟨_, _, none⟩) hbl1).trans (hcl1 j hlt).1
      have c1 : wr.cell? ⟨b1, f1 + j * 6 + 1, none⟩ = some (.string (es j).grade) := (HBr.out.cell (p := ⟨_, _, none⟩) hbl1).trans (hcl1 j hlt).2.1
      have c2 : wr.cell? ⟨b1, f1 + j * 6 + 2, none⟩ = some (.int .i64 (es j).thick) := (HBr.out.cell (p := ⟨_, _, none⟩) hbl1).trans (hcl1 j hlt).2.2.1
      have c3 : wr.cell? ⟨b1, f1 + j * 6 + 3, none⟩ = some (.int .i64 (es j).len) := (HBr.out.cell (p := ⟨_, _, none⟩) hbl1).trans (hcl1 j hlt).2.2.2.1
      have c4 : wr.cell? ⟨b1, f1 + j * 6 + 4, none⟩ = some (.int .i64 (es j).wid) := (HBr.out.cell (p := ⟨_, _, none⟩) hbl1).trans (hcl1 j hlt).2.2.2.2.1
      have c5 : wr.cell? ⟨b1, f1 + j * 6 + 5, none⟩ = some (.string (es j).heat) := (HBr.out.cell (p := ⟨_, _, none⟩) hbl1).trans (hcl1 j hlt).2.2.2.2.2
      have hbr : b1 < wr.heap.size := by omega
      have kp : IntKind.i64.wrap ((es j).len * (es j).wid) = (es j).len * (es j).wid := by
        obtain ⟨⟨p1, p2⟩, p3, p4⟩ := hsz j hlt
        have q1 : 0 ≤ (es j).len * (es j).wid := Int.mul_nonneg (by omega) (by omega)
        have q2 : (es j).len * (es j).wid ≤ 32768 * 32768 := Int.mul_le_mul p2 p4 (by omega) (by omega)
        exact IntWalk.i64_in _ (by omega)
      have hcl9 := Lib.hid hcl1
      clear hcl1
      by_cases h1 : mx l d ≤ mx (es j).len (es j).wid
      · have kh1 : decide (mx l d ≤ mx (es j).len (es j).wid) = true := decide_eq_true h1
        by_cases h2 : mn l d ≤ mn (es j).len (es j).wid
        · have kh2 : decide (mn l d ≤ mn (es j).len (es j).wid) = true := decide_eq_true h2
          by_cases ha : ((es j).grade.toList == g.toList) = true
          · have kha : ((es j).grade.toList == g.toList) = true := by simpa using ha
            by_cases hb : ((es j).thick == t) = true
            · have khb : ((es j).thick == t) = true := by simpa using hb
              cases OK with
              | false =>
                have hq2 : Hid (pickS g t l d es (j + 1) = ((es j).id, true, (es j).len * (es j).wid)) := by
                  show _ = _
                  unfold pickS
                  rw [hq.out]
                  simp [stepS, h1, h2, ha, hb]
                clear hcl9
                go_wp2
                all_goals go_region
                all_goals go_wp2
                all_goals go_roundw
                all_goals first | exact ⟨⟨j + 1, _, _, _, by omega, by go_num, rfl, rfl, rfl, hq2, by go_grown⟩, by simp [intOf]; omega⟩ | skip
                case rel => exact ⟨j + 1, _, _, _, by omega, by go_num, rfl, rfl, rfl, hq2, by go_grown⟩
                case measure => simp [intOf]; omega
              | true =>
                by_cases hl : (es j).len * (es j).wid < AR
                · have khl : decide ((es j).len * (es j).wid < AR) = true := decide_eq_true hl
                  have hq2 : Hid (pickS g t l d es (j + 1) = ((es j).id, true, (es j).len * (es j).wid)) := by
                    show _ = _
                    unfold pickS
                    rw [hq.out]
                    simp [stepS, h1, h2, ha, hb, hl]
                  clear hcl9
                  go_wp2
                  all_goals go_region
                  all_goals go_wp2
                  all_goals go_roundw
                  all_goals first | exact ⟨⟨j + 1, _, _, _, by omega, by go_num, rfl, rfl, rfl, hq2, by go_grown⟩, by simp [intOf]; omega⟩ | skip
                  case rel => exact ⟨j + 1, _, _, _, by omega, by go_num, rfl, rfl, rfl, hq2, by go_grown⟩
                  case measure => simp [intOf]; omega
                · have khl : decide ((es j).len * (es j).wid < AR) = false := decide_eq_false hl
                  have hq2 : Hid (pickS g t l d es (j + 1) = (ID, true, AR)) := by
                    show _ = _
                    unfold pickS
                    rw [hq.out]
                    simp [stepS, h1, h2, ha, hb, hl]
                  clear hcl9
                  go_wp2
                  go_roundw
                  case rel => exact ⟨j + 1, ID, true, AR, by omega, by go_num, rfl, rfl, rfl, hq2, by go_grown⟩
                  case measure => simp [intOf]; omega
            · have khb : ((es j).thick == t) = false := by simpa using hb
              have hq2 : Hid (pickS g t l d es (j + 1) = (ID, OK, AR)) := by
                show _ = _
                unfold pickS
                rw [hq.out]
                simp [stepS, h1, h2, ha, hb]
              clear hcl9
              go_wp2
              go_roundw
              case rel => exact ⟨j + 1, ID, OK, AR, by omega, by go_num, rfl, rfl, rfl, hq2, by go_grown⟩
              case measure => simp [intOf]; omega
          · have kha : ((es j).grade.toList == g.toList) = false := by simpa using ha
            have hq2 : Hid (pickS g t l d es (j + 1) = (ID, OK, AR)) := by
              show _ = _
              unfold pickS
              rw [hq.out]
              simp [stepS, h1, h2, ha]
            clear hcl9
            go_wp2
            go_roundw
            case rel => exact ⟨j + 1, ID, OK, AR, by omega, by go_num, rfl, rfl, rfl, hq2, by go_grown⟩
            case measure => simp [intOf]; omega
        · have kh2 : decide (mn l d ≤ mn (es j).len (es j).wid) = false := decide_eq_false h2
          by_cases ha : ((es j).grade.toList == g.toList) = true
          · have kha : ((es j).grade.toList == g.toList) = true := by simpa using ha
            by_cases hb : ((es j).thick == t) = true
            · have khb : ((es j).thick == t) = true := by simpa using hb
              have hq2 : Hid (pickS g t l d es (j + 1) = (ID, OK, AR)) := by
                show _ = _
                unfold pickS
                rw [hq.out]
                simp [stepS, h1, h2, ha, hb]
              clear hcl9
              go_wp2
              go_roundw
              case rel => exact ⟨j + 1, ID, OK, AR, by omega, by go_num, rfl, rfl, rfl, hq2, by go_grown⟩
              case measure => simp [intOf]; omega
            · have khb : ((es j).thick == t) = false := by simpa using hb
              have hq2 : Hid (pickS g t l d es (j + 1) = (ID, OK, AR)) := by
                show _ = _
                unfold pickS
                rw [hq.out]
                simp [stepS, h1, h2, ha, hb]
              clear hcl9
              go_wp2
              go_roundw
              case rel => exact ⟨j + 1, ID, OK, AR, by omega, by go_num, rfl, rfl, rfl, hq2, by go_grown⟩
              case measure => simp [intOf]; omega
          · have kha : ((es j).grade.toList == g.toList) = false := by simpa using ha
            have hq2 : Hid (pickS g t l d es (j + 1) = (ID, OK, AR)) := by
              show _ = _
              unfold pickS
              rw [hq.out]
              simp [stepS, h1, h2, ha]
            clear hcl9
            go_wp2
            go_roundw
            case rel => exact ⟨j + 1, ID, OK, AR, by omega, by go_num, rfl, rfl, rfl, hq2, by go_grown⟩
            case measure => simp [intOf]; omega
      · have kh1 : decide (mx l d ≤ mx (es j).len (es j).wid) = false := decide_eq_false h1
        by_cases ha : ((es j).grade.toList == g.toList) = true
        · have kha : ((es j).grade.toList == g.toList) = true := by simpa using ha
          by_cases hb : ((es j).thick == t) = true
          · have khb : ((es j).thick == t) = true := by simpa using hb
            have hq2 : Hid (pickS g t l d es (j + 1) = (ID, OK, AR)) := by
              show _ = _
              unfold pickS
              rw [hq.out]
              simp [stepS, h1, ha, hb]
            clear hcl9
            go_wp2
            go_roundw
            case rel => exact ⟨j + 1, ID, OK, AR, by omega, by go_num, rfl, rfl, rfl, hq2, by go_grown⟩
            case measure => simp [intOf]; omega
          · have khb : ((es j).thick == t) = false := by simpa using hb
            have hq2 : Hid (pickS g t l d es (j + 1) = (ID, OK, AR)) := by
              show _ = _
              unfold pickS
              rw [hq.out]
              simp [stepS, h1, ha, hb]
            clear hcl9
            go_wp2
            go_roundw
            case rel => exact ⟨j + 1, ID, OK, AR, by omega, by go_num, rfl, rfl, rfl, hq2, by go_grown⟩
            case measure => simp [intOf]; omega
        · have kha : ((es j).grade.toList == g.toList) = false := by simpa using ha
          have hq2 : Hid (pickS g t l d es (j + 1) = (ID, OK, AR)) := by
            show _ = _
            unfold pickS
            rw [hq.out]
            simp [stepS, h1, ha]
          clear hcl9
          go_wp2
          go_roundw
          case rel => exact ⟨j + 1, ID, OK, AR, by omega, by go_num, rfl, rfl, rfl, hq2, by go_grown⟩
          case measure => simp [intOf]; omega
    · have hjn : j = ns := by omega
      subst hjn
      have E : Hid (ID = ID0 ∧ OK = OK0) := by
        have := hR2.out
        rw [hq.out] at this
        show _ ∧ _
        simpa using this
      clear hB
      go_wp2
      go_returns
      rw [← E.out.1, ← E.out.2]
      exact ⟨rfl, HBr.out⟩

def stepB (sc g : ByteArray) (l : Int) (s : ByteArray × Bool × Int) (x : Br) : ByteArray × Bool × Int := if x.sect.toList == sc.toList && (x.grade.toList == g.toList && (decide (l ≤ x.len) && (!s.2.1 || decide (x.len < s.2.2)))) then (x.id, true, x.len) else s
def pickB (sc g : ByteArray) (l : Int) (e : Nat → Br) : Nat → ByteArray × Bool × Int
  | 0 => (⟨#[]⟩, false, 0)
  | j + 1 => stepB sc g l (pickB sc g l e j) (e j)
def pickFB (sc g : ByteArray) (l : Int) (e : Nat → Br) (n : Nat) : ByteArray × Bool := if l < 1 then (⟨#[]⟩, false) else ((pickB sc g l e n).1, (pickB sc g l e n).2.1)
set_option maxHeartbeats 8000000 in
theorem PickBar_any (v : Value) (ns : Nat) (es : Nat → Sh) (nb : Nat) (eb : Nat → Br) (sc g : ByteArray) (l : Int) (w : World) (h : StAt w v ns es nb eb) (hsz : ∀ i, i < nb → (1 ≤ (eb i).len ∧ (eb i).len ≤ 32768)) :
    Calls Tryd.prog 22 #[v, .string sc, .string g, .int .i64 l] w fun e w' => e = .returned (.tuple #[.string (pickFB sc g l eb nb).1, .bool (pickFB sc g l eb nb).2]) ∧ Below w.heap.size w w' := by
  obtain ⟨va, vb, rfl, hSh, hBr⟩ := h
  have HSH := Lib.hid hSh
  have HBR := Lib.hid hBr
  obtain ⟨oa, ca, rfl, hna, hca, hela⟩ := hSh.form
  obtain ⟨ob, cb, rfl, hnb, hcb, helb⟩ := hBr.form
  have HELA := Lib.hid hela
  have HELB := Lib.hid helb
  have hmx := run_mx
  have hmn := run_mn
  clear HSH HBR hSh hBr hela helb
  obtain ⟨ID0, hID⟩ : ∃ x, (pickFB sc g l eb nb).1 = x := ⟨_, rfl⟩
  obtain ⟨OK0, hOK⟩ : ∃ x, (pickFB sc g l eb nb).2 = x := ⟨_, rfl⟩
  rw [hID, hOK]
  have hR : pickFB sc g l eb nb = (ID0, OK0) := by rw [← hID, ← hOK]
  clear hID hOK
  by_cases h1 : l < 1
  · have k1 : decide (l < 1) = true := decide_eq_true h1
    have E : Hid ((ID0, OK0) = (⟨#[]⟩, false)) := by show _ = _; rw [← hR]; exact if_pos h1
    clear hR h1
    go_enter Tryd.func22, Tryd.ntmps22
    go_wp2
    go_returns
    have := E.out
    cases this
    exact ⟨rfl, by go_grown⟩
  have k1 : decide (l < 1) = false := decide_eq_false h1
  have hR2 : Hid (((pickB sc g l eb nb).1, (pickB sc g l eb nb).2.1) = (ID0, OK0)) := by show _ = _; rw [← hR]; exact (if_neg h1).symm
  clear hR h1
  go_enter Tryd.func22, Tryd.ntmps22
  go_wp2
  go_loopw [8, 9, 10, 12, 18] (fun a b c _ i wr => ∃ (j : Nat) (ID : ByteArray) (OK : Bool) (AR : Int), j ≤ nb ∧ i = .int .i64 j ∧ a = .string ID ∧ b = .bool OK ∧ c = .int .i64 AR ∧ Hid (pickB sc g l eb j = (ID, OK, AR)) ∧ Below (w.alloc (.cells #[.slice oa ns ca, .slice ob nb cb] 25)).heap.size (w.alloc (.cells #[.slice oa ns ca, .slice ob nb cb] 25)) wr) (fun _ _ _ _ i _ => nb - (intOf i).toNat)
  case atStart => exact ⟨0, ⟨#[]⟩, false, 0, by omega, rfl, rfl, rfl, rfl, rfl, Below.refl _ _⟩
  case round =>
    obtain ⟨j, ID, OK, AR, hj, rfl, rfl, rfl, rfl, hq, hB⟩ := hrel
    have HBr : Hid (Below w.heap.size w wr) := by
      show Below _ _ _
      exact below_step (w := w) (by go_grown) hB
    have hs0 := hB.size
    (try simp only [World.size_alloc, World.size_setCell] at hs0)
    have z0 : w.heap.size < wr.heap.size := by omega
    have s0 : wr.cell? ⟨w.heap.size, 0, none⟩ = some (.slice oa ns ca) := (hB.cell (p := ⟨_, _, none⟩) (by simp <;> omega)).trans (by simp [go_sem])
    have s1 : wr.cell? ⟨w.heap.size, 1, none⟩ = some (.slice ob nb cb) := (hB.cell (p := ⟨_, _, none⟩) (by simp <;> omega)).trans (by simp [go_sem])
    clear hs0
    by_cases hlt : j < nb
    · obtain ⟨b1, f1, rfl, hbl1, hcl1⟩ := HELB.out j hlt
      have c0 : wr.cell? ⟨b1, f1 + j * 5, none⟩ = some (.string (eb j).id) := (HBr.out.cell (p := ⟨_, _, none⟩) hbl1).trans (hcl1 j hlt).1
      have c1 : wr.cell? ⟨b1, f1 + j * 5 + 1, none⟩ = some (.string (eb j).sect) := (HBr.out.cell (p := ⟨_, _, none⟩) hbl1).trans (hcl1 j hlt).2.1
      have c2 : wr.cell? ⟨b1, f1 + j * 5 + 2, none⟩ = some (.string (eb j).grade) := (HBr.out.cell (p := ⟨_, _, none⟩) hbl1).trans (hcl1 j hlt).2.2.1
      have c3 : wr.cell? ⟨b1, f1 + j * 5 + 3, none⟩ = some (.int .i64 (eb j).len) := (HBr.out.cell (p := ⟨_, _, none⟩) hbl1).trans (hcl1 j hlt).2.2.2.1
      have c4 : wr.cell? ⟨b1, f1 + j * 5 + 4, none⟩ = some (.string (eb j).heat) := (HBr.out.cell (p := ⟨_, _, none⟩) hbl1).trans (hcl1 j hlt).2.2.2.2
      have hbr : b1 < wr.heap.size := by omega
      have hcl9 := Lib.hid hcl1
      clear hcl1
      by_cases ha : ((eb j).sect.toList == sc.toList) = true
      · have kha : ((eb j).sect.toList == sc.toList) = true := by simpa using ha
        by_cases hb : ((eb j).grade.toList == g.toList) = true
        · have khb : ((eb j).grade.toList == g.toList) = true := by simpa using hb
          by_cases h1 : l ≤ (eb j).len
          · have kh1 : decide (l ≤ (eb j).len) = true := decide_eq_true h1
            cases OK with
            | false =>
              have hq2 : Hid (pickB sc g l eb (j + 1) = ((eb j).id, true, (eb j).len)) := by
                show _ = _
                unfold pickB
                rw [hq.out]
                simp [stepB, ha, hb, h1]
              clear hcl9
              go_wp2
              all_goals go_region
              all_goals go_wp2
              all_goals go_roundw
              all_goals first | exact ⟨⟨j + 1, _, _, _, by omega, by go_num, rfl, rfl, rfl, hq2, by go_grown⟩, by simp [intOf]; omega⟩ | skip
              case rel => exact ⟨j + 1, _, _, _, by omega, by go_num, rfl, rfl, rfl, hq2, by go_grown⟩
              case measure => simp [intOf]; omega
            | true =>
              by_cases hl : (eb j).len < AR
              · have khl : decide ((eb j).len < AR) = true := decide_eq_true hl
                have hq2 : Hid (pickB sc g l eb (j + 1) = ((eb j).id, true, (eb j).len)) := by
                  show _ = _
                  unfold pickB
                  rw [hq.out]
                  simp [stepB, ha, hb, h1, hl]
                clear hcl9
                go_wp2
                all_goals go_region
                all_goals go_wp2
                all_goals go_roundw
                all_goals first | exact ⟨⟨j + 1, _, _, _, by omega, by go_num, rfl, rfl, rfl, hq2, by go_grown⟩, by simp [intOf]; omega⟩ | skip
                case rel => exact ⟨j + 1, _, _, _, by omega, by go_num, rfl, rfl, rfl, hq2, by go_grown⟩
                case measure => simp [intOf]; omega
              · have khl : decide ((eb j).len < AR) = false := decide_eq_false hl
                have hq2 : Hid (pickB sc g l eb (j + 1) = (ID, true, AR)) := by
                  show _ = _
                  unfold pickB
                  rw [hq.out]
                  simp [stepB, ha, hb, h1, hl]
                clear hcl9
                go_wp2
                go_roundw
                case rel => exact ⟨j + 1, ID, true, AR, by omega, by go_num, rfl, rfl, rfl, hq2, by go_grown⟩
                case measure => simp [intOf]; omega
          · have kh1 : decide (l ≤ (eb j).len) = false := decide_eq_false h1
            have hq2 : Hid (pickB sc g l eb (j + 1) = (ID, OK, AR)) := by
              show _ = _
              unfold pickB
              rw [hq.out]
              simp [stepB, ha, hb, h1]
            clear hcl9
            go_wp2
            go_roundw
            case rel => exact ⟨j + 1, ID, OK, AR, by omega, by go_num, rfl, rfl, rfl, hq2, by go_grown⟩
            case measure => simp [intOf]; omega
        · have khb : ((eb j).grade.toList == g.toList) = false := by simpa using hb
          have hq2 : Hid (pickB sc g l eb (j + 1) = (ID, OK, AR)) := by
            show _ = _
            unfold pickB
            rw [hq.out]
            simp [stepB, ha, hb]
          clear hcl9
          go_wp2
          go_roundw
          case rel => exact ⟨j + 1, ID, OK, AR, by omega, by go_num, rfl, rfl, rfl, hq2, by go_grown⟩
          case measure => simp [intOf]; omega
      · have kha : ((eb j).sect.toList == sc.toList) = false := by simpa using ha
        have hq2 : Hid (pickB sc g l eb (j + 1) = (ID, OK, AR)) := by
          show _ = _
          unfold pickB
          rw [hq.out]
          simp [stepB, ha]
        clear hcl9
        go_wp2
        go_roundw
        case rel => exact ⟨j + 1, ID, OK, AR, by omega, by go_num, rfl, rfl, rfl, hq2, by go_grown⟩
        case measure => simp [intOf]; omega
    · have hjn : j = nb := by omega
      subst hjn
      have E : Hid (ID = ID0 ∧ OK = OK0) := by
        have := hR2.out
        rw [hq.out] at this
        show _ ∧ _
        simpa using this
      clear hB
      go_wp2
      go_returns
      rw [← E.out.1, ← E.out.2]
      exact ⟨rfl, HBr.out⟩
end Go.Proofs.YtiddpaaihloopaaDoor
