/-
  What Meet returns, the program's and the reference's, by walks. Conditions: none. By an AI agent.
-/
import Derived.Test.YtcfohnhieajhnaaDoorRef11
namespace Go.Proofs.YtcfohnhieajhnaaDoor
open Go.RowKit
set_option linter.unusedSimpArgs false

def mx (x y : Int) : Int := if y > x then y else x
def mn (x y : Int) : Int := if y < x then y else x
theorem run_mx (ts : Array TypeId) (t : TypeId) (x y : Int) (w : World) : (Builtin.max_ ts t #[.int .i64 x, .int .i64 y]).run Tryd.prog w = .ok (.int .i64 (mx x y)) w := by
  simp [go_sem, mx]
theorem run_mn (ts : Array TypeId) (t : TypeId) (x y : Int) (w : World) : (Builtin.min_ ts t #[.int .i64 x, .int .i64 y]).run Tryd.prog w = .ok (.int .i64 (mn x y)) w := by
  simp [go_sem, mn]
def meetsF (a1 a2 a3 a4 a5 a6 b1 b2 b3 b4 b5 b6 : Int) : Bool := decide (mx a1 b1 ≤ mn a4 b4 ∧ mx a2 b2 ≤ mn a5 b5 ∧ mx a3 b3 ≤ mn a6 b6)
def meetF (a1 a2 a3 a4 a5 a6 b1 b2 b3 b4 b5 b6 : Int) : V × V := if (mx a1 b1 ≤ mn a4 b4 ∧ mx a2 b2 ≤ mn a5 b5 ∧ mx a3 b3 ≤ mn a6 b6) then (((mx a1 b1), (mx a2 b2), (mx a3 b3)), ((mn a4 b4), (mn a5 b5), (mn a6 b6))) else (zeroV, zeroV)
set_option maxRecDepth 100000 in
set_option maxHeartbeats 1000000 in
theorem Meet_yes (a1 a2 a3 a4 a5 a6 b1 b2 b3 b4 b5 b6 : Int) (w : World) (h1 : mx a1 b1 ≤ mn a4 b4) (h2 : mx a2 b2 ≤ mn a5 b5) (h3 : mx a3 b3 ≤ mn a6 b6) :
    Calls Tryd.prog 16 #[.agg #[.int .i64 a1, .int .i64 a2, .int .i64 a3, .int .i64 a4, .int .i64 a5, .int .i64 a6], .agg #[.int .i64 b1, .int .i64 b2, .int .i64 b3, .int .i64 b4, .int .i64 b5, .int .i64 b6]] w fun e w' => e = .returned (.tuple #[.agg #[.int .i64 (mx a1 b1), .int .i64 (mx a2 b2), .int .i64 (mx a3 b3), .int .i64 (mn a4 b4), .int .i64 (mn a5 b5), .int .i64 (mn a6 b6)], .bool true]) ∧ Below w.heap.size w w' := by
  have hmx := run_mx
  have hmn := run_mn
  go_enter Tryd.func16, Tryd.ntmps16
  go_wp2_with fail
  all_goals (refine bodyPost_ret (v := .tuple #[.agg #[.int .i64 (mx a1 b1), .int .i64 (mx a2 b2), .int .i64 (mx a3 b3), .int .i64 (mn a4 b4), .int .i64 (mn a5 b5), .int .i64 (mn a6 b6)], .bool true]) (by simp [results, Tryd.results16, go_sem, *]) rfl ⟨rfl, by go_grown⟩)
set_option maxRecDepth 100000 in
set_option maxHeartbeats 1000000 in
theorem Meet_no1 (a1 a2 a3 a4 a5 a6 b1 b2 b3 b4 b5 b6 : Int) (w : World) (h1 : mn a4 b4 < mx a1 b1) :
    Calls Tryd.prog 16 #[.agg #[.int .i64 a1, .int .i64 a2, .int .i64 a3, .int .i64 a4, .int .i64 a5, .int .i64 a6], .agg #[.int .i64 b1, .int .i64 b2, .int .i64 b3, .int .i64 b4, .int .i64 b5, .int .i64 b6]] w fun e w' => e = .returned (.tuple #[.agg #[.int .i64 0, .int .i64 0, .int .i64 0, .int .i64 0, .int .i64 0, .int .i64 0], .bool false]) ∧ Below w.heap.size w w' := by
  have hmx := run_mx
  have hmn := run_mn
  go_enter Tryd.func16, Tryd.ntmps16
  go_wp2_with fail
  all_goals (refine bodyPost_ret (v := .tuple #[.agg #[.int .i64 0, .int .i64 0, .int .i64 0, .int .i64 0, .int .i64 0, .int .i64 0], .bool false]) (by simp [results, Tryd.results16, go_sem, *]) rfl ⟨rfl, by go_grown⟩)
set_option maxRecDepth 100000 in
set_option maxHeartbeats 1000000 in
theorem Meet_no2 (a1 a2 a3 a4 a5 a6 b1 b2 b3 b4 b5 b6 : Int) (w : World) (h1 : mx a1 b1 ≤ mn a4 b4) (h2 : mn a5 b5 < mx a2 b2) :
    Calls Tryd.prog 16 #[.agg #[.int .i64 a1, .int .i64 a2, .int .i64 a3, .int .i64 a4, .int .i64 a5, .int .i64 a6], .agg #[.int .i64 b1, .int .i64 b2, .int .i64 b3, .int .i64 b4, .int .i64 b5, .int .i64 b6]] w fun e w' => e = .returned (.tuple #[.agg #[.int .i64 0, .int .i64 0, .int .i64 0, .int .i64 0, .int .i64 0, .int .i64 0], .bool false]) ∧ Below w.heap.size w w' := by
  have hmx := run_mx
  have hmn := run_mn
  go_enter Tryd.func16, Tryd.ntmps16
  go_wp2_with fail
  all_goals (refine bodyPost_ret (v := .tuple #[.agg #[.int .i64 0, .int .i64 0, .int .i64 0, .int .i64 0, .int .i64 0, .int .i64 0], .bool false]) (by simp [results, Tryd.results16, go_sem, *]) rfl ⟨rfl, by go_grown⟩)
set_option maxRecDepth 100000 in
set_option maxHeartbeats 1000000 in
theorem Meet_no3 (a1 a2 a3 a4 a5 a6 b1 b2 b3 b4 b5 b6 : Int) (w : World) (h1 : mx a1 b1 ≤ mn a4 b4) (h2 : mx a2 b2 ≤ mn a5 b5) (h3 : mn a6 b6 < mx a3 b3) :
    Calls Tryd.prog 16 #[.agg #[.int .i64 a1, .int .i64 a2, .int .i64 a3, .int .i64 a4, .int .i64 a5, .int .i64 a6], .agg #[.int .i64 b1, .int .i64 b2, .int .i64 b3, .int .i64 b4, .int .i64 b5, .int .i64 b6]] w fun e w' => e = .returned (.tuple #[.agg #[.int .i64 0, .int .i64 0, .int .i64 0, .int .i64 0, .int .i64 0, .int .i64 0], .bool false]) ∧ Below w.heap.size w w' := by
  have hmx := run_mx
  have hmn := run_mn
  go_enter Tryd.func16, Tryd.ntmps16
  go_wp2_with fail
  all_goals (refine bodyPost_ret (v := .tuple #[.agg #[.int .i64 0, .int .i64 0, .int .i64 0, .int .i64 0, .int .i64 0, .int .i64 0], .bool false]) (by simp [results, Tryd.results16, go_sem, *]) rfl ⟨rfl, by go_grown⟩)
set_option maxRecDepth 100000 in
set_option maxHeartbeats 1000000 in
theorem Meet_any (a1 a2 a3 a4 a5 a6 b1 b2 b3 b4 b5 b6 : Int) (w : World)  :
    Calls Tryd.prog 16 #[.agg #[.int .i64 a1, .int .i64 a2, .int .i64 a3, .int .i64 a4, .int .i64 a5, .int .i64 a6], .agg #[.int .i64 b1, .int .i64 b2, .int .i64 b3, .int .i64 b4, .int .i64 b5, .int .i64 b6]] w fun e w' => e = .returned (.tuple #[.agg #[.int .i64 (meetF a1 a2 a3 a4 a5 a6 b1 b2 b3 b4 b5 b6).1.1, .int .i64 (meetF a1 a2 a3 a4 a5 a6 b1 b2 b3 b4 b5 b6).1.2.1, .int .i64 (meetF a1 a2 a3 a4 a5 a6 b1 b2 b3 b4 b5 b6).1.2.2, .int .i64 (meetF a1 a2 a3 a4 a5 a6 b1 b2 b3 b4 b5 b6).2.1, .int .i64 (meetF a1 a2 a3 a4 a5 a6 b1 b2 b3 b4 b5 b6).2.2.1, .int .i64 (meetF a1 a2 a3 a4 a5 a6 b1 b2 b3 b4 b5 b6).2.2.2], .bool (meetsF a1 a2 a3 a4 a5 a6 b1 b2 b3 b4 b5 b6)]) ∧ Below w.heap.size w w' := by
  by_cases h1 : mx a1 b1 ≤ mn a4 b4
  · by_cases h2 : mx a2 b2 ≤ mn a5 b5
    · by_cases h3 : mx a3 b3 ≤ mn a6 b6
      · rw [show meetF a1 a2 a3 a4 a5 a6 b1 b2 b3 b4 b5 b6 = (((mx a1 b1), (mx a2 b2), (mx a3 b3)), ((mn a4 b4), (mn a5 b5), (mn a6 b6))) from if_pos ⟨h1, h2, h3⟩, show meetsF a1 a2 a3 a4 a5 a6 b1 b2 b3 b4 b5 b6 = true from decide_eq_true ⟨h1, h2, h3⟩]; exact Meet_yes a1 a2 a3 a4 a5 a6 b1 b2 b3 b4 b5 b6 w h1 h2 h3
      · rw [show meetF a1 a2 a3 a4 a5 a6 b1 b2 b3 b4 b5 b6 = (zeroV, zeroV) from if_neg (fun h => h3 h.2.2), show meetsF a1 a2 a3 a4 a5 a6 b1 b2 b3 b4 b5 b6 = false from decide_eq_false (fun h => h3 h.2.2)]; exact Meet_no3 a1 a2 a3 a4 a5 a6 b1 b2 b3 b4 b5 b6 w h1 h2 (by omega)
    · rw [show meetF a1 a2 a3 a4 a5 a6 b1 b2 b3 b4 b5 b6 = (zeroV, zeroV) from if_neg (fun h => h2 h.2.1), show meetsF a1 a2 a3 a4 a5 a6 b1 b2 b3 b4 b5 b6 = false from decide_eq_false (fun h => h2 h.2.1)]; exact Meet_no2 a1 a2 a3 a4 a5 a6 b1 b2 b3 b4 b5 b6 w h1 (by omega)
  · rw [show meetF a1 a2 a3 a4 a5 a6 b1 b2 b3 b4 b5 b6 = (zeroV, zeroV) from if_neg (fun h => h1 h.1), show meetsF a1 a2 a3 a4 a5 a6 b1 b2 b3 b4 b5 b6 = false from decide_eq_false (fun h => h1 h.1)]; exact Meet_no1 a1 a2 a3 a4 a5 a6 b1 b2 b3 b4 b5 b6 w (by omega)
set_option maxRecDepth 100000 in
set_option maxHeartbeats 1000000 in
theorem rMeet_yes (a1 a2 a3 a4 a5 a6 b1 b2 b3 b4 b5 b6 : Int) (w : World) (h1 : mx a1 b1 ≤ mn a4 b4) (h2 : mx a2 b2 ≤ mn a5 b5) (h3 : mx a3 b3 ≤ mn a6 b6) :
    Calls Tryd.prog 17 #[.agg #[.int .i64 a1, .int .i64 a2, .int .i64 a3, .int .i64 a4, .int .i64 a5, .int .i64 a6], .agg #[.int .i64 b1, .int .i64 b2, .int .i64 b3, .int .i64 b4, .int .i64 b5, .int .i64 b6]] w fun e w' => e = .returned (.tuple #[.agg #[.int .i64 (mx a1 b1), .int .i64 (mx a2 b2), .int .i64 (mx a3 b3), .int .i64 (mn a4 b4), .int .i64 (mn a5 b5), .int .i64 (mn a6 b6)], .bool true]) ∧ Below w.heap.size w w' := by
  have hmx := run_mx
  have hmn := run_mn
  go_enter Tryd.func17, Tryd.ntmps17
  go_wp2_with fail
  all_goals (refine bodyPost_ret (v := .tuple #[.agg #[.int .i64 (mx a1 b1), .int .i64 (mx a2 b2), .int .i64 (mx a3 b3), .int .i64 (mn a4 b4), .int .i64 (mn a5 b5), .int .i64 (mn a6 b6)], .bool true]) (by simp [results, Tryd.results17, go_sem, *]) rfl ⟨rfl, by go_grown⟩)
set_option maxRecDepth 100000 in
set_option maxHeartbeats 1000000 in
theorem rMeet_no1 (a1 a2 a3 a4 a5 a6 b1 b2 b3 b4 b5 b6 : Int) (w : World) (h1 : mn a4 b4 < mx a1 b1) :
    Calls Tryd.prog 17 #[.agg #[.int .i64 a1, .int .i64 a2, .int .i64 a3, .int .i64 a4, .int .i64 a5, .int .i64 a6], .agg #[.int .i64 b1, .int .i64 b2, .int .i64 b3, .int .i64 b4, .int .i64 b5, .int .i64 b6]] w fun e w' => e = .returned (.tuple #[.agg #[.int .i64 0, .int .i64 0, .int .i64 0, .int .i64 0, .int .i64 0, .int .i64 0], .bool false]) ∧ Below w.heap.size w w' := by
  have hmx := run_mx
  have hmn := run_mn
  go_enter Tryd.func17, Tryd.ntmps17
  go_wp2_with fail
  all_goals (refine bodyPost_ret (v := .tuple #[.agg #[.int .i64 0, .int .i64 0, .int .i64 0, .int .i64 0, .int .i64 0, .int .i64 0], .bool false]) (by simp [results, Tryd.results17, go_sem, *]) rfl ⟨rfl, by go_grown⟩)
set_option maxRecDepth 100000 in
set_option maxHeartbeats 1000000 in
theorem rMeet_no2 (a1 a2 a3 a4 a5 a6 b1 b2 b3 b4 b5 b6 : Int) (w : World) (h1 : mx a1 b1 ≤ mn a4 b4) (h2 : mn a5 b5 < mx a2 b2) :
    Calls Tryd.prog 17 #[.agg #[.int .i64 a1, .int .i64 a2, .int .i64 a3, .int .i64 a4, .int .i64 a5, .int .i64 a6], .agg #[.int .i64 b1, .int .i64 b2, .int .i64 b3, .int .i64 b4, .int .i64 b5, .int .i64 b6]] w fun e w' => e = .returned (.tuple #[.agg #[.int .i64 0, .int .i64 0, .int .i64 0, .int .i64 0, .int .i64 0, .int .i64 0], .bool false]) ∧ Below w.heap.size w w' := by
  have hmx := run_mx
  have hmn := run_mn
  go_enter Tryd.func17, Tryd.ntmps17
  go_wp2_with fail
  all_goals (refine bodyPost_ret (v := .tuple #[.agg #[.int .i64 0, .int .i64 0, .int .i64 0, .int .i64 0, .int .i64 0, .int .i64 0], .bool false]) (by simp [results, Tryd.results17, go_sem, *]) rfl ⟨rfl, by go_grown⟩)
set_option maxRecDepth 100000 in
set_option maxHeartbeats 1000000 in
theorem rMeet_no3 (a1 a2 a3 a4 a5 a6 b1 b2 b3 b4 b5 b6 : Int) (w : World) (h1 : mx a1 b1 ≤ mn a4 b4) (h2 : mx a2 b2 ≤ mn a5 b5) (h3 : mn a6 b6 < mx a3 b3) :
    Calls Tryd.prog 17 #[.agg #[.int .i64 a1, .int .i64 a2, .int .i64 a3, .int .i64 a4, .int .i64 a5, .int .i64 a6], .agg #[.int .i64 b1, .int .i64 b2, .int .i64 b3, .int .i64 b4, .int .i64 b5, .int .i64 b6]] w fun e w' => e = .returned (.tuple #[.agg #[.int .i64 0, .int .i64 0, .int .i64 0, .int .i64 0, .int .i64 0, .int .i64 0], .bool false]) ∧ Below w.heap.size w w' := by
  have hmx := run_mx
  have hmn := run_mn
  go_enter Tryd.func17, Tryd.ntmps17
  go_wp2_with fail
  all_goals (refine bodyPost_ret (v := .tuple #[.agg #[.int .i64 0, .int .i64 0, .int .i64 0, .int .i64 0, .int .i64 0, .int .i64 0], .bool false]) (by simp [results, Tryd.results17, go_sem, *]) rfl ⟨rfl, by go_grown⟩)
set_option maxRecDepth 100000 in
set_option maxHeartbeats 1000000 in
theorem rMeet_any (a1 a2 a3 a4 a5 a6 b1 b2 b3 b4 b5 b6 : Int) (w : World)  :
    Calls Tryd.prog 17 #[.agg #[.int .i64 a1, .int .i64 a2, .int .i64 a3, .int .i64 a4, .int .i64 a5, .int .i64 a6], .agg #[.int .i64 b1, .int .i64 b2, .int .i64 b3, .int .i64 b4, .int .i64 b5, .int .i64 b6]] w fun e w' => e = .returned (.tuple #[.agg #[.int .i64 (meetF a1 a2 a3 a4 a5 a6 b1 b2 b3 b4 b5 b6).1.1, .int .i64 (meetF a1 a2 a3 a4 a5 a6 b1 b2 b3 b4 b5 b6).1.2.1, .int .i64 (meetF a1 a2 a3 a4 a5 a6 b1 b2 b3 b4 b5 b6).1.2.2, .int .i64 (meetF a1 a2 a3 a4 a5 a6 b1 b2 b3 b4 b5 b6).2.1, .int .i64 (meetF a1 a2 a3 a4 a5 a6 b1 b2 b3 b4 b5 b6).2.2.1, .int .i64 (meetF a1 a2 a3 a4 a5 a6 b1 b2 b3 b4 b5 b6).2.2.2], .bool (meetsF a1 a2 a3 a4 a5 a6 b1 b2 b3 b4 b5 b6)]) ∧ Below w.heap.size w w' := by
  by_cases h1 : mx a1 b1 ≤ mn a4 b4
  · by_cases h2 : mx a2 b2 ≤ mn a5 b5
    · by_cases h3 : mx a3 b3 ≤ mn a6 b6
      · rw [show meetF a1 a2 a3 a4 a5 a6 b1 b2 b3 b4 b5 b6 = (((mx a1 b1), (mx a2 b2), (mx a3 b3)), ((mn a4 b4), (mn a5 b5), (mn a6 b6))) from if_pos ⟨h1, h2, h3⟩, show meetsF a1 a2 a3 a4 a5 a6 b1 b2 b3 b4 b5 b6 = true from decide_eq_true ⟨h1, h2, h3⟩]; exact rMeet_yes a1 a2 a3 a4 a5 a6 b1 b2 b3 b4 b5 b6 w h1 h2 h3
      · rw [show meetF a1 a2 a3 a4 a5 a6 b1 b2 b3 b4 b5 b6 = (zeroV, zeroV) from if_neg (fun h => h3 h.2.2), show meetsF a1 a2 a3 a4 a5 a6 b1 b2 b3 b4 b5 b6 = false from decide_eq_false (fun h => h3 h.2.2)]; exact rMeet_no3 a1 a2 a3 a4 a5 a6 b1 b2 b3 b4 b5 b6 w h1 h2 (by omega)
    · rw [show meetF a1 a2 a3 a4 a5 a6 b1 b2 b3 b4 b5 b6 = (zeroV, zeroV) from if_neg (fun h => h2 h.2.1), show meetsF a1 a2 a3 a4 a5 a6 b1 b2 b3 b4 b5 b6 = false from decide_eq_false (fun h => h2 h.2.1)]; exact rMeet_no2 a1 a2 a3 a4 a5 a6 b1 b2 b3 b4 b5 b6 w h1 (by omega)
  · rw [show meetF a1 a2 a3 a4 a5 a6 b1 b2 b3 b4 b5 b6 = (zeroV, zeroV) from if_neg (fun h => h1 h.1), show meetsF a1 a2 a3 a4 a5 a6 b1 b2 b3 b4 b5 b6 = false from decide_eq_false (fun h => h1 h.1)]; exact rMeet_no1 a1 a2 a3 a4 a5 a6 b1 b2 b3 b4 b5 b6 w (by omega)
end Go.Proofs.YtcfohnhieajhnaaDoor
