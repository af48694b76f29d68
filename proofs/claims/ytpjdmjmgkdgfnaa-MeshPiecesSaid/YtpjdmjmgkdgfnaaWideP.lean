/-
  Numbers by their digits, plainly. Conditions: none; no program in sight. By an AI agent.
-/
import Derived.Test.YtpjdmjmgkdgfnaaBase
namespace Go.Proofs.Ytpjdmjmgkdgfnaa
open Go Go.RowKit
set_option linter.unusedVariables false
def pw (b : Int) : Nat → Int
  | 0 => 1
  | n + 1 => pw b n * b
def valN (b : Int) (X : Nat → Int) : Nat → Int
  | 0 => 0
  | n + 1 => valN b X n + X n * pw b n
def dig (b : Int) (n : Nat) (X : Nat → Int) : Prop := ∀ k, k < n → 0 ≤ X k ∧ X k < b
def updF (X : Nat → Int) (i : Nat) (v : Int) : Nat → Int := fun k => if k = i then v else X k
theorem pw_add (b : Int) (i : Nat) : ∀ k, pw b (i + k) = pw b i * pw b k
  | 0 => by simp [pw]
  | k + 1 => by rw [← Nat.add_assoc, pw, pw, pw_add b i k]; grind
theorem pw_pos {b : Int} (hb : 0 < b) : ∀ n, 0 < pw b n
  | 0 => by simp [pw]
  | n + 1 => Int.mul_pos (pw_pos hb n) hb
theorem valN_congr {b : Int} {X Y : Nat → Int} : ∀ {n : Nat}, (∀ k, k < n → X k = Y k) → valN b X n = valN b Y n
  | 0, _ => rfl
  | n + 1, h => by rw [valN, valN, valN_congr (fun k hk => h k (by omega)), h n (by omega)]
theorem valN_upd {b : Int} {X : Nat → Int} {i : Nat} {v : Int} : ∀ {n : Nat}, i < n → valN b (updF X i v) n = valN b X n + (v - X i) * pw b i
  | 0, h => by omega
  | n + 1, h => by
    rw [valN, valN]
    by_cases hi : i = n
    · subst hi
      rw [valN_congr (X := updF X i v) (Y := X) (fun k hk => by unfold updF; rw [if_neg (by omega)])]
      have : updF X i v i = v := by simp [updF]
      rw [this]
      grind
    · rw [valN_upd (by omega : i < n)]
      have : updF X i v n = X n := by unfold updF; rw [if_neg (by omega)]
      rw [this]
      grind
theorem valN_bd {b : Int} {X : Nat → Int} (hb : 0 < b) : ∀ {n : Nat}, dig b n X → 0 ≤ valN b X n ∧ valN b X n < pw b n
  | 0, _ => by simp [valN, pw]
  | n + 1, h => by
    obtain ⟨h1, h2⟩ := valN_bd hb (n := n) (fun k hk => h k (by omega))
    obtain ⟨h3, h4⟩ := h n (by omega)
    have hp := pw_pos hb n
    have h5 := Int.mul_nonneg h3 (Int.le_of_lt hp)
    have h6 : X n * pw b n ≤ (b - 1) * pw b n := Int.mul_le_mul_of_nonneg_right (by omega) (Int.le_of_lt hp)
    rw [valN, pw]
    have h7 : pw b n * b = (b - 1) * pw b n + pw b n := by grind
    omega
theorem valN_one {b : Int} {X Y : Nat → Int} (hb : 0 < b) : ∀ {n : Nat}, dig b n X → dig b n Y → valN b X n = valN b Y n → ∀ k, k < n → X k = Y k
  | 0, _, _, _, k, hk => by omega
  | n + 1, h, h', e, k, hk => by
    have h1 := valN_bd hb (n := n) (X := X) (fun k hk => h k (by omega))
    have h2 := valN_bd hb (n := n) (X := Y) (fun k hk => h' k (by omega))
    have hp := pw_pos hb n
    rw [valN, valN] at e
    have he : X n = Y n := by
      have h3 : (X n - Y n) * pw b n = valN b Y n - valN b X n := by grind
      rcases Int.lt_trichotomy (X n) (Y n) with hl | hl | hl
      · have : (X n - Y n) * pw b n ≤ (-1) * pw b n := Int.mul_le_mul_of_nonneg_right (by omega) (Int.le_of_lt hp)
        omega
      · exact hl
      · have : 1 * pw b n ≤ (X n - Y n) * pw b n := Int.mul_le_mul_of_nonneg_right (by omega) (Int.le_of_lt hp)
        omega
    by_cases hkn : k = n
    · subst hkn; exact he
    · exact valN_one (n := n) hb (fun k hk => h k (by omega)) (fun k hk => h' k (by omega)) (by rw [he] at e; omega) k (by omega)
/-- the first digit that differs, from above, decides -/
theorem valN_lt {b : Int} {X Y : Nat → Int} (hb : 0 < b) : ∀ {n i : Nat}, dig b n X → dig b n Y → i < n → X i < Y i → (∀ k, i < k → k < n → X k = Y k) → valN b X n < valN b Y n
  | 0, i, _, _, hi, _, _ => by omega
  | n + 1, i, h, h', hi, hl, he => by
    rw [valN, valN]
    by_cases hin : i = n
    · subst hin
      have h1 := valN_bd hb (n := i) (X := X) (fun k hk => h k (by omega))
      have h2 := valN_bd hb (n := i) (X := Y) (fun k hk => h' k (by omega))
      have h3 : (X i + 1) * pw b i ≤ Y i * pw b i := Int.mul_le_mul_of_nonneg_right (by omega) (Int.le_of_lt (pw_pos hb i))
      have h4 : (X i + 1) * pw b i = X i * pw b i + pw b i := by grind
      omega
    · have := valN_lt hb (n := n) (i := i) (fun k hk => h k (by omega)) (fun k hk => h' k (by omega)) (by omega) hl (fun k h1 h2 => he k h1 (by omega))
      rw [he n (by omega) (by omega)]
      omega
theorem valN_zero {b : Int} {X : Nat → Int} : ∀ {n : Nat}, (∀ k, k < n → X k = 0) → valN b X n = 0
  | 0, _ => rfl
  | n + 1, h => by rw [valN, valN_zero (fun k hk => h k (by omega)), h n (by omega)]; simp
/-- the sign of a comparison -/
def cmpI (a b : Int) : Int := if a < b then -1 else if b < a then 1 else 0
def sgB (n : Bool) (m : Int) : Bool := decide ((if n = true then -m else m) < 0)
/-- a sign and four words -/
def isW (z : Int) (b : Bool) (X : Nat → Int) : Prop := b = decide (z < 0) ∧ dig 18446744073709551616 4 X ∧ valN 18446744073709551616 X 4 = (z.natAbs : Int)
theorem pw4 : pw 18446744073709551616 4 = 115792089237316195423570985008687907853269984665640564039457584007913129639936 := by decide
theorem pw8 : pw 4294967296 8 = 115792089237316195423570985008687907853269984665640564039457584007913129639936 := by decide
theorem isW_one {z : Int} {b c : Bool} {X Y : Nat → Int} (h : isW z b X) (h' : isW z c Y) : b = c ∧ X 0 = Y 0 ∧ X 1 = Y 1 ∧ X 2 = Y 2 ∧ X 3 = Y 3 := by
  have := valN_one (by decide) h.2.1 h'.2.1 (h.2.2.trans h'.2.2.symm)
  exact ⟨h.1.trans h'.1.symm, this 0 (by decide), this 1 (by decide), this 2 (by decide), this 3 (by decide)⟩
theorem isW_lt {z : Int} {b : Bool} {X : Nat → Int} (h : isW z b X) : (z.natAbs : Int) < 115792089237316195423570985008687907853269984665640564039457584007913129639936 := by
  have := valN_bd (by decide) h.2.1
  rw [pw4, h.2.2] at this
  exact this.2
def zeroF : Nat → Int := fun _ => 0
theorem isW_zero : isW 0 false zeroF := ⟨rfl, fun k hk => by unfold zeroF; omega, by decide⟩
theorem isW_sg {n : Bool} {m : Int} {X : Nat → Int} (h : dig 18446744073709551616 4 X) (hv : valN 18446744073709551616 X 4 = m) : isW (if n = true then -m else m) (sgB n m) X := by
  have := valN_bd (by decide) h
  refine ⟨rfl, h, hv.trans ?_⟩
  cases n with
  | false => rw [if_neg (by decide)]; omega
  | true => rw [if_pos rfl]; omega
def oneF (a : Int) : Nat → Int
  | 0 => a
  | _ + 1 => 0
theorem dig_one {b a : Int} (hb : 0 < b) (h : 0 ≤ a ∧ a < b) (n : Nat) : dig b n (oneF a)
  | 0, _ => h
  | _ + 1, _ => ⟨Int.le_refl 0, hb⟩
theorem val_one {b a : Int} : ∀ n, valN b (oneF a) (n + 1) = a
  | 0 => by simp [valN, oneF, pw]
  | n + 1 => by rw [valN, val_one n]; simp [oneF]
theorem isW_sgT {m : Int} {X : Nat → Int} (h : dig 18446744073709551616 4 X) (hv : valN 18446744073709551616 X 4 = m) : isW (-m) (sgB true m) X := by
  have := isW_sg (n := true) h hv
  rwa [if_pos rfl] at this
theorem isW_sgF {m : Int} {X : Nat → Int} (h : dig 18446744073709551616 4 X) (hv : valN 18446744073709551616 X 4 = m) : isW m (sgB false m) X := by
  have := isW_sg (n := false) h hv
  rwa [if_neg (by decide)] at this
theorem sgB_T (m : Int) : sgB true m = decide (-m < 0) := rfl
theorem sgB_F (m : Int) : sgB false m = decide (m < 0) := rfl
/-- the digits of a number -/
def dgF (b x : Int) : Nat → Int := fun k => x / pw b k % b
theorem dgF_dig {b : Int} (hb : 0 < b) (x : Int) (n : Nat) : dig b n (dgF b x) := fun k _ => ⟨Int.emod_nonneg _ (by omega), Int.emod_lt_of_pos _ hb⟩
theorem dgF_val {b x : Int} (hb : 0 < b) : ∀ n, valN b (dgF b x) n = x % pw b n
  | 0 => by simp [valN, pw, Int.emod_one]
  | n + 1 => by
    have hp := pw_pos hb n
    rw [valN, dgF_val hb n, pw]
    unfold dgF
    have h1 := Int.emod_add_mul_ediv x (pw b n)
    have h2 := Int.emod_add_mul_ediv (x / pw b n) b
    have h3 := Int.emod_add_mul_ediv x (pw b n * b)
    rw [← Int.ediv_ediv_of_nonneg (Int.le_of_lt hp)] at h3
    generalize x / pw b n / b = q at *
    generalize x / pw b n % b = r at *
    generalize x % (pw b n * b) = s at *
    generalize x % pw b n = t at *
    generalize x / pw b n = u at *
    generalize pw b n = p at *
    subst h2
    grind
theorem dgF_one {b x : Int} {n : Nat} {X : Nat → Int} (hb : 0 < b) (h : dig b n X) (hv : valN b X n = x) : ∀ k, k < n → X k = dgF b x k := by
  have h0 := valN_bd hb h
  refine valN_one hb h (dgF_dig hb x n) ?_
  rw [dgF_val hb n, hv, Int.emod_eq_of_lt (by omega) (by omega)]
def wdF (z : Int) : Nat → Int := dgF 18446744073709551616 (z.natAbs : Int)
theorem wdF_is {z : Int} (h : (z.natAbs : Int) < 115792089237316195423570985008687907853269984665640564039457584007913129639936) : isW z (decide (z < 0)) (wdF z) := ⟨rfl, dgF_dig (by decide) _ 4, by unfold wdF; rw [dgF_val (by decide) 4, pw4, Int.emod_eq_of_lt (by omega) h]⟩
def splitF (X : Nat → Int) : Nat → Int := fun k => if k % 2 = 0 then X (k / 2) % 4294967296 else X (k / 2) / 4294967296
def joinF (D : Nat → Int) : Nat → Int := fun k => D (2 * k) + 4294967296 * D (2 * k + 1)
theorem pw_sq (b : Int) : ∀ j, pw b (2 * j) = pw (b * b) j
  | 0 => rfl
  | j + 1 => by rw [show 2 * (j + 1) = 2 * j + 1 + 1 by omega, pw, pw, pw_sq b j, pw, Int.mul_assoc]
theorem split_dig {X : Nat → Int} {n : Nat} (h : dig 18446744073709551616 n X) : dig 4294967296 (2 * n) (splitF X) := fun k hk => by
  have := h (k / 2) (by omega)
  unfold splitF
  split <;> omega
theorem split_val (X : Nat → Int) : ∀ n, valN 4294967296 (splitF X) (2 * n) = valN 18446744073709551616 X n
  | 0 => rfl
  | n + 1 => by
    rw [show 2 * (n + 1) = 2 * n + 1 + 1 by omega, valN, valN, valN, split_val X n, pw, pw_sq 4294967296 n, show (4294967296 : Int) * 4294967296 = 18446744073709551616 by decide]
    have e0 : splitF X (2 * n) = X n % 4294967296 := by unfold splitF; rw [if_pos (by omega), show 2 * n / 2 = n by omega]
    have e1 : splitF X (2 * n + 1) = X n / 4294967296 := by unfold splitF; rw [if_neg (by omega), show (2 * n + 1) / 2 = n by omega]
    rw [e0, e1]
    have := Int.emod_add_mul_ediv (X n) 4294967296
    generalize X n % 4294967296 = r at *
    generalize X n / 4294967296 = q at *
    rw [← this]
    grind
theorem join_dig {D : Nat → Int} {n : Nat} (h : dig 4294967296 (2 * n) D) : dig 18446744073709551616 n (joinF D) := fun k hk => by
  have := h (2 * k) (by omega)
  have := h (2 * k + 1) (by omega)
  unfold joinF
  omega
theorem join_val (D : Nat → Int) : ∀ n, valN 18446744073709551616 (joinF D) n = valN 4294967296 D (2 * n)
  | 0 => rfl
  | n + 1 => by
    rw [show 2 * (n + 1) = 2 * n + 1 + 1 by omega, valN, valN, valN, join_val D n, pw, pw_sq 4294967296 n, show (4294967296 : Int) * 4294967296 = 18446744073709551616 by decide]
    unfold joinF
    grind
theorem join_split {X : Nat → Int} (k : Nat) : joinF (splitF X) k = X k := by
  unfold joinF splitF
  rw [if_pos (by omega), if_neg (by omega), show 2 * k / 2 = k by omega, show (2 * k + 1) / 2 = k by omega]
  omega
/-- cells that are digits -/
def DigAt (w : World) (b n : Nat) (X : Nat → Int) : Prop := ∀ k, k < n → w.cell? ⟨b, k, none⟩ = some (.int .u64 (X k))
theorem DigAt.upd {w : World} {b n i : Nat} {X : Nat → Int} {v : Int} (h : DigAt w b n X) (hi : i < n) : DigAt (w.setCell ⟨b, i, none⟩ (.int .u64 v)) b n (updF X i v) := fun k hk => by
  by_cases hki : k = i
  · subst hki
    rw [World.cell?_setCell_same (h := h k hk)]
    simp [updF]
  · rw [World.cell?_setCell_other _ _ _ _ (by intro he; have := congrArg Addr.off he; simp at this; omega), h k hk]
    simp [updF, hki]
theorem DigAt.below {w w' : World} {b n : Nat} {X : Nat → Int} (h : DigAt w b n X) (hb : Below w.heap.size w w') (hlt : b < w.heap.size) : DigAt w' b n X := fun k hk => (hb.cell (p := ⟨_, _, none⟩) hlt).trans (h k hk)
theorem DigAt.set {w : World} {b n b' i : Nat} {X : Nat → Int} {v : Value} (h : DigAt w b n X) (hne : b ≠ b') : DigAt (w.setCell ⟨b', i, none⟩ v) b n X := fun k hk => by
  rw [World.cell?_setCell_other _ _ _ _ (by intro he; have := congrArg Addr.block he; simp at this; omega)]
  exact h k hk
def FreeAt (w : World) (b n : Nat) : Prop := ∀ k, k < n → w.frozen? ⟨b, k, none⟩ = false
end Go.Proofs.Ytpjdmjmgkdgfnaa
