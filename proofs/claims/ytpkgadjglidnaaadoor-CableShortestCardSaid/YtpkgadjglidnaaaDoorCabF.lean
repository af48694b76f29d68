/-
  What Route returns (plain); paths in memory. Conditions: as stated. By an AI agent.
-/
import Derived.Test.YtpkgadjglidnaaaDoorCabD
import Derived.Test.YtpkgadjglidnaaaDoorCabC
import Derived.Test.YtpkgadjglidnaaaDoorOwn
namespace Go.Proofs.YtpkgadjglidnaaaDoor
open Go Go.ChangeShapes Go.WideShapes Go.RowKit Go.ChangeAt
set_option linter.unusedVariables false
set_option linter.unusedSimpArgs false

def usU (T : Nat → Tr) (F : Nat → Int) (c : Cb) (i : Nat) : Bool := decide (c.sz ≤ (T i).S - F i)
noncomputable def routeErr (n : Nat) (T : Nat → Tr) (nu : Nat) (F : Nat → Int) (c : Cb) : Int :=
  if checkF n T 1 (fun _ => c) ≠ 0 then checkF n T 1 (fun _ => c) else if nu ≠ n then 17 else if allTo (fun i => inB (F i) 0 1000000) nu = false then 9 else if distF n T (usU T F c) c.to c.fr < 0 then 8 else 0
noncomputable def routeP (n : Nat) (T : Nat → Tr) (nu : Nat) (F : Nat → Int) (c : Cb) : List Nat := if routeErr n T nu F c = 0 then routeL n T (usU T F c) c.to c.fr else []
noncomputable def routeD (n : Nat) (T : Nat → Tr) (nu : Nat) (F : Nat → Int) (c : Cb) : Int := if routeErr n T nu F c = 0 then distF n T (usU T F c) c.to c.fr else 0
theorem routeErr_1 {n nu : Nat} {T : Nat → Tr} {F : Nat → Int} {c : Cb} (h : checkF n T 1 (fun _ => c) ≠ 0) : routeErr n T nu F c = checkF n T 1 (fun _ => c) := if_pos h
theorem routeErr_2 {n nu : Nat} {T : Nat → Tr} {F : Nat → Int} {c : Cb} (h : checkF n T 1 (fun _ => c) = 0) (h1 : nu ≠ n) : routeErr n T nu F c = 17 := by
  unfold routeErr
  rw [if_neg (by simpa using h), if_pos h1]
theorem routeErr_3 {n : Nat} {T : Nat → Tr} {F : Nat → Int} {c : Cb} (h : checkF n T 1 (fun _ => c) = 0) {j : Nat} (hj : j < n) (h1 : inB (F j) 0 1000000 = false) : routeErr n T n F c = 9 := by
  unfold routeErr
  rw [if_neg (by simpa using h), if_neg (by simp), if_pos (allTo_no hj h1)]
theorem routeErr_4 {n : Nat} {T : Nat → Tr} {F : Nat → Int} {c : Cb} (h : checkF n T 1 (fun _ => c) = 0) (h1 : ∀ i, i < n → inB (F i) 0 1000000 = true) : routeErr n T n F c = if distF n T (usU T F c) c.to c.fr < 0 then 8 else 0 := by
  unfold routeErr
  rw [if_neg (by simpa using h), if_neg (by simp), if_neg (by rw [allTo_iff.2 h1]; decide)]
theorem routeP_no {n nu : Nat} {T : Nat → Tr} {F : Nat → Int} {c : Cb} (h : routeErr n T nu F c ≠ 0) : routeP n T nu F c = [] ∧ routeD n T nu F c = 0 := ⟨if_neg h, if_neg h⟩
theorem check1_ok {n : Nat} {T : Nat → Tr} {c : Cb} (h : checkF n T 1 (fun _ => c) = 0) : n ≤ 64 ∧ (∀ i, i < n → (T i).ok) ∧ CbOk (fun _ => c) 0 := ⟨(checkF_ok h).1, (checkF_ok h).2.2.1, (checkF_ok h).2.2.2 0 (by omega)⟩
/-- what a path of trays is as values -/
def lvals (xs : List Nat) : List Value := xs.map fun (i : Nat) => Value.int .i64 (i : Int)
theorem lvals_snoc (xs : List Nat) (i : Nat) : lvals xs ++ [.int .i64 (i : Int)] = lvals (xs ++ [i]) := by simp [lvals]
def pathF (xs : List Nat) (i : Nat) : Int := ((xs.getD i 0 : Nat) : Int)
def PathAt (w : World) (v : Value) (xs : List Nat) : Prop := IntsAt w v xs.length (pathF xs)
theorem PathAt.below {w w' : World} {v : Value} {xs : List Nat} (h : PathAt w v xs) (hb : Below w.heap.size w w') : PathAt w' v xs := IntsAt.below h hb
theorem path_nil (w : World) : PathAt w (.slice none 0 0) [] := intsAt_nil w _
theorem owns_path {w : World} {base : Nat} {e : TypeId} {v : Value} {xs : List Nat} (h : w.ownsRow base e 1 v xs.length (lvals xs)) : PathAt w v xs :=
  owns_slice h _ (by decide) fun i j hi hj => by
    have : j = 0 := by omega
    subst this
    simp [lvals, pathF, hi]
/-- the way so far: all that begins at v goes on from it -/
def Pre (n : Nat) (T : Nat → Tr) (U : Nat → Bool) (to fr v : Int) (xs : List Nat) : Prop :=
  0 ≤ v ∧ v ≤ 255 ∧ 0 ≤ distF n T U to v ∧ (xs.length : Int) + distF n T U to v ≤ distF n T U to fr ∧ ∀ q, Gr n T U (distF n T U to) to v q → Gr n T U (distF n T U to) to fr (xs ++ q)
theorem Pre.start {n : Nat} {T : Nat → Tr} {U : Nat → Bool} {to fr : Int} (h : 0 ≤ fr ∧ fr ≤ 255) (hd : 0 ≤ distF n T U to fr) : Pre n T U to fr fr [] := ⟨h.1, h.2, hd, by simp, fun q hq => hq⟩
theorem Pre.step {n : Nat} {T : Nat → Tr} {U : Nat → Bool} {to fr v w : Int} {xs : List Nat} {i : Nat} (hT : ∀ i, i < n → (T i).ok) (h : Pre n T U to fr v xs) (hne : v ≠ to) (hs : StepOk n T U (distF n T U to) v i w) (hl : ∀ j, j < i → ∀ w', ¬ StepOk n T U (distF n T U to) v j w') :
    Pre n T U to fr w (xs ++ [i]) ∧ (distF n T U to w).toNat < (distF n T U to v).toNat := by
  obtain ⟨h1, h2, h3, h4, h5⟩ := h
  have hok := hT i hs.1
  have hr := hs.2.2.1.range hok
  unfold Tr.ok at hok
  have he := hs.2.2.2.2
  have hw := hs.2.2.2.1
  refine ⟨⟨hr.2.2.1, hr.2.2.2.1, hw, by simp; omega, fun q hq => ?_⟩, by omega⟩
  have := h5 (i :: q) (.cons hne hs hl hq)
  simpa using this
theorem Pre.none {n : Nat} {T : Nat → Tr} {U : Nat → Bool} {to fr v : Int} {xs : List Nat} (hT : ∀ i, i < n → (T i).ok) (h : Pre n T U to fr v xs) (hne : v ≠ to) (hl : ∀ j, j < n → ∀ w', ¬ StepOk n T U (distF n T U to) v j w') : False := by
  obtain ⟨h1, h2, h3, h4, h5⟩ := h
  obtain ⟨i, w, hs⟩ := (distF_is hT).first hT ⟨h1, h2⟩ h3 hne
  exact hl i hs.1 w hs
theorem Pre.done {n : Nat} {T : Nat → Tr} {U : Nat → Bool} {to fr : Int} {xs : List Nat} (hT : ∀ i, i < n → (T i).ok) (h : Pre n T U to fr to xs) : routeL n T U to fr = xs := by
  have := h.2.2.2.2 [] .nil
  rw [List.append_nil] at this
  exact gr_routeL hT this
theorem not_step_B {n : Nat} {T : Nat → Tr} {U : Nat → Bool} {D : Int → Int} {v : Int} {i : Nat} (ht : (T i).ok) (h : othB (T i).A (T i).B v = false) : ∀ w, ¬ StepOk n T U D v i w := fun w hs => by
  have := ((oth_goes ht.2.2.2.2.2.2.2.2).1 hs.2.2.1).1
  rw [h] at this
  cases this
theorem not_step_U {n : Nat} {T : Nat → Tr} {U : Nat → Bool} {D : Int → Int} {v : Int} {i : Nat} (h : U i = false) : ∀ w, ¬ StepOk n T U D v i w := fun w hs => by
  have := hs.2.1
  rw [h] at this
  cases this
theorem not_step_D {n : Nat} {T : Nat → Tr} {U : Nat → Bool} {D : Int → Int} {v w : Int} {i : Nat} (ht : (T i).ok) (hg : Goes (T i) v w) (h : ¬ (0 ≤ D w ∧ D w + (T i).L = D v)) : ∀ w, ¬ StepOk n T U D v i w := fun w' hs => by
  have := hs.2.2.1.uniq ht.2.2.2.2.2.2.2.2 hg
  subst this
  exact h hs.2.2.2
theorem one_cab (W : World) (b : Nat) (ci : ByteArray) (cf ct cs : Int) (t : TypeId) (h : W.heap[b]? = some (.cells #[.string ci, .int .i64 cf, .int .i64 ct, .int .i64 cs] t)) : CabsAt W (.slice (some ⟨b, 0, none⟩) 1 1) 1 (fun _ => ⟨ci, cf, ct, cs⟩) := by
  refine ⟨some ⟨b, 0, none⟩, 1, rfl, by omega, by omega, fun _ => ⟨b, 0, rfl, (Array.getElem?_eq_some_iff.1 h).1, fun i j hi hj => ?_⟩⟩
  obtain ⟨h0, h1, h2, h3, -, -⟩ := cells_at4 h
  obtain rfl : i = 0 := by omega
  match j, hj with
  | 0, _ => simpa [cbV] using h0
  | 1, _ => simpa [cbV] using h1
  | 2, _ => simpa [cbV] using h2
  | 3, _ => simpa [cbV] using h3
theorem bools_of {W : World} {b n : Nat} {U V : Nat → Bool} {t : TypeId} (h : W.heap[b]? = some (.cells (arrB n U) t)) (hn : n ≤ 9223372036854775807) (he : ∀ i, i < n → U i = V i) : BoolsAt W (.slice (some ⟨b, 0, none⟩) n n) n V :=
  ⟨some ⟨b, 0, none⟩, n, rfl, Nat.le_refl _, hn, fun _ => ⟨b, 0, rfl, (Array.getElem?_eq_some_iff.1 h).1, fun i j hi hj => by
    obtain rfl : j = 0 := by omega
    have := arrB_cell h hi
    rw [he i hi] at this
    simpa using this⟩⟩
theorem cell_other {w : World} {b b' i o : Nat} {v x : Value} (h : w.cell? ⟨b, o, none⟩ = some v) (hb : b ≠ b') : (w.setCell ⟨b', i, none⟩ x).cell? ⟨b, o, none⟩ = some v := by
  unfold World.cell? at h ⊢
  dsimp only at h ⊢
  rw [heap_setCell_other _ _ _ _ hb]
  exact h
theorem wpList_append2 {P : Program} {w : World} {ops : Array Oper} {rest : List Oper} {o : Oper} {a : Act} {Q : Exit → Act → World → Prop} (hgd : o.guard = none) (s x : Operand) (t : TypeId)
    (ho : o.op = .call { callee := .builtin .append, args := #[s, x], argTypes := #[t, t] })
    (base : Nat) (e : TypeId) (i : TypeInfo) (z : Value) (size bytes : Nat) (ht : P.underlying t = some (.slice e)) (hi : P.info? e = some i) (hz : i.zero = some z)
    (hsize : i.size = size) (hby : i.bytes = bytes) (hzs : z.cells.size = size) (hsz : 0 < size)
    (v : Value) (n : Nat) (xs : List Value) (hs : a.eval s = v) (hown : w.ownsRow base e size v n xs)
    (oa : Option Addr) (m c : Nat) (news : List Value) (hx : a.eval x = .slice oa m c) (hl : news.length = m * size) (h0 : oa = none → m = 0) (hnews : ∀ ad, oa = some ad → ∀ j u, news[j]? = some u → w.cell? (ad.add j) = some u) (h1 : ∀ u ∈ news, u.oneCell' = true)
    (h63 : n + m ≤ maxLen) (hbytes : (n + m) * bytes ≤ 140737488355328) (hbase : base ≤ w.heap.size)
    (h : ∀ v' w', w'.ownsRow base e size v' (n + m) (xs ++ news) → w.grownBy w' v.ownBlock → (∀ b, v'.ownBlock = some b → w.heap.size ≤ b ∨ v.ownBlock = some b) → wpList P ops Q rest (a.put o.dst v') w') : wpList P ops Q (o :: rest) a w := by
  refine wpList_plain hgd fun K hK => ?_
  obtain ⟨v', w', r1, r2, r3, r4⟩ := run_append_own2 w base t o.type e i z size bytes ht hi hz hsize hby hzs hsz v n xs hown oa m c news hl h0 hnews h1 h63 hbytes hbase
  have hk := h v' w' r2 r3 r4
  unfold Oper.wp
  simp [execOp, ho, resolve, invoke, builtin, hs, hx, r1, Result.andThen]
  exact hK _ _ hk
theorem add0 (g q : Nat) : (⟨g, 0, none⟩ : Addr).add q = ⟨g, q, none⟩ := by unfold Addr.add; split <;> simp_all
theorem built_cells {w : World} {g : Nat} {xs : Array Value} {t : TypeId} (h : w.heap[g]? = some (.cells xs t)) : ∀ j u, xs.toList[j]? = some u → w.cell? ((⟨g, 0, none⟩ : Addr).add j) = some u := fun j u hj => by
  rw [add0, cell_of_row w g j xs t (0, 0) h]
  simpa using hj
theorem arrI_oneL (k : Nat) (F : Nat → Int) : (arrI k F).toList.all (fun v => v.oneCell') = true := by simp [arrI, Value.oneCell']
end Go.Proofs.YtpkgadjglidnaaaDoor
