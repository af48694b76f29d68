/-
  The law PipeParts. Conditions: none. By an AI agent.
-/
import Derived.Test.YtdpppklelfmcjaaPipeL
import Derived.Outline
import Derived.Test.YtdpppklelfmcjaaOpen
import Derived.Test.YtdpppklelfmcjaaRows
namespace Go.Proofs.Ytdpppklelfmcjaa
open Go Go.ChangeShapes Go.WideShapes Go.RowKit Go.ChangeAt
set_option linter.unusedSimpArgs false
set_option linter.unusedVariables false

theorem eql_vec_self (a b c : Int) (W : World) : (binOp .eql 40 (.agg #[.int .i64 a, .int .i64 b, .int .i64 c]) (.agg #[.int .i64 a, .int .i64 b, .int .i64 c])).run Try.prog W = .ok (.bool true) W := by
  rw [eql_vec, decide_eq_true rfl]
theorem eql_place_self (a b c k : Int) (W : World) : (binOp .eql 42 (.agg #[.int .i64 a, .int .i64 b, .int .i64 c, .int .i64 k]) (.agg #[.int .i64 a, .int .i64 b, .int .i64 c, .int .i64 k])).run Try.prog W = .ok (.bool true) W := by
  simp [go_sem]
set_option maxRecDepth 20000 in
set_option maxHeartbeats 4000000 in
theorem same_self (s0 s3 s4 s8 : ByteArray) (a1 a2 a5 a9 b0 b1 b2 b3 b4 b5 b6 b7 : Int) (w : World)  :
    Calls Try.prog 22 #[.agg #[.string s0, .int .i64 a1, .int .i64 a2, .string s3, .string s4, .int .i64 a5, .slice none 0 0, .slice none 0 0, .string s8, .int .i64 a9, .int .i64 b0, .int .i64 b1, .int .i64 b2, .int .i64 b3, .int .i64 b4, .int .i64 b5, .int .i64 b6, .int .i64 b7], .agg #[.string s0, .int .i64 a1, .int .i64 a2, .string s3, .string s4, .int .i64 a5, .slice none 0 0, .slice none 0 0, .string s8, .int .i64 a9, .int .i64 b0, .int .i64 b1, .int .i64 b2, .int .i64 b3, .int .i64 b4, .int .i64 b5, .int .i64 b6, .int .i64 b7]] w fun e w' => e = .returned (.bool true) ∧ Below w.heap.size w w' := by
  have h1 := fun W => eql_vec_self b1 b2 b3 W
  have h2 := fun W => eql_place_self b4 b5 b6 b7 W
  go_enter Try.func22, Try.ntmps22
  go_wp2
  go_returns
  exact ⟨rfl, by first | assumption | go_grown⟩
theorem part_form (id node grade sec : ByteArray) (n : Nat) (x y z : Nat → Int) (r : Int) : ∃ (s0 s3 s4 s8 : ByteArray) (a1 a2 a5 a9 b0 b1 b2 b3 b4 b5 b6 b7 : Int), partF id node grade sec n x y z r = .agg #[.string s0, .int .i64 a1, .int .i64 a2, .string s3, .string s4, .int .i64 a5, .slice none 0 0, .slice none 0 0, .string s8, .int .i64 a9, .int .i64 b0, .int .i64 b1, .int .i64 b2, .int .i64 b3, .int .i64 b4, .int .i64 b5, .int .i64 b6, .int .i64 b7] := by
  unfold partF
  split
  · exact ⟨_, _, _, _, _, _, _, _, _, _, _, _, _, _, _, _, rfl⟩
  · exact ⟨_, _, _, _, _, _, _, _, _, _, _, _, _, _, _, _, rfl⟩
def strsB (P : Program) (t s : TypeId) (k : Nat) : Bool := match P.underlying t with
  | some (.struct fs) => decide (fs.size = k) && decide (P.cellsOf s = 1) && decide (P.cellsOf t = k) && (List.range k).all fun i => match fs.toList[i]? with
    | some f => decide (f.type = s) && decide (f.offset = i)
    | none => false
  | _ => false
theorem strs_of {H : Type} {enc : TypeId × Value → H} {P : Program} {W : World} {t s : TypeId} {k base : Nat} {r : Reach} {v : Value} {d : DataW H} {ps : List MemPlace} {fs : Array Field} (hu : P.underlying t = some (.struct fs)) (hs : P.underlying s = some .string) (hB : strsB P t s k = true)
    (hv : Value.okWide P W r base t v) (h : DataW.Trod enc P W 0 (fun _ => true) true t v d ps) : ∃ l : List Value, v = .agg l.toArray ∧ l.length = k ∧ ∀ i, i < k → ∃ x : ByteArray, l[i]? = some (.string x) := by
  obtain ⟨⟨l⟩, rfl, hsz⟩ := okWide_struct hu hv
  obtain ⟨fuel, hf⟩ := h
  have hf' : DataW.trod enc P W 0 (fun _ => true) true fuel t l = some (d, ps) := by simpa [Value.cells] using hf
  obtain ⟨xs, m, _, _, hlen, hxl, hfl⟩ := DataW.trod_struct hu hf'
  unfold strsB at hB
  rw [hu] at hB
  simp only [Bool.and_eq_true, decide_eq_true_eq] at hB
  obtain ⟨⟨⟨h1, h2⟩, h3⟩, h4⟩ := hB
  refine ⟨l, rfl, hlen.trans h3, fun i hi => ?_⟩
  have h5 := List.all_eq_true.1 h4 i (List.mem_range.2 hi)
  split at h5
  · rename_i f hfi
    simp only [Bool.and_eq_true, decide_eq_true_eq] at h5
    have h6 := hfl i f (by simpa using hfi)
    have hxi : i < xs.length := by rw [hxl]; simpa using (by omega : i < fs.size)
    rw [List.getElem?_eq_getElem hxi, h5.1, h5.2, h2] at h6
    have hll : i < l.length := by omega
    have h7 : (l.drop i).take 1 = [l[i]] := by
      rw [List.drop_eq_getElem_cons hll]; rfl
    rw [h7] at h6
    obtain ⟨x, e0, -, -⟩ := DataW.trod_string hs h6
    exact ⟨x, by rw [List.getElem?_eq_getElem hll]; simpa using e0⟩
  · cases h5
theorem names_of {H : Type} {enc : TypeId × Value → H} {W : World} {base : Nat} {r : Reach} {v : Value} {d : DataW H} {ps : List MemPlace} (hv : Value.okWide Try.prog W r base 34 v) (h : DataW.Trod enc Try.prog W 0 (fun _ => true) true 34 v d ps) :
    ∃ a b c e : ByteArray, v = .agg #[.string a, .string b, .string c, .string e] := by
  obtain ⟨l, rfl, hl, hx⟩ := strs_of (fs := Try.prog.fieldsOf 34) (s := 9) (k := 4) (by kernel_rfl) (by kernel_rfl) (by kernel_rfl) hv h
  match l, hl with
  | [c0, c1, c2, c3], _ =>
    obtain ⟨a, ha⟩ := hx 0 (by omega)
    obtain ⟨b, hb⟩ := hx 1 (by omega)
    obtain ⟨c, hc⟩ := hx 2 (by omega)
    obtain ⟨e, he⟩ := hx 3 (by omega)
    simp only [List.getElem?_cons_zero, List.getElem?_cons_succ, Option.some.injEq] at ha hb hc he
    subst ha hb hc he
    exact ⟨a, b, c, e, rfl⟩
set_option maxRecDepth 20000 in
set_option maxHeartbeats 4000000 in
theorem pipeParts_walk (id node grade sec : ByteArray) (v : Value) (n : Nat) (x y z : Nat → Int) (r : Int) (w : World) (h : VecsAt w v n x y z) :
    Calls Try.prog 5 #[.agg #[.string id, .string node, .string grade, .string sec], v, .int .i64 r] w fun e w' => e = .returned (.bool true) ∧ Below w.heap.size w w' := by
  obtain ⟨oa, cap, rfl, hn0, -⟩ := h.form
  have HV := Lib.hid h
  clear h
  by_cases hs : n ≤ 60
  · obtain ⟨C, hC⟩ : ∃ C, partE n x y z r = C := ⟨_, rfl⟩
    obtain ⟨s0, s3, s4, s8, a1, a2, a5, a9, b0, b1, b2, b3, b4, b5, b6, b7, hP⟩ := part_form id node grade sec n x y z r
    have HC := Lib.hid hC
    have HP := Lib.hid hP
    clear hC hP
    have HV0 : Hid (VecsAt (w.alloc (.cells #[.string id, .string node, .string grade, .string sec] 34)) (.slice oa n cap) n x y z) := HV.out.below ((Below.refl _ _).alloc (Nat.le_refl _) _)
    go_enter Try.func5, Try.ntmps5
    go_wp2_with fail
    (go_at_call 20; refine (part_pts _ _ _ _ _ _ _ _ _ _ _ HV0.out).mono ?_; rintro e w1 ⟨rfl, hb⟩)
    rw [HP.out, HC.out]
    have HV1 := Lib.hid (HV0.out.below hb)
    have HB1 := Lib.hid (below_step (w := w) ((Below.refl _ _).alloc (Nat.le_refl _) _) hb)
    have qn1 := (hb.block w.heap.size (by simp)).trans (heapA_at w _ _ rfl)
    have z1 : w.heap.size < w1.heap.size := (Array.getElem?_eq_some_iff.1 qn1).1
    clear hb HV0
    go_wp2_with (with_reducible refine wpList_store_all 44 w1.heap.size 18 _ 44 part_size rfl rfl rfl rfl (⟨_, (MapKept.heap_alloc w1 _).1, rfl⟩) ?_; intro w2 hs; have hb : Below w1.heap.size w1 w2 := Stored.below ((Below.refl _ _).alloc (Nat.le_refl _) _) hs (Nat.le_refl _); obtain ⟨c0, c1, c2, c3, cf, -⟩ := cells_at4 ((hb.block _ z1).trans qn1))
    have HV2 := Lib.hid (HV1.out.below hb)
    have HB2 := Lib.hid (below_step (w := w) HB1.out hb)
    have qn2 := (hb.block _ z1).trans qn1
    have Q2 := Lib.hid hs.here
    have y2 : w1.heap.size < w2.heap.size := (Array.getElem?_eq_some_iff.1 hs.here).1
    have z2 : w.heap.size < w2.heap.size := (Array.getElem?_eq_some_iff.1 qn2).1
    have QN2 := Lib.hid qn2
    clear hs hb HV1 qn1 qn2
    go_wp2_with fail
    (go_at_call 21; refine (rpart_pts _ _ _ _ _ _ _ _ _ _ _ HV2.out).mono ?_; rintro e w3 ⟨rfl, hb⟩)
    rw [HP.out, HC.out]
    have HB3 := Lib.hid (below_step (w := w) HB2.out hb)
    have Q3 := Lib.hid ((hb.block _ y2).trans Q2.out)
    have y3 : w1.heap.size < w3.heap.size := (Array.getElem?_eq_some_iff.1 Q3.out).1
    clear hb HV2 Q2 c0 c1 c2 c3 cf
    go_wp2_with (first | (with_reducible refine wpList_store_all 44 w3.heap.size 18 _ 44 part_size rfl rfl rfl rfl (⟨_, (MapKept.heap_alloc w3 _).1, rfl⟩) ?_; intro w4 hs; have hb : Below w3.heap.size w3 w4 := Stored.below ((Below.refl _ _).alloc (Nat.le_refl _) _) hs (Nat.le_refl _); have Q4 := Lib.hid ((hb.block _ y3).trans Q3.out); have R4 := Lib.hid hs.here) | (with_reducible refine wpList_load_all 44 w1.heap.size 18 _ 44 _ part_under part_size rfl rfl Q4.out ?_) | (with_reducible refine wpList_load_all 44 w3.heap.size 18 _ 44 _ part_under part_size rfl rfl R4.out ?_))
    have HB4 := Lib.hid (below_step (w := w) HB3.out hb)
    clear hs hb Q3
    (go_at_call 22; refine (same_self _ _ _ _ _ _ _ _ _ _ _ _ _ _ _ _ _).mono ?_; rintro e w5 ⟨rfl, hb⟩)
    have HB5 := Lib.hid (below_step HB4.out hb)
    clear hb
    go_wp2_with fail
    (go_at_call 10; refine (awake_any _).mono ?_; rintro e w6 ⟨rfl, hb⟩)
    have HB6 := Lib.hid (below_step HB5.out hb)
    clear hb
    go_wp2
    go_returns
    exact ⟨rfl, HB6.out⟩
  · have hb60 : 60 < n := by omega
    clear hs
    go_enter Try.func5, Try.ntmps5
    go_wp2_with fail
    (go_at_call 10; refine (awake_any _).mono ?_; rintro e w1 ⟨rfl, hb⟩)
    have HB1 := Lib.hid (below_step (w := w) ((Below.refl _ _).alloc (Nat.le_refl _) _) hb)
    clear hb
    go_wp2
    go_returns
    exact ⟨rfl, HB1.out⟩

set_option maxRecDepth 100000 in
theorem pipeParts_contract (H : Type) (enc : TypeId × Value → H) (W : World) (base : Nat) (args : Array Value) (ds gs : List (DataW H)) (before : List MemPlace)
    (hval : ∀ (j : Nat) t v, Try.f5.params[j]? = some t → args[j]? = some v → Value.okWide Try.prog W .any base t v)
    (hW : DataW.Whole enc Try.prog Try.f5.params.toList Rows.pipePartsSpec.vars false W args.toList ds gs before) (hL : laidMetH Try.prog Rows.pipePartsRow.laid W) :
    Calls Try.prog 5 args W fun e W' => ∃ v, e = .returned v ∧ Rows.pipePartsSpec.post enc Try.prog Try.f5 false true false false W args v W' := by
  have hW' := hW
  obtain ⟨p, q, hA0, hV, rfl, hfz, hnd⟩ := hW
  have hA : DataW.TrodAll enc Try.prog W 0 (fun _ => true) true Try.f5.params.toList args.toList ds p := hA0
  rw [Try.params5] at hA hval
  obtain ⟨v0, vs0, d0, ds0, p0, q0, hargs, rfl, rfl, h0, r0⟩ := trodAll_cons hA
  obtain ⟨v1, vs1, d1, ds1, p1, q1, rfl, rfl, rfl, h1, r1⟩ := trodAll_cons r0
  obtain ⟨v2, vs2, d2, ds2, p2, q2, rfl, rfl, rfl, h2, r2⟩ := trodAll_cons r1
  obtain ⟨rfl, rfl, rfl⟩ := trodAll_nil r2
  obtain rfl : args = #[v0, v1, v2] := by cases args; simp_all
  obtain ⟨id, node, grade, sec, rfl⟩ := names_of (hval 0 34 v0 rfl rfl) h0
  obtain ⟨n, ff, hff, hbd⟩ := flat_slice (n := 8) (e := 40) (sz := 3) (by kernel_rfl) (by kernel_rfl) (by decide) (by kernel_rfl) (hval 1 22 v1 rfl rfl) h1
  have hvv := vecs_of_flat hff
  obtain ⟨r, rfl, rfl, rfl, _w2⟩ := open_int Try.underlying3 (hval 2 3 v2 rfl rfl) h2
  refine (pipeParts_walk id node grade sec _ n _ _ _ r W hvv).mono fun e W' ⟨he, hb⟩ => ?_
  subst he
  exact ⟨_, rfl, law_post laidOut (by kernel_rfl) (by kernel_rfl) Try.underlying4 rfl hW' (fun _ => rfl) hb⟩
theorem pipeParts_reads (os : Os) {H : Type} (enc : TypeId × Value → H) : ∃ places, DataW.whole enc Try.prog ((World.settled Try.prog os).forCall (fun _ _ => 0) ⟨#[], #[.agg #[.string ⟨#[]⟩, .string ⟨#[]⟩, .string ⟨#[]⟩, .string ⟨#[]⟩], .slice none 0 0, .int .i64 0], []⟩).memory Try.f5.params.toList Rows.pipePartsSpec.vars false (#[.agg #[.string ⟨#[]⟩, .string ⟨#[]⟩, .string ⟨#[]⟩, .string ⟨#[]⟩], .slice none 0 0, .int .i64 0] : Array Value).toList 8 = some ([.agg [.lit (.string []), .lit (.string []), .lit (.string []), .lit (.string [])], .nil, .lit (.int .i64 0)], [], places) := ⟨[], by kernel_rfl⟩
set_option maxRecDepth 100000 in
theorem pipeParts_lifted (os : Os) (started : os.Started) (H : Type) (enc : TypeId × Value → H) (F : Stop.Interp) :
    ReturnsInHanded {} Try.checked os 5 .any ((OpenSpec.ofChange Rows.pipePartsSpec).preRow enc Try.prog Try.f5 Rows.pipePartsRow.domain false Rows.pipePartsRow.laid) (((OpenSpec.ofChange Rows.pipePartsSpec).at F).post enc Try.prog Try.f5 false true false false) := by
  obtain ⟨places, hx⟩ := pipeParts_reads os enc
  refine returnsInHanded_of_row (C := Try.checked) (s := OpenSpec.ofChange Rows.pipePartsSpec) own started (by kernel_rfl) Try.func5
    (witness_row_at (enc := enc) (C := Try.checked) false (World.settled Try.prog os) #[.agg #[.string ⟨#[]⟩, .string ⟨#[]⟩, .string ⟨#[]⟩, .string ⟨#[]⟩], .slice none 0 0, .int .i64 0] rfl (by kernel_rfl) (by kernel_rfl) (by kernel_rfl)
      (OpenSpec.preRow_of_cond 8 hx (by kernel_rfl) (fun k hk => by cases hk) (by kernel_rfl) (laidMet_nil _ _))) ?_
  intro W base args ds gs before hval hW _ _ _ hL _ _
  exact pipeParts_contract H enc W base args ds gs before hval hW hL
theorem pipeParts_said : Rows.PipePartsSaid :=
  OpenClaim.holds_of_cond 5 Try.f5 rfl rfl rfl rfl rfl rfl rfl ⟨rfl, rfl, rfl, rfl, rfl⟩ rfl rfl rfl rfl rfl (by kernel_rfl) Try.func5 (by kernel_rfl)
    (of_decide_eq_true (by kernel_rfl)) (by unfold Func.isWrapper; rw [if_neg (of_decide_eq_false (by kernel_rfl))]; exact ⟨rfl, rfl⟩)
    (fun os started H enc _ F => by rw [OpenClaim.pre_eq_preRow]; exact pipeParts_lifted os started H enc F)
#print axioms pipeParts_said
end Go.Proofs.Ytdpppklelfmcjaa
