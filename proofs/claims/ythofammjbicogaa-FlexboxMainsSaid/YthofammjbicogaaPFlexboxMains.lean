/-
  The statement Rows.FlexboxMainsSaid: for whatever input the function returns true, and each argument reads as it did. No condition.
-/
import Derived.Test.YthofammjbicogaaRows
import Derived.Test.YthofammjbicogaaZ9
import Derived.Test.YthofammjbicogaaFacts
import Derived.Test.YthofammjbicogaaYFlQ
import Derived.Test.YthofammjbicogaaYOpen
namespace Go.Proofs.Ythofammjbicogaa.flexboxMains
open Go.ChangeShapes Go.WideShapes Go.ChangeAt Go.RowKit Go.Joins Go.Deep
set_option linter.unusedVariables false

theorem own : ownKnob Try.prog.godebug = none := by kernel_rfl

theorem walk (ao0 : Option Addr) (n0 : Nat) (c0 : Nat) (xs0 : List Int) (u1 : Value) (m1 : Nat) (bs1 : List Bool) (a2 : Int) (a3 : Int) (a4 : Int) (a5 : Bool) (a6 : Bool) (w : World) (hn0 : n0 ≤ maxLen) (hr0 : RowV w ao0 n0 1 (xs0.map fun x => .int .i64 x)) (hw0 : ∀ x ∈ xs0, (Lit.int .i64 x).wf = true) (hs1 : SlB w u1 m1 bs1) (w2 : (Lit.int .i64 a2).wf = true) (w3 : (Lit.int .i64 a3).wf = true) (w4 : (Lit.int .i64 a4).wf = true) :
    Calls Try.prog 7 #[.agg #[.slice ao0 n0 c0, u1, .int .i64 a2, .int .i64 a3, .int .i64 a4, .bool a5, .bool a6]] w fun e w' => e = .returned (.bool true) ∧ Below w.heap.size w w' :=
  law_mains ao0 n0 c0 m1 u1 xs0 bs1 a2 a3 a4 a5 a6 hn0 (fit_of_wf w2) (fit_of_wf w3) w hr0.ints hs1

set_option maxRecDepth 100000 in
theorem lifted (os : Os) (started : os.Started) (H : Type) (enc : TypeId × Value → H) :
    ReturnsInHanded {} Try.checked os 7 .any (Rows.flexboxMainsSpec.pre6 enc Try.prog Try.f7 Rows.flexboxMainsRow.domain false) (Rows.flexboxMainsSpec.post enc Try.prog Try.f7 false true false false) := by
  refine returnsInHanded_of_change (C := Try.checked) own started (by kernel_rfl) Try.func7
    (ChangeSpec.witness6 (enc := enc) (C := Try.checked) false ⟨#[], #[.agg #[.slice none 0 0, .slice none 0 0, .int .i64 0, .int .i64 0, .int .i64 0, .bool false, .bool false]], []⟩ 8 (by kernel_rfl) (by kernel_rfl) (by kernel_rfl) (by kernel_rfl)) ?_
  intro W base args ds gs before hval0 hW hcnd _
  have hval : ∀ (j : Nat) t v, Try.f7.params[j]? = some t → args[j]? = some v → Value.okWide Try.prog W .any base t v := hval0
  have hW' := hW
  obtain ⟨p, q, hA0, hV, rfl, hfz, hnd⟩ := hW
  have hA : DataW.TrodAll enc Try.prog W 0 (fun _ => true) true Try.f7.params.toList args.toList ds p := hA0
  obtain ⟨rfl, rfl⟩ := trodVars_none hV
  rw [List.append_nil] at hfz
  have hlt : ∀ x ∈ p, x.block < W.heap.size := fun x hx => hW'.lt x (List.mem_append_left _ hx)
  rw [Try.params7] at hA hval
  obtain ⟨v0, vs0, d0, ds0, p0, q0, hargs, rfl, rfl, h0, r0⟩ := trodAll_cons hA
  obtain ⟨rfl, rfl, rfl⟩ := trodAll_nil r0
  obtain rfl : args = #[v0] := by cases args; simp_all
  have fz0 : W.noneFrozen p0 ∧ ∀ x ∈ p0, x.block < W.heap.size := ⟨fun b off hx => hfz b off (by simp [hx]), fun x hx => hlt x (by simp [hx])⟩
  have hpost : ∀ W', Below W.heap.size W W' → Rows.flexboxMainsSpec.post enc Try.prog Try.f7 false true false false W #[v0] (.bool true) W' := fun W' hB =>
    post_law fact_laidOut fact_mapsRowed slices_full hW' rfl (by rw [Try.params7]; decide) rfl Try.underlying4 rfl hB
  clear hW' hA0 hval0 hfz hlt hA
  obtain ⟨l0, rfl, e0, f0⟩ := open_flat Try.underlying60 (by kernel_rfl) (by kernel_rfl) (hval 0 60 v0 rfl rfl) h0
  obtain ⟨u0, y0, n_0, g0, t0⟩ := f0 0 _ rfl
  have k0 := cell_ok (tu := 31) Try.underlying60 (hval 0 60 (.agg l0.toArray) rfl rfl) (show Try.prog.cellTypes Try.prog.depth 60 = some [31, 58, 2, 2, 3, 4, 4] by kernel_rfl) (i := 0) rfl g0
  obtain ⟨ao0, n0, c0, xs0, rfl, hn0, hr0, hw0⟩ := open_row_ints (k := .i64) Try.underlying31 Try.underlying2 (by kernel_rfl) k0 t0
  obtain ⟨u1, y1, n_1, g1, t1⟩ := f0 1 _ rfl
  have k1 := cell_ok (tu := 58) Try.underlying60 (hval 0 60 (.agg l0.toArray) rfl rfl) (show Try.prog.cellTypes Try.prog.depth 60 = some [31, 58, 2, 2, 3, 4, 4] by kernel_rfl) (i := 1) rfl g1
  obtain ⟨m1, bs1, hs1⟩ := open_row_marks Try.underlying58 Try.underlying71 Try.underlying4 (by kernel_rfl) (by kernel_rfl) k1 t1
  obtain ⟨a2, g2, w2⟩ := flat_int (t := 2) Try.underlying2 (f0 2 _ rfl)
  obtain ⟨a3, g3, w3⟩ := flat_int (t := 2) Try.underlying2 (f0 3 _ rfl)
  obtain ⟨a4, g4, w4⟩ := flat_int (t := 3) Try.underlying3 (f0 4 _ rfl)
  obtain ⟨a5, g5⟩ := flat_bool (t := 4) Try.underlying4 (f0 5 _ rfl)
  obtain ⟨a6, g6⟩ := flat_bool (t := 4) Try.underlying4 (f0 6 _ rfl)
  obtain rfl : l0 = [.slice ao0 n0 c0, u1, .int .i64 a2, .int .i64 a3, .int .i64 a4, .bool a5, .bool a6] := list_by e0 (list_step g0 (list_step g1 (list_step g2 (list_step g3 (list_step g4 (list_step g5 (list_step g6 (list_end))))))))
  refine (walk ao0 n0 c0 xs0 u1 m1 bs1 a2 a3 a4 a5 a6 W hn0 hr0 hw0 hs1 w2 w3 w4).mono fun e W' ⟨he, hg⟩ => ?_
  subst he
  exact ⟨_, rfl, hpost W' hg⟩

theorem c1 : Rows.flexboxMainsRow.wf (OpenSpec.ofChange Rows.flexboxMainsSpec) = true := by kernel_rfl
theorem c4 : Try.f7.params.all (Try.prog.readableRec ·) = true := by kernel_rfl
theorem c5 : namedTie Try.prog Rows.flexboxMainsRow.named Rows.flexboxMainsSpec.vars = true := by kernel_rfl
theorem c6 : (Rows.flexboxMainsRow.stops == []) = true := by kernel_rfl
theorem c8 : (Rows.flexboxMainsRow.knobs == []) = true := by kernel_rfl
theorem c10 : (Rows.flexboxMainsRow.inPlace == Try.prog.inPlace 7) = true := by kernel_rfl
theorem c11 : (Rows.flexboxMainsRow.unfollowed == Try.prog.unfollowed 7) = true := by kernel_rfl
theorem c12 : (Rows.flexboxMainsRow.recurses == Try.prog.recurses 7) = true := by kernel_rfl
theorem c13 : (Rows.flexboxMainsRow.named == Try.prog.varsNamed 7) = true := by kernel_rfl
theorem c14 : (Rows.flexboxMainsRow.maps == (Try.f7.params.toList ++ Rows.flexboxMainsSpec.plain.varTypes Try.prog).any (Try.prog.mapsRec ·)) = true := by kernel_rfl
theorem c15 : (Rows.flexboxMainsRow.ifaces == (Try.f7.params.toList ++ Rows.flexboxMainsSpec.plain.varTypes Try.prog).any (Try.prog.ifacesRec ·)) = true := by kernel_rfl
theorem c16 : (Rows.flexboxMainsRow.mapsOut == Try.prog.mapsAmong Try.f7.resultTypes.toList) = true := by kernel_rfl
theorem c17 : (Rows.flexboxMainsRow.loops == (Try.f7.params.toList ++ Rows.flexboxMainsSpec.plain.varTypes Try.prog).any (Try.prog.loopsFrom ·)) = true := by kernel_rfl
theorem c18 : (Rows.flexboxMainsRow.wideKeys == (Try.f7.params.toList ++ Rows.flexboxMainsSpec.plain.varTypes Try.prog ++ Try.f7.resultTypes.toList).any (Try.prog.wideKeysFrom ·)) = true := by kernel_rfl
theorem c19 : Rows.flexboxMainsSpec.vars.all (Try.prog.varReadable ·) = true := by kernel_rfl
theorem c20 : Try.f7.resultTypes.all (fun t => Try.prog.readableRec t && decide (t < Try.prog.types.size)) = true := by kernel_rfl
theorem c21 : (Rows.flexboxMainsRow.ifacesOut == Try.f7.resultTypes.toList.any (Try.prog.ifacesRec ·)) = true := by kernel_rfl
theorem c22 : (Rows.flexboxMainsRow.loopsOut == Try.f7.resultTypes.toList.any (Try.prog.loopsFrom ·)) = true := by kernel_rfl
theorem c23 : (Rows.flexboxMainsRow.plainKeys == Try.prog.plainKeys) = true := by kernel_rfl
theorem c24 : Rows.flexboxMainsRow.shortTexts.isNone = true := by kernel_rfl
theorem c27 : (Rows.flexboxMainsRow.lifted == Try.prog.liftsFinal) = true := by rw [fact_lifts]; kernel_rfl
theorem c28 : (Try.prog.make == some Rows.flexboxMainsRow.make) = true := by rw [fact_make]; kernel_rfl
theorem c29 : (Rows.flexboxMainsRow.kinds == (if Rows.flexboxMainsRow.domain.isEmpty then [] else Try.f7.params.toList.map fun t => match Try.prog.underlying t with | some (.int k) => some k | _ => none)) = true := by kernel_rfl
theorem c30 : (Rows.flexboxMainsRow.pinned == Rows.flexboxMainsRow.pinnedBy) = true := by kernel_rfl
theorem c31 : (Rows.flexboxMainsRow.veiled == (Try.f7.params.toList ++ Rows.flexboxMainsSpec.plain.varTypes Try.prog ++ Try.f7.resultTypes.toList).any (Try.prog.veiledRec ·)) = true := by kernel_rfl
theorem c32 : Rows.flexboxMainsRow.veiledFits Try.prog Try.f7.params.toList (Try.f7.params.toList ++ Rows.flexboxMainsSpec.plain.varTypes Try.prog ++ Try.f7.resultTypes.toList) = true := by kernel_rfl
set_option maxRecDepth 100000 in
theorem closed : joinedFacts Try.prog 7 Try.f7 Rows.flexboxMainsSpec Rows.flexboxMainsRow = true := by
  unfold joinedFacts
  exact and2 (and2 (and2 (and2 (and2 (and2 (and2 (and2 (and2 (and2 (and2 (and2 (and2 (and2 (and2 (and2 (and2 (and2 (and2 (and2 (and2 (and2 (and2 (and2 (and2 (and2 (and2 (and2 (and2 (and2 (and2 (c1) fact_laidOut) fact_mapsRowed) c4) c5) c6) fact_stops) c8) fact_stopKnobs) c10) c11) c12) c13) c14) c15) c16) c17) c18) c19) c20) c21) c22) c23) c24) fact_stopsHeard) fact_mayEnter) c27) c28) c29) c30) c31) c32
theorem named : Try.prog.funcNamed Rows.flexboxMainsRow.func = some 7 := by kernel_rfl
theorem inst : Try.f7.isInstance Try.prog Rows.flexboxMainsRow.origin Rows.flexboxMainsRow.targs := of_decide_eq_true (by kernel_rfl)
theorem wrap : Try.f7.isWrapper Try.prog Rows.flexboxMainsRow.wrapper Rows.flexboxMainsRow.mainSum := by unfold Func.isWrapper; rw [if_neg (of_decide_eq_false (by kernel_rfl))]; exact ⟨rfl, rfl⟩

theorem over : Rows.flexboxMainsRow.holds Try.pinned (OpenSpec.ofChange Rows.flexboxMainsSpec) :=
  OpenClaim.holds_of_wide 7 Try.f7 rfl rfl rfl rfl rfl rfl rfl ⟨rfl, rfl, rfl, rfl, rfl⟩ rfl rfl rfl rfl rfl named Try.func7 closed inst wrap
    (fun os started H enc _ => lifted os started H enc)

theorem proved : Rows.FlexboxMainsSaid :=
  over
#print axioms proved
end Go.Proofs.Ythofammjbicogaa.flexboxMains
