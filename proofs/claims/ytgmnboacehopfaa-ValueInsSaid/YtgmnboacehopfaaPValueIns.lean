/-
  The statement Rows.ValueInsSaid: for whatever input the function returns true, and each argument reads as it did. No condition.
-/
import Derived.Test.YtgmnboacehopfaaRows
import Derived.Test.YtgmnboacehopfaaZ6
import Derived.Test.YtgmnboacehopfaaFacts
import Derived.Test.YtgmnboacehopfaaYVaD
namespace Go.Proofs.Ytgmnboacehopfaa.valueIns
open Go.ChangeShapes Go.WideShapes Go.ChangeAt Go.RowKit Go.Joins Go.Deep
set_option linter.unusedVariables false

theorem own : ownKnob Try.prog.godebug = none := by kernel_rfl

theorem walk (a0 : Int) (a1 : Int) (a2 : Int) (a3 : Int) (a4 : Int) (w : World) (w0 : (Lit.int .i64 a0).wf = true) (w1 : (Lit.int .i64 a1).wf = true) (w2 : (Lit.int .i64 a2).wf = true) (w3 : (Lit.int .i64 a3).wf = true) (w4 : (Lit.int .i64 a4).wf = true) :
    Calls Try.prog 6 #[.agg #[.int .i64 a0, .int .i64 a1, .int .i64 a2, .int .i64 a3, .int .i64 a4]] w fun e w' => e = .returned (.bool true) ∧ Below w.heap.size w w' :=
  law_ins a0 a1 a2 a3 a4 (fit_of_wf w1) (fit_of_wf w2) (fit_of_wf w3) (fit_of_wf w4) w

set_option maxRecDepth 100000 in
theorem lifted (os : Os) (started : os.Started) (H : Type) (enc : TypeId × Value → H) :
    ReturnsInHanded {} Try.checked os 6 .any (Rows.valueInsSpec.pre6 enc Try.prog Try.f6 Rows.valueInsRow.domain false) (Rows.valueInsSpec.post enc Try.prog Try.f6 false true false false) := by
  refine returnsInHanded_of_change (C := Try.checked) own started (by kernel_rfl) Try.func6
    (ChangeSpec.witness6 (enc := enc) (C := Try.checked) false ⟨#[], #[.agg #[.int .i64 0, .int .i64 0, .int .i64 0, .int .i64 0, .int .i64 0]], []⟩ 8 (by kernel_rfl) (by kernel_rfl) (by kernel_rfl) (by kernel_rfl)) ?_
  intro W base args ds gs before hval0 hW hcnd _
  have hval : ∀ (j : Nat) t v, Try.f6.params[j]? = some t → args[j]? = some v → Value.okWide Try.prog W .any base t v := hval0
  have hW' := hW
  obtain ⟨p, q, hA0, hV, rfl, hfz, hnd⟩ := hW
  have hA : DataW.TrodAll enc Try.prog W 0 (fun _ => true) true Try.f6.params.toList args.toList ds p := hA0
  obtain ⟨rfl, rfl⟩ := trodVars_none hV
  rw [List.append_nil] at hfz
  have hlt : ∀ x ∈ p, x.block < W.heap.size := fun x hx => hW'.lt x (List.mem_append_left _ hx)
  rw [Try.params6] at hA hval
  obtain ⟨v0, vs0, d0, ds0, p0, q0, hargs, rfl, rfl, h0, r0⟩ := trodAll_cons hA
  obtain ⟨rfl, rfl, rfl⟩ := trodAll_nil r0
  obtain rfl : args = #[v0] := by cases args; simp_all
  have fz0 : W.noneFrozen p0 ∧ ∀ x ∈ p0, x.block < W.heap.size := ⟨fun b off hx => hfz b off (by simp [hx]), fun x hx => hlt x (by simp [hx])⟩
  have hpost : ∀ W', Below W.heap.size W W' → Rows.valueInsSpec.post enc Try.prog Try.f6 false true false false W #[v0] (.bool true) W' := fun W' hB =>
    post_law fact_laidOut fact_mapsRowed slices_full hW' rfl (by rw [Try.params6]; decide) rfl Try.underlying4 rfl hB
  clear hW' hA0 hval0 hfz hlt hA
  obtain ⟨l0, rfl, e0, f0⟩ := open_flat Try.underlying65 (by kernel_rfl) (by kernel_rfl) (hval 0 65 v0 rfl rfl) h0
  obtain ⟨a0, g0, w0⟩ := flat_int (t := 3) Try.underlying3 (f0 0 _ rfl)
  obtain ⟨a1, g1, w1⟩ := flat_int (t := 2) Try.underlying2 (f0 1 _ rfl)
  obtain ⟨a2, g2, w2⟩ := flat_int (t := 2) Try.underlying2 (f0 2 _ rfl)
  obtain ⟨a3, g3, w3⟩ := flat_int (t := 2) Try.underlying2 (f0 3 _ rfl)
  obtain ⟨a4, g4, w4⟩ := flat_int (t := 2) Try.underlying2 (f0 4 _ rfl)
  obtain rfl : l0 = [.int .i64 a0, .int .i64 a1, .int .i64 a2, .int .i64 a3, .int .i64 a4] := list_by e0 (list_step g0 (list_step g1 (list_step g2 (list_step g3 (list_step g4 (list_end))))))
  refine (walk a0 a1 a2 a3 a4 W w0 w1 w2 w3 w4).mono fun e W' ⟨he, hg⟩ => ?_
  subst he
  exact ⟨_, rfl, hpost W' hg⟩

theorem c1 : Rows.valueInsRow.wf (OpenSpec.ofChange Rows.valueInsSpec) = true := by kernel_rfl
theorem c4 : Try.f6.params.all (Try.prog.readableRec ·) = true := by kernel_rfl
theorem c5 : namedTie Try.prog Rows.valueInsRow.named Rows.valueInsSpec.vars = true := by kernel_rfl
theorem c6 : (Rows.valueInsRow.stops == []) = true := by kernel_rfl
theorem c8 : (Rows.valueInsRow.knobs == []) = true := by kernel_rfl
theorem c10 : (Rows.valueInsRow.inPlace == Try.prog.inPlace 6) = true := by kernel_rfl
theorem c11 : (Rows.valueInsRow.unfollowed == Try.prog.unfollowed 6) = true := by kernel_rfl
theorem c12 : (Rows.valueInsRow.recurses == Try.prog.recurses 6) = true := by kernel_rfl
theorem c13 : (Rows.valueInsRow.named == Try.prog.varsNamed 6) = true := by kernel_rfl
theorem c14 : (Rows.valueInsRow.maps == (Try.f6.params.toList ++ Rows.valueInsSpec.plain.varTypes Try.prog).any (Try.prog.mapsRec ·)) = true := by kernel_rfl
theorem c15 : (Rows.valueInsRow.ifaces == (Try.f6.params.toList ++ Rows.valueInsSpec.plain.varTypes Try.prog).any (Try.prog.ifacesRec ·)) = true := by kernel_rfl
theorem c16 : (Rows.valueInsRow.mapsOut == Try.prog.mapsAmong Try.f6.resultTypes.toList) = true := by kernel_rfl
theorem c17 : (Rows.valueInsRow.loops == (Try.f6.params.toList ++ Rows.valueInsSpec.plain.varTypes Try.prog).any (Try.prog.loopsFrom ·)) = true := by kernel_rfl
theorem c18 : (Rows.valueInsRow.wideKeys == (Try.f6.params.toList ++ Rows.valueInsSpec.plain.varTypes Try.prog ++ Try.f6.resultTypes.toList).any (Try.prog.wideKeysFrom ·)) = true := by kernel_rfl
theorem c19 : Rows.valueInsSpec.vars.all (Try.prog.varReadable ·) = true := by kernel_rfl
theorem c20 : Try.f6.resultTypes.all (fun t => Try.prog.readableRec t && decide (t < Try.prog.types.size)) = true := by kernel_rfl
theorem c21 : (Rows.valueInsRow.ifacesOut == Try.f6.resultTypes.toList.any (Try.prog.ifacesRec ·)) = true := by kernel_rfl
theorem c22 : (Rows.valueInsRow.loopsOut == Try.f6.resultTypes.toList.any (Try.prog.loopsFrom ·)) = true := by kernel_rfl
theorem c23 : (Rows.valueInsRow.plainKeys == Try.prog.plainKeys) = true := by kernel_rfl
theorem c24 : Rows.valueInsRow.shortTexts.isNone = true := by kernel_rfl
theorem c27 : (Rows.valueInsRow.lifted == Try.prog.liftsFinal) = true := by rw [fact_lifts]; kernel_rfl
theorem c28 : (Try.prog.make == some Rows.valueInsRow.make) = true := by rw [fact_make]; kernel_rfl
theorem c29 : (Rows.valueInsRow.kinds == (if Rows.valueInsRow.domain.isEmpty then [] else Try.f6.params.toList.map fun t => match Try.prog.underlying t with | some (.int k) => some k | _ => none)) = true := by kernel_rfl
theorem c30 : (Rows.valueInsRow.pinned == Rows.valueInsRow.pinnedBy) = true := by kernel_rfl
theorem c31 : (Rows.valueInsRow.veiled == (Try.f6.params.toList ++ Rows.valueInsSpec.plain.varTypes Try.prog ++ Try.f6.resultTypes.toList).any (Try.prog.veiledRec ·)) = true := by kernel_rfl
theorem c32 : Rows.valueInsRow.veiledFits Try.prog Try.f6.params.toList (Try.f6.params.toList ++ Rows.valueInsSpec.plain.varTypes Try.prog ++ Try.f6.resultTypes.toList) = true := by kernel_rfl
set_option maxRecDepth 100000 in
theorem closed : joinedFacts Try.prog 6 Try.f6 Rows.valueInsSpec Rows.valueInsRow = true := by
  unfold joinedFacts
  exact and2 (and2 (and2 (and2 (and2 (and2 (and2 (and2 (and2 (and2 (and2 (and2 (and2 (and2 (and2 (and2 (and2 (and2 (and2 (and2 (and2 (and2 (and2 (and2 (and2 (and2 (and2 (and2 (and2 (and2 (and2 (c1) fact_laidOut) fact_mapsRowed) c4) c5) c6) fact_stops) c8) fact_stopKnobs) c10) c11) c12) c13) c14) c15) c16) c17) c18) c19) c20) c21) c22) c23) c24) fact_stopsHeard) fact_mayEnter) c27) c28) c29) c30) c31) c32
theorem named : Try.prog.funcNamed Rows.valueInsRow.func = some 6 := by kernel_rfl
theorem inst : Try.f6.isInstance Try.prog Rows.valueInsRow.origin Rows.valueInsRow.targs := of_decide_eq_true (by kernel_rfl)
theorem wrap : Try.f6.isWrapper Try.prog Rows.valueInsRow.wrapper Rows.valueInsRow.mainSum := by unfold Func.isWrapper; rw [if_neg (of_decide_eq_false (by kernel_rfl))]; exact ⟨rfl, rfl⟩

theorem over : Rows.valueInsRow.holds Try.pinned (OpenSpec.ofChange Rows.valueInsSpec) :=
  OpenClaim.holds_of_wide 6 Try.f6 rfl rfl rfl rfl rfl rfl rfl ⟨rfl, rfl, rfl, rfl, rfl⟩ rfl rfl rfl rfl rfl named Try.func6 closed inst wrap
    (fun os started H enc _ => lifted os started H enc)

theorem proved : Rows.ValueInsSaid :=
  over
#print axioms proved
end Go.Proofs.Ytgmnboacehopfaa.valueIns
