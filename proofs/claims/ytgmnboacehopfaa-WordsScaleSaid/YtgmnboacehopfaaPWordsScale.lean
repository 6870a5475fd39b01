/-
  The statement Rows.WordsScaleSaid: for whatever input the function returns true, and each argument reads as it did. No condition.
-/
import Derived.Test.YtgmnboacehopfaaRows
import Derived.Test.YtgmnboacehopfaaZ6
import Derived.Test.YtgmnboacehopfaaFacts
import Derived.Test.YtgmnboacehopfaaYWoH
import Derived.Test.YtgmnboacehopfaaYOpenB
namespace Go.Proofs.Ytgmnboacehopfaa.wordsScale
open Go.ChangeShapes Go.WideShapes Go.ChangeAt Go.RowKit Go.Joins Go.Deep
set_option linter.unusedVariables false

theorem own : ownKnob Try.prog.godebug = none := by kernel_rfl

theorem walk (v_0 : Value) (a0 : Int) (a1 : Int) (w : World) (hs_0 : WoIn w v_0) (w0 : (Lit.int .i64 a0).wf = true) (w1 : (Lit.int .i64 a1).wf = true) :
    Calls Try.prog 4 #[v_0, .int .i64 a0, .int .i64 a1] w fun e w' => e = .returned (.bool true) ∧ Below w.heap.size w w' :=
  law_scales12 v_0 a0 a1 (fit_of_wf w0) (fit_of_wf w1) w hs_0

set_option maxRecDepth 100000 in
theorem lifted (os : Os) (started : os.Started) (H : Type) (enc : TypeId × Value → H) :
    ReturnsInHanded {} Try.checked os 4 .any (Rows.wordsScaleSpec.pre6 enc Try.prog Try.f4 Rows.wordsScaleRow.domain false) (Rows.wordsScaleSpec.post enc Try.prog Try.f4 false true false false) := by
  refine returnsInHanded_of_change (C := Try.checked) own started (by kernel_rfl) Try.func4
    (ChangeSpec.witness6 (enc := enc) (C := Try.checked) false ⟨#[], #[.slice none 0 0, .int .i64 0, .int .i64 0], []⟩ 8 (by kernel_rfl) (by kernel_rfl) (by kernel_rfl) (by kernel_rfl)) ?_
  intro W base args ds gs before hval0 hW hcnd _
  have hval : ∀ (j : Nat) t v, Try.f4.params[j]? = some t → args[j]? = some v → Value.okWide Try.prog W .any base t v := hval0
  have hW' := hW
  obtain ⟨p, q, hA0, hV, rfl, hfz, hnd⟩ := hW
  have hA : DataW.TrodAll enc Try.prog W 0 (fun _ => true) true Try.f4.params.toList args.toList ds p := hA0
  obtain ⟨rfl, rfl⟩ := trodVars_none hV
  rw [List.append_nil] at hfz
  have hlt : ∀ x ∈ p, x.block < W.heap.size := fun x hx => hW'.lt x (List.mem_append_left _ hx)
  rw [Try.params4] at hA hval
  obtain ⟨v0, vs0, d0, ds0, p0, q0, hargs, rfl, rfl, h0, r0⟩ := trodAll_cons hA
  obtain ⟨v1, vs1, d1, ds1, p1, q1, rfl, rfl, rfl, h1, r1⟩ := trodAll_cons r0
  obtain ⟨v2, vs2, d2, ds2, p2, q2, rfl, rfl, rfl, h2, r2⟩ := trodAll_cons r1
  obtain ⟨rfl, rfl, rfl⟩ := trodAll_nil r2
  obtain rfl : args = #[v0, v1, v2] := by cases args; simp_all
  have fz0 : W.noneFrozen p0 ∧ ∀ x ∈ p0, x.block < W.heap.size := ⟨fun b off hx => hfz b off (by simp [hx]), fun x hx => hlt x (by simp [hx])⟩
  have fz1 : W.noneFrozen p1 ∧ ∀ x ∈ p1, x.block < W.heap.size := ⟨fun b off hx => hfz b off (by simp [hx]), fun x hx => hlt x (by simp [hx])⟩
  have fz2 : W.noneFrozen p2 ∧ ∀ x ∈ p2, x.block < W.heap.size := ⟨fun b off hx => hfz b off (by simp [hx]), fun x hx => hlt x (by simp [hx])⟩
  have hpost : ∀ W', Below W.heap.size W W' → Rows.wordsScaleSpec.post enc Try.prog Try.f4 false true false false W #[v0, v1, v2] (.bool true) W' := fun W' hB =>
    post_law fact_laidOut fact_mapsRowed slices_full hW' rfl (by rw [Try.params4]; decide) rfl Try.underlying4 rfl hB
  clear hW' hA0 hval0 hfz hlt hA
  have hs_0 := wo_dir Try.underlying46 Try.underlying47 (by kernel_rfl) (by kernel_rfl) rfl (by kernel_rfl) (by kernel_rfl) (by kernel_rfl) (hval 0 46 v0 rfl rfl) h0
  obtain ⟨a0, rfl, rfl, rfl, w0⟩ := open_int Try.underlying2 (hval 1 2 v1 rfl rfl) h1
  obtain ⟨a1, rfl, rfl, rfl, w1⟩ := open_int Try.underlying2 (hval 2 2 v2 rfl rfl) h2
  refine (walk _ a0 a1 W hs_0 w0 w1).mono fun e W' ⟨he, hg⟩ => ?_
  subst he
  exact ⟨_, rfl, hpost W' hg⟩

theorem c1 : Rows.wordsScaleRow.wf (OpenSpec.ofChange Rows.wordsScaleSpec) = true := by kernel_rfl
theorem c4 : Try.f4.params.all (Try.prog.readableRec ·) = true := by kernel_rfl
theorem c5 : namedTie Try.prog Rows.wordsScaleRow.named Rows.wordsScaleSpec.vars = true := by kernel_rfl
theorem c6 : (Rows.wordsScaleRow.stops == []) = true := by kernel_rfl
theorem c8 : (Rows.wordsScaleRow.knobs == []) = true := by kernel_rfl
theorem c10 : (Rows.wordsScaleRow.inPlace == Try.prog.inPlace 4) = true := by kernel_rfl
theorem c11 : (Rows.wordsScaleRow.unfollowed == Try.prog.unfollowed 4) = true := by kernel_rfl
theorem c12 : (Rows.wordsScaleRow.recurses == Try.prog.recurses 4) = true := by kernel_rfl
theorem c13 : (Rows.wordsScaleRow.named == Try.prog.varsNamed 4) = true := by kernel_rfl
theorem c14 : (Rows.wordsScaleRow.maps == (Try.f4.params.toList ++ Rows.wordsScaleSpec.plain.varTypes Try.prog).any (Try.prog.mapsRec ·)) = true := by kernel_rfl
theorem c15 : (Rows.wordsScaleRow.ifaces == (Try.f4.params.toList ++ Rows.wordsScaleSpec.plain.varTypes Try.prog).any (Try.prog.ifacesRec ·)) = true := by kernel_rfl
theorem c16 : (Rows.wordsScaleRow.mapsOut == Try.prog.mapsAmong Try.f4.resultTypes.toList) = true := by kernel_rfl
theorem c17 : (Rows.wordsScaleRow.loops == (Try.f4.params.toList ++ Rows.wordsScaleSpec.plain.varTypes Try.prog).any (Try.prog.loopsFrom ·)) = true := by kernel_rfl
theorem c18 : (Rows.wordsScaleRow.wideKeys == (Try.f4.params.toList ++ Rows.wordsScaleSpec.plain.varTypes Try.prog ++ Try.f4.resultTypes.toList).any (Try.prog.wideKeysFrom ·)) = true := by kernel_rfl
theorem c19 : Rows.wordsScaleSpec.vars.all (Try.prog.varReadable ·) = true := by kernel_rfl
theorem c20 : Try.f4.resultTypes.all (fun t => Try.prog.readableRec t && decide (t < Try.prog.types.size)) = true := by kernel_rfl
theorem c21 : (Rows.wordsScaleRow.ifacesOut == Try.f4.resultTypes.toList.any (Try.prog.ifacesRec ·)) = true := by kernel_rfl
theorem c22 : (Rows.wordsScaleRow.loopsOut == Try.f4.resultTypes.toList.any (Try.prog.loopsFrom ·)) = true := by kernel_rfl
theorem c23 : (Rows.wordsScaleRow.plainKeys == Try.prog.plainKeys) = true := by kernel_rfl
theorem c24 : Rows.wordsScaleRow.shortTexts.isNone = true := by kernel_rfl
theorem c27 : (Rows.wordsScaleRow.lifted == Try.prog.liftsFinal) = true := by rw [fact_lifts]; kernel_rfl
theorem c28 : (Try.prog.make == some Rows.wordsScaleRow.make) = true := by rw [fact_make]; kernel_rfl
theorem c29 : (Rows.wordsScaleRow.kinds == (if Rows.wordsScaleRow.domain.isEmpty then [] else Try.f4.params.toList.map fun t => match Try.prog.underlying t with | some (.int k) => some k | _ => none)) = true := by kernel_rfl
theorem c30 : (Rows.wordsScaleRow.pinned == Rows.wordsScaleRow.pinnedBy) = true := by kernel_rfl
theorem c31 : (Rows.wordsScaleRow.veiled == (Try.f4.params.toList ++ Rows.wordsScaleSpec.plain.varTypes Try.prog ++ Try.f4.resultTypes.toList).any (Try.prog.veiledRec ·)) = true := by kernel_rfl
theorem c32 : Rows.wordsScaleRow.veiledFits Try.prog Try.f4.params.toList (Try.f4.params.toList ++ Rows.wordsScaleSpec.plain.varTypes Try.prog ++ Try.f4.resultTypes.toList) = true := by kernel_rfl
set_option maxRecDepth 100000 in
theorem closed : joinedFacts Try.prog 4 Try.f4 Rows.wordsScaleSpec Rows.wordsScaleRow = true := by
  unfold joinedFacts
  exact and2 (and2 (and2 (and2 (and2 (and2 (and2 (and2 (and2 (and2 (and2 (and2 (and2 (and2 (and2 (and2 (and2 (and2 (and2 (and2 (and2 (and2 (and2 (and2 (and2 (and2 (and2 (and2 (and2 (and2 (and2 (c1) fact_laidOut) fact_mapsRowed) c4) c5) c6) fact_stops) c8) fact_stopKnobs) c10) c11) c12) c13) c14) c15) c16) c17) c18) c19) c20) c21) c22) c23) c24) fact_stopsHeard) fact_mayEnter) c27) c28) c29) c30) c31) c32
theorem named : Try.prog.funcNamed Rows.wordsScaleRow.func = some 4 := by kernel_rfl
theorem inst : Try.f4.isInstance Try.prog Rows.wordsScaleRow.origin Rows.wordsScaleRow.targs := of_decide_eq_true (by kernel_rfl)
theorem wrap : Try.f4.isWrapper Try.prog Rows.wordsScaleRow.wrapper Rows.wordsScaleRow.mainSum := by unfold Func.isWrapper; rw [if_neg (of_decide_eq_false (by kernel_rfl))]; exact ⟨rfl, rfl⟩

theorem over : Rows.wordsScaleRow.holds Try.pinned (OpenSpec.ofChange Rows.wordsScaleSpec) :=
  OpenClaim.holds_of_wide 4 Try.f4 rfl rfl rfl rfl rfl rfl rfl ⟨rfl, rfl, rfl, rfl, rfl⟩ rfl rfl rfl rfl rfl named Try.func4 closed inst wrap
    (fun os started H enc _ => lifted os started H enc)

theorem proved : Rows.WordsScaleSaid :=
  over
#print axioms proved
end Go.Proofs.Ytgmnboacehopfaa.wordsScale
