/-
  The statement Rows.ValueScalesSaid: for whatever input the function returns true, and each argument reads as it did. No condition.
-/
import Derived.Test.YtgmnboacehopfaaRows
import Derived.Test.YtgmnboacehopfaaZ6
import Derived.Test.YtgmnboacehopfaaFacts
import Derived.Test.YtgmnboacehopfaaYVsC
namespace Go.Proofs.Ytgmnboacehopfaa.valueScales
open Go.ChangeShapes Go.WideShapes Go.ChangeAt Go.RowKit Go.Joins Go.Deep
set_option linter.unusedVariables false

theorem own : ownKnob Try.prog.godebug = none := by kernel_rfl

theorem walk (a0 : Int) (a1 : Int) (v_2 : Value) (w : World) (w0 : (Lit.int .u64 a0).wf = true) (w1 : (Lit.int .u64 a1).wf = true) (hs_2 : Ar2 w v_2) :
    Calls Try.prog 7 #[.int .u64 a0, .int .u64 a1, v_2] w fun e w' => e = .returned (.bool true) ∧ Below w.heap.size w w' :=
  law_vscales_in a0 a1 v_2 (fitu_of_wf w0) (fitu_of_wf w1) w hs_2

set_option maxRecDepth 100000 in
theorem lifted (os : Os) (started : os.Started) (H : Type) (enc : TypeId × Value → H) :
    ReturnsInHanded {} Try.checked os 7 .any (Rows.valueScalesSpec.pre6 enc Try.prog Try.f7 Rows.valueScalesRow.domain false) (Rows.valueScalesSpec.post enc Try.prog Try.f7 false true false false) := by
  refine returnsInHanded_of_change (C := Try.checked) own started (by kernel_rfl) Try.func7
    (ChangeSpec.witness6 (enc := enc) (C := Try.checked) false ⟨#[], #[.int .u64 0, .int .u64 0, .agg #[.int .u16 0, .int .u16 0]], []⟩ 8 (by kernel_rfl) (by kernel_rfl) (by kernel_rfl) (by kernel_rfl)) ?_
  intro W base args ds gs before hval0 hW hcnd _
  have hval : ∀ (j : Nat) t v, Try.f7.params[j]? = some t → args[j]? = some v → Value.okWide Try.prog W .any base t v := hval0
  have hW' := hW
  obtain ⟨p, q, hA0, hV, rfl, hfz, hnd⟩ := hW
  have hA : DataW.TrodAll enc Try.prog W 0 (fun _ => true) true Try.f7.params.toList args.toList ds p := hA0
  obtain ⟨rfl, rfl⟩ := trodVars_none hV
  rw [List.append_nil] at hfz
  have hlt : ∀ x ∈ p, x.block < W.heap.size := fun x hx => hW'.lt x (List.mem_append_left _ hx)
  rw [Try.params7] at hA hval
  obtain ⟨v0, vs0, d0, ds0, p0, q0, hargs, rfl, rfl, h0, r0⟩ := trodAll_cons hA
  obtain ⟨v1, vs1, d1, ds1, p1, q1, rfl, rfl, rfl, h1, r1⟩ := trodAll_cons r0
  obtain ⟨v2, vs2, d2, ds2, p2, q2, rfl, rfl, rfl, h2, r2⟩ := trodAll_cons r1
  obtain ⟨rfl, rfl, rfl⟩ := trodAll_nil r2
  obtain rfl : args = #[v0, v1, v2] := by cases args; simp_all
  have fz0 : W.noneFrozen p0 ∧ ∀ x ∈ p0, x.block < W.heap.size := ⟨fun b off hx => hfz b off (by simp [hx]), fun x hx => hlt x (by simp [hx])⟩
  have fz1 : W.noneFrozen p1 ∧ ∀ x ∈ p1, x.block < W.heap.size := ⟨fun b off hx => hfz b off (by simp [hx]), fun x hx => hlt x (by simp [hx])⟩
  have fz2 : W.noneFrozen p2 ∧ ∀ x ∈ p2, x.block < W.heap.size := ⟨fun b off hx => hfz b off (by simp [hx]), fun x hx => hlt x (by simp [hx])⟩
  have hpost : ∀ W', Below W.heap.size W W' → Rows.valueScalesSpec.post enc Try.prog Try.f7 false true false false W #[v0, v1, v2] (.bool true) W' := fun W' hB =>
    post_law fact_laidOut fact_mapsRowed slices_full hW' rfl (by rw [Try.params7]; decide) rfl Try.underlying4 rfl hB
  clear hW' hA0 hval0 hfz hlt hA
  obtain ⟨a0, rfl, rfl, rfl, w0⟩ := open_int Try.underlying30 (hval 0 30 v0 rfl rfl) h0
  obtain ⟨a1, rfl, rfl, rfl, w1⟩ := open_int Try.underlying30 (hval 1 30 v1 rfl rfl) h1
  have hs_2 := ar2_dir Try.underlying71 Try.underlying23 (by kernel_rfl) (by kernel_rfl) (hval 2 71 v2 rfl rfl) h2
  refine (walk a0 a1 _ W w0 w1 hs_2).mono fun e W' ⟨he, hg⟩ => ?_
  subst he
  exact ⟨_, rfl, hpost W' hg⟩

theorem c1 : Rows.valueScalesRow.wf (OpenSpec.ofChange Rows.valueScalesSpec) = true := by kernel_rfl
theorem c4 : Try.f7.params.all (Try.prog.readableRec ·) = true := by kernel_rfl
theorem c5 : namedTie Try.prog Rows.valueScalesRow.named Rows.valueScalesSpec.vars = true := by kernel_rfl
theorem c6 : (Rows.valueScalesRow.stops == []) = true := by kernel_rfl
theorem c8 : (Rows.valueScalesRow.knobs == []) = true := by kernel_rfl
theorem c10 : (Rows.valueScalesRow.inPlace == Try.prog.inPlace 7) = true := by kernel_rfl
theorem c11 : (Rows.valueScalesRow.unfollowed == Try.prog.unfollowed 7) = true := by kernel_rfl
theorem c12 : (Rows.valueScalesRow.recurses == Try.prog.recurses 7) = true := by kernel_rfl
theorem c13 : (Rows.valueScalesRow.named == Try.prog.varsNamed 7) = true := by kernel_rfl
theorem c14 : (Rows.valueScalesRow.maps == (Try.f7.params.toList ++ Rows.valueScalesSpec.plain.varTypes Try.prog).any (Try.prog.mapsRec ·)) = true := by kernel_rfl
theorem c15 : (Rows.valueScalesRow.ifaces == (Try.f7.params.toList ++ Rows.valueScalesSpec.plain.varTypes Try.prog).any (Try.prog.ifacesRec ·)) = true := by kernel_rfl
theorem c16 : (Rows.valueScalesRow.mapsOut == Try.prog.mapsAmong Try.f7.resultTypes.toList) = true := by kernel_rfl
theorem c17 : (Rows.valueScalesRow.loops == (Try.f7.params.toList ++ Rows.valueScalesSpec.plain.varTypes Try.prog).any (Try.prog.loopsFrom ·)) = true := by kernel_rfl
theorem c18 : (Rows.valueScalesRow.wideKeys == (Try.f7.params.toList ++ Rows.valueScalesSpec.plain.varTypes Try.prog ++ Try.f7.resultTypes.toList).any (Try.prog.wideKeysFrom ·)) = true := by kernel_rfl
theorem c19 : Rows.valueScalesSpec.vars.all (Try.prog.varReadable ·) = true := by kernel_rfl
theorem c20 : Try.f7.resultTypes.all (fun t => Try.prog.readableRec t && decide (t < Try.prog.types.size)) = true := by kernel_rfl
theorem c21 : (Rows.valueScalesRow.ifacesOut == Try.f7.resultTypes.toList.any (Try.prog.ifacesRec ·)) = true := by kernel_rfl
theorem c22 : (Rows.valueScalesRow.loopsOut == Try.f7.resultTypes.toList.any (Try.prog.loopsFrom ·)) = true := by kernel_rfl
theorem c23 : (Rows.valueScalesRow.plainKeys == Try.prog.plainKeys) = true := by kernel_rfl
theorem c24 : Rows.valueScalesRow.shortTexts.isNone = true := by kernel_rfl
theorem c27 : (Rows.valueScalesRow.lifted == Try.prog.liftsFinal) = true := by rw [fact_lifts]; kernel_rfl
theorem c28 : (Try.prog.make == some Rows.valueScalesRow.make) = true := by rw [fact_make]; kernel_rfl
theorem c29 : (Rows.valueScalesRow.kinds == (if Rows.valueScalesRow.domain.isEmpty then [] else Try.f7.params.toList.map fun t => match Try.prog.underlying t with | some (.int k) => some k | _ => none)) = true := by kernel_rfl
theorem c30 : (Rows.valueScalesRow.pinned == Rows.valueScalesRow.pinnedBy) = true := by kernel_rfl
theorem c31 : (Rows.valueScalesRow.veiled == (Try.f7.params.toList ++ Rows.valueScalesSpec.plain.varTypes Try.prog ++ Try.f7.resultTypes.toList).any (Try.prog.veiledRec ·)) = true := by kernel_rfl
theorem c32 : Rows.valueScalesRow.veiledFits Try.prog Try.f7.params.toList (Try.f7.params.toList ++ Rows.valueScalesSpec.plain.varTypes Try.prog ++ Try.f7.resultTypes.toList) = true := by kernel_rfl
set_option maxRecDepth 100000 in
theorem closed : joinedFacts Try.prog 7 Try.f7 Rows.valueScalesSpec Rows.valueScalesRow = true := by
  unfold joinedFacts
  exact and2 (and2 (and2 (and2 (and2 (and2 (and2 (and2 (and2 (and2 (and2 (and2 (and2 (and2 (and2 (and2 (and2 (and2 (and2 (and2 (and2 (and2 (and2 (and2 (and2 (and2 (and2 (and2 (and2 (and2 (and2 (c1) fact_laidOut) fact_mapsRowed) c4) c5) c6) fact_stops) c8) fact_stopKnobs) c10) c11) c12) c13) c14) c15) c16) c17) c18) c19) c20) c21) c22) c23) c24) fact_stopsHeard) fact_mayEnter) c27) c28) c29) c30) c31) c32
theorem named : Try.prog.funcNamed Rows.valueScalesRow.func = some 7 := by kernel_rfl
theorem inst : Try.f7.isInstance Try.prog Rows.valueScalesRow.origin Rows.valueScalesRow.targs := of_decide_eq_true (by kernel_rfl)
theorem wrap : Try.f7.isWrapper Try.prog Rows.valueScalesRow.wrapper Rows.valueScalesRow.mainSum := by unfold Func.isWrapper; rw [if_neg (of_decide_eq_false (by kernel_rfl))]; exact ⟨rfl, rfl⟩

theorem over : Rows.valueScalesRow.holds Try.pinned (OpenSpec.ofChange Rows.valueScalesSpec) :=
  OpenClaim.holds_of_wide 7 Try.f7 rfl rfl rfl rfl rfl rfl rfl ⟨rfl, rfl, rfl, rfl, rfl⟩ rfl rfl rfl rfl rfl named Try.func7 closed inst wrap
    (fun os started H enc _ => lifted os started H enc)

theorem proved : Rows.ValueScalesSaid :=
  over
#print axioms proved
end Go.Proofs.Ytgmnboacehopfaa.valueScales
