/-
  The statement Rows.RatioMakesSaid: for whatever input the function returns true, and each argument reads as it did. No condition.
-/
import Derived.Test.YthffphcgkmjhbaaRows
import Derived.Test.YthffphcgkmjhbaaLift
import Derived.Test.YthffphcgkmjhbaaFacts
import Derived.Lib.SmallJoins
import Derived.Test.YthffphcgkmjhbaaLawI
namespace Go.Proofs.Ythffphcgkmjhbaa.ratioMakes
open Go.ChangeShapes Go.WideShapes Go.ChangeAt Go.RowKit Go.Joins
set_option linter.unusedVariables false

theorem own : ownKnob Try.prog.godebug = none := by kernel_rfl

theorem walk (a0 : Int) (a1 : Int) (w0 : (Lit.int .i64 a0).wf = true) (w1 : (Lit.int .i64 a1).wf = true) (w : World) :
    Calls Try.prog 8 #[.int .i64 a0, .int .i64 a1] w fun e w' => e = .returned (.bool true) ∧ Below w.heap.size w w' :=
  law_makes a0 a1 (fit_of_wf w0) (fit_of_wf w1) w

set_option maxRecDepth 100000 in
theorem lifted (os : Os) (started : os.Started) (H : Type) (enc : TypeId × Value → H) :
    ReturnsInHanded {} Try.checked os 8 .any (Rows.ratioMakesSpec.pre6 enc Try.prog Try.f8 Rows.ratioMakesRow.domain false) (Rows.ratioMakesSpec.post enc Try.prog Try.f8 false true false false) := by
  refine returnsInHanded_of_change (C := Try.checked) own started (by kernel_rfl) Try.func8
    (ChangeSpec.witness6 (enc := enc) (C := Try.checked) false ⟨#[], #[.int .i64 0, .int .i64 0], []⟩ 8 (by kernel_rfl) (by kernel_rfl) (by kernel_rfl) (by kernel_rfl)) ?_
  intro W base args ds gs before hval0 hW hcnd _
  have hval : ∀ (j : Nat) t v, Try.f8.params[j]? = some t → args[j]? = some v → Value.okWide Try.prog W .any base t v := hval0
  have hW' := hW
  obtain ⟨p, q, hA0, hV, rfl, hfz, hnd⟩ := hW
  have hA : DataW.TrodAll enc Try.prog W 0 (fun _ => true) true Try.f8.params.toList args.toList ds p := hA0
  rw [Try.params8] at hA hval
  obtain ⟨v0, vs0, d0, ds0, p0, q0, hargs, rfl, rfl, h0, r0⟩ := trodAll_cons hA
  obtain ⟨v1, vs1, d1, ds1, p1, q1, rfl, rfl, rfl, h1, r1⟩ := trodAll_cons r0
  obtain ⟨rfl, rfl, rfl⟩ := trodAll_nil r1
  obtain rfl : args = #[v0, v1] := by cases args; simp_all
  obtain ⟨rfl, rfl⟩ := trodVars_none hV
  obtain ⟨a0, rfl, rfl, rfl, w0⟩ := open_int Try.underlying2 (hval 0 2 v0 rfl rfl) h0
  obtain ⟨a1, rfl, rfl, rfl, w1⟩ := open_int Try.underlying2 (hval 1 2 v1 rfl rfl) h1
  clear hA0 hval0
  simp only [List.append_nil] at hW'
  refine (walk a0 a1 w0 w1 W).mono fun e W' ⟨he, hg⟩ => ?_
  subst he
  exact ⟨_, rfl, post_below (pa := []) (pv := []) hW' (fun _ _ _ => (trodAll_cons_mk (shut_bool Try.underlying4 _) trodAll_mk0)) (fun sp _ => (trodAll_cons_mk (shut_int Try.underlying2 w0) (trodAll_cons_mk (shut_int Try.underlying2 w1) trodAll_mk0))) (fun _ _ => rfl) rfl hg⟩

theorem c1 : Rows.ratioMakesRow.wf (OpenSpec.ofChange Rows.ratioMakesSpec) = true := by kernel_rfl
theorem c4 : Try.f8.params.all (Try.prog.readableRec ·) = true := by kernel_rfl
theorem c5 : namedTie Try.prog Rows.ratioMakesRow.named Rows.ratioMakesSpec.vars = true := by kernel_rfl
theorem c6 : (Rows.ratioMakesRow.stops == []) = true := by kernel_rfl
theorem c8 : (Rows.ratioMakesRow.knobs == []) = true := by kernel_rfl
theorem c10 : (Rows.ratioMakesRow.inPlace == Try.prog.inPlace 8) = true := by kernel_rfl
theorem c11 : (Rows.ratioMakesRow.unfollowed == Try.prog.unfollowed 8) = true := by kernel_rfl
theorem c12 : (Rows.ratioMakesRow.recurses == Try.prog.recurses 8) = true := by kernel_rfl
theorem c13 : (Rows.ratioMakesRow.named == Try.prog.varsNamed 8) = true := by kernel_rfl
theorem c14 : (Rows.ratioMakesRow.maps == (Try.f8.params.toList ++ Rows.ratioMakesSpec.plain.varTypes Try.prog).any (Try.prog.mapsRec ·)) = true := by kernel_rfl
theorem c15 : (Rows.ratioMakesRow.ifaces == (Try.f8.params.toList ++ Rows.ratioMakesSpec.plain.varTypes Try.prog).any (Try.prog.ifacesRec ·)) = true := by kernel_rfl
theorem c16 : (Rows.ratioMakesRow.mapsOut == Try.prog.mapsAmong Try.f8.resultTypes.toList) = true := by kernel_rfl
theorem c17 : (Rows.ratioMakesRow.loops == (Try.f8.params.toList ++ Rows.ratioMakesSpec.plain.varTypes Try.prog).any (Try.prog.loopsFrom ·)) = true := by kernel_rfl
theorem c18 : (Rows.ratioMakesRow.wideKeys == (Try.f8.params.toList ++ Rows.ratioMakesSpec.plain.varTypes Try.prog ++ Try.f8.resultTypes.toList).any (Try.prog.wideKeysFrom ·)) = true := by kernel_rfl
theorem c19 : Rows.ratioMakesSpec.vars.all (Try.prog.varReadable ·) = true := by kernel_rfl
theorem c20 : Try.f8.resultTypes.all (fun t => Try.prog.readableRec t && decide (t < Try.prog.types.size)) = true := by kernel_rfl
theorem c21 : (Rows.ratioMakesRow.ifacesOut == Try.f8.resultTypes.toList.any (Try.prog.ifacesRec ·)) = true := by kernel_rfl
theorem c22 : (Rows.ratioMakesRow.loopsOut == Try.f8.resultTypes.toList.any (Try.prog.loopsFrom ·)) = true := by kernel_rfl
theorem c23 : (Rows.ratioMakesRow.plainKeys == Try.prog.plainKeys) = true := by kernel_rfl
theorem c24 : Rows.ratioMakesRow.shortTexts.isNone = true := by kernel_rfl
theorem c27 : (Rows.ratioMakesRow.lifted == Try.prog.liftsFinal) = true := by rw [fact_lifts]; kernel_rfl
theorem c28 : (Try.prog.make == some Rows.ratioMakesRow.make) = true := by rw [fact_make]; kernel_rfl
theorem c29 : (Rows.ratioMakesRow.kinds == (if Rows.ratioMakesRow.domain.isEmpty then [] else Try.f8.params.toList.map fun t => match Try.prog.underlying t with | some (.int k) => some k | _ => none)) = true := by kernel_rfl
theorem c30 : (Rows.ratioMakesRow.pinned == Rows.ratioMakesRow.pinnedBy) = true := by kernel_rfl
theorem c31 : (Rows.ratioMakesRow.veiled == (Try.f8.params.toList ++ Rows.ratioMakesSpec.plain.varTypes Try.prog ++ Try.f8.resultTypes.toList).any (Try.prog.veiledRec ·)) = true := by kernel_rfl
theorem c32 : Rows.ratioMakesRow.veiledFits Try.prog Try.f8.params.toList (Try.f8.params.toList ++ Rows.ratioMakesSpec.plain.varTypes Try.prog ++ Try.f8.resultTypes.toList) = true := by kernel_rfl
set_option maxRecDepth 100000 in
theorem closed : joinedFacts Try.prog 8 Try.f8 Rows.ratioMakesSpec Rows.ratioMakesRow = true := by
  unfold joinedFacts
  exact and2 (and2 (and2 (and2 (and2 (and2 (and2 (and2 (and2 (and2 (and2 (and2 (and2 (and2 (and2 (and2 (and2 (and2 (and2 (and2 (and2 (and2 (and2 (and2 (and2 (and2 (and2 (and2 (and2 (and2 (and2 (c1) fact_laidOut) fact_mapsRowed) c4) c5) c6) fact_stops) c8) fact_stopKnobs) c10) c11) c12) c13) c14) c15) c16) c17) c18) c19) c20) c21) c22) c23) c24) fact_stopsHeard) fact_mayEnter) c27) c28) c29) c30) c31) c32
theorem named : Try.prog.funcNamed Rows.ratioMakesRow.func = some 8 := by kernel_rfl
theorem inst : Try.f8.isInstance Try.prog Rows.ratioMakesRow.origin Rows.ratioMakesRow.targs := of_decide_eq_true (by kernel_rfl)
theorem wrap : Try.f8.isWrapper Try.prog Rows.ratioMakesRow.wrapper Rows.ratioMakesRow.mainSum := by unfold Func.isWrapper; rw [if_neg (of_decide_eq_false (by kernel_rfl))]; exact ⟨rfl, rfl⟩

theorem over : Rows.ratioMakesRow.holds Try.pinned (OpenSpec.ofChange Rows.ratioMakesSpec) :=
  OpenClaim.holds_of_wide 8 Try.f8 rfl rfl rfl rfl rfl rfl rfl ⟨rfl, rfl, rfl, rfl, rfl⟩ rfl rfl rfl rfl rfl named Try.func8 closed inst wrap
    (fun os started H enc _ => lifted os started H enc)

theorem proved : Rows.RatioMakesSaid :=
  over
#print axioms proved
end Go.Proofs.Ythffphcgkmjhbaa.ratioMakes
