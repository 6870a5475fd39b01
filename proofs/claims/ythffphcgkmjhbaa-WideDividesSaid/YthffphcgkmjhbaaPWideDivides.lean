/-
  The statement Rows.WideDividesSaid: for whatever input the function returns true, and each argument reads as it did. No condition.
-/
import Derived.Test.YthffphcgkmjhbaaRows
import Derived.Test.YthffphcgkmjhbaaLift
import Derived.Test.YthffphcgkmjhbaaFacts
import Derived.Lib.SmallJoins
import Derived.Test.YthffphcgkmjhbaaLawD
namespace Go.Proofs.Ythffphcgkmjhbaa.wideDivides
open Go.ChangeShapes Go.WideShapes Go.ChangeAt Go.RowKit Go.Joins
set_option linter.unusedVariables false

theorem own : ownKnob Try.prog.godebug = none := by kernel_rfl

theorem walk (a0 : Int) (a1 : Int) (a2 : Int) (w0 : (Lit.int .i64 a0).wf = true) (w1 : (Lit.int .u64 a1).wf = true) (w2 : (Lit.int .i64 a2).wf = true) (w : World) :
    Calls Try.prog 4 #[.agg #[.int .i64 a0, .int .u64 a1], .int .i64 a2] w fun e w' => e = .returned (.bool true) ∧ Below w.heap.size w w' :=
  law_divides (a0 * 18446744073709551616 + a1) a0 a1 a2 (wd_of_wf w0 w1) (fit_of_wf w2) w

set_option maxRecDepth 100000 in
theorem lifted (os : Os) (started : os.Started) (H : Type) (enc : TypeId × Value → H) :
    ReturnsInHanded {} Try.checked os 4 .any (Rows.wideDividesSpec.pre6 enc Try.prog Try.f4 Rows.wideDividesRow.domain false) (Rows.wideDividesSpec.post enc Try.prog Try.f4 false true false false) := by
  refine returnsInHanded_of_change (C := Try.checked) own started (by kernel_rfl) Try.func4
    (ChangeSpec.witness6 (enc := enc) (C := Try.checked) false ⟨#[], #[.agg #[.int .i64 0, .int .u64 0], .int .i64 0], []⟩ 8 (by kernel_rfl) (by kernel_rfl) (by kernel_rfl) (by kernel_rfl)) ?_
  intro W base args ds gs before hval0 hW hcnd _
  have hval : ∀ (j : Nat) t v, Try.f4.params[j]? = some t → args[j]? = some v → Value.okWide Try.prog W .any base t v := hval0
  have hW' := hW
  obtain ⟨p, q, hA0, hV, rfl, hfz, hnd⟩ := hW
  have hA : DataW.TrodAll enc Try.prog W 0 (fun _ => true) true Try.f4.params.toList args.toList ds p := hA0
  rw [Try.params4] at hA hval
  obtain ⟨v0, vs0, d0, ds0, p0, q0, hargs, rfl, rfl, h0, r0⟩ := trodAll_cons hA
  obtain ⟨v1, vs1, d1, ds1, p1, q1, rfl, rfl, rfl, h1, r1⟩ := trodAll_cons r0
  obtain ⟨rfl, rfl, rfl⟩ := trodAll_nil r1
  obtain rfl : args = #[v0, v1] := by cases args; simp_all
  obtain ⟨rfl, rfl⟩ := trodVars_none hV
  obtain ⟨c0_0, c0_1, y0_0, y0_1, m0, rfl, rfl, rfl, hy0_0, hy0_1⟩ := open_agg2 Try.underlying38 (by kernel_rfl) (by kernel_rfl) (hval 0 38 v0 rfl rfl) h0
  obtain ⟨a0, e0, rfl, w0⟩ := DataW.trod_int Try.underlying2 hy0_0
  simp at e0
  subst e0
  obtain ⟨a1, e1, rfl, w1⟩ := DataW.trod_int Try.underlying23 hy0_1
  simp at e1
  subst e1
  obtain ⟨a2, rfl, rfl, rfl, w2⟩ := open_int Try.underlying2 (hval 1 2 v1 rfl rfl) h1
  clear hA0 hval0
  simp only [List.append_nil] at hW'
  have reads0 : ∀ (W' : World) (sp : Nat → Bool), DataW.Trod enc Try.prog W' 0 sp true 38 (.agg #[.int .i64 a0, .int .u64 a1]) (.agg [.lit (.int .i64 a0), .lit (.int .u64 a1)]) [] := fun W' sp =>
    shut_agg2 (y0 := (.lit (.int .i64 a0), [])) (y1 := (.lit (.int .u64 a1), [])) Try.underlying38 (by kernel_rfl) (by kernel_rfl) ⟨1, by simp [DataW.trod, Try.underlying2, w0]⟩ ⟨1, by simp [DataW.trod, Try.underlying23, w1]⟩
  refine (walk a0 a1 a2 w0 w1 w2 W).mono fun e W' ⟨he, hg⟩ => ?_
  subst he
  exact ⟨_, rfl, post_below (pa := []) (pv := []) hW' (fun _ _ _ => (trodAll_cons_mk (shut_bool Try.underlying4 _) trodAll_mk0)) (fun sp _ => (trodAll_cons_mk (reads0 _ sp) (trodAll_cons_mk (shut_int Try.underlying2 w2) trodAll_mk0))) (fun _ _ => rfl) rfl hg⟩

theorem c1 : Rows.wideDividesRow.wf (OpenSpec.ofChange Rows.wideDividesSpec) = true := by kernel_rfl
theorem c4 : Try.f4.params.all (Try.prog.readableRec ·) = true := by kernel_rfl
theorem c5 : namedTie Try.prog Rows.wideDividesRow.named Rows.wideDividesSpec.vars = true := by kernel_rfl
theorem c6 : (Rows.wideDividesRow.stops == []) = true := by kernel_rfl
theorem c8 : (Rows.wideDividesRow.knobs == []) = true := by kernel_rfl
theorem c10 : (Rows.wideDividesRow.inPlace == Try.prog.inPlace 4) = true := by kernel_rfl
theorem c11 : (Rows.wideDividesRow.unfollowed == Try.prog.unfollowed 4) = true := by kernel_rfl
theorem c12 : (Rows.wideDividesRow.recurses == Try.prog.recurses 4) = true := by kernel_rfl
theorem c13 : (Rows.wideDividesRow.named == Try.prog.varsNamed 4) = true := by kernel_rfl
theorem c14 : (Rows.wideDividesRow.maps == (Try.f4.params.toList ++ Rows.wideDividesSpec.plain.varTypes Try.prog).any (Try.prog.mapsRec ·)) = true := by kernel_rfl
theorem c15 : (Rows.wideDividesRow.ifaces == (Try.f4.params.toList ++ Rows.wideDividesSpec.plain.varTypes Try.prog).any (Try.prog.ifacesRec ·)) = true := by kernel_rfl
theorem c16 : (Rows.wideDividesRow.mapsOut == Try.prog.mapsAmong Try.f4.resultTypes.toList) = true := by kernel_rfl
theorem c17 : (Rows.wideDividesRow.loops == (Try.f4.params.toList ++ Rows.wideDividesSpec.plain.varTypes Try.prog).any (Try.prog.loopsFrom ·)) = true := by kernel_rfl
theorem c18 : (Rows.wideDividesRow.wideKeys == (Try.f4.params.toList ++ Rows.wideDividesSpec.plain.varTypes Try.prog ++ Try.f4.resultTypes.toList).any (Try.prog.wideKeysFrom ·)) = true := by kernel_rfl
theorem c19 : Rows.wideDividesSpec.vars.all (Try.prog.varReadable ·) = true := by kernel_rfl
theorem c20 : Try.f4.resultTypes.all (fun t => Try.prog.readableRec t && decide (t < Try.prog.types.size)) = true := by kernel_rfl
theorem c21 : (Rows.wideDividesRow.ifacesOut == Try.f4.resultTypes.toList.any (Try.prog.ifacesRec ·)) = true := by kernel_rfl
theorem c22 : (Rows.wideDividesRow.loopsOut == Try.f4.resultTypes.toList.any (Try.prog.loopsFrom ·)) = true := by kernel_rfl
theorem c23 : (Rows.wideDividesRow.plainKeys == Try.prog.plainKeys) = true := by kernel_rfl
theorem c24 : Rows.wideDividesRow.shortTexts.isNone = true := by kernel_rfl
theorem c27 : (Rows.wideDividesRow.lifted == Try.prog.liftsFinal) = true := by rw [fact_lifts]; kernel_rfl
theorem c28 : (Try.prog.make == some Rows.wideDividesRow.make) = true := by rw [fact_make]; kernel_rfl
theorem c29 : (Rows.wideDividesRow.kinds == (if Rows.wideDividesRow.domain.isEmpty then [] else Try.f4.params.toList.map fun t => match Try.prog.underlying t with | some (.int k) => some k | _ => none)) = true := by kernel_rfl
theorem c30 : (Rows.wideDividesRow.pinned == Rows.wideDividesRow.pinnedBy) = true := by kernel_rfl
theorem c31 : (Rows.wideDividesRow.veiled == (Try.f4.params.toList ++ Rows.wideDividesSpec.plain.varTypes Try.prog ++ Try.f4.resultTypes.toList).any (Try.prog.veiledRec ·)) = true := by kernel_rfl
theorem c32 : Rows.wideDividesRow.veiledFits Try.prog Try.f4.params.toList (Try.f4.params.toList ++ Rows.wideDividesSpec.plain.varTypes Try.prog ++ Try.f4.resultTypes.toList) = true := by kernel_rfl
set_option maxRecDepth 100000 in
theorem closed : joinedFacts Try.prog 4 Try.f4 Rows.wideDividesSpec Rows.wideDividesRow = true := by
  unfold joinedFacts
  exact and2 (and2 (and2 (and2 (and2 (and2 (and2 (and2 (and2 (and2 (and2 (and2 (and2 (and2 (and2 (and2 (and2 (and2 (and2 (and2 (and2 (and2 (and2 (and2 (and2 (and2 (and2 (and2 (and2 (and2 (and2 (c1) fact_laidOut) fact_mapsRowed) c4) c5) c6) fact_stops) c8) fact_stopKnobs) c10) c11) c12) c13) c14) c15) c16) c17) c18) c19) c20) c21) c22) c23) c24) fact_stopsHeard) fact_mayEnter) c27) c28) c29) c30) c31) c32
theorem named : Try.prog.funcNamed Rows.wideDividesRow.func = some 4 := by kernel_rfl
theorem inst : Try.f4.isInstance Try.prog Rows.wideDividesRow.origin Rows.wideDividesRow.targs := of_decide_eq_true (by kernel_rfl)
theorem wrap : Try.f4.isWrapper Try.prog Rows.wideDividesRow.wrapper Rows.wideDividesRow.mainSum := by unfold Func.isWrapper; rw [if_neg (of_decide_eq_false (by kernel_rfl))]; exact ⟨rfl, rfl⟩

theorem over : Rows.wideDividesRow.holds Try.pinned (OpenSpec.ofChange Rows.wideDividesSpec) :=
  OpenClaim.holds_of_wide 4 Try.f4 rfl rfl rfl rfl rfl rfl rfl ⟨rfl, rfl, rfl, rfl, rfl⟩ rfl rfl rfl rfl rfl named Try.func4 closed inst wrap
    (fun os started H enc _ => lifted os started H enc)

theorem proved : Rows.WideDividesSaid :=
  over
#print axioms proved
end Go.Proofs.Ythffphcgkmjhbaa.wideDivides
