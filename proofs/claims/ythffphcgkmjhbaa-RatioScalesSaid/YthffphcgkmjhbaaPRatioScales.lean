/-
  The statement Rows.RatioScalesSaid: for whatever input the function returns true, and each argument reads as it did. No condition.
-/
import Derived.Test.YthffphcgkmjhbaaRows
import Derived.Test.YthffphcgkmjhbaaLift
import Derived.Test.YthffphcgkmjhbaaFacts
import Derived.Lib.SmallJoins
import Derived.Test.YthffphcgkmjhbaaLawH
namespace Go.Proofs.Ythffphcgkmjhbaa.ratioScales
open Go.ChangeShapes Go.WideShapes Go.ChangeAt Go.RowKit Go.Joins
set_option linter.unusedVariables false

theorem own : ownKnob Try.prog.godebug = none := by kernel_rfl

theorem walk (a0 : Int) (a1 : Int) (a2 : Int) (a3 : Int) (w0 : (Lit.int .u16 a0).wf = true) (w1 : (Lit.int .u16 a1).wf = true) (w2 : (Lit.int .i64 a2).wf = true) (w3 : (Lit.int .i64 a3).wf = true) (w : World) :
    Calls Try.prog 10 #[.agg #[.int .u16 a0, .int .u16 a1, .int .i64 a2, .int .i64 a3]] w fun e w' => e = .returned (.bool true) ∧ Below w.heap.size w w' :=
  law_scales a0 a1 a2 a3 (by simp [Lit.wf, IntKind.min, IntKind.max, IntKind.signed, IntKind.bits] at w0; omega) (by simp [Lit.wf, IntKind.min, IntKind.max, IntKind.signed, IntKind.bits] at w0; omega) (by simp [Lit.wf, IntKind.min, IntKind.max, IntKind.signed, IntKind.bits] at w1; omega) (by simp [Lit.wf, IntKind.min, IntKind.max, IntKind.signed, IntKind.bits] at w1; omega) (fit_of_wf w2) (fit_of_wf w3) w

set_option maxRecDepth 100000 in
theorem lifted (os : Os) (started : os.Started) (H : Type) (enc : TypeId × Value → H) :
    ReturnsInHanded {} Try.checked os 10 .any (Rows.ratioScalesSpec.pre6 enc Try.prog Try.f10 Rows.ratioScalesRow.domain false) (Rows.ratioScalesSpec.post enc Try.prog Try.f10 false true false false) := by
  refine returnsInHanded_of_change (C := Try.checked) own started (by kernel_rfl) Try.func10
    (ChangeSpec.witness6 (enc := enc) (C := Try.checked) false ⟨#[], #[.agg #[.int .u16 0, .int .u16 0, .int .i64 0, .int .i64 0]], []⟩ 8 (by kernel_rfl) (by kernel_rfl) (by kernel_rfl) (by kernel_rfl)) ?_
  intro W base args ds gs before hval0 hW hcnd _
  have hval : ∀ (j : Nat) t v, Try.f10.params[j]? = some t → args[j]? = some v → Value.okWide Try.prog W .any base t v := hval0
  have hW' := hW
  obtain ⟨p, q, hA0, hV, rfl, hfz, hnd⟩ := hW
  have hA : DataW.TrodAll enc Try.prog W 0 (fun _ => true) true Try.f10.params.toList args.toList ds p := hA0
  rw [Try.params10] at hA hval
  obtain ⟨v0, vs0, d0, ds0, p0, q0, hargs, rfl, rfl, h0, r0⟩ := trodAll_cons hA
  obtain ⟨rfl, rfl, rfl⟩ := trodAll_nil r0
  obtain rfl : args = #[v0] := by cases args; simp_all
  obtain ⟨rfl, rfl⟩ := trodVars_none hV
  obtain ⟨c0_0, c0_1, c0_2, c0_3, y0_0, y0_1, y0_2, y0_3, m0, rfl, rfl, rfl, hy0_0, hy0_1, hy0_2, hy0_3⟩ := open_agg4 Try.underlying68 (by kernel_rfl) (by kernel_rfl) (hval 0 68 v0 rfl rfl) h0
  obtain ⟨a0, e0, rfl, w0⟩ := DataW.trod_int Try.underlying66 hy0_0
  simp at e0
  subst e0
  obtain ⟨a1, e1, rfl, w1⟩ := DataW.trod_int Try.underlying66 hy0_1
  simp at e1
  subst e1
  obtain ⟨a2, e2, rfl, w2⟩ := DataW.trod_int Try.underlying2 hy0_2
  simp at e2
  subst e2
  obtain ⟨a3, e3, rfl, w3⟩ := DataW.trod_int Try.underlying2 hy0_3
  simp at e3
  subst e3
  clear hA0 hval0
  simp only [List.append_nil] at hW'
  have reads0 : ∀ (W' : World) (sp : Nat → Bool), DataW.Trod enc Try.prog W' 0 sp true 68 (.agg #[.int .u16 a0, .int .u16 a1, .int .i64 a2, .int .i64 a3]) (.agg [.lit (.int .u16 a0), .lit (.int .u16 a1), .lit (.int .i64 a2), .lit (.int .i64 a3)]) [] := fun W' sp =>
    shut_agg4 (y0 := (.lit (.int .u16 a0), [])) (y1 := (.lit (.int .u16 a1), [])) (y2 := (.lit (.int .i64 a2), [])) (y3 := (.lit (.int .i64 a3), [])) Try.underlying68 (by kernel_rfl) (by kernel_rfl) ⟨1, by simp [DataW.trod, Try.underlying66, w0]⟩ ⟨1, by simp [DataW.trod, Try.underlying66, w1]⟩ ⟨1, by simp [DataW.trod, Try.underlying2, w2]⟩ ⟨1, by simp [DataW.trod, Try.underlying2, w3]⟩
  refine (walk a0 a1 a2 a3 w0 w1 w2 w3 W).mono fun e W' ⟨he, hg⟩ => ?_
  subst he
  exact ⟨_, rfl, post_below (pa := []) (pv := []) hW' (fun _ _ _ => (trodAll_cons_mk (shut_bool Try.underlying4 _) trodAll_mk0)) (fun sp _ => (trodAll_cons_mk (reads0 _ sp) trodAll_mk0)) (fun _ _ => rfl) rfl hg⟩

theorem c1 : Rows.ratioScalesRow.wf (OpenSpec.ofChange Rows.ratioScalesSpec) = true := by kernel_rfl
theorem c4 : Try.f10.params.all (Try.prog.readableRec ·) = true := by kernel_rfl
theorem c5 : namedTie Try.prog Rows.ratioScalesRow.named Rows.ratioScalesSpec.vars = true := by kernel_rfl
theorem c6 : (Rows.ratioScalesRow.stops == []) = true := by kernel_rfl
theorem c8 : (Rows.ratioScalesRow.knobs == []) = true := by kernel_rfl
theorem c10 : (Rows.ratioScalesRow.inPlace == Try.prog.inPlace 10) = true := by kernel_rfl
theorem c11 : (Rows.ratioScalesRow.unfollowed == Try.prog.unfollowed 10) = true := by kernel_rfl
theorem c12 : (Rows.ratioScalesRow.recurses == Try.prog.recurses 10) = true := by kernel_rfl
theorem c13 : (Rows.ratioScalesRow.named == Try.prog.varsNamed 10) = true := by kernel_rfl
theorem c14 : (Rows.ratioScalesRow.maps == (Try.f10.params.toList ++ Rows.ratioScalesSpec.plain.varTypes Try.prog).any (Try.prog.mapsRec ·)) = true := by kernel_rfl
theorem c15 : (Rows.ratioScalesRow.ifaces == (Try.f10.params.toList ++ Rows.ratioScalesSpec.plain.varTypes Try.prog).any (Try.prog.ifacesRec ·)) = true := by kernel_rfl
theorem c16 : (Rows.ratioScalesRow.mapsOut == Try.prog.mapsAmong Try.f10.resultTypes.toList) = true := by kernel_rfl
theorem c17 : (Rows.ratioScalesRow.loops == (Try.f10.params.toList ++ Rows.ratioScalesSpec.plain.varTypes Try.prog).any (Try.prog.loopsFrom ·)) = true := by kernel_rfl
theorem c18 : (Rows.ratioScalesRow.wideKeys == (Try.f10.params.toList ++ Rows.ratioScalesSpec.plain.varTypes Try.prog ++ Try.f10.resultTypes.toList).any (Try.prog.wideKeysFrom ·)) = true := by kernel_rfl
theorem c19 : Rows.ratioScalesSpec.vars.all (Try.prog.varReadable ·) = true := by kernel_rfl
theorem c20 : Try.f10.resultTypes.all (fun t => Try.prog.readableRec t && decide (t < Try.prog.types.size)) = true := by kernel_rfl
theorem c21 : (Rows.ratioScalesRow.ifacesOut == Try.f10.resultTypes.toList.any (Try.prog.ifacesRec ·)) = true := by kernel_rfl
theorem c22 : (Rows.ratioScalesRow.loopsOut == Try.f10.resultTypes.toList.any (Try.prog.loopsFrom ·)) = true := by kernel_rfl
theorem c23 : (Rows.ratioScalesRow.plainKeys == Try.prog.plainKeys) = true := by kernel_rfl
theorem c24 : Rows.ratioScalesRow.shortTexts.isNone = true := by kernel_rfl
theorem c27 : (Rows.ratioScalesRow.lifted == Try.prog.liftsFinal) = true := by rw [fact_lifts]; kernel_rfl
theorem c28 : (Try.prog.make == some Rows.ratioScalesRow.make) = true := by rw [fact_make]; kernel_rfl
theorem c29 : (Rows.ratioScalesRow.kinds == (if Rows.ratioScalesRow.domain.isEmpty then [] else Try.f10.params.toList.map fun t => match Try.prog.underlying t with | some (.int k) => some k | _ => none)) = true := by kernel_rfl
theorem c30 : (Rows.ratioScalesRow.pinned == Rows.ratioScalesRow.pinnedBy) = true := by kernel_rfl
theorem c31 : (Rows.ratioScalesRow.veiled == (Try.f10.params.toList ++ Rows.ratioScalesSpec.plain.varTypes Try.prog ++ Try.f10.resultTypes.toList).any (Try.prog.veiledRec ·)) = true := by kernel_rfl
theorem c32 : Rows.ratioScalesRow.veiledFits Try.prog Try.f10.params.toList (Try.f10.params.toList ++ Rows.ratioScalesSpec.plain.varTypes Try.prog ++ Try.f10.resultTypes.toList) = true := by kernel_rfl
set_option maxRecDepth 100000 in
theorem closed : joinedFacts Try.prog 10 Try.f10 Rows.ratioScalesSpec Rows.ratioScalesRow = true := by
  unfold joinedFacts
  exact and2 (and2 (and2 (and2 (and2 (and2 (and2 (and2 (and2 (and2 (and2 (and2 (and2 (and2 (and2 (and2 (and2 (and2 (and2 (and2 (and2 (and2 (and2 (and2 (and2 (and2 (and2 (and2 (and2 (and2 (and2 (c1) fact_laidOut) fact_mapsRowed) c4) c5) c6) fact_stops) c8) fact_stopKnobs) c10) c11) c12) c13) c14) c15) c16) c17) c18) c19) c20) c21) c22) c23) c24) fact_stopsHeard) fact_mayEnter) c27) c28) c29) c30) c31) c32
theorem named : Try.prog.funcNamed Rows.ratioScalesRow.func = some 10 := by kernel_rfl
theorem inst : Try.f10.isInstance Try.prog Rows.ratioScalesRow.origin Rows.ratioScalesRow.targs := of_decide_eq_true (by kernel_rfl)
theorem wrap : Try.f10.isWrapper Try.prog Rows.ratioScalesRow.wrapper Rows.ratioScalesRow.mainSum := by unfold Func.isWrapper; rw [if_neg (of_decide_eq_false (by kernel_rfl))]; exact ⟨rfl, rfl⟩

theorem over : Rows.ratioScalesRow.holds Try.pinned (OpenSpec.ofChange Rows.ratioScalesSpec) :=
  OpenClaim.holds_of_wide 10 Try.f10 rfl rfl rfl rfl rfl rfl rfl ⟨rfl, rfl, rfl, rfl, rfl⟩ rfl rfl rfl rfl rfl named Try.func10 closed inst wrap
    (fun os started H enc _ => lifted os started H enc)

theorem proved : Rows.RatioScalesSaid :=
  over
#print axioms proved
end Go.Proofs.Ythffphcgkmjhbaa.ratioScales
