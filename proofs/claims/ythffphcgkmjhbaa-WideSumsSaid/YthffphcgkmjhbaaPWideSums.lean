/-
  The statement Rows.WideSumsSaid: for whatever input the function returns true, and each argument reads as it did. No condition.
-/
import Derived.Test.YthffphcgkmjhbaaRows
import Derived.Test.YthffphcgkmjhbaaLift
import Derived.Test.YthffphcgkmjhbaaFacts
import Derived.Lib.SmallJoins
import Derived.Test.YthffphcgkmjhbaaLawE
namespace Go.Proofs.Ythffphcgkmjhbaa.wideSums
open Go.ChangeShapes Go.WideShapes Go.ChangeAt Go.RowKit Go.Joins
set_option linter.unusedVariables false

theorem own : ownKnob Try.prog.godebug = none := by kernel_rfl

theorem walk (a0 : Int) (a1 : Int) (a2 : Int) (a3 : Int) (w0 : (Lit.int .i64 a0).wf = true) (w1 : (Lit.int .u64 a1).wf = true) (w2 : (Lit.int .i64 a2).wf = true) (w3 : (Lit.int .u64 a3).wf = true) (w : World) :
    Calls Try.prog 6 #[.agg #[.int .i64 a0, .int .u64 a1], .agg #[.int .i64 a2, .int .u64 a3]] w fun e w' => e = .returned (.bool true) ∧ Below w.heap.size w w' :=
  law_sums (a0 * 18446744073709551616 + a1) (a2 * 18446744073709551616 + a3) a0 a1 a2 a3 (wd_of_wf w0 w1) (wd_of_wf w2 w3) w

set_option maxRecDepth 100000 in
theorem lifted (os : Os) (started : os.Started) (H : Type) (enc : TypeId × Value → H) :
    ReturnsInHanded {} Try.checked os 6 .any (Rows.wideSumsSpec.pre6 enc Try.prog Try.f6 Rows.wideSumsRow.domain false) (Rows.wideSumsSpec.post enc Try.prog Try.f6 false true false false) := by
  refine returnsInHanded_of_change (C := Try.checked) own started (by kernel_rfl) Try.func6
    (ChangeSpec.witness6 (enc := enc) (C := Try.checked) false ⟨#[], #[.agg #[.int .i64 0, .int .u64 0], .agg #[.int .i64 0, .int .u64 0]], []⟩ 8 (by kernel_rfl) (by kernel_rfl) (by kernel_rfl) (by kernel_rfl)) ?_
  intro W base args ds gs before hval0 hW hcnd _
  have hval : ∀ (j : Nat) t v, Try.f6.params[j]? = some t → args[j]? = some v → Value.okWide Try.prog W .any base t v := hval0
  have hW' := hW
  obtain ⟨p, q, hA0, hV, rfl, hfz, hnd⟩ := hW
  have hA : DataW.TrodAll enc Try.prog W 0 (fun _ => true) true Try.f6.params.toList args.toList ds p := hA0
  rw [Try.params6] at hA hval
  obtain ⟨v0, vs0, d0, ds0, p0, q0, hargs, rfl, rfl, h0, r0⟩ := trodAll_cons hA
  obtain ⟨v1, vs1, d1, ds1, p1, q1, rfl, rfl, rfl, h1, r1⟩ := trodAll_cons r0
  obtain ⟨rfl, rfl, rfl⟩ := trodAll_nil r1
  obtain rfl : args = #[v0, v1] := by cases args; simp_all
  obtain ⟨rfl, rfl⟩ := trodVars_none hV
  obtain ⟨c0_0, c0_1, y0_0, y0_1, m0, rfl, rfl, rfl, hy0_0, hy0_1⟩ := open_agg2 Try.underlying38 (by kernel_rfl) (by kernel_rfl) (hval 0 38 v0 rfl rfl) h0
  obtain ⟨a0, e0, rfl, w0⟩ := DataW.trod_int Try.underlying2 hy0_0
  simp at e0
  subst e0
  obtain ⟨a1, e1, rfl, w1⟩ := DataW.trod_int Try.underlying23 hy0_1
  simp at e1
  subst e1
  obtain ⟨c1_0, c1_1, y1_0, y1_1, m1, rfl, rfl, rfl, hy1_0, hy1_1⟩ := open_agg2 Try.underlying38 (by kernel_rfl) (by kernel_rfl) (hval 1 38 v1 rfl rfl) h1
  obtain ⟨a2, e2, rfl, w2⟩ := DataW.trod_int Try.underlying2 hy1_0
  simp at e2
  subst e2
  obtain ⟨a3, e3, rfl, w3⟩ := DataW.trod_int Try.underlying23 hy1_1
  simp at e3
  subst e3
  clear hA0 hval0
  simp only [List.append_nil] at hW'
  have reads0 : ∀ (W' : World) (sp : Nat → Bool), DataW.Trod enc Try.prog W' 0 sp true 38 (.agg #[.int .i64 a0, .int .u64 a1]) (.agg [.lit (.int .i64 a0), .lit (.int .u64 a1)]) [] := fun W' sp =>
    shut_agg2 (y0 := (.lit (.int .i64 a0), [])) (y1 := (.lit (.int .u64 a1), [])) Try.underlying38 (by kernel_rfl) (by kernel_rfl) ⟨1, by simp [DataW.trod, Try.underlying2, w0]⟩ ⟨1, by simp [DataW.trod, Try.underlying23, w1]⟩
  have reads1 : ∀ (W' : World) (sp : Nat → Bool), DataW.Trod enc Try.prog W' 0 sp true 38 (.agg #[.int .i64 a2, .int .u64 a3]) (.agg [.lit (.int .i64 a2), .lit (.int .u64 a3)]) [] := fun W' sp =>
    shut_agg2 (y0 := (.lit (.int .i64 a2), [])) (y1 := (.lit (.int .u64 a3), [])) Try.underlying38 (by kernel_rfl) (by kernel_rfl) ⟨1, by simp [DataW.trod, Try.underlying2, w2]⟩ ⟨1, by simp [DataW.trod, Try.underlying23, w3]⟩
  refine (walk a0 a1 a2 a3 w0 w1 w2 w3 W).mono fun e W' ⟨he, hg⟩ => ?_
  subst he
  exact ⟨_, rfl, post_below (pa := []) (pv := []) hW' (fun _ _ _ => (trodAll_cons_mk (shut_bool Try.underlying4 _) trodAll_mk0)) (fun sp _ => (trodAll_cons_mk (reads0 _ sp) (trodAll_cons_mk (reads1 _ sp) trodAll_mk0))) (fun _ _ => rfl) rfl hg⟩

theorem c1 : Rows.wideSumsRow.wf (OpenSpec.ofChange Rows.wideSumsSpec) = true := by kernel_rfl
theorem c4 : Try.f6.params.all (Try.prog.readableRec ·) = true := by kernel_rfl
theorem c5 : namedTie Try.prog Rows.wideSumsRow.named Rows.wideSumsSpec.vars = true := by kernel_rfl
theorem c6 : (Rows.wideSumsRow.stops == []) = true := by kernel_rfl
theorem c8 : (Rows.wideSumsRow.knobs == []) = true := by kernel_rfl
theorem c10 : (Rows.wideSumsRow.inPlace == Try.prog.inPlace 6) = true := by kernel_rfl
theorem c11 : (Rows.wideSumsRow.unfollowed == Try.prog.unfollowed 6) = true := by kernel_rfl
theorem c12 : (Rows.wideSumsRow.recurses == Try.prog.recurses 6) = true := by kernel_rfl
theorem c13 : (Rows.wideSumsRow.named == Try.prog.varsNamed 6) = true := by kernel_rfl
theorem c14 : (Rows.wideSumsRow.maps == (Try.f6.params.toList ++ Rows.wideSumsSpec.plain.varTypes Try.prog).any (Try.prog.mapsRec ·)) = true := by kernel_rfl
theorem c15 : (Rows.wideSumsRow.ifaces == (Try.f6.params.toList ++ Rows.wideSumsSpec.plain.varTypes Try.prog).any (Try.prog.ifacesRec ·)) = true := by kernel_rfl
theorem c16 : (Rows.wideSumsRow.mapsOut == Try.prog.mapsAmong Try.f6.resultTypes.toList) = true := by kernel_rfl
theorem c17 : (Rows.wideSumsRow.loops == (Try.f6.params.toList ++ Rows.wideSumsSpec.plain.varTypes Try.prog).any (Try.prog.loopsFrom ·)) = true := by kernel_rfl
theorem c18 : (Rows.wideSumsRow.wideKeys == (Try.f6.params.toList ++ Rows.wideSumsSpec.plain.varTypes Try.prog ++ Try.f6.resultTypes.toList).any (Try.prog.wideKeysFrom ·)) = true := by kernel_rfl
theorem c19 : Rows.wideSumsSpec.vars.all (Try.prog.varReadable ·) = true := by kernel_rfl
theorem c20 : Try.f6.resultTypes.all (fun t => Try.prog.readableRec t && decide (t < Try.prog.types.size)) = true := by kernel_rfl
theorem c21 : (Rows.wideSumsRow.ifacesOut == Try.f6.resultTypes.toList.any (Try.prog.ifacesRec ·)) = true := by kernel_rfl
theorem c22 : (Rows.wideSumsRow.loopsOut == Try.f6.resultTypes.toList.any (Try.prog.loopsFrom ·)) = true := by kernel_rfl
theorem c23 : (Rows.wideSumsRow.plainKeys == Try.prog.plainKeys) = true := by kernel_rfl
theorem c24 : Rows.wideSumsRow.shortTexts.isNone = true := by kernel_rfl
theorem c27 : (Rows.wideSumsRow.lifted == Try.prog.liftsFinal) = true := by rw [fact_lifts]; kernel_rfl
theorem c28 : (Try.prog.make == some Rows.wideSumsRow.make) = true := by rw [fact_make]; kernel_rfl
theorem c29 : (Rows.wideSumsRow.kinds == (if Rows.wideSumsRow.domain.isEmpty then [] else Try.f6.params.toList.map fun t => match Try.prog.underlying t with | some (.int k) => some k | _ => none)) = true := by kernel_rfl
theorem c30 : (Rows.wideSumsRow.pinned == Rows.wideSumsRow.pinnedBy) = true := by kernel_rfl
theorem c31 : (Rows.wideSumsRow.veiled == (Try.f6.params.toList ++ Rows.wideSumsSpec.plain.varTypes Try.prog ++ Try.f6.resultTypes.toList).any (Try.prog.veiledRec ·)) = true := by kernel_rfl
theorem c32 : Rows.wideSumsRow.veiledFits Try.prog Try.f6.params.toList (Try.f6.params.toList ++ Rows.wideSumsSpec.plain.varTypes Try.prog ++ Try.f6.resultTypes.toList) = true := by kernel_rfl
set_option maxRecDepth 100000 in
theorem closed : joinedFacts Try.prog 6 Try.f6 Rows.wideSumsSpec Rows.wideSumsRow = true := by
  unfold joinedFacts
  exact and2 (and2 (and2 (and2 (and2 (and2 (and2 (and2 (and2 (and2 (and2 (and2 (and2 (and2 (and2 (and2 (and2 (and2 (and2 (and2 (and2 (and2 (and2 (and2 (and2 (and2 (and2 (and2 (and2 (and2 (and2 (c1) fact_laidOut) fact_mapsRowed) c4) c5) c6) fact_stops) c8) fact_stopKnobs) c10) c11) c12) c13) c14) c15) c16) c17) c18) c19) c20) c21) c22) c23) c24) fact_stopsHeard) fact_mayEnter) c27) c28) c29) c30) c31) c32
theorem named : Try.prog.funcNamed Rows.wideSumsRow.func = some 6 := by kernel_rfl
theorem inst : Try.f6.isInstance Try.prog Rows.wideSumsRow.origin Rows.wideSumsRow.targs := of_decide_eq_true (by kernel_rfl)
theorem wrap : Try.f6.isWrapper Try.prog Rows.wideSumsRow.wrapper Rows.wideSumsRow.mainSum := by unfold Func.isWrapper; rw [if_neg (of_decide_eq_false (by kernel_rfl))]; exact ⟨rfl, rfl⟩

theorem over : Rows.wideSumsRow.holds Try.pinned (OpenSpec.ofChange Rows.wideSumsSpec) :=
  OpenClaim.holds_of_wide 6 Try.f6 rfl rfl rfl rfl rfl rfl rfl ⟨rfl, rfl, rfl, rfl, rfl⟩ rfl rfl rfl rfl rfl named Try.func6 closed inst wrap
    (fun os started H enc _ => lifted os started H enc)

theorem proved : Rows.WideSumsSaid :=
  over
#print axioms proved
end Go.Proofs.Ythffphcgkmjhbaa.wideSums
