/-
  The statement Rows.FlexsizeRefusesSaid: for whatever input the function returns true, and each argument reads as it did. No condition.
-/
import Derived.Test.YthofammjbicogaaRows
import Derived.Test.YthofammjbicogaaZ9
import Derived.Test.YthofammjbicogaaFacts
import Derived.Test.YthofammjbicogaaYFxQ
namespace Go.Proofs.Ythofammjbicogaa.flexsizeRefuses
open Go.ChangeShapes Go.WideShapes Go.ChangeAt Go.RowKit Go.Joins Go.Deep
set_option linter.unusedVariables false

theorem own : ownKnob Try.prog.godebug = none := by kernel_rfl

theorem walk (a0 : Int) (a1 : Int) (a2 : Int) (a3 : Bool) (a4 : Int) (a5 : Int) (a6 : Int) (a7 : Int) (w : World) (w0 : (Lit.int .i64 a0).wf = true) (w1 : (Lit.int .i64 a1).wf = true) (w2 : (Lit.int .i64 a2).wf = true) (w4 : (Lit.int .i64 a4).wf = true) (w5 : (Lit.int .i64 a5).wf = true) (w6 : (Lit.int .i64 a6).wf = true) (w7 : (Lit.int .u16 a7).wf = true) :
    Calls Try.prog 11 #[.agg #[.int .i64 a0, .int .i64 a1, .int .i64 a2, .bool a3, .int .i64 a4, .int .i64 a5, .int .i64 a6], .int .u16 a7] w fun e w' => e = .returned (.bool true) ∧ Below w.heap.size w w' :=
  law_refuses ⟨a0, a1, a2, a3, a4, a5, a6⟩ a7 ⟨⟨fit_of_wf w0, fit_of_wf w1, fit_of_wf w2⟩, fit_of_wf w4, fit_of_wf w5, fit_of_wf w6⟩ (u16_of_wf w7).1 (u16_of_wf w7).2 w

set_option maxRecDepth 100000 in
theorem lifted (os : Os) (started : os.Started) (H : Type) (enc : TypeId × Value → H) :
    ReturnsInHanded {} Try.checked os 11 .any (Rows.flexsizeRefusesSpec.pre6 enc Try.prog Try.f11 Rows.flexsizeRefusesRow.domain false) (Rows.flexsizeRefusesSpec.post enc Try.prog Try.f11 false true false false) := by
  refine returnsInHanded_of_change (C := Try.checked) own started (by kernel_rfl) Try.func11
    (ChangeSpec.witness6 (enc := enc) (C := Try.checked) false ⟨#[], #[.agg #[.int .i64 0, .int .i64 0, .int .i64 0, .bool false, .int .i64 0, .int .i64 0, .int .i64 0], .int .u16 0], []⟩ 8 (by kernel_rfl) (by kernel_rfl) (by kernel_rfl) (by kernel_rfl)) ?_
  intro W base args ds gs before hval0 hW hcnd _
  have hval : ∀ (j : Nat) t v, Try.f11.params[j]? = some t → args[j]? = some v → Value.okWide Try.prog W .any base t v := hval0
  have hW' := hW
  obtain ⟨p, q, hA0, hV, rfl, hfz, hnd⟩ := hW
  have hA : DataW.TrodAll enc Try.prog W 0 (fun _ => true) true Try.f11.params.toList args.toList ds p := hA0
  obtain ⟨rfl, rfl⟩ := trodVars_none hV
  rw [List.append_nil] at hfz
  have hlt : ∀ x ∈ p, x.block < W.heap.size := fun x hx => hW'.lt x (List.mem_append_left _ hx)
  rw [Try.params11] at hA hval
  obtain ⟨v0, vs0, d0, ds0, p0, q0, hargs, rfl, rfl, h0, r0⟩ := trodAll_cons hA
  obtain ⟨v1, vs1, d1, ds1, p1, q1, rfl, rfl, rfl, h1, r1⟩ := trodAll_cons r0
  obtain ⟨rfl, rfl, rfl⟩ := trodAll_nil r1
  obtain rfl : args = #[v0, v1] := by cases args; simp_all
  have fz0 : W.noneFrozen p0 ∧ ∀ x ∈ p0, x.block < W.heap.size := ⟨fun b off hx => hfz b off (by simp [hx]), fun x hx => hlt x (by simp [hx])⟩
  have fz1 : W.noneFrozen p1 ∧ ∀ x ∈ p1, x.block < W.heap.size := ⟨fun b off hx => hfz b off (by simp [hx]), fun x hx => hlt x (by simp [hx])⟩
  have hpost : ∀ W', Below W.heap.size W W' → Rows.flexsizeRefusesSpec.post enc Try.prog Try.f11 false true false false W #[v0, v1] (.bool true) W' := fun W' hB =>
    post_law fact_laidOut fact_mapsRowed slices_full hW' rfl (by rw [Try.params11]; decide) rfl Try.underlying4 rfl hB
  clear hW' hA0 hval0 hfz hlt hA
  obtain ⟨l0, rfl, e0, f0⟩ := open_flat Try.underlying78 (by kernel_rfl) (by kernel_rfl) (hval 0 78 v0 rfl rfl) h0
  obtain ⟨a0, g0, w0⟩ := flat_int (t := 2) Try.underlying2 (f0 0 _ rfl)
  obtain ⟨a1, g1, w1⟩ := flat_int (t := 2) Try.underlying2 (f0 1 _ rfl)
  obtain ⟨a2, g2, w2⟩ := flat_int (t := 2) Try.underlying2 (f0 2 _ rfl)
  obtain ⟨a3, g3⟩ := flat_bool (t := 4) Try.underlying4 (f0 3 _ rfl)
  obtain ⟨a4, g4, w4⟩ := flat_int (t := 2) Try.underlying2 (f0 4 _ rfl)
  obtain ⟨a5, g5, w5⟩ := flat_int (t := 2) Try.underlying2 (f0 5 _ rfl)
  obtain ⟨a6, g6, w6⟩ := flat_int (t := 2) Try.underlying2 (f0 6 _ rfl)
  obtain rfl : l0 = [.int .i64 a0, .int .i64 a1, .int .i64 a2, .bool a3, .int .i64 a4, .int .i64 a5, .int .i64 a6] := list_by e0 (list_step g0 (list_step g1 (list_step g2 (list_step g3 (list_step g4 (list_step g5 (list_step g6 (list_end))))))))
  obtain ⟨a7, rfl, rfl, rfl, w7⟩ := open_int Try.underlying42 (hval 1 42 v1 rfl rfl) h1
  refine (walk a0 a1 a2 a3 a4 a5 a6 a7 W w0 w1 w2 w4 w5 w6 w7).mono fun e W' ⟨he, hg⟩ => ?_
  subst he
  exact ⟨_, rfl, hpost W' hg⟩

theorem c1 : Rows.flexsizeRefusesRow.wf (OpenSpec.ofChange Rows.flexsizeRefusesSpec) = true := by kernel_rfl
theorem c4 : Try.f11.params.all (Try.prog.readableRec ·) = true := by kernel_rfl
theorem c5 : namedTie Try.prog Rows.flexsizeRefusesRow.named Rows.flexsizeRefusesSpec.vars = true := by kernel_rfl
theorem c6 : (Rows.flexsizeRefusesRow.stops == []) = true := by kernel_rfl
theorem c8 : (Rows.flexsizeRefusesRow.knobs == []) = true := by kernel_rfl
theorem c10 : (Rows.flexsizeRefusesRow.inPlace == Try.prog.inPlace 11) = true := by kernel_rfl
theorem c11 : (Rows.flexsizeRefusesRow.unfollowed == Try.prog.unfollowed 11) = true := by kernel_rfl
theorem c12 : (Rows.flexsizeRefusesRow.recurses == Try.prog.recurses 11) = true := by kernel_rfl
theorem c13 : (Rows.flexsizeRefusesRow.named == Try.prog.varsNamed 11) = true := by kernel_rfl
theorem c14 : (Rows.flexsizeRefusesRow.maps == (Try.f11.params.toList ++ Rows.flexsizeRefusesSpec.plain.varTypes Try.prog).any (Try.prog.mapsRec ·)) = true := by kernel_rfl
theorem c15 : (Rows.flexsizeRefusesRow.ifaces == (Try.f11.params.toList ++ Rows.flexsizeRefusesSpec.plain.varTypes Try.prog).any (Try.prog.ifacesRec ·)) = true := by kernel_rfl
theorem c16 : (Rows.flexsizeRefusesRow.mapsOut == Try.prog.mapsAmong Try.f11.resultTypes.toList) = true := by kernel_rfl
theorem c17 : (Rows.flexsizeRefusesRow.loops == (Try.f11.params.toList ++ Rows.flexsizeRefusesSpec.plain.varTypes Try.prog).any (Try.prog.loopsFrom ·)) = true := by kernel_rfl
theorem c18 : (Rows.flexsizeRefusesRow.wideKeys == (Try.f11.params.toList ++ Rows.flexsizeRefusesSpec.plain.varTypes Try.prog ++ Try.f11.resultTypes.toList).any (Try.prog.wideKeysFrom ·)) = true := by kernel_rfl
theorem c19 : Rows.flexsizeRefusesSpec.vars.all (Try.prog.varReadable ·) = true := by kernel_rfl
theorem c20 : Try.f11.resultTypes.all (fun t => Try.prog.readableRec t && decide (t < Try.prog.types.size)) = true := by kernel_rfl
theorem c21 : (Rows.flexsizeRefusesRow.ifacesOut == Try.f11.resultTypes.toList.any (Try.prog.ifacesRec ·)) = true := by kernel_rfl
theorem c22 : (Rows.flexsizeRefusesRow.loopsOut == Try.f11.resultTypes.toList.any (Try.prog.loopsFrom ·)) = true := by kernel_rfl
theorem c23 : (Rows.flexsizeRefusesRow.plainKeys == Try.prog.plainKeys) = true := by kernel_rfl
theorem c24 : Rows.flexsizeRefusesRow.shortTexts.isNone = true := by kernel_rfl
theorem c27 : (Rows.flexsizeRefusesRow.lifted == Try.prog.liftsFinal) = true := by rw [fact_lifts]; kernel_rfl
theorem c28 : (Try.prog.make == some Rows.flexsizeRefusesRow.make) = true := by rw [fact_make]; kernel_rfl
theorem c29 : (Rows.flexsizeRefusesRow.kinds == (if Rows.flexsizeRefusesRow.domain.isEmpty then [] else Try.f11.params.toList.map fun t => match Try.prog.underlying t with | some (.int k) => some k | _ => none)) = true := by kernel_rfl
theorem c30 : (Rows.flexsizeRefusesRow.pinned == Rows.flexsizeRefusesRow.pinnedBy) = true := by kernel_rfl
theorem c31 : (Rows.flexsizeRefusesRow.veiled == (Try.f11.params.toList ++ Rows.flexsizeRefusesSpec.plain.varTypes Try.prog ++ Try.f11.resultTypes.toList).any (Try.prog.veiledRec ·)) = true := by kernel_rfl
theorem c32 : Rows.flexsizeRefusesRow.veiledFits Try.prog Try.f11.params.toList (Try.f11.params.toList ++ Rows.flexsizeRefusesSpec.plain.varTypes Try.prog ++ Try.f11.resultTypes.toList) = true := by kernel_rfl
set_option maxRecDepth 100000 in
theorem closed : joinedFacts Try.prog 11 Try.f11 Rows.flexsizeRefusesSpec Rows.flexsizeRefusesRow = true := by
  unfold joinedFacts
  exact and2 (and2 (and2 (and2 (and2 (and2 (and2 (and2 (and2 (and2 (and2 (and2 (and2 (and2 (and2 (and2 (and2 (and2 (and2 (and2 (and2 (and2 (and2 (and2 (and2 (and2 (and2 (and2 (and2 (and2 (and2 (c1) fact_laidOut) fact_mapsRowed) c4) c5) c6) fact_stops) c8) fact_stopKnobs) c10) c11) c12) c13) c14) c15) c16) c17) c18) c19) c20) c21) c22) c23) c24) fact_stopsHeard) fact_mayEnter) c27) c28) c29) c30) c31) c32
theorem named : Try.prog.funcNamed Rows.flexsizeRefusesRow.func = some 11 := by kernel_rfl
theorem inst : Try.f11.isInstance Try.prog Rows.flexsizeRefusesRow.origin Rows.flexsizeRefusesRow.targs := of_decide_eq_true (by kernel_rfl)
theorem wrap : Try.f11.isWrapper Try.prog Rows.flexsizeRefusesRow.wrapper Rows.flexsizeRefusesRow.mainSum := by unfold Func.isWrapper; rw [if_neg (of_decide_eq_false (by kernel_rfl))]; exact ⟨rfl, rfl⟩

theorem over : Rows.flexsizeRefusesRow.holds Try.pinned (OpenSpec.ofChange Rows.flexsizeRefusesSpec) :=
  OpenClaim.holds_of_wide 11 Try.f11 rfl rfl rfl rfl rfl rfl rfl ⟨rfl, rfl, rfl, rfl, rfl⟩ rfl rfl rfl rfl rfl named Try.func11 closed inst wrap
    (fun os started H enc _ => lifted os started H enc)

theorem proved : Rows.FlexsizeRefusesSaid :=
  over
#print axioms proved
end Go.Proofs.Ythofammjbicogaa.flexsizeRefuses
