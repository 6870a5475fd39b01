/-
  The statement Rows.SizingLimitsSaid: for whatever input the function returns true, and each argument reads as it did. No condition.
-/
import Derived.Test.YthffphcgkmjhbaaRows
import Derived.Test.YthffphcgkmjhbaaLaw
import Derived.Test.YthffphcgkmjhbaaFacts
import Derived.Test.YthffphcgkmjhbaaLawO
namespace Go.Proofs.Ythffphcgkmjhbaa.sizingLimits
open Go.ChangeShapes Go.WideShapes Go.ChangeAt Go.RowKit Go.Joins Go.Deep
set_option linter.unusedVariables false

theorem own : ownKnob Try.prog.godebug = none := by kernel_rfl

theorem walk (a0 : Int) (a1 : Int) (a2 : Int) (a3 : Int) (a4 : Int) (a5 : Int) (a6 : Int) (a7 : Int) (a8 : Bool) (a9 : Bool) (a10 : Int) (w : World) (w0 : (Lit.int .i64 a0).wf = true) (w1 : (Lit.int .i64 a1).wf = true) (w2 : (Lit.int .i64 a2).wf = true) (w3 : (Lit.int .i64 a3).wf = true) (w4 : (Lit.int .i64 a4).wf = true) (w5 : (Lit.int .i64 a5).wf = true) (w6 : (Lit.int .i64 a6).wf = true) (w7 : (Lit.int .i64 a7).wf = true) (w10 : (Lit.int .i64 a10).wf = true) :
    Calls Try.prog 22 #[.agg #[.int .i64 a0, .int .i64 a1, .int .i64 a2, .int .i64 a3], .agg #[.int .i64 a4, .int .i64 a5, .int .i64 a6, .int .i64 a7, .bool a8, .bool a9], .int .i64 a10] w fun e w' => e = .returned (.bool true) ∧ Below w.heap.size w w' :=
  law_limits a0 a1 a2 a3 a4 a5 a6 a7 a8 a9 a10 (fit_of_wf w1) (fit_of_wf w3) (fit_of_wf w4) (fit_of_wf w5) (fit_of_wf w6) (fit_of_wf w7) w

set_option maxRecDepth 100000 in
theorem lifted (os : Os) (started : os.Started) (H : Type) (enc : TypeId × Value → H) :
    ReturnsInHanded {} Try.checked os 22 .any (Rows.sizingLimitsSpec.pre6 enc Try.prog Try.f22 Rows.sizingLimitsRow.domain false) (Rows.sizingLimitsSpec.post enc Try.prog Try.f22 false true false false) := by
  refine returnsInHanded_of_change (C := Try.checked) own started (by kernel_rfl) Try.func22
    (ChangeSpec.witness6 (enc := enc) (C := Try.checked) false ⟨#[], #[.agg #[.int .i64 0, .int .i64 0, .int .i64 0, .int .i64 0], .agg #[.int .i64 0, .int .i64 0, .int .i64 0, .int .i64 0, .bool false, .bool false], .int .i64 0], []⟩ 8 (by kernel_rfl) (by kernel_rfl) (by kernel_rfl) (by kernel_rfl)) ?_
  intro W base args ds gs before hval0 hW hcnd _
  have hval : ∀ (j : Nat) t v, Try.f22.params[j]? = some t → args[j]? = some v → Value.okWide Try.prog W .any base t v := hval0
  have hW' := hW
  obtain ⟨p, q, hA0, hV, rfl, hfz, hnd⟩ := hW
  have hA : DataW.TrodAll enc Try.prog W 0 (fun _ => true) true Try.f22.params.toList args.toList ds p := hA0
  obtain ⟨rfl, rfl⟩ := trodVars_none hV
  rw [List.append_nil] at hfz
  have hlt : ∀ x ∈ p, x.block < W.heap.size := fun x hx => hW'.lt x (List.mem_append_left _ hx)
  rw [Try.params22] at hA hval
  obtain ⟨v0, vs0, d0, ds0, p0, q0, hargs, rfl, rfl, h0, r0⟩ := trodAll_cons hA
  obtain ⟨v1, vs1, d1, ds1, p1, q1, rfl, rfl, rfl, h1, r1⟩ := trodAll_cons r0
  obtain ⟨v2, vs2, d2, ds2, p2, q2, rfl, rfl, rfl, h2, r2⟩ := trodAll_cons r1
  obtain ⟨rfl, rfl, rfl⟩ := trodAll_nil r2
  obtain rfl : args = #[v0, v1, v2] := by cases args; simp_all
  have fz0 : W.noneFrozen p0 ∧ ∀ x ∈ p0, x.block < W.heap.size := ⟨fun b off hx => hfz b off (by simp [hx]), fun x hx => hlt x (by simp [hx])⟩
  have fz1 : W.noneFrozen p1 ∧ ∀ x ∈ p1, x.block < W.heap.size := ⟨fun b off hx => hfz b off (by simp [hx]), fun x hx => hlt x (by simp [hx])⟩
  have fz2 : W.noneFrozen p2 ∧ ∀ x ∈ p2, x.block < W.heap.size := ⟨fun b off hx => hfz b off (by simp [hx]), fun x hx => hlt x (by simp [hx])⟩
  have hpost : ∀ W', Below W.heap.size W W' → Rows.sizingLimitsSpec.post enc Try.prog Try.f22 false true false false W #[v0, v1, v2] (.bool true) W' := fun W' hB =>
    post_law fact_laidOut fact_mapsRowed slices_full hW' rfl (by rw [Try.params22]; decide) rfl Try.underlying4 rfl hB
  clear hW' hA0 hval0 hfz hlt hA
  obtain ⟨l0, rfl, e0, f0⟩ := open_arr_flat Try.underlying129 Try.underlying97 (by kernel_rfl) (by kernel_rfl) (by kernel_rfl) (hval 0 129 v0 rfl rfl) h0
  obtain ⟨a0, g0, w0⟩ := flat_int (t := 3) Try.underlying3 (f0 0 0 _ (by decide) rfl)
  obtain ⟨a1, g1, w1⟩ := flat_int (t := 2) Try.underlying2 (f0 0 1 _ (by decide) rfl)
  obtain ⟨a2, g2, w2⟩ := flat_int (t := 3) Try.underlying3 (f0 1 0 _ (by decide) rfl)
  obtain ⟨a3, g3, w3⟩ := flat_int (t := 2) Try.underlying2 (f0 1 1 _ (by decide) rfl)
  obtain rfl : l0 = [.int .i64 a0, .int .i64 a1, .int .i64 a2, .int .i64 a3] := list_by e0 (list_step g0 (list_step g1 (list_step g2 (list_step g3 (list_end)))))
  obtain ⟨l1, rfl, e1, f1⟩ := open_flat Try.underlying99 (by kernel_rfl) (by kernel_rfl) (hval 1 99 v1 rfl rfl) h1
  obtain ⟨a4, g4, w4⟩ := flat_int (t := 2) Try.underlying2 (f1 0 _ rfl)
  obtain ⟨a5, g5, w5⟩ := flat_int (t := 2) Try.underlying2 (f1 1 _ rfl)
  obtain ⟨a6, g6, w6⟩ := flat_int (t := 2) Try.underlying2 (f1 2 _ rfl)
  obtain ⟨a7, g7, w7⟩ := flat_int (t := 2) Try.underlying2 (f1 3 _ rfl)
  obtain ⟨a8, g8⟩ := flat_bool (t := 4) Try.underlying4 (f1 4 _ rfl)
  obtain ⟨a9, g9⟩ := flat_bool (t := 4) Try.underlying4 (f1 5 _ rfl)
  obtain rfl : l1 = [.int .i64 a4, .int .i64 a5, .int .i64 a6, .int .i64 a7, .bool a8, .bool a9] := list_by e1 (list_step g4 (list_step g5 (list_step g6 (list_step g7 (list_step g8 (list_step g9 (list_end)))))))
  obtain ⟨a10, rfl, rfl, rfl, w10⟩ := open_int Try.underlying2 (hval 2 2 v2 rfl rfl) h2
  refine (walk a0 a1 a2 a3 a4 a5 a6 a7 a8 a9 a10 W w0 w1 w2 w3 w4 w5 w6 w7 w10).mono fun e W' ⟨he, hg⟩ => ?_
  subst he
  exact ⟨_, rfl, hpost W' hg⟩

theorem c1 : Rows.sizingLimitsRow.wf (OpenSpec.ofChange Rows.sizingLimitsSpec) = true := by kernel_rfl
theorem c4 : Try.f22.params.all (Try.prog.readableRec ·) = true := by kernel_rfl
theorem c5 : namedTie Try.prog Rows.sizingLimitsRow.named Rows.sizingLimitsSpec.vars = true := by kernel_rfl
theorem c6 : (Rows.sizingLimitsRow.stops == []) = true := by kernel_rfl
theorem c8 : (Rows.sizingLimitsRow.knobs == []) = true := by kernel_rfl
theorem c10 : (Rows.sizingLimitsRow.inPlace == Try.prog.inPlace 22) = true := by kernel_rfl
theorem c11 : (Rows.sizingLimitsRow.unfollowed == Try.prog.unfollowed 22) = true := by kernel_rfl
theorem c12 : (Rows.sizingLimitsRow.recurses == Try.prog.recurses 22) = true := by kernel_rfl
theorem c13 : (Rows.sizingLimitsRow.named == Try.prog.varsNamed 22) = true := by kernel_rfl
theorem c14 : (Rows.sizingLimitsRow.maps == (Try.f22.params.toList ++ Rows.sizingLimitsSpec.plain.varTypes Try.prog).any (Try.prog.mapsRec ·)) = true := by kernel_rfl
theorem c15 : (Rows.sizingLimitsRow.ifaces == (Try.f22.params.toList ++ Rows.sizingLimitsSpec.plain.varTypes Try.prog).any (Try.prog.ifacesRec ·)) = true := by kernel_rfl
theorem c16 : (Rows.sizingLimitsRow.mapsOut == Try.prog.mapsAmong Try.f22.resultTypes.toList) = true := by kernel_rfl
theorem c17 : (Rows.sizingLimitsRow.loops == (Try.f22.params.toList ++ Rows.sizingLimitsSpec.plain.varTypes Try.prog).any (Try.prog.loopsFrom ·)) = true := by kernel_rfl
theorem c18 : (Rows.sizingLimitsRow.wideKeys == (Try.f22.params.toList ++ Rows.sizingLimitsSpec.plain.varTypes Try.prog ++ Try.f22.resultTypes.toList).any (Try.prog.wideKeysFrom ·)) = true := by kernel_rfl
theorem c19 : Rows.sizingLimitsSpec.vars.all (Try.prog.varReadable ·) = true := by kernel_rfl
theorem c20 : Try.f22.resultTypes.all (fun t => Try.prog.readableRec t && decide (t < Try.prog.types.size)) = true := by kernel_rfl
theorem c21 : (Rows.sizingLimitsRow.ifacesOut == Try.f22.resultTypes.toList.any (Try.prog.ifacesRec ·)) = true := by kernel_rfl
theorem c22 : (Rows.sizingLimitsRow.loopsOut == Try.f22.resultTypes.toList.any (Try.prog.loopsFrom ·)) = true := by kernel_rfl
theorem c23 : (Rows.sizingLimitsRow.plainKeys == Try.prog.plainKeys) = true := by kernel_rfl
theorem c24 : Rows.sizingLimitsRow.shortTexts.isNone = true := by kernel_rfl
theorem c27 : (Rows.sizingLimitsRow.lifted == Try.prog.liftsFinal) = true := by rw [fact_lifts]; kernel_rfl
theorem c28 : (Try.prog.make == some Rows.sizingLimitsRow.make) = true := by rw [fact_make]; kernel_rfl
theorem c29 : (Rows.sizingLimitsRow.kinds == (if Rows.sizingLimitsRow.domain.isEmpty then [] else Try.f22.params.toList.map fun t => match Try.prog.underlying t with | some (.int k) => some k | _ => none)) = true := by kernel_rfl
theorem c30 : (Rows.sizingLimitsRow.pinned == Rows.sizingLimitsRow.pinnedBy) = true := by kernel_rfl
theorem c31 : (Rows.sizingLimitsRow.veiled == (Try.f22.params.toList ++ Rows.sizingLimitsSpec.plain.varTypes Try.prog ++ Try.f22.resultTypes.toList).any (Try.prog.veiledRec ·)) = true := by kernel_rfl
theorem c32 : Rows.sizingLimitsRow.veiledFits Try.prog Try.f22.params.toList (Try.f22.params.toList ++ Rows.sizingLimitsSpec.plain.varTypes Try.prog ++ Try.f22.resultTypes.toList) = true := by kernel_rfl
set_option maxRecDepth 100000 in
theorem closed : joinedFacts Try.prog 22 Try.f22 Rows.sizingLimitsSpec Rows.sizingLimitsRow = true := by
  unfold joinedFacts
  exact and2 (and2 (and2 (and2 (and2 (and2 (and2 (and2 (and2 (and2 (and2 (and2 (and2 (and2 (and2 (and2 (and2 (and2 (and2 (and2 (and2 (and2 (and2 (and2 (and2 (and2 (and2 (and2 (and2 (and2 (and2 (c1) fact_laidOut) fact_mapsRowed) c4) c5) c6) fact_stops) c8) fact_stopKnobs) c10) c11) c12) c13) c14) c15) c16) c17) c18) c19) c20) c21) c22) c23) c24) fact_stopsHeard) fact_mayEnter) c27) c28) c29) c30) c31) c32
theorem named : Try.prog.funcNamed Rows.sizingLimitsRow.func = some 22 := by kernel_rfl
theorem inst : Try.f22.isInstance Try.prog Rows.sizingLimitsRow.origin Rows.sizingLimitsRow.targs := of_decide_eq_true (by kernel_rfl)
theorem wrap : Try.f22.isWrapper Try.prog Rows.sizingLimitsRow.wrapper Rows.sizingLimitsRow.mainSum := by unfold Func.isWrapper; rw [if_neg (of_decide_eq_false (by kernel_rfl))]; exact ⟨rfl, rfl⟩

theorem over : Rows.sizingLimitsRow.holds Try.pinned (OpenSpec.ofChange Rows.sizingLimitsSpec) :=
  OpenClaim.holds_of_wide 22 Try.f22 rfl rfl rfl rfl rfl rfl rfl ⟨rfl, rfl, rfl, rfl, rfl⟩ rfl rfl rfl rfl rfl named Try.func22 closed inst wrap
    (fun os started H enc _ => lifted os started H enc)

theorem proved : Rows.SizingLimitsSaid :=
  over
#print axioms proved
end Go.Proofs.Ythffphcgkmjhbaa.sizingLimits
