/-
  The statement Rows.SizingFitsSaid: for whatever input the function returns true, and each argument reads as it did. No condition.
-/
import Derived.Test.YthffphcgkmjhbaaRows
import Derived.Test.YthffphcgkmjhbaaLaw
import Derived.Test.YthffphcgkmjhbaaFacts
import Derived.Test.YthffphcgkmjhbaaLawM
namespace Go.Proofs.Ythffphcgkmjhbaa.sizingFits
open Go.ChangeShapes Go.WideShapes Go.ChangeAt Go.RowKit Go.Joins Go.Deep
set_option linter.unusedVariables false

theorem own : ownKnob Try.prog.godebug = none := by kernel_rfl

theorem walk (a0 : Int) (a1 : Int) (a2 : Int) (a3 : Int) (w : World) (w0 : (Lit.int .u32 a0).wf = true) (w1 : (Lit.int .u32 a1).wf = true) (w2 : (Lit.int .u32 a2).wf = true) (w3 : (Lit.int .u32 a3).wf = true) :
    Calls Try.prog 17 #[.agg #[.int .u32 a0, .int .u32 a1, .int .u32 a2, .int .u32 a3]] w fun e w' => e = .returned (.bool true) ∧ Below w.heap.size w w' :=
  law_fits a0 a1 a2 a3 (u32_of_wf w0).1 (u32_of_wf w0).2 (u32_of_wf w1).1 (u32_of_wf w1).2 (u32_of_wf w2).1 (u32_of_wf w2).2 (u32_of_wf w3).1 (u32_of_wf w3).2 w

set_option maxRecDepth 100000 in
theorem lifted (os : Os) (started : os.Started) (H : Type) (enc : TypeId × Value → H) :
    ReturnsInHanded {} Try.checked os 17 .any (Rows.sizingFitsSpec.pre6 enc Try.prog Try.f17 Rows.sizingFitsRow.domain false) (Rows.sizingFitsSpec.post enc Try.prog Try.f17 false true false false) := by
  refine returnsInHanded_of_change (C := Try.checked) own started (by kernel_rfl) Try.func17
    (ChangeSpec.witness6 (enc := enc) (C := Try.checked) false ⟨#[], #[.agg #[.int .u32 0, .int .u32 0, .int .u32 0, .int .u32 0]], []⟩ 8 (by kernel_rfl) (by kernel_rfl) (by kernel_rfl) (by kernel_rfl)) ?_
  intro W base args ds gs before hval0 hW hcnd _
  have hval : ∀ (j : Nat) t v, Try.f17.params[j]? = some t → args[j]? = some v → Value.okWide Try.prog W .any base t v := hval0
  have hW' := hW
  obtain ⟨p, q, hA0, hV, rfl, hfz, hnd⟩ := hW
  have hA : DataW.TrodAll enc Try.prog W 0 (fun _ => true) true Try.f17.params.toList args.toList ds p := hA0
  obtain ⟨rfl, rfl⟩ := trodVars_none hV
  rw [List.append_nil] at hfz
  have hlt : ∀ x ∈ p, x.block < W.heap.size := fun x hx => hW'.lt x (List.mem_append_left _ hx)
  rw [Try.params17] at hA hval
  obtain ⟨v0, vs0, d0, ds0, p0, q0, hargs, rfl, rfl, h0, r0⟩ := trodAll_cons hA
  obtain ⟨rfl, rfl, rfl⟩ := trodAll_nil r0
  obtain rfl : args = #[v0] := by cases args; simp_all
  have fz0 : W.noneFrozen p0 ∧ ∀ x ∈ p0, x.block < W.heap.size := ⟨fun b off hx => hfz b off (by simp [hx]), fun x hx => hlt x (by simp [hx])⟩
  have hpost : ∀ W', Below W.heap.size W W' → Rows.sizingFitsSpec.post enc Try.prog Try.f17 false true false false W #[v0] (.bool true) W' := fun W' hB =>
    post_law fact_laidOut fact_mapsRowed slices_full hW' rfl (by rw [Try.params17]; decide) rfl Try.underlying4 rfl hB
  clear hW' hA0 hval0 hfz hlt hA
  obtain ⟨l0, rfl, e0, f0⟩ := open_flat Try.underlying114 (by kernel_rfl) (by kernel_rfl) (hval 0 114 v0 rfl rfl) h0
  obtain ⟨a0, g0, w0⟩ := flat_int (t := 112) Try.underlying112 (f0 0 _ rfl)
  obtain ⟨a1, g1, w1⟩ := flat_int (t := 112) Try.underlying112 (f0 1 _ rfl)
  obtain ⟨a2, g2, w2⟩ := flat_int (t := 112) Try.underlying112 (f0 2 _ rfl)
  obtain ⟨a3, g3, w3⟩ := flat_int (t := 112) Try.underlying112 (f0 3 _ rfl)
  obtain rfl : l0 = [.int .u32 a0, .int .u32 a1, .int .u32 a2, .int .u32 a3] := list_by e0 (list_step g0 (list_step g1 (list_step g2 (list_step g3 (list_end)))))
  refine (walk a0 a1 a2 a3 W w0 w1 w2 w3).mono fun e W' ⟨he, hg⟩ => ?_
  subst he
  exact ⟨_, rfl, hpost W' hg⟩

theorem c1 : Rows.sizingFitsRow.wf (OpenSpec.ofChange Rows.sizingFitsSpec) = true := by kernel_rfl
theorem c4 : Try.f17.params.all (Try.prog.readableRec ·) = true := by kernel_rfl
theorem c5 : namedTie Try.prog Rows.sizingFitsRow.named Rows.sizingFitsSpec.vars = true := by kernel_rfl
theorem c6 : (Rows.sizingFitsRow.stops == []) = true := by kernel_rfl
theorem c8 : (Rows.sizingFitsRow.knobs == []) = true := by kernel_rfl
theorem c10 : (Rows.sizingFitsRow.inPlace == Try.prog.inPlace 17) = true := by kernel_rfl
theorem c11 : (Rows.sizingFitsRow.unfollowed == Try.prog.unfollowed 17) = true := by kernel_rfl
theorem c12 : (Rows.sizingFitsRow.recurses == Try.prog.recurses 17) = true := by kernel_rfl
theorem c13 : (Rows.sizingFitsRow.named == Try.prog.varsNamed 17) = true := by kernel_rfl
theorem c14 : (Rows.sizingFitsRow.maps == (Try.f17.params.toList ++ Rows.sizingFitsSpec.plain.varTypes Try.prog).any (Try.prog.mapsRec ·)) = true := by kernel_rfl
theorem c15 : (Rows.sizingFitsRow.ifaces == (Try.f17.params.toList ++ Rows.sizingFitsSpec.plain.varTypes Try.prog).any (Try.prog.ifacesRec ·)) = true := by kernel_rfl
theorem c16 : (Rows.sizingFitsRow.mapsOut == Try.prog.mapsAmong Try.f17.resultTypes.toList) = true := by kernel_rfl
theorem c17 : (Rows.sizingFitsRow.loops == (Try.f17.params.toList ++ Rows.sizingFitsSpec.plain.varTypes Try.prog).any (Try.prog.loopsFrom ·)) = true := by kernel_rfl
theorem c18 : (Rows.sizingFitsRow.wideKeys == (Try.f17.params.toList ++ Rows.sizingFitsSpec.plain.varTypes Try.prog ++ Try.f17.resultTypes.toList).any (Try.prog.wideKeysFrom ·)) = true := by kernel_rfl
theorem c19 : Rows.sizingFitsSpec.vars.all (Try.prog.varReadable ·) = true := by kernel_rfl
theorem c20 : Try.f17.resultTypes.all (fun t => Try.prog.readableRec t && decide (t < Try.prog.types.size)) = true := by kernel_rfl
theorem c21 : (Rows.sizingFitsRow.ifacesOut == Try.f17.resultTypes.toList.any (Try.prog.ifacesRec ·)) = true := by kernel_rfl
theorem c22 : (Rows.sizingFitsRow.loopsOut == Try.f17.resultTypes.toList.any (Try.prog.loopsFrom ·)) = true := by kernel_rfl
theorem c23 : (Rows.sizingFitsRow.plainKeys == Try.prog.plainKeys) = true := by kernel_rfl
theorem c24 : Rows.sizingFitsRow.shortTexts.isNone = true := by kernel_rfl
theorem c27 : (Rows.sizingFitsRow.lifted == Try.prog.liftsFinal) = true := by rw [fact_lifts]; kernel_rfl
theorem c28 : (Try.prog.make == some Rows.sizingFitsRow.make) = true := by rw [fact_make]; kernel_rfl
theorem c29 : (Rows.sizingFitsRow.kinds == (if Rows.sizingFitsRow.domain.isEmpty then [] else Try.f17.params.toList.map fun t => match Try.prog.underlying t with | some (.int k) => some k | _ => none)) = true := by kernel_rfl
theorem c30 : (Rows.sizingFitsRow.pinned == Rows.sizingFitsRow.pinnedBy) = true := by kernel_rfl
theorem c31 : (Rows.sizingFitsRow.veiled == (Try.f17.params.toList ++ Rows.sizingFitsSpec.plain.varTypes Try.prog ++ Try.f17.resultTypes.toList).any (Try.prog.veiledRec ·)) = true := by kernel_rfl
theorem c32 : Rows.sizingFitsRow.veiledFits Try.prog Try.f17.params.toList (Try.f17.params.toList ++ Rows.sizingFitsSpec.plain.varTypes Try.prog ++ Try.f17.resultTypes.toList) = true := by kernel_rfl
set_option maxRecDepth 100000 in
theorem closed : joinedFacts Try.prog 17 Try.f17 Rows.sizingFitsSpec Rows.sizingFitsRow = true := by
  unfold joinedFacts
  exact and2 (and2 (and2 (and2 (and2 (and2 (and2 (and2 (and2 (and2 (and2 (and2 (and2 (and2 (and2 (and2 (and2 (and2 (and2 (and2 (and2 (and2 (and2 (and2 (and2 (and2 (and2 (and2 (and2 (and2 (and2 (c1) fact_laidOut) fact_mapsRowed) c4) c5) c6) fact_stops) c8) fact_stopKnobs) c10) c11) c12) c13) c14) c15) c16) c17) c18) c19) c20) c21) c22) c23) c24) fact_stopsHeard) fact_mayEnter) c27) c28) c29) c30) c31) c32
theorem named : Try.prog.funcNamed Rows.sizingFitsRow.func = some 17 := by kernel_rfl
theorem inst : Try.f17.isInstance Try.prog Rows.sizingFitsRow.origin Rows.sizingFitsRow.targs := of_decide_eq_true (by kernel_rfl)
theorem wrap : Try.f17.isWrapper Try.prog Rows.sizingFitsRow.wrapper Rows.sizingFitsRow.mainSum := by unfold Func.isWrapper; rw [if_neg (of_decide_eq_false (by kernel_rfl))]; exact ⟨rfl, rfl⟩

theorem over : Rows.sizingFitsRow.holds Try.pinned (OpenSpec.ofChange Rows.sizingFitsSpec) :=
  OpenClaim.holds_of_wide 17 Try.f17 rfl rfl rfl rfl rfl rfl rfl ⟨rfl, rfl, rfl, rfl, rfl⟩ rfl rfl rfl rfl rfl named Try.func17 closed inst wrap
    (fun os started H enc _ => lifted os started H enc)

theorem proved : Rows.SizingFitsSaid :=
  over
#print axioms proved
end Go.Proofs.Ythffphcgkmjhbaa.sizingFits
