/-
  The statement Rows.ShareSplitsSaid: for whatever input the function returns true, and each argument reads as it did. No condition.
-/
import Derived.Test.YthffphcgkmjhbaaRows
import Derived.Test.YthffphcgkmjhbaaLaw
import Derived.Test.YthffphcgkmjhbaaFacts
import Derived.Test.YthffphcgkmjhbaaLawT
namespace Go.Proofs.Ythffphcgkmjhbaa.shareSplits
open Go.ChangeShapes Go.WideShapes Go.ChangeAt Go.RowKit Go.Joins Go.Deep
set_option linter.unusedVariables false

theorem own : ownKnob Try.prog.godebug = none := by kernel_rfl

theorem walk (a0 : Int) (v_1 : Value) (w : World) (w0 : (Lit.int .i64 a0).wf = true) (hs_1 : SlV .i64 w v_1) :
    Calls Try.prog 18 #[.int .i64 a0, v_1] w fun e w' => e = .returned (.bool true) ∧ Below w.heap.size w w' :=
  law_splits a0 v_1 (fit_of_wf w0) w hs_1

set_option maxRecDepth 100000 in
theorem lifted (os : Os) (started : os.Started) (H : Type) (enc : TypeId × Value → H) :
    ReturnsInHanded {} Try.checked os 18 .any (Rows.shareSplitsSpec.pre6 enc Try.prog Try.f18 Rows.shareSplitsRow.domain false) (Rows.shareSplitsSpec.post enc Try.prog Try.f18 false true false false) := by
  refine returnsInHanded_of_change (C := Try.checked) own started (by kernel_rfl) Try.func18
    (ChangeSpec.witness6 (enc := enc) (C := Try.checked) false ⟨#[], #[.int .i64 0, .slice none 0 0], []⟩ 8 (by kernel_rfl) (by kernel_rfl) (by kernel_rfl) (by kernel_rfl)) ?_
  intro W base args ds gs before hval0 hW hcnd _
  have hval : ∀ (j : Nat) t v, Try.f18.params[j]? = some t → args[j]? = some v → Value.okWide Try.prog W .any base t v := hval0
  have hW' := hW
  obtain ⟨p, q, hA0, hV, rfl, hfz, hnd⟩ := hW
  have hA : DataW.TrodAll enc Try.prog W 0 (fun _ => true) true Try.f18.params.toList args.toList ds p := hA0
  obtain ⟨rfl, rfl⟩ := trodVars_none hV
  rw [List.append_nil] at hfz
  have hlt : ∀ x ∈ p, x.block < W.heap.size := fun x hx => hW'.lt x (List.mem_append_left _ hx)
  rw [Try.params18] at hA hval
  obtain ⟨v0, vs0, d0, ds0, p0, q0, hargs, rfl, rfl, h0, r0⟩ := trodAll_cons hA
  obtain ⟨v1, vs1, d1, ds1, p1, q1, rfl, rfl, rfl, h1, r1⟩ := trodAll_cons r0
  obtain ⟨rfl, rfl, rfl⟩ := trodAll_nil r1
  obtain rfl : args = #[v0, v1] := by cases args; simp_all
  have fz0 : W.noneFrozen p0 ∧ ∀ x ∈ p0, x.block < W.heap.size := ⟨fun b off hx => hfz b off (by simp [hx]), fun x hx => hlt x (by simp [hx])⟩
  have fz1 : W.noneFrozen p1 ∧ ∀ x ∈ p1, x.block < W.heap.size := ⟨fun b off hx => hfz b off (by simp [hx]), fun x hx => hlt x (by simp [hx])⟩
  have hpost : ∀ W', Below W.heap.size W W' → Rows.shareSplitsSpec.post enc Try.prog Try.f18 false true false false W #[v0, v1] (.bool true) W' := fun W' hB =>
    post_law fact_laidOut fact_mapsRowed slices_full hW' rfl (by rw [Try.params18]; decide) rfl Try.underlying4 rfl hB
  clear hW' hA0 hval0 hfz hlt hA
  obtain ⟨a0, rfl, rfl, rfl, w0⟩ := open_int Try.underlying2 (hval 0 2 v0 rfl rfl) h0
  have hs_1 := open_sl Try.underlying82 Try.underlying2 (by kernel_rfl) rfl (hval 1 82 v1 rfl rfl) h1
  refine (walk a0 _ W w0 hs_1).mono fun e W' ⟨he, hg⟩ => ?_
  subst he
  exact ⟨_, rfl, hpost W' hg⟩

theorem c1 : Rows.shareSplitsRow.wf (OpenSpec.ofChange Rows.shareSplitsSpec) = true := by kernel_rfl
theorem c4 : Try.f18.params.all (Try.prog.readableRec ·) = true := by kernel_rfl
theorem c5 : namedTie Try.prog Rows.shareSplitsRow.named Rows.shareSplitsSpec.vars = true := by kernel_rfl
theorem c6 : (Rows.shareSplitsRow.stops == []) = true := by kernel_rfl
theorem c8 : (Rows.shareSplitsRow.knobs == []) = true := by kernel_rfl
theorem c10 : (Rows.shareSplitsRow.inPlace == Try.prog.inPlace 18) = true := by kernel_rfl
theorem c11 : (Rows.shareSplitsRow.unfollowed == Try.prog.unfollowed 18) = true := by kernel_rfl
theorem c12 : (Rows.shareSplitsRow.recurses == Try.prog.recurses 18) = true := by kernel_rfl
theorem c13 : (Rows.shareSplitsRow.named == Try.prog.varsNamed 18) = true := by kernel_rfl
theorem c14 : (Rows.shareSplitsRow.maps == (Try.f18.params.toList ++ Rows.shareSplitsSpec.plain.varTypes Try.prog).any (Try.prog.mapsRec ·)) = true := by kernel_rfl
theorem c15 : (Rows.shareSplitsRow.ifaces == (Try.f18.params.toList ++ Rows.shareSplitsSpec.plain.varTypes Try.prog).any (Try.prog.ifacesRec ·)) = true := by kernel_rfl
theorem c16 : (Rows.shareSplitsRow.mapsOut == Try.prog.mapsAmong Try.f18.resultTypes.toList) = true := by kernel_rfl
theorem c17 : (Rows.shareSplitsRow.loops == (Try.f18.params.toList ++ Rows.shareSplitsSpec.plain.varTypes Try.prog).any (Try.prog.loopsFrom ·)) = true := by kernel_rfl
theorem c18 : (Rows.shareSplitsRow.wideKeys == (Try.f18.params.toList ++ Rows.shareSplitsSpec.plain.varTypes Try.prog ++ Try.f18.resultTypes.toList).any (Try.prog.wideKeysFrom ·)) = true := by kernel_rfl
theorem c19 : Rows.shareSplitsSpec.vars.all (Try.prog.varReadable ·) = true := by kernel_rfl
theorem c20 : Try.f18.resultTypes.all (fun t => Try.prog.readableRec t && decide (t < Try.prog.types.size)) = true := by kernel_rfl
theorem c21 : (Rows.shareSplitsRow.ifacesOut == Try.f18.resultTypes.toList.any (Try.prog.ifacesRec ·)) = true := by kernel_rfl
theorem c22 : (Rows.shareSplitsRow.loopsOut == Try.f18.resultTypes.toList.any (Try.prog.loopsFrom ·)) = true := by kernel_rfl
theorem c23 : (Rows.shareSplitsRow.plainKeys == Try.prog.plainKeys) = true := by kernel_rfl
theorem c24 : Rows.shareSplitsRow.shortTexts.isNone = true := by kernel_rfl
theorem c27 : (Rows.shareSplitsRow.lifted == Try.prog.liftsFinal) = true := by rw [fact_lifts]; kernel_rfl
theorem c28 : (Try.prog.make == some Rows.shareSplitsRow.make) = true := by rw [fact_make]; kernel_rfl
theorem c29 : (Rows.shareSplitsRow.kinds == (if Rows.shareSplitsRow.domain.isEmpty then [] else Try.f18.params.toList.map fun t => match Try.prog.underlying t with | some (.int k) => some k | _ => none)) = true := by kernel_rfl
theorem c30 : (Rows.shareSplitsRow.pinned == Rows.shareSplitsRow.pinnedBy) = true := by kernel_rfl
theorem c31 : (Rows.shareSplitsRow.veiled == (Try.f18.params.toList ++ Rows.shareSplitsSpec.plain.varTypes Try.prog ++ Try.f18.resultTypes.toList).any (Try.prog.veiledRec ·)) = true := by kernel_rfl
theorem c32 : Rows.shareSplitsRow.veiledFits Try.prog Try.f18.params.toList (Try.f18.params.toList ++ Rows.shareSplitsSpec.plain.varTypes Try.prog ++ Try.f18.resultTypes.toList) = true := by kernel_rfl
set_option maxRecDepth 100000 in
theorem closed : joinedFacts Try.prog 18 Try.f18 Rows.shareSplitsSpec Rows.shareSplitsRow = true := by
  unfold joinedFacts
  exact and2 (and2 (and2 (and2 (and2 (and2 (and2 (and2 (and2 (and2 (and2 (and2 (and2 (and2 (and2 (and2 (and2 (and2 (and2 (and2 (and2 (and2 (and2 (and2 (and2 (and2 (and2 (and2 (and2 (and2 (and2 (c1) fact_laidOut) fact_mapsRowed) c4) c5) c6) fact_stops) c8) fact_stopKnobs) c10) c11) c12) c13) c14) c15) c16) c17) c18) c19) c20) c21) c22) c23) c24) fact_stopsHeard) fact_mayEnter) c27) c28) c29) c30) c31) c32
theorem named : Try.prog.funcNamed Rows.shareSplitsRow.func = some 18 := by kernel_rfl
theorem inst : Try.f18.isInstance Try.prog Rows.shareSplitsRow.origin Rows.shareSplitsRow.targs := of_decide_eq_true (by kernel_rfl)
theorem wrap : Try.f18.isWrapper Try.prog Rows.shareSplitsRow.wrapper Rows.shareSplitsRow.mainSum := by unfold Func.isWrapper; rw [if_neg (of_decide_eq_false (by kernel_rfl))]; exact ⟨rfl, rfl⟩

theorem over : Rows.shareSplitsRow.holds Try.pinned (OpenSpec.ofChange Rows.shareSplitsSpec) :=
  OpenClaim.holds_of_wide 18 Try.f18 rfl rfl rfl rfl rfl rfl rfl ⟨rfl, rfl, rfl, rfl, rfl⟩ rfl rfl rfl rfl rfl named Try.func18 closed inst wrap
    (fun os started H enc _ => lifted os started H enc)

theorem proved : Rows.ShareSplitsSaid :=
  over
#print axioms proved
end Go.Proofs.Ythffphcgkmjhbaa.shareSplits
