/-
  The statement Rows.ValueDecodesSaid: for whatever input the function returns true, and each argument reads as it did. No condition.
-/
import Derived.Test.YtgmnboacehopfaaRows
import Derived.Test.YtgmnboacehopfaaZ6
import Derived.Test.YtgmnboacehopfaaFacts
import Derived.Test.YtgmnboacehopfaaYVaE
namespace Go.Proofs.Ytgmnboacehopfaa.valueDecodes
open Go.ChangeShapes Go.WideShapes Go.ChangeAt Go.RowKit Go.Joins Go.Deep
set_option linter.unusedVariables false

theorem own : ownKnob Try.prog.godebug = none := by kernel_rfl

theorem walk (a0 : Int) (a1 : Bool) (a2 : Int) (w : World) (w0 : (Lit.int .u64 a0).wf = true) (w2 : (Lit.int .u8 a2).wf = true) :
    Calls Try.prog 5 #[.int .u64 a0, .bool a1, .int .u8 a2] w fun e w' => e = .returned (.bool true) ∧ Below w.heap.size w w' :=
  law_decodes a0 a2 a1 (fitu_of_wf w0) (u8_of_wf w2) w

set_option maxRecDepth 100000 in
theorem lifted (os : Os) (started : os.Started) (H : Type) (enc : TypeId × Value → H) :
    ReturnsInHanded {} Try.checked os 5 .any (Rows.valueDecodesSpec.pre6 enc Try.prog Try.f5 Rows.valueDecodesRow.domain false) (Rows.valueDecodesSpec.post enc Try.prog Try.f5 false true false false) := by
  refine returnsInHanded_of_change (C := Try.checked) own started (by kernel_rfl) Try.func5
    (ChangeSpec.witness6 (enc := enc) (C := Try.checked) false ⟨#[], #[.int .u64 0, .bool false, .int .u8 0], []⟩ 8 (by kernel_rfl) (by kernel_rfl) (by kernel_rfl) (by kernel_rfl)) ?_
  intro W base args ds gs before hval0 hW hcnd _
  have hval : ∀ (j : Nat) t v, Try.f5.params[j]? = some t → args[j]? = some v → Value.okWide Try.prog W .any base t v := hval0
  have hW' := hW
  obtain ⟨p, q, hA0, hV, rfl, hfz, hnd⟩ := hW
  have hA : DataW.TrodAll enc Try.prog W 0 (fun _ => true) true Try.f5.params.toList args.toList ds p := hA0
  obtain ⟨rfl, rfl⟩ := trodVars_none hV
  rw [List.append_nil] at hfz
  have hlt : ∀ x ∈ p, x.block < W.heap.size := fun x hx => hW'.lt x (List.mem_append_left _ hx)
  rw [Try.params5] at hA hval
  obtain ⟨v0, vs0, d0, ds0, p0, q0, hargs, rfl, rfl, h0, r0⟩ := trodAll_cons hA
  obtain ⟨v1, vs1, d1, ds1, p1, q1, rfl, rfl, rfl, h1, r1⟩ := trodAll_cons r0
  obtain ⟨v2, vs2, d2, ds2, p2, q2, rfl, rfl, rfl, h2, r2⟩ := trodAll_cons r1
  obtain ⟨rfl, rfl, rfl⟩ := trodAll_nil r2
  obtain rfl : args = #[v0, v1, v2] := by cases args; simp_all
  have fz0 : W.noneFrozen p0 ∧ ∀ x ∈ p0, x.block < W.heap.size := ⟨fun b off hx => hfz b off (by simp [hx]), fun x hx => hlt x (by simp [hx])⟩
  have fz1 : W.noneFrozen p1 ∧ ∀ x ∈ p1, x.block < W.heap.size := ⟨fun b off hx => hfz b off (by simp [hx]), fun x hx => hlt x (by simp [hx])⟩
  have fz2 : W.noneFrozen p2 ∧ ∀ x ∈ p2, x.block < W.heap.size := ⟨fun b off hx => hfz b off (by simp [hx]), fun x hx => hlt x (by simp [hx])⟩
  have hpost : ∀ W', Below W.heap.size W W' → Rows.valueDecodesSpec.post enc Try.prog Try.f5 false true false false W #[v0, v1, v2] (.bool true) W' := fun W' hB =>
    post_law fact_laidOut fact_mapsRowed slices_full hW' rfl (by rw [Try.params5]; decide) rfl Try.underlying4 rfl hB
  clear hW' hA0 hval0 hfz hlt hA
  obtain ⟨a0, rfl, rfl, rfl, w0⟩ := open_int Try.underlying30 (hval 0 30 v0 rfl rfl) h0
  obtain ⟨a1, rfl, rfl, rfl⟩ := open_bool Try.underlying4 (hval 1 4 v1 rfl rfl) h1
  obtain ⟨a2, rfl, rfl, rfl, w2⟩ := open_int Try.underlying5 (hval 2 5 v2 rfl rfl) h2
  refine (walk a0 a1 a2 W w0 w2).mono fun e W' ⟨he, hg⟩ => ?_
  subst he
  exact ⟨_, rfl, hpost W' hg⟩

theorem c1 : Rows.valueDecodesRow.wf (OpenSpec.ofChange Rows.valueDecodesSpec) = true := by kernel_rfl
theorem c4 : Try.f5.params.all (Try.prog.readableRec ·) = true := by kernel_rfl
theorem c5 : namedTie Try.prog Rows.valueDecodesRow.named Rows.valueDecodesSpec.vars = true := by kernel_rfl
theorem c6 : (Rows.valueDecodesRow.stops == []) = true := by kernel_rfl
theorem c8 : (Rows.valueDecodesRow.knobs == []) = true := by kernel_rfl
theorem c10 : (Rows.valueDecodesRow.inPlace == Try.prog.inPlace 5) = true := by kernel_rfl
theorem c11 : (Rows.valueDecodesRow.unfollowed == Try.prog.unfollowed 5) = true := by kernel_rfl
theorem c12 : (Rows.valueDecodesRow.recurses == Try.prog.recurses 5) = true := by kernel_rfl
theorem c13 : (Rows.valueDecodesRow.named == Try.prog.varsNamed 5) = true := by kernel_rfl
theorem c14 : (Rows.valueDecodesRow.maps == (Try.f5.params.toList ++ Rows.valueDecodesSpec.plain.varTypes Try.prog).any (Try.prog.mapsRec ·)) = true := by kernel_rfl
theorem c15 : (Rows.valueDecodesRow.ifaces == (Try.f5.params.toList ++ Rows.valueDecodesSpec.plain.varTypes Try.prog).any (Try.prog.ifacesRec ·)) = true := by kernel_rfl
theorem c16 : (Rows.valueDecodesRow.mapsOut == Try.prog.mapsAmong Try.f5.resultTypes.toList) = true := by kernel_rfl
theorem c17 : (Rows.valueDecodesRow.loops == (Try.f5.params.toList ++ Rows.valueDecodesSpec.plain.varTypes Try.prog).any (Try.prog.loopsFrom ·)) = true := by kernel_rfl
theorem c18 : (Rows.valueDecodesRow.wideKeys == (Try.f5.params.toList ++ Rows.valueDecodesSpec.plain.varTypes Try.prog ++ Try.f5.resultTypes.toList).any (Try.prog.wideKeysFrom ·)) = true := by kernel_rfl
theorem c19 : Rows.valueDecodesSpec.vars.all (Try.prog.varReadable ·) = true := by kernel_rfl
theorem c20 : Try.f5.resultTypes.all (fun t => Try.prog.readableRec t && decide (t < Try.prog.types.size)) = true := by kernel_rfl
theorem c21 : (Rows.valueDecodesRow.ifacesOut == Try.f5.resultTypes.toList.any (Try.prog.ifacesRec ·)) = true := by kernel_rfl
theorem c22 : (Rows.valueDecodesRow.loopsOut == Try.f5.resultTypes.toList.any (Try.prog.loopsFrom ·)) = true := by kernel_rfl
theorem c23 : (Rows.valueDecodesRow.plainKeys == Try.prog.plainKeys) = true := by kernel_rfl
theorem c24 : Rows.valueDecodesRow.shortTexts.isNone = true := by kernel_rfl
theorem c27 : (Rows.valueDecodesRow.lifted == Try.prog.liftsFinal) = true := by rw [fact_lifts]; kernel_rfl
theorem c28 : (Try.prog.make == some Rows.valueDecodesRow.make) = true := by rw [fact_make]; kernel_rfl
theorem c29 : (Rows.valueDecodesRow.kinds == (if Rows.valueDecodesRow.domain.isEmpty then [] else Try.f5.params.toList.map fun t => match Try.prog.underlying t with | some (.int k) => some k | _ => none)) = true := by kernel_rfl
theorem c30 : (Rows.valueDecodesRow.pinned == Rows.valueDecodesRow.pinnedBy) = true := by kernel_rfl
theorem c31 : (Rows.valueDecodesRow.veiled == (Try.f5.params.toList ++ Rows.valueDecodesSpec.plain.varTypes Try.prog ++ Try.f5.resultTypes.toList).any (Try.prog.veiledRec ·)) = true := by kernel_rfl
theorem c32 : Rows.valueDecodesRow.veiledFits Try.prog Try.f5.params.toList (Try.f5.params.toList ++ Rows.valueDecodesSpec.plain.varTypes Try.prog ++ Try.f5.resultTypes.toList) = true := by kernel_rfl
set_option maxRecDepth 100000 in
theorem closed : joinedFacts Try.prog 5 Try.f5 Rows.valueDecodesSpec Rows.valueDecodesRow = true := by
  unfold joinedFacts
  exact and2 (and2 (and2 (and2 (and2 (and2 (and2 (and2 (and2 (and2 (and2 (and2 (and2 (and2 (and2 (and2 (and2 (and2 (and2 (and2 (and2 (and2 (and2 (and2 (and2 (and2 (and2 (and2 (and2 (and2 (and2 (c1) fact_laidOut) fact_mapsRowed) c4) c5) c6) fact_stops) c8) fact_stopKnobs) c10) c11) c12) c13) c14) c15) c16) c17) c18) c19) c20) c21) c22) c23) c24) fact_stopsHeard) fact_mayEnter) c27) c28) c29) c30) c31) c32
theorem named : Try.prog.funcNamed Rows.valueDecodesRow.func = some 5 := by kernel_rfl
theorem inst : Try.f5.isInstance Try.prog Rows.valueDecodesRow.origin Rows.valueDecodesRow.targs := of_decide_eq_true (by kernel_rfl)
theorem wrap : Try.f5.isWrapper Try.prog Rows.valueDecodesRow.wrapper Rows.valueDecodesRow.mainSum := by unfold Func.isWrapper; rw [if_neg (of_decide_eq_false (by kernel_rfl))]; exact ⟨rfl, rfl⟩

theorem over : Rows.valueDecodesRow.holds Try.pinned (OpenSpec.ofChange Rows.valueDecodesSpec) :=
  OpenClaim.holds_of_wide 5 Try.f5 rfl rfl rfl rfl rfl rfl rfl ⟨rfl, rfl, rfl, rfl, rfl⟩ rfl rfl rfl rfl rfl named Try.func5 closed inst wrap
    (fun os started H enc _ => lifted os started H enc)

theorem proved : Rows.ValueDecodesSaid :=
  over
#print axioms proved
end Go.Proofs.Ytgmnboacehopfaa.valueDecodes
