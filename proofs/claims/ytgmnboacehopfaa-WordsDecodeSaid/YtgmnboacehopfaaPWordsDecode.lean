/-
  The statement Rows.WordsDecodeSaid: for whatever input the function returns true, and each argument reads as it did. No condition.
-/
import Derived.Test.YtgmnboacehopfaaRows
import Derived.Test.YtgmnboacehopfaaZ6
import Derived.Test.YtgmnboacehopfaaFacts
import Derived.Test.YtgmnboacehopfaaYWdB
import Derived.Test.YtgmnboacehopfaaYOpenB
namespace Go.Proofs.Ytgmnboacehopfaa.wordsDecode
open Go.ChangeShapes Go.WideShapes Go.ChangeAt Go.RowKit Go.Joins Go.Deep
set_option linter.unusedVariables false

theorem own : ownKnob Try.prog.godebug = none := by kernel_rfl

theorem walk (v_0 : Value) (a0 : Int) (w : World) (hs_0 : RwIn w v_0) (w0 : (Lit.int .u16 a0).wf = true) :
    Calls Try.prog 3 #[v_0, .int .u16 a0] w fun e w' => e = .returned (.bool true) ∧ Below w.heap.size w w' :=
  EB.law_decode12 v_0 a0 (u16_of_wf w0).1 (u16_of_wf w0).2 w hs_0

set_option maxRecDepth 100000 in
theorem lifted (os : Os) (started : os.Started) (H : Type) (enc : TypeId × Value → H) :
    ReturnsInHanded {} Try.checked os 3 .any (Rows.wordsDecodeSpec.pre6 enc Try.prog Try.f3 Rows.wordsDecodeRow.domain false) (Rows.wordsDecodeSpec.post enc Try.prog Try.f3 false true false false) := by
  refine returnsInHanded_of_change (C := Try.checked) own started (by kernel_rfl) Try.func3
    (ChangeSpec.witness6 (enc := enc) (C := Try.checked) false ⟨#[], #[.slice none 0 0, .int .u16 0], []⟩ 8 (by kernel_rfl) (by kernel_rfl) (by kernel_rfl) (by kernel_rfl)) ?_
  intro W base args ds gs before hval0 hW hcnd _
  have hval : ∀ (j : Nat) t v, Try.f3.params[j]? = some t → args[j]? = some v → Value.okWide Try.prog W .any base t v := hval0
  have hW' := hW
  obtain ⟨p, q, hA0, hV, rfl, hfz, hnd⟩ := hW
  have hA : DataW.TrodAll enc Try.prog W 0 (fun _ => true) true Try.f3.params.toList args.toList ds p := hA0
  obtain ⟨rfl, rfl⟩ := trodVars_none hV
  rw [List.append_nil] at hfz
  have hlt : ∀ x ∈ p, x.block < W.heap.size := fun x hx => hW'.lt x (List.mem_append_left _ hx)
  rw [Try.params3] at hA hval
  obtain ⟨v0, vs0, d0, ds0, p0, q0, hargs, rfl, rfl, h0, r0⟩ := trodAll_cons hA
  obtain ⟨v1, vs1, d1, ds1, p1, q1, rfl, rfl, rfl, h1, r1⟩ := trodAll_cons r0
  obtain ⟨rfl, rfl, rfl⟩ := trodAll_nil r1
  obtain rfl : args = #[v0, v1] := by cases args; simp_all
  have fz0 : W.noneFrozen p0 ∧ ∀ x ∈ p0, x.block < W.heap.size := ⟨fun b off hx => hfz b off (by simp [hx]), fun x hx => hlt x (by simp [hx])⟩
  have fz1 : W.noneFrozen p1 ∧ ∀ x ∈ p1, x.block < W.heap.size := ⟨fun b off hx => hfz b off (by simp [hx]), fun x hx => hlt x (by simp [hx])⟩
  have hpost : ∀ W', Below W.heap.size W W' → Rows.wordsDecodeSpec.post enc Try.prog Try.f3 false true false false W #[v0, v1] (.bool true) W' := fun W' hB =>
    post_law fact_laidOut fact_mapsRowed slices_full hW' rfl (by rw [Try.params3]; decide) rfl Try.underlying4 rfl hB
  clear hW' hA0 hval0 hfz hlt hA
  have hs_0 := rw_dir Try.underlying22 Try.underlying32 (by kernel_rfl) (by kernel_rfl) rfl (by kernel_rfl) (by kernel_rfl) (by kernel_rfl) (hval 0 22 v0 rfl rfl) h0
  obtain ⟨a0, rfl, rfl, rfl, w0⟩ := open_int Try.underlying23 (hval 1 23 v1 rfl rfl) h1
  refine (walk _ a0 W hs_0 w0).mono fun e W' ⟨he, hg⟩ => ?_
  subst he
  exact ⟨_, rfl, hpost W' hg⟩

theorem c1 : Rows.wordsDecodeRow.wf (OpenSpec.ofChange Rows.wordsDecodeSpec) = true := by kernel_rfl
theorem c4 : Try.f3.params.all (Try.prog.readableRec ·) = true := by kernel_rfl
theorem c5 : namedTie Try.prog Rows.wordsDecodeRow.named Rows.wordsDecodeSpec.vars = true := by kernel_rfl
theorem c6 : (Rows.wordsDecodeRow.stops == []) = true := by kernel_rfl
theorem c8 : (Rows.wordsDecodeRow.knobs == []) = true := by kernel_rfl
theorem c10 : (Rows.wordsDecodeRow.inPlace == Try.prog.inPlace 3) = true := by kernel_rfl
theorem c11 : (Rows.wordsDecodeRow.unfollowed == Try.prog.unfollowed 3) = true := by kernel_rfl
theorem c12 : (Rows.wordsDecodeRow.recurses == Try.prog.recurses 3) = true := by kernel_rfl
theorem c13 : (Rows.wordsDecodeRow.named == Try.prog.varsNamed 3) = true := by kernel_rfl
theorem c14 : (Rows.wordsDecodeRow.maps == (Try.f3.params.toList ++ Rows.wordsDecodeSpec.plain.varTypes Try.prog).any (Try.prog.mapsRec ·)) = true := by kernel_rfl
theorem c15 : (Rows.wordsDecodeRow.ifaces == (Try.f3.params.toList ++ Rows.wordsDecodeSpec.plain.varTypes Try.prog).any (Try.prog.ifacesRec ·)) = true := by kernel_rfl
theorem c16 : (Rows.wordsDecodeRow.mapsOut == Try.prog.mapsAmong Try.f3.resultTypes.toList) = true := by kernel_rfl
theorem c17 : (Rows.wordsDecodeRow.loops == (Try.f3.params.toList ++ Rows.wordsDecodeSpec.plain.varTypes Try.prog).any (Try.prog.loopsFrom ·)) = true := by kernel_rfl
theorem c18 : (Rows.wordsDecodeRow.wideKeys == (Try.f3.params.toList ++ Rows.wordsDecodeSpec.plain.varTypes Try.prog ++ Try.f3.resultTypes.toList).any (Try.prog.wideKeysFrom ·)) = true := by kernel_rfl
theorem c19 : Rows.wordsDecodeSpec.vars.all (Try.prog.varReadable ·) = true := by kernel_rfl
theorem c20 : Try.f3.resultTypes.all (fun t => Try.prog.readableRec t && decide (t < Try.prog.types.size)) = true := by kernel_rfl
theorem c21 : (Rows.wordsDecodeRow.ifacesOut == Try.f3.resultTypes.toList.any (Try.prog.ifacesRec ·)) = true := by kernel_rfl
theorem c22 : (Rows.wordsDecodeRow.loopsOut == Try.f3.resultTypes.toList.any (Try.prog.loopsFrom ·)) = true := by kernel_rfl
theorem c23 : (Rows.wordsDecodeRow.plainKeys == Try.prog.plainKeys) = true := by kernel_rfl
theorem c24 : Rows.wordsDecodeRow.shortTexts.isNone = true := by kernel_rfl
theorem c27 : (Rows.wordsDecodeRow.lifted == Try.prog.liftsFinal) = true := by rw [fact_lifts]; kernel_rfl
theorem c28 : (Try.prog.make == some Rows.wordsDecodeRow.make) = true := by rw [fact_make]; kernel_rfl
theorem c29 : (Rows.wordsDecodeRow.kinds == (if Rows.wordsDecodeRow.domain.isEmpty then [] else Try.f3.params.toList.map fun t => match Try.prog.underlying t with | some (.int k) => some k | _ => none)) = true := by kernel_rfl
theorem c30 : (Rows.wordsDecodeRow.pinned == Rows.wordsDecodeRow.pinnedBy) = true := by kernel_rfl
theorem c31 : (Rows.wordsDecodeRow.veiled == (Try.f3.params.toList ++ Rows.wordsDecodeSpec.plain.varTypes Try.prog ++ Try.f3.resultTypes.toList).any (Try.prog.veiledRec ·)) = true := by kernel_rfl
theorem c32 : Rows.wordsDecodeRow.veiledFits Try.prog Try.f3.params.toList (Try.f3.params.toList ++ Rows.wordsDecodeSpec.plain.varTypes Try.prog ++ Try.f3.resultTypes.toList) = true := by kernel_rfl
set_option maxRecDepth 100000 in
theorem closed : joinedFacts Try.prog 3 Try.f3 Rows.wordsDecodeSpec Rows.wordsDecodeRow = true := by
  unfold joinedFacts
  exact and2 (and2 (and2 (and2 (and2 (and2 (and2 (and2 (and2 (and2 (and2 (and2 (and2 (and2 (and2 (and2 (and2 (and2 (and2 (and2 (and2 (and2 (and2 (and2 (and2 (and2 (and2 (and2 (and2 (and2 (and2 (c1) fact_laidOut) fact_mapsRowed) c4) c5) c6) fact_stops) c8) fact_stopKnobs) c10) c11) c12) c13) c14) c15) c16) c17) c18) c19) c20) c21) c22) c23) c24) fact_stopsHeard) fact_mayEnter) c27) c28) c29) c30) c31) c32
theorem named : Try.prog.funcNamed Rows.wordsDecodeRow.func = some 3 := by kernel_rfl
theorem inst : Try.f3.isInstance Try.prog Rows.wordsDecodeRow.origin Rows.wordsDecodeRow.targs := of_decide_eq_true (by kernel_rfl)
theorem wrap : Try.f3.isWrapper Try.prog Rows.wordsDecodeRow.wrapper Rows.wordsDecodeRow.mainSum := by unfold Func.isWrapper; rw [if_neg (of_decide_eq_false (by kernel_rfl))]; exact ⟨rfl, rfl⟩

theorem over : Rows.wordsDecodeRow.holds Try.pinned (OpenSpec.ofChange Rows.wordsDecodeSpec) :=
  OpenClaim.holds_of_wide 3 Try.f3 rfl rfl rfl rfl rfl rfl rfl ⟨rfl, rfl, rfl, rfl, rfl⟩ rfl rfl rfl rfl rfl named Try.func3 closed inst wrap
    (fun os started H enc _ => lifted os started H enc)

theorem proved : Rows.WordsDecodeSaid :=
  over
#print axioms proved
end Go.Proofs.Ytgmnboacehopfaa.wordsDecode
