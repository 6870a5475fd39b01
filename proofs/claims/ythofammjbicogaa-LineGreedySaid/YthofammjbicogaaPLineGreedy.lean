/-
  The statement Rows.LineGreedySaid: for whatever input the function returns true, and each argument reads as it did. No condition.
-/
import Derived.Test.YthofammjbicogaaRows
import Derived.Test.YthofammjbicogaaZ9
import Derived.Test.YthofammjbicogaaFacts
import Derived.Test.YthofammjbicogaaYLsE
import Derived.Test.YthofammjbicogaaYOpenB
namespace Go.Proofs.Ythofammjbicogaa.lineGreedy
open Go.ChangeShapes Go.WideShapes Go.ChangeAt Go.RowKit Go.Joins Go.Deep
set_option linter.unusedVariables false

theorem own : ownKnob Try.prog.godebug = none := by kernel_rfl

theorem walk (v_0 : Value) (a0 : Int) (w : World) (hs_0 : SmIn w v_0) (w0 : (Lit.int .u16 a0).wf = true) :
    Calls Try.prog 6 #[v_0, .int .u16 a0] w fun e w' => e = .returned (.bool true) ∧ Below w.heap.size w w' :=
  law_greedy v_0 a0 (u16_of_wf w0).1 (u16_of_wf w0).2 w hs_0

set_option maxRecDepth 100000 in
theorem lifted (os : Os) (started : os.Started) (H : Type) (enc : TypeId × Value → H) :
    ReturnsInHanded {} Try.checked os 6 .any (Rows.lineGreedySpec.pre6 enc Try.prog Try.f6 Rows.lineGreedyRow.domain false) (Rows.lineGreedySpec.post enc Try.prog Try.f6 false true false false) := by
  refine returnsInHanded_of_change (C := Try.checked) own started (by kernel_rfl) Try.func6
    (ChangeSpec.witness6 (enc := enc) (C := Try.checked) false ⟨#[], #[.slice none 0 0, .int .u16 0], []⟩ 8 (by kernel_rfl) (by kernel_rfl) (by kernel_rfl) (by kernel_rfl)) ?_
  intro W base args ds gs before hval0 hW hcnd _
  have hval : ∀ (j : Nat) t v, Try.f6.params[j]? = some t → args[j]? = some v → Value.okWide Try.prog W .any base t v := hval0
  have hW' := hW
  obtain ⟨p, q, hA0, hV, rfl, hfz, hnd⟩ := hW
  have hA : DataW.TrodAll enc Try.prog W 0 (fun _ => true) true Try.f6.params.toList args.toList ds p := hA0
  obtain ⟨rfl, rfl⟩ := trodVars_none hV
  rw [List.append_nil] at hfz
  have hlt : ∀ x ∈ p, x.block < W.heap.size := fun x hx => hW'.lt x (List.mem_append_left _ hx)
  rw [Try.params6] at hA hval
  obtain ⟨v0, vs0, d0, ds0, p0, q0, hargs, rfl, rfl, h0, r0⟩ := trodAll_cons hA
  obtain ⟨v1, vs1, d1, ds1, p1, q1, rfl, rfl, rfl, h1, r1⟩ := trodAll_cons r0
  obtain ⟨rfl, rfl, rfl⟩ := trodAll_nil r1
  obtain rfl : args = #[v0, v1] := by cases args; simp_all
  have fz0 : W.noneFrozen p0 ∧ ∀ x ∈ p0, x.block < W.heap.size := ⟨fun b off hx => hfz b off (by simp [hx]), fun x hx => hlt x (by simp [hx])⟩
  have fz1 : W.noneFrozen p1 ∧ ∀ x ∈ p1, x.block < W.heap.size := ⟨fun b off hx => hfz b off (by simp [hx]), fun x hx => hlt x (by simp [hx])⟩
  have hpost : ∀ W', Below W.heap.size W W' → Rows.lineGreedySpec.post enc Try.prog Try.f6 false true false false W #[v0, v1] (.bool true) W' := fun W' hB =>
    post_law fact_laidOut fact_mapsRowed slices_full hW' rfl (by rw [Try.params6]; decide) rfl Try.underlying4 rfl hB
  clear hW' hA0 hval0 hfz hlt hA
  have hs_0 := smalls_dir Try.underlying41 Try.underlying105 (by kernel_rfl) (by kernel_rfl) rfl (by kernel_rfl) (by kernel_rfl) (by kernel_rfl) (hval 0 41 v0 rfl rfl) h0
  obtain ⟨a0, rfl, rfl, rfl, w0⟩ := open_int Try.underlying42 (hval 1 42 v1 rfl rfl) h1
  refine (walk _ a0 W hs_0 w0).mono fun e W' ⟨he, hg⟩ => ?_
  subst he
  exact ⟨_, rfl, hpost W' hg⟩

theorem c1 : Rows.lineGreedyRow.wf (OpenSpec.ofChange Rows.lineGreedySpec) = true := by kernel_rfl
theorem c4 : Try.f6.params.all (Try.prog.readableRec ·) = true := by kernel_rfl
theorem c5 : namedTie Try.prog Rows.lineGreedyRow.named Rows.lineGreedySpec.vars = true := by kernel_rfl
theorem c6 : (Rows.lineGreedyRow.stops == []) = true := by kernel_rfl
theorem c8 : (Rows.lineGreedyRow.knobs == []) = true := by kernel_rfl
theorem c10 : (Rows.lineGreedyRow.inPlace == Try.prog.inPlace 6) = true := by kernel_rfl
theorem c11 : (Rows.lineGreedyRow.unfollowed == Try.prog.unfollowed 6) = true := by kernel_rfl
theorem c12 : (Rows.lineGreedyRow.recurses == Try.prog.recurses 6) = true := by kernel_rfl
theorem c13 : (Rows.lineGreedyRow.named == Try.prog.varsNamed 6) = true := by kernel_rfl
theorem c14 : (Rows.lineGreedyRow.maps == (Try.f6.params.toList ++ Rows.lineGreedySpec.plain.varTypes Try.prog).any (Try.prog.mapsRec ·)) = true := by kernel_rfl
theorem c15 : (Rows.lineGreedyRow.ifaces == (Try.f6.params.toList ++ Rows.lineGreedySpec.plain.varTypes Try.prog).any (Try.prog.ifacesRec ·)) = true := by kernel_rfl
theorem c16 : (Rows.lineGreedyRow.mapsOut == Try.prog.mapsAmong Try.f6.resultTypes.toList) = true := by kernel_rfl
theorem c17 : (Rows.lineGreedyRow.loops == (Try.f6.params.toList ++ Rows.lineGreedySpec.plain.varTypes Try.prog).any (Try.prog.loopsFrom ·)) = true := by kernel_rfl
theorem c18 : (Rows.lineGreedyRow.wideKeys == (Try.f6.params.toList ++ Rows.lineGreedySpec.plain.varTypes Try.prog ++ Try.f6.resultTypes.toList).any (Try.prog.wideKeysFrom ·)) = true := by kernel_rfl
theorem c19 : Rows.lineGreedySpec.vars.all (Try.prog.varReadable ·) = true := by kernel_rfl
theorem c20 : Try.f6.resultTypes.all (fun t => Try.prog.readableRec t && decide (t < Try.prog.types.size)) = true := by kernel_rfl
theorem c21 : (Rows.lineGreedyRow.ifacesOut == Try.f6.resultTypes.toList.any (Try.prog.ifacesRec ·)) = true := by kernel_rfl
theorem c22 : (Rows.lineGreedyRow.loopsOut == Try.f6.resultTypes.toList.any (Try.prog.loopsFrom ·)) = true := by kernel_rfl
theorem c23 : (Rows.lineGreedyRow.plainKeys == Try.prog.plainKeys) = true := by kernel_rfl
theorem c24 : Rows.lineGreedyRow.shortTexts.isNone = true := by kernel_rfl
theorem c27 : (Rows.lineGreedyRow.lifted == Try.prog.liftsFinal) = true := by rw [fact_lifts]; kernel_rfl
theorem c28 : (Try.prog.make == some Rows.lineGreedyRow.make) = true := by rw [fact_make]; kernel_rfl
theorem c29 : (Rows.lineGreedyRow.kinds == (if Rows.lineGreedyRow.domain.isEmpty then [] else Try.f6.params.toList.map fun t => match Try.prog.underlying t with | some (.int k) => some k | _ => none)) = true := by kernel_rfl
theorem c30 : (Rows.lineGreedyRow.pinned == Rows.lineGreedyRow.pinnedBy) = true := by kernel_rfl
theorem c31 : (Rows.lineGreedyRow.veiled == (Try.f6.params.toList ++ Rows.lineGreedySpec.plain.varTypes Try.prog ++ Try.f6.resultTypes.toList).any (Try.prog.veiledRec ·)) = true := by kernel_rfl
theorem c32 : Rows.lineGreedyRow.veiledFits Try.prog Try.f6.params.toList (Try.f6.params.toList ++ Rows.lineGreedySpec.plain.varTypes Try.prog ++ Try.f6.resultTypes.toList) = true := by kernel_rfl
set_option maxRecDepth 100000 in
theorem closed : joinedFacts Try.prog 6 Try.f6 Rows.lineGreedySpec Rows.lineGreedyRow = true := by
  unfold joinedFacts
  exact and2 (and2 (and2 (and2 (and2 (and2 (and2 (and2 (and2 (and2 (and2 (and2 (and2 (and2 (and2 (and2 (and2 (and2 (and2 (and2 (and2 (and2 (and2 (and2 (and2 (and2 (and2 (and2 (and2 (and2 (and2 (c1) fact_laidOut) fact_mapsRowed) c4) c5) c6) fact_stops) c8) fact_stopKnobs) c10) c11) c12) c13) c14) c15) c16) c17) c18) c19) c20) c21) c22) c23) c24) fact_stopsHeard) fact_mayEnter) c27) c28) c29) c30) c31) c32
theorem named : Try.prog.funcNamed Rows.lineGreedyRow.func = some 6 := by kernel_rfl
theorem inst : Try.f6.isInstance Try.prog Rows.lineGreedyRow.origin Rows.lineGreedyRow.targs := of_decide_eq_true (by kernel_rfl)
theorem wrap : Try.f6.isWrapper Try.prog Rows.lineGreedyRow.wrapper Rows.lineGreedyRow.mainSum := by unfold Func.isWrapper; rw [if_neg (of_decide_eq_false (by kernel_rfl))]; exact ⟨rfl, rfl⟩

theorem over : Rows.lineGreedyRow.holds Try.pinned (OpenSpec.ofChange Rows.lineGreedySpec) :=
  OpenClaim.holds_of_wide 6 Try.f6 rfl rfl rfl rfl rfl rfl rfl ⟨rfl, rfl, rfl, rfl, rfl⟩ rfl rfl rfl rfl rfl named Try.func6 closed inst wrap
    (fun os started H enc _ => lifted os started H enc)

theorem proved : Rows.LineGreedySaid :=
  over
#print axioms proved
end Go.Proofs.Ythofammjbicogaa.lineGreedy
