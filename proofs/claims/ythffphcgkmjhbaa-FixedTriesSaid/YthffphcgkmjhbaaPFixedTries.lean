/-
  The statement Rows.FixedTriesSaid: for whatever input the function returns true, and each argument reads as it did. No condition.
-/
import Derived.Test.YthffphcgkmjhbaaRows
import Derived.Test.YthffphcgkmjhbaaLaw
import Derived.Test.YthffphcgkmjhbaaFacts
import Derived.Test.YthffphcgkmjhbaaLawU
namespace Go.Proofs.Ythffphcgkmjhbaa.fixedTries
open Go.ChangeShapes Go.WideShapes Go.ChangeAt Go.RowKit Go.Joins Go.Deep
set_option linter.unusedVariables false

theorem own : ownKnob Try.prog.godebug = none := by kernel_rfl

theorem walk (a0 : Int) (a1 : Int) (a2 : ByteArray) (a3 : Int) (w : World) (w0 : (Lit.int .i64 a0).wf = true) (w1 : (Lit.int .i64 a1).wf = true) (w2 : a2.size ≤ maxLen) (w3 : (Lit.int .u8 a3).wf = true) :
    Calls Try.prog 13 #[.agg #[.int .i64 a0, .int .i64 a1, .string a2, .int .u8 a3]] w fun e w' => e = .returned (.bool true) ∧ Below w.heap.size w w' :=
  law_tries a0 a1 a3 (a3.tmod 3) a2 rfl (tmod_three (u8_of_wf w3).1) w

set_option maxRecDepth 100000 in
theorem lifted (os : Os) (started : os.Started) (H : Type) (enc : TypeId × Value → H) :
    ReturnsInHanded {} Try.checked os 13 .any (Rows.fixedTriesSpec.pre6 enc Try.prog Try.f13 Rows.fixedTriesRow.domain false) (Rows.fixedTriesSpec.post enc Try.prog Try.f13 false true false false) := by
  refine returnsInHanded_of_change (C := Try.checked) own started (by kernel_rfl) Try.func13
    (ChangeSpec.witness6 (enc := enc) (C := Try.checked) false ⟨#[], #[.agg #[.int .i64 0, .int .i64 0, .string ⟨#[]⟩, .int .u8 0]], []⟩ 8 (by kernel_rfl) (by kernel_rfl) (by kernel_rfl) (by kernel_rfl)) ?_
  intro W base args ds gs before hval0 hW hcnd _
  have hval : ∀ (j : Nat) t v, Try.f13.params[j]? = some t → args[j]? = some v → Value.okWide Try.prog W .any base t v := hval0
  have hW' := hW
  obtain ⟨p, q, hA0, hV, rfl, hfz, hnd⟩ := hW
  have hA : DataW.TrodAll enc Try.prog W 0 (fun _ => true) true Try.f13.params.toList args.toList ds p := hA0
  obtain ⟨rfl, rfl⟩ := trodVars_none hV
  rw [List.append_nil] at hfz
  have hlt : ∀ x ∈ p, x.block < W.heap.size := fun x hx => hW'.lt x (List.mem_append_left _ hx)
  rw [Try.params13] at hA hval
  obtain ⟨v0, vs0, d0, ds0, p0, q0, hargs, rfl, rfl, h0, r0⟩ := trodAll_cons hA
  obtain ⟨rfl, rfl, rfl⟩ := trodAll_nil r0
  obtain rfl : args = #[v0] := by cases args; simp_all
  have fz0 : W.noneFrozen p0 ∧ ∀ x ∈ p0, x.block < W.heap.size := ⟨fun b off hx => hfz b off (by simp [hx]), fun x hx => hlt x (by simp [hx])⟩
  have hpost : ∀ W', Below W.heap.size W W' → Rows.fixedTriesSpec.post enc Try.prog Try.f13 false true false false W #[v0] (.bool true) W' := fun W' hB =>
    post_law fact_laidOut fact_mapsRowed slices_full hW' rfl (by rw [Try.params13]; decide) rfl Try.underlying4 rfl hB
  clear hW' hA0 hval0 hfz hlt hA
  obtain ⟨l0, rfl, e0, f0⟩ := open_flat Try.underlying76 (by kernel_rfl) (by kernel_rfl) (hval 0 76 v0 rfl rfl) h0
  obtain ⟨a0, g0, w0⟩ := flat_int (t := 3) Try.underlying3 (f0 0 _ rfl)
  obtain ⟨a1, g1, w1⟩ := flat_int (t := 3) Try.underlying3 (f0 1 _ rfl)
  obtain ⟨a2, g2, w2⟩ := flat_string (t := 9) Try.underlying9 (f0 2 _ rfl)
  obtain ⟨a3, g3, w3⟩ := flat_int (t := 5) Try.underlying5 (f0 3 _ rfl)
  obtain rfl : l0 = [.int .i64 a0, .int .i64 a1, .string a2, .int .u8 a3] := list_by e0 (list_step g0 (list_step g1 (list_step g2 (list_step g3 (list_end)))))
  refine (walk a0 a1 a2 a3 W w0 w1 w2 w3).mono fun e W' ⟨he, hg⟩ => ?_
  subst he
  exact ⟨_, rfl, hpost W' hg⟩

theorem c1 : Rows.fixedTriesRow.wf (OpenSpec.ofChange Rows.fixedTriesSpec) = true := by kernel_rfl
theorem c4 : Try.f13.params.all (Try.prog.readableRec ·) = true := by kernel_rfl
theorem c5 : namedTie Try.prog Rows.fixedTriesRow.named Rows.fixedTriesSpec.vars = true := by kernel_rfl
theorem c6 : (Rows.fixedTriesRow.stops == []) = true := by kernel_rfl
theorem c8 : (Rows.fixedTriesRow.knobs == []) = true := by kernel_rfl
theorem c10 : (Rows.fixedTriesRow.inPlace == Try.prog.inPlace 13) = true := by kernel_rfl
theorem c11 : (Rows.fixedTriesRow.unfollowed == Try.prog.unfollowed 13) = true := by kernel_rfl
theorem c12 : (Rows.fixedTriesRow.recurses == Try.prog.recurses 13) = true := by kernel_rfl
theorem c13 : (Rows.fixedTriesRow.named == Try.prog.varsNamed 13) = true := by kernel_rfl
theorem c14 : (Rows.fixedTriesRow.maps == (Try.f13.params.toList ++ Rows.fixedTriesSpec.plain.varTypes Try.prog).any (Try.prog.mapsRec ·)) = true := by kernel_rfl
theorem c15 : (Rows.fixedTriesRow.ifaces == (Try.f13.params.toList ++ Rows.fixedTriesSpec.plain.varTypes Try.prog).any (Try.prog.ifacesRec ·)) = true := by kernel_rfl
theorem c16 : (Rows.fixedTriesRow.mapsOut == Try.prog.mapsAmong Try.f13.resultTypes.toList) = true := by kernel_rfl
theorem c17 : (Rows.fixedTriesRow.loops == (Try.f13.params.toList ++ Rows.fixedTriesSpec.plain.varTypes Try.prog).any (Try.prog.loopsFrom ·)) = true := by kernel_rfl
theorem c18 : (Rows.fixedTriesRow.wideKeys == (Try.f13.params.toList ++ Rows.fixedTriesSpec.plain.varTypes Try.prog ++ Try.f13.resultTypes.toList).any (Try.prog.wideKeysFrom ·)) = true := by kernel_rfl
theorem c19 : Rows.fixedTriesSpec.vars.all (Try.prog.varReadable ·) = true := by kernel_rfl
theorem c20 : Try.f13.resultTypes.all (fun t => Try.prog.readableRec t && decide (t < Try.prog.types.size)) = true := by kernel_rfl
theorem c21 : (Rows.fixedTriesRow.ifacesOut == Try.f13.resultTypes.toList.any (Try.prog.ifacesRec ·)) = true := by kernel_rfl
theorem c22 : (Rows.fixedTriesRow.loopsOut == Try.f13.resultTypes.toList.any (Try.prog.loopsFrom ·)) = true := by kernel_rfl
theorem c23 : (Rows.fixedTriesRow.plainKeys == Try.prog.plainKeys) = true := by kernel_rfl
theorem c24 : Rows.fixedTriesRow.shortTexts.isNone = true := by kernel_rfl
theorem c27 : (Rows.fixedTriesRow.lifted == Try.prog.liftsFinal) = true := by rw [fact_lifts]; kernel_rfl
theorem c28 : (Try.prog.make == some Rows.fixedTriesRow.make) = true := by rw [fact_make]; kernel_rfl
theorem c29 : (Rows.fixedTriesRow.kinds == (if Rows.fixedTriesRow.domain.isEmpty then [] else Try.f13.params.toList.map fun t => match Try.prog.underlying t with | some (.int k) => some k | _ => none)) = true := by kernel_rfl
theorem c30 : (Rows.fixedTriesRow.pinned == Rows.fixedTriesRow.pinnedBy) = true := by kernel_rfl
theorem c31 : (Rows.fixedTriesRow.veiled == (Try.f13.params.toList ++ Rows.fixedTriesSpec.plain.varTypes Try.prog ++ Try.f13.resultTypes.toList).any (Try.prog.veiledRec ·)) = true := by kernel_rfl
theorem c32 : Rows.fixedTriesRow.veiledFits Try.prog Try.f13.params.toList (Try.f13.params.toList ++ Rows.fixedTriesSpec.plain.varTypes Try.prog ++ Try.f13.resultTypes.toList) = true := by kernel_rfl
set_option maxRecDepth 100000 in
theorem closed : joinedFacts Try.prog 13 Try.f13 Rows.fixedTriesSpec Rows.fixedTriesRow = true := by
  unfold joinedFacts
  exact and2 (and2 (and2 (and2 (and2 (and2 (and2 (and2 (and2 (and2 (and2 (and2 (and2 (and2 (and2 (and2 (and2 (and2 (and2 (and2 (and2 (and2 (and2 (and2 (and2 (and2 (and2 (and2 (and2 (and2 (and2 (c1) fact_laidOut) fact_mapsRowed) c4) c5) c6) fact_stops) c8) fact_stopKnobs) c10) c11) c12) c13) c14) c15) c16) c17) c18) c19) c20) c21) c22) c23) c24) fact_stopsHeard) fact_mayEnter) c27) c28) c29) c30) c31) c32
theorem named : Try.prog.funcNamed Rows.fixedTriesRow.func = some 13 := by kernel_rfl
theorem inst : Try.f13.isInstance Try.prog Rows.fixedTriesRow.origin Rows.fixedTriesRow.targs := of_decide_eq_true (by kernel_rfl)
theorem wrap : Try.f13.isWrapper Try.prog Rows.fixedTriesRow.wrapper Rows.fixedTriesRow.mainSum := by unfold Func.isWrapper; rw [if_neg (of_decide_eq_false (by kernel_rfl))]; exact ⟨rfl, rfl⟩

theorem over : Rows.fixedTriesRow.holds Try.pinned (OpenSpec.ofChange Rows.fixedTriesSpec) :=
  OpenClaim.holds_of_wide 13 Try.f13 rfl rfl rfl rfl rfl rfl rfl ⟨rfl, rfl, rfl, rfl, rfl⟩ rfl rfl rfl rfl rfl named Try.func13 closed inst wrap
    (fun os started H enc _ => lifted os started H enc)

theorem proved : Rows.FixedTriesSaid :=
  over
#print axioms proved
end Go.Proofs.Ythffphcgkmjhbaa.fixedTries
