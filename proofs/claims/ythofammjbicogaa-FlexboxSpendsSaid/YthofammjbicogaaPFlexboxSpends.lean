/-
  The statement Rows.FlexboxSpendsSaid: for whatever input the function returns true, and each argument reads as it did. No condition.
-/
import Derived.Test.YthofammjbicogaaRows
import Derived.Test.YthofammjbicogaaZ9
import Derived.Test.YthofammjbicogaaFacts
import Derived.Test.YthofammjbicogaaYFlX
import Derived.Test.YthofammjbicogaaYOpen
namespace Go.Proofs.Ythofammjbicogaa.flexboxSpends
open Go.ChangeShapes Go.WideShapes Go.ChangeAt Go.RowKit Go.Joins Go.Deep
set_option linter.unusedVariables false

theorem own : ownKnob Try.prog.godebug = none := by kernel_rfl

theorem walk (ao0 : Option Addr) (n0 : Nat) (c0 : Nat) (xs0 : List Int) (a1 : Int) (a2 : Int) (a3 : Int) (w : World) (hn0 : n0 ≤ maxLen) (hr0 : RowV w ao0 n0 1 (xs0.map fun x => .int .u16 x)) (hw0 : ∀ x ∈ xs0, (Lit.int .u16 x).wf = true) (w1 : (Lit.int .u8 a1).wf = true) (w2 : (Lit.int .u16 a2).wf = true) (w3 : (Lit.int .u8 a3).wf = true) :
    Calls Try.prog 8 #[.agg #[.slice ao0 n0 c0, .int .u8 a1, .int .u16 a2, .int .u8 a3]] w fun e w' => e = .returned (.bool true) ∧ Below w.heap.size w w' :=
  law_spends_row a1 a2 a3 hn0 hw0 w1 w2 w3 w hr0

set_option maxRecDepth 100000 in
theorem lifted (os : Os) (started : os.Started) (H : Type) (enc : TypeId × Value → H) :
    ReturnsInHanded {} Try.checked os 8 .any (Rows.flexboxSpendsSpec.pre6 enc Try.prog Try.f8 Rows.flexboxSpendsRow.domain false) (Rows.flexboxSpendsSpec.post enc Try.prog Try.f8 false true false false) := by
  refine returnsInHanded_of_change (C := Try.checked) own started (by kernel_rfl) Try.func8
    (ChangeSpec.witness6 (enc := enc) (C := Try.checked) false ⟨#[], #[.agg #[.slice none 0 0, .int .u8 0, .int .u16 0, .int .u8 0]], []⟩ 8 (by kernel_rfl) (by kernel_rfl) (by kernel_rfl) (by kernel_rfl)) ?_
  intro W base args ds gs before hval0 hW hcnd _
  have hval : ∀ (j : Nat) t v, Try.f8.params[j]? = some t → args[j]? = some v → Value.okWide Try.prog W .any base t v := hval0
  have hW' := hW
  obtain ⟨p, q, hA0, hV, rfl, hfz, hnd⟩ := hW
  have hA : DataW.TrodAll enc Try.prog W 0 (fun _ => true) true Try.f8.params.toList args.toList ds p := hA0
  obtain ⟨rfl, rfl⟩ := trodVars_none hV
  rw [List.append_nil] at hfz
  have hlt : ∀ x ∈ p, x.block < W.heap.size := fun x hx => hW'.lt x (List.mem_append_left _ hx)
  rw [Try.params8] at hA hval
  obtain ⟨v0, vs0, d0, ds0, p0, q0, hargs, rfl, rfl, h0, r0⟩ := trodAll_cons hA
  obtain ⟨rfl, rfl, rfl⟩ := trodAll_nil r0
  obtain rfl : args = #[v0] := by cases args; simp_all
  have fz0 : W.noneFrozen p0 ∧ ∀ x ∈ p0, x.block < W.heap.size := ⟨fun b off hx => hfz b off (by simp [hx]), fun x hx => hlt x (by simp [hx])⟩
  have hpost : ∀ W', Below W.heap.size W W' → Rows.flexboxSpendsSpec.post enc Try.prog Try.f8 false true false false W #[v0] (.bool true) W' := fun W' hB =>
    post_law fact_laidOut fact_mapsRowed slices_full hW' rfl (by rw [Try.params8]; decide) rfl Try.underlying4 rfl hB
  clear hW' hA0 hval0 hfz hlt hA
  obtain ⟨l0, rfl, e0, f0⟩ := open_flat Try.underlying70 (by kernel_rfl) (by kernel_rfl) (hval 0 70 v0 rfl rfl) h0
  obtain ⟨u0, y0, n_0, g0, t0⟩ := f0 0 _ rfl
  have k0 := cell_ok (tu := 68) Try.underlying70 (hval 0 70 (.agg l0.toArray) rfl rfl) (show Try.prog.cellTypes Try.prog.depth 70 = some [68, 5, 42, 5] by kernel_rfl) (i := 0) rfl g0
  obtain ⟨ao0, n0, c0, xs0, rfl, hn0, hr0, hw0⟩ := open_row_ints (k := .u16) Try.underlying68 Try.underlying42 (by kernel_rfl) k0 t0
  obtain ⟨a1, g1, w1⟩ := flat_int (t := 5) Try.underlying5 (f0 1 _ rfl)
  obtain ⟨a2, g2, w2⟩ := flat_int (t := 42) Try.underlying42 (f0 2 _ rfl)
  obtain ⟨a3, g3, w3⟩ := flat_int (t := 5) Try.underlying5 (f0 3 _ rfl)
  obtain rfl : l0 = [.slice ao0 n0 c0, .int .u8 a1, .int .u16 a2, .int .u8 a3] := list_by e0 (list_step g0 (list_step g1 (list_step g2 (list_step g3 (list_end)))))
  refine (walk ao0 n0 c0 xs0 a1 a2 a3 W hn0 hr0 hw0 w1 w2 w3).mono fun e W' ⟨he, hg⟩ => ?_
  subst he
  exact ⟨_, rfl, hpost W' hg⟩

theorem c1 : Rows.flexboxSpendsRow.wf (OpenSpec.ofChange Rows.flexboxSpendsSpec) = true := by kernel_rfl
theorem c4 : Try.f8.params.all (Try.prog.readableRec ·) = true := by kernel_rfl
theorem c5 : namedTie Try.prog Rows.flexboxSpendsRow.named Rows.flexboxSpendsSpec.vars = true := by kernel_rfl
theorem c6 : (Rows.flexboxSpendsRow.stops == []) = true := by kernel_rfl
theorem c8 : (Rows.flexboxSpendsRow.knobs == []) = true := by kernel_rfl
theorem c10 : (Rows.flexboxSpendsRow.inPlace == Try.prog.inPlace 8) = true := by kernel_rfl
theorem c11 : (Rows.flexboxSpendsRow.unfollowed == Try.prog.unfollowed 8) = true := by kernel_rfl
theorem c12 : (Rows.flexboxSpendsRow.recurses == Try.prog.recurses 8) = true := by kernel_rfl
theorem c13 : (Rows.flexboxSpendsRow.named == Try.prog.varsNamed 8) = true := by kernel_rfl
theorem c14 : (Rows.flexboxSpendsRow.maps == (Try.f8.params.toList ++ Rows.flexboxSpendsSpec.plain.varTypes Try.prog).any (Try.prog.mapsRec ·)) = true := by kernel_rfl
theorem c15 : (Rows.flexboxSpendsRow.ifaces == (Try.f8.params.toList ++ Rows.flexboxSpendsSpec.plain.varTypes Try.prog).any (Try.prog.ifacesRec ·)) = true := by kernel_rfl
theorem c16 : (Rows.flexboxSpendsRow.mapsOut == Try.prog.mapsAmong Try.f8.resultTypes.toList) = true := by kernel_rfl
theorem c17 : (Rows.flexboxSpendsRow.loops == (Try.f8.params.toList ++ Rows.flexboxSpendsSpec.plain.varTypes Try.prog).any (Try.prog.loopsFrom ·)) = true := by kernel_rfl
theorem c18 : (Rows.flexboxSpendsRow.wideKeys == (Try.f8.params.toList ++ Rows.flexboxSpendsSpec.plain.varTypes Try.prog ++ Try.f8.resultTypes.toList).any (Try.prog.wideKeysFrom ·)) = true := by kernel_rfl
theorem c19 : Rows.flexboxSpendsSpec.vars.all (Try.prog.varReadable ·) = true := by kernel_rfl
theorem c20 : Try.f8.resultTypes.all (fun t => Try.prog.readableRec t && decide (t < Try.prog.types.size)) = true := by kernel_rfl
theorem c21 : (Rows.flexboxSpendsRow.ifacesOut == Try.f8.resultTypes.toList.any (Try.prog.ifacesRec ·)) = true := by kernel_rfl
theorem c22 : (Rows.flexboxSpendsRow.loopsOut == Try.f8.resultTypes.toList.any (Try.prog.loopsFrom ·)) = true := by kernel_rfl
theorem c23 : (Rows.flexboxSpendsRow.plainKeys == Try.prog.plainKeys) = true := by kernel_rfl
theorem c24 : Rows.flexboxSpendsRow.shortTexts.isNone = true := by kernel_rfl
theorem c27 : (Rows.flexboxSpendsRow.lifted == Try.prog.liftsFinal) = true := by rw [fact_lifts]; kernel_rfl
theorem c28 : (Try.prog.make == some Rows.flexboxSpendsRow.make) = true := by rw [fact_make]; kernel_rfl
theorem c29 : (Rows.flexboxSpendsRow.kinds == (if Rows.flexboxSpendsRow.domain.isEmpty then [] else Try.f8.params.toList.map fun t => match Try.prog.underlying t with | some (.int k) => some k | _ => none)) = true := by kernel_rfl
theorem c30 : (Rows.flexboxSpendsRow.pinned == Rows.flexboxSpendsRow.pinnedBy) = true := by kernel_rfl
theorem c31 : (Rows.flexboxSpendsRow.veiled == (Try.f8.params.toList ++ Rows.flexboxSpendsSpec.plain.varTypes Try.prog ++ Try.f8.resultTypes.toList).any (Try.prog.veiledRec ·)) = true := by kernel_rfl
theorem c32 : Rows.flexboxSpendsRow.veiledFits Try.prog Try.f8.params.toList (Try.f8.params.toList ++ Rows.flexboxSpendsSpec.plain.varTypes Try.prog ++ Try.f8.resultTypes.toList) = true := by kernel_rfl
set_option maxRecDepth 100000 in
theorem closed : joinedFacts Try.prog 8 Try.f8 Rows.flexboxSpendsSpec Rows.flexboxSpendsRow = true := by
  unfold joinedFacts
  exact and2 (and2 (and2 (and2 (and2 (and2 (and2 (and2 (and2 (and2 (and2 (and2 (and2 (and2 (and2 (and2 (and2 (and2 (and2 (and2 (and2 (and2 (and2 (and2 (and2 (and2 (and2 (and2 (and2 (and2 (and2 (c1) fact_laidOut) fact_mapsRowed) c4) c5) c6) fact_stops) c8) fact_stopKnobs) c10) c11) c12) c13) c14) c15) c16) c17) c18) c19) c20) c21) c22) c23) c24) fact_stopsHeard) fact_mayEnter) c27) c28) c29) c30) c31) c32
theorem named : Try.prog.funcNamed Rows.flexboxSpendsRow.func = some 8 := by kernel_rfl
theorem inst : Try.f8.isInstance Try.prog Rows.flexboxSpendsRow.origin Rows.flexboxSpendsRow.targs := of_decide_eq_true (by kernel_rfl)
theorem wrap : Try.f8.isWrapper Try.prog Rows.flexboxSpendsRow.wrapper Rows.flexboxSpendsRow.mainSum := by unfold Func.isWrapper; rw [if_neg (of_decide_eq_false (by kernel_rfl))]; exact ⟨rfl, rfl⟩

theorem over : Rows.flexboxSpendsRow.holds Try.pinned (OpenSpec.ofChange Rows.flexboxSpendsSpec) :=
  OpenClaim.holds_of_wide 8 Try.f8 rfl rfl rfl rfl rfl rfl rfl ⟨rfl, rfl, rfl, rfl, rfl⟩ rfl rfl rfl rfl rfl named Try.func8 closed inst wrap
    (fun os started H enc _ => lifted os started H enc)

theorem proved : Rows.FlexboxSpendsSaid :=
  over
#print axioms proved
end Go.Proofs.Ythofammjbicogaa.flexboxSpends
