/-
  The card Rows.StyleSetsCardSaid: for whatever input the function returns true, and each argument reads as it did; under: package-level variables start as the program's text lays them (the card ties them).
-/
import Derived.Test.YtmkblfejoniccaaDoorRows
import Derived.Test.YtmkblfejoniccaaDoorZ1
import Derived.Test.YtmkblfejoniccaaDoorFacts
import Derived.Test.YtmkblfejoniccaaDoorYTabS
import Derived.Test.YtmkblfejoniccaaDoorCards
import Derived.Test.YtmkblfejoniccaaDoorTie
import Derived.SevenTiedAt
import Derived.Test.YtmkblfejoniccaaDoorYSyX
namespace Go.Proofs.YtmkblfejoniccaaDoor.styleSets
open Go.ChangeShapes Go.WideShapes Go.ChangeAt Go.RowKit Go.Joins Go.Deep
set_option linter.unusedVariables false

theorem own : ownKnob Tryd.prog.godebug = none := by kernel_rfl

theorem walk (v_0 : Value) (w : World) (hT : StyW w) (hs_0 : SetIn w v_0) :
    Calls Tryd.prog 9 #[v_0] w fun e w' => e = .returned (.bool true) ∧ Below w.heap.size w w' :=
  law_sets_in v_0 w hs_0 hT

set_option maxRecDepth 100000 in
theorem lifted (os : Os) (started : os.Started) (H : Type) (enc : TypeId × Value → H) :
    ReturnsInHanded {} Tryd.checked os 9 .any (fun w args => (Rows.styleSetsSpec.pre enc Tryd.prog Tryd.f9 Rows.styleSetsRow.domain false w args ∧ laidMetH Tryd.prog laidS w) ∧ sizedMet enc Tryd.prog Tryd.f9 (OpenSpec.ofChange Rows.styleSetsSpec) false w args) (Rows.styleSetsSpec.post enc Tryd.prog Tryd.f9 false true false false) := by
  refine returnsInHanded_of_change_and (C := Tryd.checked) (X := fun w _ => laidMetH Tryd.prog laidS w) (fun _ _ _ hh h => h.of_heap hh) own started (by kernel_rfl) Tryd.func9
    (ChangeSpec.witness_shaped (enc := enc) (C := Tryd.checked) (os := os) (X := fun w _ => laidMetH Tryd.prog laidS w) false (World.doorLaid Tryd.prog 46 os) #[.agg #[.int .i64 0, .int .i64 0, .int .u64 0, .bool false, .int .i64 0, .bool false, .bool false, .bool false, .bool false]] 8 rfl (World.shaped_of_RefB (by kernel_rfl) (by kernel_rfl)) (by kernel_rfl) (by kernel_rfl) (by kernel_rfl) (sty_door os _)) ?_
  intro W base args ds gs before hval0 hW hcnd _ hL _
  have hT := sty_of_laid hL
  have hval : ∀ (j : Nat) t v, Tryd.f9.params[j]? = some t → args[j]? = some v → Value.okWide Tryd.prog W .any base t v := hval0
  have hW' := hW
  obtain ⟨p, q, hA0, hV, rfl, hfz, hnd⟩ := hW
  have hA : DataW.TrodAll enc Tryd.prog W 0 (fun _ => true) true Tryd.f9.params.toList args.toList ds p := hA0
  obtain ⟨rfl, rfl⟩ := trodVars_none hV
  rw [List.append_nil] at hfz
  have hlt : ∀ x ∈ p, x.block < W.heap.size := fun x hx => hW'.lt x (List.mem_append_left _ hx)
  rw [Tryd.params9] at hA hval
  obtain ⟨v0, vs0, d0, ds0, p0, q0, hargs, rfl, rfl, h0, r0⟩ := trodAll_cons hA
  obtain ⟨rfl, rfl, rfl⟩ := trodAll_nil r0
  obtain rfl : args = #[v0] := by cases args; simp_all
  have fz0 : W.noneFrozen p0 ∧ ∀ x ∈ p0, x.block < W.heap.size := ⟨fun b off hx => hfz b off (by simp [hx]), fun x hx => hlt x (by simp [hx])⟩
  have hpost : ∀ W', Below W.heap.size W W' → Rows.styleSetsSpec.post enc Tryd.prog Tryd.f9 false true false false W #[v0] (.bool true) W' := fun W' hB =>
    post_law fact_laidOut fact_mapsRowed slices_full hW' rfl (by rw [Tryd.params9]; decide) rfl Tryd.underlying4 rfl hB
  clear hW' hA0 hval0 hfz hlt hA
  have hs_0 := set_dir (hval 0 87 v0 rfl rfl) h0
  refine (walk _ W hT hs_0).mono fun e W' ⟨he, hg⟩ => ?_
  subst he
  exact ⟨_, rfl, hpost W' hg⟩

theorem c1 : Rows.styleSetsRow.wf (OpenSpec.ofChange Rows.styleSetsSpec) = true := by kernel_rfl
theorem c4 : Tryd.f9.params.all (Tryd.prog.readableRec ·) = true := by kernel_rfl
theorem c5 : namedTie Tryd.prog Rows.styleSetsRow.named Rows.styleSetsSpec.vars = true := by kernel_rfl
theorem c6 : (Rows.styleSetsRow.stops == []) = true := by kernel_rfl
theorem c8 : (Rows.styleSetsRow.knobs == []) = true := by kernel_rfl
theorem c10 : (Rows.styleSetsRow.inPlace == Tryd.prog.inPlace 9) = true := by kernel_rfl
theorem c11 : (Rows.styleSetsRow.unfollowed == Tryd.prog.unfollowed 9) = true := by kernel_rfl
theorem c12 : (Rows.styleSetsRow.recurses == Tryd.prog.recurses 9) = true := by kernel_rfl
theorem c13 : (Rows.styleSetsRow.named == Tryd.prog.varsNamed 9) = true := by kernel_rfl
theorem c14 : (Rows.styleSetsRow.maps == (Tryd.f9.params.toList ++ Rows.styleSetsSpec.plain.varTypes Tryd.prog).any (Tryd.prog.mapsRec ·)) = true := by kernel_rfl
theorem c15 : (Rows.styleSetsRow.ifaces == (Tryd.f9.params.toList ++ Rows.styleSetsSpec.plain.varTypes Tryd.prog).any (Tryd.prog.ifacesRec ·)) = true := by kernel_rfl
theorem c16 : (Rows.styleSetsRow.mapsOut == Tryd.prog.mapsAmong Tryd.f9.resultTypes.toList) = true := by kernel_rfl
theorem c17 : (Rows.styleSetsRow.loops == (Tryd.f9.params.toList ++ Rows.styleSetsSpec.plain.varTypes Tryd.prog).any (Tryd.prog.loopsFrom ·)) = true := by kernel_rfl
theorem c18 : (Rows.styleSetsRow.wideKeys == (Tryd.f9.params.toList ++ Rows.styleSetsSpec.plain.varTypes Tryd.prog ++ Tryd.f9.resultTypes.toList).any (Tryd.prog.wideKeysFrom ·)) = true := by kernel_rfl
theorem c19 : Rows.styleSetsSpec.vars.all (Tryd.prog.varReadable ·) = true := by kernel_rfl
theorem c20 : Tryd.f9.resultTypes.all (fun t => Tryd.prog.readableRec t && decide (t < Tryd.prog.types.size)) = true := by kernel_rfl
theorem c21 : (Rows.styleSetsRow.ifacesOut == Tryd.f9.resultTypes.toList.any (Tryd.prog.ifacesRec ·)) = true := by kernel_rfl
theorem c22 : (Rows.styleSetsRow.loopsOut == Tryd.f9.resultTypes.toList.any (Tryd.prog.loopsFrom ·)) = true := by kernel_rfl
theorem c23 : (Rows.styleSetsRow.plainKeys == Tryd.prog.plainKeys) = true := by kernel_rfl
theorem c24 : Rows.styleSetsRow.shortTexts.isNone = true := by kernel_rfl
theorem c27 : (Rows.styleSetsRow.lifted == Tryd.prog.liftsFinal) = true := by rw [fact_lifts]; kernel_rfl
theorem c28 : (Tryd.prog.make == some Rows.styleSetsRow.make) = true := by rw [fact_make]; kernel_rfl
theorem c29 : (Rows.styleSetsRow.kinds == (if Rows.styleSetsRow.domain.isEmpty then [] else Tryd.f9.params.toList.map fun t => match Tryd.prog.underlying t with | some (.int k) => some k | _ => none)) = true := by kernel_rfl
theorem c30 : (Rows.styleSetsRow.pinned == Rows.styleSetsRow.pinnedBy) = true := by kernel_rfl
theorem c31 : (Rows.styleSetsRow.veiled == (Tryd.f9.params.toList ++ Rows.styleSetsSpec.plain.varTypes Tryd.prog ++ Tryd.f9.resultTypes.toList).any (Tryd.prog.veiledRec ·)) = true := by kernel_rfl
theorem c32 : Rows.styleSetsRow.veiledFits Tryd.prog Tryd.f9.params.toList (Tryd.f9.params.toList ++ Rows.styleSetsSpec.plain.varTypes Tryd.prog ++ Tryd.f9.resultTypes.toList) = true := by kernel_rfl
set_option maxRecDepth 100000 in
theorem closed : joinedFacts Tryd.prog 9 Tryd.f9 Rows.styleSetsSpec Rows.styleSetsRow = true := by
  unfold joinedFacts
  exact and2 (and2 (and2 (and2 (and2 (and2 (and2 (and2 (and2 (and2 (and2 (and2 (and2 (and2 (and2 (and2 (and2 (and2 (and2 (and2 (and2 (and2 (and2 (and2 (and2 (and2 (and2 (and2 (and2 (and2 (and2 (c1) fact_laidOut) fact_mapsRowed) c4) c5) c6) fact_stops) c8) fact_stopKnobs) c10) c11) c12) c13) c14) c15) c16) c17) c18) c19) c20) c21) c22) c23) c24) fact_stopsHeard) fact_mayEnter) c27) c28) c29) c30) c31) c32
theorem named : Tryd.prog.funcNamed Rows.styleSetsRow.func = some 9 := by kernel_rfl
theorem inst : Tryd.f9.isInstance Tryd.prog Rows.styleSetsRow.origin Rows.styleSetsRow.targs := of_decide_eq_true (by kernel_rfl)
theorem wrap : Tryd.f9.isWrapper Tryd.prog Rows.styleSetsRow.wrapper Rows.styleSetsRow.mainSum := by unfold Func.isWrapper; rw [if_neg (of_decide_eq_false (by kernel_rfl))]; exact ⟨rfl, rfl⟩

theorem over : Rows.styleSetsRow.holds Tryd.pinned (OpenSpec.ofChange Rows.styleSetsSpec) :=
  OpenClaim.holds_of_wide 9 Tryd.f9 rfl rfl rfl rfl rfl rfl rfl ⟨rfl, rfl, rfl, rfl, rfl⟩ rfl rfl rfl rfl rfl named Tryd.func9 closed inst wrap
    (fun os started H enc _ => lifted os started H enc)

theorem proved : Rows.StyleSetsCardSaid :=
  Claim7.holds_tied_plain_at .later [] [.data, .data] true (true, "e872c10d00843f547bdcd28453896e67338f1c10a6c1c046268c4084fca633a0") true
    over (fun _ h => by cases h) (by kernel_rfl) (fun _ h => by cases h) styleSets_row_tie rfl ⟨rfl, rfl⟩ (by kernel_rfl) rfl
    (fun f fn hf hfn => by
      obtain rfl : f = 9 := Option.some.inj ((show Tryd.prog.funcNamed "clapboard/clapboardlaw11.StyleSets" = some 9 by kernel_rfl).symm.trans hf) |>.symm
      obtain rfl : fn = Tryd.f9 := (Option.some.inj (Tryd.func9.symm.trans hfn)).symm
      exact ⟨by kernel_rfl, fun j t ht => by
        rw [Tryd.params9] at ht
        have hm : t ∈ [87] := by
          have := Array.mem_of_getElem? ht
          simp at this ⊢
          first | exact this | omega
        have hall : ([87].all fun u => !Tryd.prog.wantsStandIn u) = true := by kernel_rfl
        exact (show Tryd.prog.wantsStandIn t = false by simpa using List.all_eq_true.1 hall t hm)⟩)
    (by kernel_rfl)
#print axioms proved
end Go.Proofs.YtmkblfejoniccaaDoor.styleSets
