/-
  The card Rows.TopZoomsCardSaid: for whatever input the function returns true, and each argument reads as it did; under: package-level variables start as the program's text lays them (the card ties them).
-/
import Derived.Test.YtigjjddblijpbaaGreatDoorRows
import Derived.Test.YtigjjddblijpbaaGreatDoorZ1
import Derived.Test.YtigjjddblijpbaaGreatDoorFacts
import Derived.Test.YtigjjddblijpbaaGreatDoorYTabZ
import Derived.Test.YtigjjddblijpbaaGreatDoorCards
import Derived.Test.YtigjjddblijpbaaGreatDoorTie
import Derived.SevenTiedAt
import Derived.Test.YtigjjddblijpbaaGreatDoorYOpenZ
namespace Go.Proofs.YtigjjddblijpbaaGreatDoor.topZooms
open Go.ChangeShapes Go.WideShapes Go.ChangeAt Go.RowKit Go.Joins Go.Deep
set_option linter.unusedVariables false

theorem own : ownKnob Tryz.prog.godebug = none := by kernel_rfl

theorem walk (v_0 : Value) (w : World) (hT : StyW w) (hs_0 : ZoomIn w v_0) :
    Calls Tryz.prog 3 #[v_0] w fun e w' => e = .returned (.bool true) ∧ Below w.heap.size w w' :=
  law_zooms_in v_0 w hs_0 hT

set_option maxRecDepth 100000 in
theorem lifted (os : Os) (started : os.Started) (H : Type) (enc : TypeId × Value → H) :
    ReturnsInHanded {} Tryz.checked os 3 .any (fun w args => (Rows.topZoomsSpec.pre enc Tryz.prog Tryz.f3 Rows.topZoomsRow.domain false w args ∧ laidMetH Tryz.prog laidS w) ∧ sizedMet enc Tryz.prog Tryz.f3 (OpenSpec.ofChange Rows.topZoomsSpec) false w args) (Rows.topZoomsSpec.post enc Tryz.prog Tryz.f3 false true false false) := by
  refine returnsInHanded_of_change_and (C := Tryz.checked) (X := fun w _ => laidMetH Tryz.prog laidS w) (fun _ _ _ hh h => h.of_heap hh) own started (by kernel_rfl) Tryz.func3
    (ChangeSpec.witness_shaped (enc := enc) (C := Tryz.checked) (os := os) (X := fun w _ => laidMetH Tryz.prog laidS w) false (World.doorLaid Tryz.prog 46 os) #[.agg #[.int .u32 0, .int .u8 0, .int .u8 0, .int .u8 0, .int .u8 0]] 8 rfl (World.shaped_of_RefB (by kernel_rfl) (by kernel_rfl)) (by kernel_rfl) (by kernel_rfl) (by kernel_rfl) (sty_door os _)) ?_
  intro W base args ds gs before hval0 hW hcnd _ hL _
  have hT := sty_of_laid hL
  have hval : ∀ (j : Nat) t v, Tryz.f3.params[j]? = some t → args[j]? = some v → Value.okWide Tryz.prog W .any base t v := hval0
  have hW' := hW
  obtain ⟨p, q, hA0, hV, rfl, hfz, hnd⟩ := hW
  have hA : DataW.TrodAll enc Tryz.prog W 0 (fun _ => true) true Tryz.f3.params.toList args.toList ds p := hA0
  obtain ⟨rfl, rfl⟩ := trodVars_none hV
  rw [List.append_nil] at hfz
  have hlt : ∀ x ∈ p, x.block < W.heap.size := fun x hx => hW'.lt x (List.mem_append_left _ hx)
  rw [Tryz.params3] at hA hval
  obtain ⟨v0, vs0, d0, ds0, p0, q0, hargs, rfl, rfl, h0, r0⟩ := trodAll_cons hA
  obtain ⟨rfl, rfl, rfl⟩ := trodAll_nil r0
  obtain rfl : args = #[v0] := by cases args; simp_all
  have fz0 : W.noneFrozen p0 ∧ ∀ x ∈ p0, x.block < W.heap.size := ⟨fun b off hx => hfz b off (by simp [hx]), fun x hx => hlt x (by simp [hx])⟩
  have hpost : ∀ W', Below W.heap.size W W' → Rows.topZoomsSpec.post enc Tryz.prog Tryz.f3 false true false false W #[v0] (.bool true) W' := fun W' hB =>
    post_law fact_laidOut fact_mapsRowed slices_full hW' rfl (by rw [Tryz.params3]; decide) rfl Tryz.underlying4 rfl hB
  clear hW' hA0 hval0 hfz hlt hA
  have hs_0 := zoom_dir (hval 0 25 v0 rfl rfl) h0
  refine (walk _ W hT hs_0).mono fun e W' ⟨he, hg⟩ => ?_
  subst he
  exact ⟨_, rfl, hpost W' hg⟩

theorem c1 : Rows.topZoomsRow.wf (OpenSpec.ofChange Rows.topZoomsSpec) = true := by kernel_rfl
theorem c4 : Tryz.f3.params.all (Tryz.prog.readableRec ·) = true := by kernel_rfl
theorem c5 : namedTie Tryz.prog Rows.topZoomsRow.named Rows.topZoomsSpec.vars = true := by kernel_rfl
theorem c6 : (Rows.topZoomsRow.stops == []) = true := by kernel_rfl
theorem c8 : (Rows.topZoomsRow.knobs == []) = true := by kernel_rfl
theorem c10 : (Rows.topZoomsRow.inPlace == Tryz.prog.inPlace 3) = true := by kernel_rfl
theorem c11 : (Rows.topZoomsRow.unfollowed == Tryz.prog.unfollowed 3) = true := by kernel_rfl
theorem c12 : (Rows.topZoomsRow.recurses == Tryz.prog.recurses 3) = true := by kernel_rfl
theorem c13 : (Rows.topZoomsRow.named == Tryz.prog.varsNamed 3) = true := by kernel_rfl
theorem c14 : (Rows.topZoomsRow.maps == (Tryz.f3.params.toList ++ Rows.topZoomsSpec.plain.varTypes Tryz.prog).any (Tryz.prog.mapsRec ·)) = true := by kernel_rfl
theorem c15 : (Rows.topZoomsRow.ifaces == (Tryz.f3.params.toList ++ Rows.topZoomsSpec.plain.varTypes Tryz.prog).any (Tryz.prog.ifacesRec ·)) = true := by kernel_rfl
theorem c16 : (Rows.topZoomsRow.mapsOut == Tryz.prog.mapsAmong Tryz.f3.resultTypes.toList) = true := by kernel_rfl
theorem c17 : (Rows.topZoomsRow.loops == (Tryz.f3.params.toList ++ Rows.topZoomsSpec.plain.varTypes Tryz.prog).any (Tryz.prog.loopsFrom ·)) = true := by kernel_rfl
theorem c18 : (Rows.topZoomsRow.wideKeys == (Tryz.f3.params.toList ++ Rows.topZoomsSpec.plain.varTypes Tryz.prog ++ Tryz.f3.resultTypes.toList).any (Tryz.prog.wideKeysFrom ·)) = true := by kernel_rfl
theorem c19 : Rows.topZoomsSpec.vars.all (Tryz.prog.varReadable ·) = true := by kernel_rfl
theorem c20 : Tryz.f3.resultTypes.all (fun t => Tryz.prog.readableRec t && decide (t < Tryz.prog.types.size)) = true := by kernel_rfl
theorem c21 : (Rows.topZoomsRow.ifacesOut == Tryz.f3.resultTypes.toList.any (Tryz.prog.ifacesRec ·)) = true := by kernel_rfl
theorem c22 : (Rows.topZoomsRow.loopsOut == Tryz.f3.resultTypes.toList.any (Tryz.prog.loopsFrom ·)) = true := by kernel_rfl
theorem c23 : (Rows.topZoomsRow.plainKeys == Tryz.prog.plainKeys) = true := by kernel_rfl
theorem c24 : Rows.topZoomsRow.shortTexts.isNone = true := by kernel_rfl
theorem c27 : (Rows.topZoomsRow.lifted == Tryz.prog.liftsFinal) = true := by rw [fact_lifts]; kernel_rfl
theorem c28 : (Tryz.prog.make == some Rows.topZoomsRow.make) = true := by rw [fact_make]; kernel_rfl
theorem c29 : (Rows.topZoomsRow.kinds == (if Rows.topZoomsRow.domain.isEmpty then [] else Tryz.f3.params.toList.map fun t => match Tryz.prog.underlying t with | some (.int k) => some k | _ => none)) = true := by kernel_rfl
theorem c30 : (Rows.topZoomsRow.pinned == Rows.topZoomsRow.pinnedBy) = true := by kernel_rfl
theorem c31 : (Rows.topZoomsRow.veiled == (Tryz.f3.params.toList ++ Rows.topZoomsSpec.plain.varTypes Tryz.prog ++ Tryz.f3.resultTypes.toList).any (Tryz.prog.veiledRec ·)) = true := by kernel_rfl
theorem c32 : Rows.topZoomsRow.veiledFits Tryz.prog Tryz.f3.params.toList (Tryz.f3.params.toList ++ Rows.topZoomsSpec.plain.varTypes Tryz.prog ++ Tryz.f3.resultTypes.toList) = true := by kernel_rfl
set_option maxRecDepth 100000 in
theorem closed : joinedFacts Tryz.prog 3 Tryz.f3 Rows.topZoomsSpec Rows.topZoomsRow = true := by
  unfold joinedFacts
  exact and2 (and2 (and2 (and2 (and2 (and2 (and2 (and2 (and2 (and2 (and2 (and2 (and2 (and2 (and2 (and2 (and2 (and2 (and2 (and2 (and2 (and2 (and2 (and2 (and2 (and2 (and2 (and2 (and2 (and2 (and2 (c1) fact_laidOut) fact_mapsRowed) c4) c5) c6) fact_stops) c8) fact_stopKnobs) c10) c11) c12) c13) c14) c15) c16) c17) c18) c19) c20) c21) c22) c23) c24) fact_stopsHeard) fact_mayEnter) c27) c28) c29) c30) c31) c32
theorem named : Tryz.prog.funcNamed Rows.topZoomsRow.func = some 3 := by kernel_rfl
theorem inst : Tryz.f3.isInstance Tryz.prog Rows.topZoomsRow.origin Rows.topZoomsRow.targs := of_decide_eq_true (by kernel_rfl)
theorem wrap : Tryz.f3.isWrapper Tryz.prog Rows.topZoomsRow.wrapper Rows.topZoomsRow.mainSum := by unfold Func.isWrapper; rw [if_neg (of_decide_eq_false (by kernel_rfl))]; exact ⟨rfl, rfl⟩

theorem over : Rows.topZoomsRow.holds Tryz.pinned (OpenSpec.ofChange Rows.topZoomsSpec) :=
  OpenClaim.holds_of_wide 3 Tryz.f3 rfl rfl rfl rfl rfl rfl rfl ⟨rfl, rfl, rfl, rfl, rfl⟩ rfl rfl rfl rfl rfl named Tryz.func3 closed inst wrap
    (fun os started H enc _ => lifted os started H enc)

theorem proved : Rows.TopZoomsCardSaid :=
  Claim7.holds_tied_plain_at .later [] [.data, .data] true (true, "8c26eed72ee710a42cc47b9fd7f3a3cf2fb761580c33ea638df0729a95f910f6") true
    over (fun _ h => by cases h) (by kernel_rfl) (fun _ h => by cases h) topZooms_row_tie rfl ⟨rfl, rfl⟩ (by kernel_rfl) rfl
    (fun f fn hf hfn => by
      obtain rfl : f = 3 := Option.some.inj ((show Tryz.prog.funcNamed "clapboard/clapboardtop.TopZooms" = some 3 by kernel_rfl).symm.trans hf) |>.symm
      obtain rfl : fn = Tryz.f3 := (Option.some.inj (Tryz.func3.symm.trans hfn)).symm
      exact ⟨by kernel_rfl, fun j t ht => by
        rw [Tryz.params3] at ht
        have hm : t ∈ [25] := by
          have := Array.mem_of_getElem? ht
          simp at this ⊢
          first | exact this | omega
        have hall : ([25].all fun u => !Tryz.prog.wantsStandIn u) = true := by kernel_rfl
        exact (show Tryz.prog.wantsStandIn t = false by simpa using List.all_eq_true.1 hall t hm)⟩)
    (by kernel_rfl)
#print axioms proved
end Go.Proofs.YtigjjddblijpbaaGreatDoor.topZooms
