/-
  The walk of TopZooms and what it says of whatever comes in.
-/
import Derived.Test.YtigjjddblijpbaaGreatDoorRows
import Derived.Test.YtigjjddblijpbaaGreatDoorZ1
import Derived.Test.YtigjjddblijpbaaGreatDoorFacts
import Derived.Test.YtigjjddblijpbaaGreatDoorYTabZ
import Derived.Test.YtigjjddblijpbaaGreatDoorCards
import Derived.Test.YtigjjddblijpbaaGreatDoorTie
import Derived.SevenTiedAt
import Derived.Test.YtigjjddblijpbaaGreatDoorYOpenZ
namespace Go.Proofs.YtigjjddblijpbaaGreatDoor.topZooms
open Go.ChangeShapes Go.WideShapes Go.ChangeAt Go.RowKit Go.Joins Go.Deep
set_option linter.unusedVariables false

theorem own : ownKnob Tryz.prog.godebug = none := by kernel_rfl

theorem walk (v_0 : Value) (w : World) (hT : StyW w) (hs_0 : ZoomIn w v_0) :
    Calls Tryz.prog 3 #[v_0] w fun e w' => e = .returned (.bool true) ∧ Below w.heap.size w w' :=
  law_zooms_in v_0 w hs_0 hT

set_option maxRecDepth 100000 in
theorem lifted (os : Os) (started : os.Started) (H : Type) (enc : TypeId × Value → H) :
    ReturnsInHanded {} Tryz.checked os 3 .any (fun w args => (Rows.topZoomsSpec.pre enc Tryz.prog Tryz.f3 Rows.topZoomsRow.domain false w args ∧ laidMetH Tryz.prog laidS w) ∧ sizedMet enc Tryz.prog Tryz.f3 (OpenSpec.ofChange Rows.topZoomsSpec) false w args) (Rows.topZoomsSpec.post enc Tryz.prog Tryz.f3 false true false false) := by
  refine returnsInHanded_of_change_and (C := Tryz.checked) (X := fun w _ => laidMetH Tryz.prog laidS w) (fun _ _ _ hh h => h.of_heap hh) own started (by kernel_rfl) Tryz.func3
    (ChangeSpec.witness_shaped (enc := enc) (C := Tryz.checked) (os := os) (X := fun w _ => laidMetH Tryz.prog laidS w) false (World.doorLaid Tryz.prog 46 os) #[.agg #[.int .u32 0, .int .u8 0, .int .u8 0, .int .u8 0, .int .u8 0]] 8 rfl (World.shaped_of_RefB (by kernel_rfl) (by kernel_rfl)) (by kernel_rfl) (by kernel_rfl) (by kernel_rfl) (sty_door os _)) ?_
  intro W base args ds gs before hval0 hW hcnd _ hL _
  have hT := sty_of_laid hL
  have hval : ∀ (j : Nat) t v, Tryz.f3.params[j]? = some t → args[j]? = some v → Value.okWide Tryz.prog W .any base t v := hval0
  have hW' := hW
  obtain ⟨p, q, hA0, hV, rfl, hfz, hnd⟩ := hW
  have hA : DataW.TrodAll enc Tryz.prog W 0 (fun _ => true) true Tryz.f3.params.toList args.toList ds p := hA0
  obtain ⟨rfl, rfl⟩ := trodVars_none hV
  rw [List.append_nil] at hfz
  have hlt : ∀ x ∈ p, x.block < W.heap.size := fun x hx => hW'.lt x (List.mem_append_left _ hx)
  rw [Tryz.params3] at hA hval
  obtain ⟨v0, vs0, d0, ds0, p0, q0, hargs, rfl, rfl, h0, r0⟩ := trodAll_cons hA
  obtain ⟨rfl, rfl, rfl⟩ := trodAll_nil r0
  obtain rfl : args = #[v0] := by cases args; simp_all
  have fz0 : W.noneFrozen p0 ∧ ∀ x ∈ p0, x.block < W.heap.size := ⟨fun b off hx => hfz b off (by simp [hx]), fun x hx => hlt x (by simp [hx])⟩
  have hpost : ∀ W', Below W.heap.size W W' → Rows.topZoomsSpec.post enc Tryz.prog Tryz.f3 false true false false W #[v0] (.bool true) W' := fun W' hB =>
    post_law fact_laidOut fact_mapsRowed slices_full hW' rfl (by rw [Tryz.params3]; decide) rfl Tryz.underlying4 rfl hB
  clear hW' hA0 hval0 hfz hlt hA
  have hs_0 := zoom_dir (hval 0 25 v0 rfl rfl) h0
  refine (walk _ W hT hs_0).mono fun e W' ⟨he, hg⟩ => ?_
  subst he
  exact ⟨_, rfl, hpost W' hg⟩

end Go.Proofs.YtigjjddblijpbaaGreatDoor.topZooms
