/-
  The card Rows.StyleHairlinesCardSaid: for whatever input the function returns true, and each argument reads as it did; under: package-level variables start as the program's text lays them (the card ties them).
-/
import Derived.Test.YtmkblfejoniccaaDoorRows
import Derived.Test.YtmkblfejoniccaaDoorZ1
import Derived.Test.YtmkblfejoniccaaDoorFacts
import Derived.Test.YtmkblfejoniccaaDoorYTabS
import Derived.Test.YtmkblfejoniccaaDoorCards
import Derived.Test.YtmkblfejoniccaaDoorTie
import Derived.SevenTiedAt
import Derived.Test.YtmkblfejoniccaaDoorYSyY
namespace Go.Proofs.YtmkblfejoniccaaDoor.styleHairlines
open Go.ChangeShapes Go.WideShapes Go.ChangeAt Go.RowKit Go.Joins Go.Deep
set_option linter.unusedVariables false

theorem own : ownKnob Tryd.prog.godebug = none := by kernel_rfl

theorem walk (a0 : Int) (a1 : Int) (v_2 : Value) (w : World) (hT : StyW w) (w0 : (Lit.int .u32 a0).wf = true) (w1 : (Lit.int .u32 a1).wf = true) (hs_2 : TwoIn w v_2) :
    Calls Tryd.prog 11 #[.int .u32 a0, .int .u32 a1, v_2] w fun e w' => e = .returned (.bool true) ∧ Below w.heap.size w w' :=
  law_hairlines_in a0 a1 v_2 (u32_of_wf w0) (u32_of_wf w1) w hs_2 hT

set_option maxRecDepth 100000 in
theorem lifted (os : Os) (started : os.Started) (H : Type) (enc : TypeId × Value → H) :
    ReturnsInHanded {} Tryd.checked os 11 .any (fun w args => (Rows.styleHairlinesSpec.pre enc Tryd.prog Tryd.f11 Rows.styleHairlinesRow.domain false w args ∧ laidMetH Tryd.prog laidS w) ∧ sizedMet enc Tryd.prog Tryd.f11 (OpenSpec.ofChange Rows.styleHairlinesSpec) false w args) (Rows.styleHairlinesSpec.post enc Tryd.prog Tryd.f11 false true false false) := by
  refine returnsInHanded_of_change_and (C := Tryd.checked) (X := fun w _ => laidMetH Tryd.prog laidS w) (fun _ _ _ hh h => h.of_heap hh) own started (by kernel_rfl) Tryd.func11
    (ChangeSpec.witness_shaped (enc := enc) (C := Tryd.checked) (os := os) (X := fun w _ => laidMetH Tryd.prog laidS w) false (World.doorLaid Tryd.prog 46 os) #[.int .u32 0, .int .u32 0, .agg #[.int .u16 0, .int .u16 0]] 8 rfl (World.shaped_of_RefB (by kernel_rfl) (by kernel_rfl)) (by kernel_rfl) (by kernel_rfl) (by kernel_rfl) (sty_door os _)) ?_
  intro W base args ds gs before hval0 hW hcnd _ hL _
  have hT := sty_of_laid hL
  have hval : ∀ (j : Nat) t v, Tryd.f11.params[j]? = some t → args[j]? = some v → Value.okWide Tryd.prog W .any base t v := hval0
  have hW' := hW
  obtain ⟨p, q, hA0, hV, rfl, hfz, hnd⟩ := hW
  have hA : DataW.TrodAll enc Tryd.prog W 0 (fun _ => true) true Tryd.f11.params.toList args.toList ds p := hA0
  obtain ⟨rfl, rfl⟩ := trodVars_none hV
  rw [List.append_nil] at hfz
  have hlt : ∀ x ∈ p, x.block < W.heap.size := fun x hx => hW'.lt x (List.mem_append_left _ hx)
  rw [Tryd.params11] at hA hval
  obtain ⟨v0, vs0, d0, ds0, p0, q0, hargs, rfl, rfl, h0, r0⟩ := trodAll_cons hA
  obtain ⟨v1, vs1, d1, ds1, p1, q1, rfl, rfl, rfl, h1, r1⟩ := trodAll_cons r0
  obtain ⟨v2, vs2, d2, ds2, p2, q2, rfl, rfl, rfl, h2, r2⟩ := trodAll_cons r1
  obtain ⟨rfl, rfl, rfl⟩ := trodAll_nil r2
  obtain rfl : args = #[v0, v1, v2] := by cases args; simp_all
  have fz0 : W.noneFrozen p0 ∧ ∀ x ∈ p0, x.block < W.heap.size := ⟨fun b off hx => hfz b off (by simp [hx]), fun x hx => hlt x (by simp [hx])⟩
  have fz1 : W.noneFrozen p1 ∧ ∀ x ∈ p1, x.block < W.heap.size := ⟨fun b off hx => hfz b off (by simp [hx]), fun x hx => hlt x (by simp [hx])⟩
  have fz2 : W.noneFrozen p2 ∧ ∀ x ∈ p2, x.block < W.heap.size := ⟨fun b off hx => hfz b off (by simp [hx]), fun x hx => hlt x (by simp [hx])⟩
  have hpost : ∀ W', Below W.heap.size W W' → Rows.styleHairlinesSpec.post enc Tryd.prog Tryd.f11 false true false false W #[v0, v1, v2] (.bool true) W' := fun W' hB =>
    post_law fact_laidOut fact_mapsRowed slices_full hW' rfl (by rw [Tryd.params11]; decide) rfl Tryd.underlying4 rfl hB
  clear hW' hA0 hval0 hfz hlt hA
  obtain ⟨a0, rfl, rfl, rfl, w0⟩ := open_int Tryd.underlying94 (hval 0 94 v0 rfl rfl) h0
  obtain ⟨a1, rfl, rfl, rfl, w1⟩ := open_int Tryd.underlying94 (hval 1 94 v1 rfl rfl) h1
  have hs_2 := two_dir (hval 2 96 v2 rfl rfl) h2
  refine (walk a0 a1 _ W hT w0 w1 hs_2).mono fun e W' ⟨he, hg⟩ => ?_
  subst he
  exact ⟨_, rfl, hpost W' hg⟩

theorem c1 : Rows.styleHairlinesRow.wf (OpenSpec.ofChange Rows.styleHairlinesSpec) = true := by kernel_rfl
theorem c4 : Tryd.f11.params.all (Tryd.prog.readableRec ·) = true := by kernel_rfl
theorem c5 : namedTie Tryd.prog Rows.styleHairlinesRow.named Rows.styleHairlinesSpec.vars = true := by kernel_rfl
theorem c6 : (Rows.styleHairlinesRow.stops == []) = true := by kernel_rfl
theorem c8 : (Rows.styleHairlinesRow.knobs == []) = true := by kernel_rfl
theorem c10 : (Rows.styleHairlinesRow.inPlace == Tryd.prog.inPlace 11) = true := by kernel_rfl
theorem c11 : (Rows.styleHairlinesRow.unfollowed == Tryd.prog.unfollowed 11) = true := by kernel_rfl
theorem c12 : (Rows.styleHairlinesRow.recurses == Tryd.prog.recurses 11) = true := by kernel_rfl
theorem c13 : (Rows.styleHairlinesRow.named == Tryd.prog.varsNamed 11) = true := by kernel_rfl
theorem c14 : (Rows.styleHairlinesRow.maps == (Tryd.f11.params.toList ++ Rows.styleHairlinesSpec.plain.varTypes Tryd.prog).any (Tryd.prog.mapsRec ·)) = true := by kernel_rfl
theorem c15 : (Rows.styleHairlinesRow.ifaces == (Tryd.f11.params.toList ++ Rows.styleHairlinesSpec.plain.varTypes Tryd.prog).any (Tryd.prog.ifacesRec ·)) = true := by kernel_rfl
theorem c16 : (Rows.styleHairlinesRow.mapsOut == Tryd.prog.mapsAmong Tryd.f11.resultTypes.toList) = true := by kernel_rfl
theorem c17 : (Rows.styleHairlinesRow.loops == (Tryd.f11.params.toList ++ Rows.styleHairlinesSpec.plain.varTypes Tryd.prog).any (Tryd.prog.loopsFrom ·)) = true := by kernel_rfl
theorem c18 : (Rows.styleHairlinesRow.wideKeys == (Tryd.f11.params.toList ++ Rows.styleHairlinesSpec.plain.varTypes Tryd.prog ++ Tryd.f11.resultTypes.toList).any (Tryd.prog.wideKeysFrom ·)) = true := by kernel_rfl
theorem c19 : Rows.styleHairlinesSpec.vars.all (Tryd.prog.varReadable ·) = true := by kernel_rfl
theorem c20 : Tryd.f11.resultTypes.all (fun t => Tryd.prog.readableRec t && decide (t < Tryd.prog.types.size)) = true := by kernel_rfl
theorem c21 : (Rows.styleHairlinesRow.ifacesOut == Tryd.f11.resultTypes.toList.any (Tryd.prog.ifacesRec ·)) = true := by kernel_rfl
theorem c22 : (Rows.styleHairlinesRow.loopsOut == Tryd.f11.resultTypes.toList.any (Tryd.prog.loopsFrom ·)) = true := by kernel_rfl
theorem c23 : (Rows.styleHairlinesRow.plainKeys == Tryd.prog.plainKeys) = true := by kernel_rfl
theorem c24 : Rows.styleHairlinesRow.shortTexts.isNone = true := by kernel_rfl
theorem c27 : (Rows.styleHairlinesRow.lifted == Tryd.prog.liftsFinal) = true := by rw [fact_lifts]; kernel_rfl
theorem c28 : (Tryd.prog.make == some Rows.styleHairlinesRow.make) = true := by rw [fact_make]; kernel_rfl
theorem c29 : (Rows.styleHairlinesRow.kinds == (if Rows.styleHairlinesRow.domain.isEmpty then [] else Tryd.f11.params.toList.map fun t => match Tryd.prog.underlying t with | some (.int k) => some k | _ => none)) = true := by kernel_rfl
theorem c30 : (Rows.styleHairlinesRow.pinned == Rows.styleHairlinesRow.pinnedBy) = true := by kernel_rfl
theorem c31 : (Rows.styleHairlinesRow.veiled == (Tryd.f11.params.toList ++ Rows.styleHairlinesSpec.plain.varTypes Tryd.prog ++ Tryd.f11.resultTypes.toList).any (Tryd.prog.veiledRec ·)) = true := by kernel_rfl
theorem c32 : Rows.styleHairlinesRow.veiledFits Tryd.prog Tryd.f11.params.toList (Tryd.f11.params.toList ++ Rows.styleHairlinesSpec.plain.varTypes Tryd.prog ++ Tryd.f11.resultTypes.toList) = true := by kernel_rfl
set_option maxRecDepth 100000 in
theorem closed : joinedFacts Tryd.prog 11 Tryd.f11 Rows.styleHairlinesSpec Rows.styleHairlinesRow = true := by
  unfold joinedFacts
  exact and2 (and2 (and2 (and2 (and2 (and2 (and2 (and2 (and2 (and2 (and2 (and2 (and2 (and2 (and2 (and2 (and2 (and2 (and2 (and2 (and2 (and2 (and2 (and2 (and2 (and2 (and2 (and2 (and2 (and2 (and2 (c1) fact_laidOut) fact_mapsRowed) c4) c5) c6) fact_stops) c8) fact_stopKnobs) c10) c11) c12) c13) c14) c15) c16) c17) c18) c19) c20) c21) c22) c23) c24) fact_stopsHeard) fact_mayEnter) c27) c28) c29) c30) c31) c32
theorem named : Tryd.prog.funcNamed Rows.styleHairlinesRow.func = some 11 := by kernel_rfl
theorem inst : Tryd.f11.isInstance Tryd.prog Rows.styleHairlinesRow.origin Rows.styleHairlinesRow.targs := of_decide_eq_true (by kernel_rfl)
theorem wrap : Tryd.f11.isWrapper Tryd.prog Rows.styleHairlinesRow.wrapper Rows.styleHairlinesRow.mainSum := by unfold Func.isWrapper; rw [if_neg (of_decide_eq_false (by kernel_rfl))]; exact ⟨rfl, rfl⟩

theorem over : Rows.styleHairlinesRow.holds Tryd.pinned (OpenSpec.ofChange Rows.styleHairlinesSpec) :=
  OpenClaim.holds_of_wide 11 Tryd.f11 rfl rfl rfl rfl rfl rfl rfl ⟨rfl, rfl, rfl, rfl, rfl⟩ rfl rfl rfl rfl rfl named Tryd.func11 closed inst wrap
    (fun os started H enc _ => lifted os started H enc)

theorem proved : Rows.StyleHairlinesCardSaid :=
  Claim7.holds_tied_plain_at .later [] [.data, .data] true (true, "e872c10d00843f547bdcd28453896e67338f1c10a6c1c046268c4084fca633a0") true
    over (fun _ h => by cases h) (by kernel_rfl) (fun _ h => by cases h) styleHairlines_row_tie rfl ⟨rfl, rfl⟩ (by kernel_rfl) rfl
    (fun f fn hf hfn => by
      obtain rfl : f = 11 := Option.some.inj ((show Tryd.prog.funcNamed "clapboard/clapboardlaw11.StyleHairlines" = some 11 by kernel_rfl).symm.trans hf) |>.symm
      obtain rfl : fn = Tryd.f11 := (Option.some.inj (Tryd.func11.symm.trans hfn)).symm
      exact ⟨by kernel_rfl, fun j t ht => by
        rw [Tryd.params11] at ht
        have hm : t ∈ [94, 96] := by
          have := Array.mem_of_getElem? ht
          simp at this ⊢
          first | exact this | omega
        have hall : ([94, 96].all fun u => !Tryd.prog.wantsStandIn u) = true := by kernel_rfl
        exact (show Tryd.prog.wantsStandIn t = false by simpa using List.all_eq_true.1 hall t hm)⟩)
    (by kernel_rfl)
#print axioms proved
end Go.Proofs.YtmkblfejoniccaaDoor.styleHairlines
