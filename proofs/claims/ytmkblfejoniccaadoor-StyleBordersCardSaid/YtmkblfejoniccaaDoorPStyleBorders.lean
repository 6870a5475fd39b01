/-
  The card Rows.StyleBordersCardSaid: for whatever input the function returns true, and each argument reads as it did; under: package-level variables start as the program's text lays them (the card ties them).
-/
import Derived.Test.YtmkblfejoniccaaDoorRows
import Derived.Test.YtmkblfejoniccaaDoorZ1
import Derived.Test.YtmkblfejoniccaaDoorFacts
import Derived.Test.YtmkblfejoniccaaDoorYTabS
import Derived.Test.YtmkblfejoniccaaDoorCards
import Derived.Test.YtmkblfejoniccaaDoorTie
import Derived.SevenTiedAt
import Derived.Test.YtmkblfejoniccaaDoorYSyN
namespace Go.Proofs.YtmkblfejoniccaaDoor.styleBorders
open Go.ChangeShapes Go.WideShapes Go.ChangeAt Go.RowKit Go.Joins Go.Deep
set_option linter.unusedVariables false

theorem own : ownKnob Tryd.prog.godebug = none := by kernel_rfl

theorem walk (a0 : Int) (a1 : Int) (a2 : Int) (w : World) (hT : StyW w) (w0 : (Lit.int .i64 a0).wf = true) (w1 : (Lit.int .i64 a1).wf = true) (w2 : (Lit.int .i64 a2).wf = true) :
    Calls Tryd.prog 10 #[.int .i64 a0, .int .i64 a1, .int .i64 a2] w fun e w' => e = .returned (.bool true) ∧ Below w.heap.size w w' :=
  law_borders a0 a1 a2 (fit_of_wf w0) (fit_of_wf w1) (fit_of_wf w2) w hT

set_option maxRecDepth 100000 in
theorem lifted (os : Os) (started : os.Started) (H : Type) (enc : TypeId × Value → H) :
    ReturnsInHanded {} Tryd.checked os 10 .any (fun w args => (Rows.styleBordersSpec.pre enc Tryd.prog Tryd.f10 Rows.styleBordersRow.domain false w args ∧ laidMetH Tryd.prog laidS w) ∧ sizedMet enc Tryd.prog Tryd.f10 (OpenSpec.ofChange Rows.styleBordersSpec) false w args) (Rows.styleBordersSpec.post enc Tryd.prog Tryd.f10 false true false false) := by
  refine returnsInHanded_of_change_and (C := Tryd.checked) (X := fun w _ => laidMetH Tryd.prog laidS w) (fun _ _ _ hh h => h.of_heap hh) own started (by kernel_rfl) Tryd.func10
    (ChangeSpec.witness_shaped (enc := enc) (C := Tryd.checked) (os := os) (X := fun w _ => laidMetH Tryd.prog laidS w) false (World.doorLaid Tryd.prog 46 os) #[.int .i64 0, .int .i64 0, .int .i64 0] 8 rfl (World.shaped_of_RefB (by kernel_rfl) (by kernel_rfl)) (by kernel_rfl) (by kernel_rfl) (by kernel_rfl) (sty_door os _)) ?_
  intro W base args ds gs before hval0 hW hcnd _ hL _
  have hT := sty_of_laid hL
  have hval : ∀ (j : Nat) t v, Tryd.f10.params[j]? = some t → args[j]? = some v → Value.okWide Tryd.prog W .any base t v := hval0
  have hW' := hW
  obtain ⟨p, q, hA0, hV, rfl, hfz, hnd⟩ := hW
  have hA : DataW.TrodAll enc Tryd.prog W 0 (fun _ => true) true Tryd.f10.params.toList args.toList ds p := hA0
  obtain ⟨rfl, rfl⟩ := trodVars_none hV
  rw [List.append_nil] at hfz
  have hlt : ∀ x ∈ p, x.block < W.heap.size := fun x hx => hW'.lt x (List.mem_append_left _ hx)
  rw [Tryd.params10] at hA hval
  obtain ⟨v0, vs0, d0, ds0, p0, q0, hargs, rfl, rfl, h0, r0⟩ := trodAll_cons hA
  obtain ⟨v1, vs1, d1, ds1, p1, q1, rfl, rfl, rfl, h1, r1⟩ := trodAll_cons r0
  obtain ⟨v2, vs2, d2, ds2, p2, q2, rfl, rfl, rfl, h2, r2⟩ := trodAll_cons r1
  obtain ⟨rfl, rfl, rfl⟩ := trodAll_nil r2
  obtain rfl : args = #[v0, v1, v2] := by cases args; simp_all
  have fz0 : W.noneFrozen p0 ∧ ∀ x ∈ p0, x.block < W.heap.size := ⟨fun b off hx => hfz b off (by simp [hx]), fun x hx => hlt x (by simp [hx])⟩
  have fz1 : W.noneFrozen p1 ∧ ∀ x ∈ p1, x.block < W.heap.size := ⟨fun b off hx => hfz b off (by simp [hx]), fun x hx => hlt x (by simp [hx])⟩
  have fz2 : W.noneFrozen p2 ∧ ∀ x ∈ p2, x.block < W.heap.size := ⟨fun b off hx => hfz b off (by simp [hx]), fun x hx => hlt x (by simp [hx])⟩
  have hpost : ∀ W', Below W.heap.size W W' → Rows.styleBordersSpec.post enc Tryd.prog Tryd.f10 false true false false W #[v0, v1, v2] (.bool true) W' := fun W' hB =>
    post_law fact_laidOut fact_mapsRowed slices_full hW' rfl (by rw [Tryd.params10]; decide) rfl Tryd.underlying4 rfl hB
  clear hW' hA0 hval0 hfz hlt hA
  obtain ⟨a0, rfl, rfl, rfl, w0⟩ := open_int Tryd.underlying2 (hval 0 2 v0 rfl rfl) h0
  obtain ⟨a1, rfl, rfl, rfl, w1⟩ := open_int Tryd.underlying2 (hval 1 2 v1 rfl rfl) h1
  obtain ⟨a2, rfl, rfl, rfl, w2⟩ := open_int Tryd.underlying2 (hval 2 2 v2 rfl rfl) h2
  refine (walk a0 a1 a2 W hT w0 w1 w2).mono fun e W' ⟨he, hg⟩ => ?_
  subst he
  exact ⟨_, rfl, hpost W' hg⟩

theorem c1 : Rows.styleBordersRow.wf (OpenSpec.ofChange Rows.styleBordersSpec) = true := by kernel_rfl
theorem c4 : Tryd.f10.params.all (Tryd.prog.readableRec ·) = true := by kernel_rfl
theorem c5 : namedTie Tryd.prog Rows.styleBordersRow.named Rows.styleBordersSpec.vars = true := by kernel_rfl
theorem c6 : (Rows.styleBordersRow.stops == []) = true := by kernel_rfl
theorem c8 : (Rows.styleBordersRow.knobs == []) = true := by kernel_rfl
theorem c10 : (Rows.styleBordersRow.inPlace == Tryd.prog.inPlace 10) = true := by kernel_rfl
theorem c11 : (Rows.styleBordersRow.unfollowed == Tryd.prog.unfollowed 10) = true := by kernel_rfl
theorem c12 : (Rows.styleBordersRow.recurses == Tryd.prog.recurses 10) = true := by kernel_rfl
theorem c13 : (Rows.styleBordersRow.named == Tryd.prog.varsNamed 10) = true := by kernel_rfl
theorem c14 : (Rows.styleBordersRow.maps == (Tryd.f10.params.toList ++ Rows.styleBordersSpec.plain.varTypes Tryd.prog).any (Tryd.prog.mapsRec ·)) = true := by kernel_rfl
theorem c15 : (Rows.styleBordersRow.ifaces == (Tryd.f10.params.toList ++ Rows.styleBordersSpec.plain.varTypes Tryd.prog).any (Tryd.prog.ifacesRec ·)) = true := by kernel_rfl
theorem c16 : (Rows.styleBordersRow.mapsOut == Tryd.prog.mapsAmong Tryd.f10.resultTypes.toList) = true := by kernel_rfl
theorem c17 : (Rows.styleBordersRow.loops == (Tryd.f10.params.toList ++ Rows.styleBordersSpec.plain.varTypes Tryd.prog).any (Tryd.prog.loopsFrom ·)) = true := by kernel_rfl
theorem c18 : (Rows.styleBordersRow.wideKeys == (Tryd.f10.params.toList ++ Rows.styleBordersSpec.plain.varTypes Tryd.prog ++ Tryd.f10.resultTypes.toList).any (Tryd.prog.wideKeysFrom ·)) = true := by kernel_rfl
theorem c19 : Rows.styleBordersSpec.vars.all (Tryd.prog.varReadable ·) = true := by kernel_rfl
theorem c20 : Tryd.f10.resultTypes.all (fun t => Tryd.prog.readableRec t && decide (t < Tryd.prog.types.size)) = true := by kernel_rfl
theorem c21 : (Rows.styleBordersRow.ifacesOut == Tryd.f10.resultTypes.toList.any (Tryd.prog.ifacesRec ·)) = true := by kernel_rfl
theorem c22 : (Rows.styleBordersRow.loopsOut == Tryd.f10.resultTypes.toList.any (Tryd.prog.loopsFrom ·)) = true := by kernel_rfl
theorem c23 : (Rows.styleBordersRow.plainKeys == Tryd.prog.plainKeys) = true := by kernel_rfl
theorem c24 : Rows.styleBordersRow.shortTexts.isNone = true := by kernel_rfl
theorem c27 : (Rows.styleBordersRow.lifted == Tryd.prog.liftsFinal) = true := by rw [fact_lifts]; kernel_rfl
theorem c28 : (Tryd.prog.make == some Rows.styleBordersRow.make) = true := by rw [fact_make]; kernel_rfl
theorem c29 : (Rows.styleBordersRow.kinds == (if Rows.styleBordersRow.domain.isEmpty then [] else Tryd.f10.params.toList.map fun t => match Tryd.prog.underlying t with | some (.int k) => some k | _ => none)) = true := by kernel_rfl
theorem c30 : (Rows.styleBordersRow.pinned == Rows.styleBordersRow.pinnedBy) = true := by kernel_rfl
theorem c31 : (Rows.styleBordersRow.veiled == (Tryd.f10.params.toList ++ Rows.styleBordersSpec.plain.varTypes Tryd.prog ++ Tryd.f10.resultTypes.toList).any (Tryd.prog.veiledRec ·)) = true := by kernel_rfl
theorem c32 : Rows.styleBordersRow.veiledFits Tryd.prog Tryd.f10.params.toList (Tryd.f10.params.toList ++ Rows.styleBordersSpec.plain.varTypes Tryd.prog ++ Tryd.f10.resultTypes.toList) = true := by kernel_rfl
set_option maxRecDepth 100000 in
theorem closed : joinedFacts Tryd.prog 10 Tryd.f10 Rows.styleBordersSpec Rows.styleBordersRow = true := by
  unfold joinedFacts
  exact and2 (and2 (and2 (and2 (and2 (and2 (and2 (and2 (and2 (and2 (and2 (and2 (and2 (and2 (and2 (and2 (and2 (and2 (and2 (and2 (and2 (and2 (and2 (and2 (and2 (and2 (and2 (and2 (and2 (and2 (and2 (c1) fact_laidOut) fact_mapsRowed) c4) c5) c6) fact_stops) c8) fact_stopKnobs) c10) c11) c12) c13) c14) c15) c16) c17) c18) c19) c20) c21) c22) c23) c24) fact_stopsHeard) fact_mayEnter) c27) c28) c29) c30) c31) c32
theorem named : Tryd.prog.funcNamed Rows.styleBordersRow.func = some 10 := by kernel_rfl
theorem inst : Tryd.f10.isInstance Tryd.prog Rows.styleBordersRow.origin Rows.styleBordersRow.targs := of_decide_eq_true (by kernel_rfl)
theorem wrap : Tryd.f10.isWrapper Tryd.prog Rows.styleBordersRow.wrapper Rows.styleBordersRow.mainSum := by unfold Func.isWrapper; rw [if_neg (of_decide_eq_false (by kernel_rfl))]; exact ⟨rfl, rfl⟩

theorem over : Rows.styleBordersRow.holds Tryd.pinned (OpenSpec.ofChange Rows.styleBordersSpec) :=
  OpenClaim.holds_of_wide 10 Tryd.f10 rfl rfl rfl rfl rfl rfl rfl ⟨rfl, rfl, rfl, rfl, rfl⟩ rfl rfl rfl rfl rfl named Tryd.func10 closed inst wrap
    (fun os started H enc _ => lifted os started H enc)

theorem proved : Rows.StyleBordersCardSaid :=
  Claim7.holds_tied_plain_at .later [] [.data, .data] true (true, "e872c10d00843f547bdcd28453896e67338f1c10a6c1c046268c4084fca633a0") true
    over (fun _ h => by cases h) (by kernel_rfl) (fun _ h => by cases h) styleBorders_row_tie rfl ⟨rfl, rfl⟩ (by kernel_rfl) rfl
    (fun f fn hf hfn => by
      obtain rfl : f = 10 := Option.some.inj ((show Tryd.prog.funcNamed "clapboard/clapboardlaw11.StyleBorders" = some 10 by kernel_rfl).symm.trans hf) |>.symm
      obtain rfl : fn = Tryd.f10 := (Option.some.inj (Tryd.func10.symm.trans hfn)).symm
      exact ⟨by kernel_rfl, fun j t ht => by
        rw [Tryd.params10] at ht
        have hm : t ∈ [2] := by
          have := Array.mem_of_getElem? ht
          simp at this ⊢
          first | exact this | omega
        have hall : ([2].all fun u => !Tryd.prog.wantsStandIn u) = true := by kernel_rfl
        exact (show Tryd.prog.wantsStandIn t = false by simpa using List.all_eq_true.1 hall t hm)⟩)
    (by kernel_rfl)
#print axioms proved
end Go.Proofs.YtmkblfejoniccaaDoor.styleBorders
