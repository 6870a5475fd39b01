/-
  Package share, each function by its contract: Split.
-/
import Derived.Test.YthffphcgkmjhbaaShA
import Derived.Test.YthffphcgkmjhbaaFixD
import Derived.Test.YthffphcgkmjhbaaBox
namespace Go.Proofs.Ythffphcgkmjhbaa
open Go.RowKit
set_option linter.unusedSimpArgs false
set_option linter.unusedVariables false

theorem RowI.but {w w' : World} {b : Nat} {ao : Option Addr} {k : Nat} {xs : List Int} (h : RowI w ao k xs) (hb : But b w w') (hne : ∀ g off, ao = some ⟨g, off, none⟩ → g ≠ b) : RowI w' ao k xs := by
  refine ⟨h.1, fun hk => ?_⟩
  obtain ⟨g, off, e, hg, hc⟩ := h.2 hk
  exact ⟨g, off, e, Nat.lt_of_lt_of_le hg hb.size, fun i hi => (World.cell?_of_block (w := w) (a := ⟨g, off + i, none⟩) (hb.block g hg (hne g off e))).trans (hc i hi)⟩
theorem OwnI.from {w : World} {B : Nat} {ao : Option Addr} {k cap : Nat} {xs : List Int} (h : OwnI w B ao k cap xs) : ∀ g off, ao = some ⟨g, off, none⟩ → B ≤ g := fun g off e => by
  subst e
  exact (h.ge (g := g) (by simp [Value.ownBlock])).1
theorem partsN_zero (t : Int) (xs : List Int) : ∀ n, partsN t 0 xs n = List.replicate n 0
  | 0 => rfl
  | n + 1 => by
    rw [partsN_succ, partsN_zero t xs n, List.replicate_succ']
    unfold shareAt
    simp
def splC (t : Int) (xs : List Int) (k : Nat) : Int := if lenB t then allE xs k else 2
def SplOut (t : Int) (xs : List Int) (k bo : Nat) (W W' : World) : Prop :=
  ∃ ao' cap', Blk W' bo #[.slice ao' k cap'] 82 ∧ RowI W' ao' k (partsN t (pre xs k) xs k) ∧ k ≤ cap' ∧ cap' ≤ maxLen ∧ ∀ g off, ao' = some ⟨g, off, none⟩ → W.heap.size ≤ g
def SplAns1 (t : Int) (xs : List Int) (k bo : Nat) (W : World) (e : Ending) (W' : World) : Prop :=
  (splC t xs k = 0 → e = .returned (.tuple #[]) ∧ SplOut t xs k bo W W') ∧ (splC t xs k ≠ 0 → e = .panicked (gave (splC t xs k))) ∧ But bo W W'
set_option maxRecDepth 100000 in
set_option maxHeartbeats 3200000 in
theorem split1 (t : Int) (ao : Option Addr) (k cap : Nat) (xs : List Int) (bt bw bo : Nat) (hk2 : k ≤ 1000000) (ht : IFit t) (hn : Nonneg xs) (hf : Fits xs) (W : World) (hx : RowI W ao k xs)
    (h1 : Blk W bt #[.int .i64 t] 2) (h2 : Blk W bw #[.slice ao k cap] 82) (h3 : Blk W bo #[.slice none 0 0] 82) :
    Calls Try.prog 124 #[.pointer (some ⟨bt, 0, none⟩), .pointer (some ⟨bw, 0, none⟩), .pointer (some ⟨bo, 0, none⟩)] W (SplAns1 t xs k bo W) := by
  obtain ⟨i0, hi, hz0, hz1, hz2⟩ := info_parts (show (Try.prog.info? 2).map (fun i => (i.zero, i.size, i.bytes)) = some (some (.int .i64 0), 1, 8) by kernel_rfl)
  obtain ⟨Q, eQ⟩ : ∃ Q, Q = SplAns1 t xs k bo W := ⟨_, rfl⟩
  rw [← eQ]
  have EQ := Lib.hid eQ
  have OF := fun W => fix_of_any t ht W
  have AL := fun W' hx => sh_all ao k cap xs hk2 hn hf W' hx
  have c0 := h1.cell 0 _ rfl
  have HN := Lib.hid hn
  have hlo := h3.lt
  clear eQ hn hf
  cases hl : lenB t
  · have O2 := fun W => (OF W).mono fun e w' h => (⟨h.2.1 (by unfold lenE; rw [hl]; decide), h.2.2⟩ : _ ∧ _)
    have ec : splC t xs k = 2 := by unfold splC; rw [hl]; rfl
    have ee : lenE t = 2 := by unfold lenE; rw [hl]; rfl
    rw [ee] at O2
    have EC := Lib.hid ec
    clear OF AL hl ec ee
    go_enter Try.func124, Try.ntmps124
    go_wp2_with fail
    refine (O2 _).mono ?_
    rintro e w1 ⟨rfl, hb⟩
    go_wp2_with fail
    simp only [bodyPost]
    rw [EQ.out]
    unfold SplAns1
    rw [EC.out]
    exact ⟨trivial, (fun h => absurd h (by decide)), (fun _ => rfl), But.of hb⟩
  · have O2 := fun W => (OF W).mono fun e w' h => (⟨h.1 (by unfold lenE; rw [hl]; rfl), h.2.2⟩ : _ ∧ _)
    have ec : splC t xs k = allE xs k := by unfold splC; rw [hl]; rfl
    have hL := (lenB_iff t).1 hl
    have EC := Lib.hid ec
    have HL := Lib.hid hL
    clear OF hl ec hL
    by_cases hS : pre xs k ≤ 4611686018427387904
    · have e1 : allE xs k = 0 := by unfold allE; rw [if_pos hS]
      have e2 : allN xs k = pre xs k := by unfold allN; rw [if_pos hS]
      have A2 := fun W' hx => (AL W' hx).mono fun e w' h => (⟨h.1 e1, h.2.2⟩ : _ ∧ _)
      rw [e2] at A2
      have hp0 := pre_nonneg HN.out k
      have PT := fun W' hx (h0 : 0 < pre xs k) => sh_parts t (pre xs k) ao k cap xs hk2 HN.out HL.out (Int.le_refl _) h0 hS W' hx
      obtain ⟨S, eS⟩ : ∃ S, pre xs k = S := ⟨_, rfl⟩
      rw [eS] at A2 PT hp0 hS
      have ES := Lib.hid eS
      have E1 := Lib.hid e1
      clear AL e1 e2 eS
      go_enter Try.func124, Try.ntmps124
      go_wp2_with fail
      refine (O2 _).mono ?_
      rintro e w1 ⟨rfl, hb⟩
      have hB := hb
      replace h1 := h1.below hb
      replace h2 := h2.below hb
      replace h3 := h3.below hb
      replace hx := hx.below hb
      clear hb c0
      have c0 := h2.cell 0 _ rfl
      go_wp2_with fail
      refine (A2 _ hx).mono ?_
      rintro e w2 ⟨rfl, hb⟩
      replace hB := hB.trans (hb.mono hB.size)
      replace h1 := h1.below hb
      replace h2 := h2.below hb
      replace h3 := h3.below hb
      replace hx := hx.below hb
      clear hb c0 A2 O2
      have hsz := hB.size
      have c0 := h1.cell 0 _ rfl
      have c1 := h2.cell 0 _ rfl
      have c2 := h3.cell 0 _ rfl
      have f2 := h3.free 0
      by_cases hS0 : S = 0
      · have HS0 := Lib.hid hS0
        subst hS0
        clear PT
        go_wp2_with (at_make; refine wpList_make_full _ rfl _ _ 82 rfl W.heap.size 2 i0 (.int .i64 0) 1 Try.underlying82 hi hz0 hz1 _ _ _ _ k rfl rfl rfl rfl ?b2 ?b3 ?b4 ?_)
        case b2 => rw [hz2]; omega
        case b3 => unfold maxLen; omega
        case b4 => exact hsz
        intro w3 hown hg
        have hb : Below w2.heap.size w2 w3 := (Below.refl _ _).grown hg (Nat.le_refl _) (fun _ h => by cases h)
        have ho : OwnI w3 W.heap.size (some ⟨w2.heap.size, 0, none⟩) k k (List.replicate k 0) := by
          refine ⟨?_, by simp⟩
          have : i64s (List.replicate k 0) = (madeCells #[.int .i64 0] k).toList := by
            rw [toList_madeCells_one]
            simp [i64s]
          rw [this]; exact hown
        replace hB := hB.trans (hb.mono hsz)
        replace h3 := h3.below hb
        clear hown hg hb c2 f2
        have c2 := h3.cell 0 _ rfl
        have f2 := h3.free 0
        go_wp2_with fail
        go_end0
        rw [EQ.out]
        have hbt := (But.of (b := bo) hB).trans (But.set (b := bo) w3 0 (.slice (some ⟨w2.heap.size, 0, none⟩) k k))
        refine ⟨fun _ => ⟨rfl, some ⟨w2.heap.size, 0, none⟩, k, h3.set 0 _, ?_, Nat.le_refl _, by unfold maxLen; omega, ?_⟩, fun h => absurd (EC.out.trans E1.out) h, hbt⟩
        · rw [ES.out, partsN_zero]
          refine ho.row.but (But.set _ _ _) (fun g off e => ?_)
          have := ho.from g off e
          omega
        · intro g off e
          exact ho.from g off e
      · have hS1 : 0 < S := by omega
        have P2 := fun W' hx => PT W' hx hS1
        clear PT
        go_wp2_with fail
        refine (P2 _ hx).mono ?_
        rintro e w3 ⟨ao', cap', rfl, ho, hb⟩
        replace hB := hB.trans (hb.mono hsz)
        replace h3 := h3.below hb
        clear hb c0 c1 c2 f2 P2
        have c2 := h3.cell 0 _ rfl
        have f2 := h3.free 0
        have hsh := ho.shape
        go_wp2_with fail
        go_end0
        rw [EQ.out]
        have hbt := (But.of (b := bo) hB).trans (But.set (b := bo) w3 0 (.slice ao' k cap'))
        refine ⟨fun _ => ⟨rfl, ao', cap', h3.set 0 _, ?_, hsh.1, hsh.2, ?_⟩, fun h => absurd (EC.out.trans E1.out) h, hbt⟩
        · rw [ES.out]
          refine ho.row.but (But.set _ _ _) (fun g off e => ?_)
          have := ho.from g off e
          omega
        · intro g off e
          exact Nat.le_trans hsz (ho.from g off e)
    · have e1 : allE xs k = 2 := by unfold allE; rw [if_neg hS]
      have A2 := fun W' hx => (AL W' hx).mono fun e w' h => (⟨h.2.1 (by rw [e1]; decide), h.2.2⟩ : _ ∧ _)
      rw [e1] at A2
      have E1 := Lib.hid e1
      clear AL e1 hS
      go_enter Try.func124, Try.ntmps124
      go_wp2_with fail
      refine (O2 _).mono ?_
      rintro e w1 ⟨rfl, hb⟩
      have hB := hb
      replace h2 := h2.below hb
      replace hx := hx.below hb
      clear hb c0
      have c0 := h2.cell 0 _ rfl
      go_wp2_with fail
      refine (A2 _ hx).mono ?_
      rintro e w2 ⟨rfl, hb⟩
      go_wp2_with fail
      simp only [bodyPost]
      rw [EQ.out]
      unfold SplAns1
      rw [EC.out, E1.out]
      exact ⟨trivial, (fun h => absurd h (by decide)), (fun _ => rfl), But.of (hB.trans (hb.mono hB.size))⟩
theorem try_split (t : Int) (ao : Option Addr) (k cap : Nat) (xs : List Int) (bt bw bo : Nat) (hk2 : k ≤ 1000000) (ht : IFit t) (hn : Nonneg xs) (hf : Fits xs) (w : World) (hx : RowI w ao k xs)
    (h1 : Blk w bt #[.int .i64 t] 2) (h2 : Blk w bw #[.slice ao k cap] 82) (h3 : Blk w bo #[.slice none 0 0] 82) :
    Calls Try.prog 60 #[.func (.func 124) #[] #[.pointer (some ⟨bt, 0, none⟩), .pointer (some ⟨bw, 0, none⟩), .pointer (some ⟨bo, 0, none⟩)]] w fun e w' =>
      e = .returned (.int .i64 (splC t xs k)) ∧ (splC t xs k = 0 → SplOut t xs k bo w w') ∧ But bo w w' := by
  have hlo := h3.lt
  have hb0 : Below w.heap.size w (w.alloc (.cells #[.int .i64 0] 58)) := (by repeat' (first | (with_reducible exact Below.refl _ _) | (with_reducible assumption) | (with_reducible refine below_alloc ?_ _ ?_) | (with_reducible refine below_set _ ?_ ?_) | (with_reducible refine Below.drew ?_) | (with_reducible refine below_dN ?_ _) | (apply below_thenA; assumption) | omega | (simp; done) | (simp; omega) | (simp [*]; done)))
  have o1 : Blk (w.alloc (.cells #[.int .i64 0] 58)) w.heap.size #[.int .i64 0] 58 := Blk.new w _ _ _ rfl
  refine (fix_try 124 _ w (fun c' w1 => c' = splC t xs k ∧ (splC t xs k = 0 → SplOut t xs k bo (w.alloc (.cells #[.int .i64 0] 58)) w1) ∧ But bo (w.alloc (.cells #[.int .i64 0] 58)) w1)
    (fun w => enters_of Try.func124 (by kernel_rfl) rfl _ w)
    ((split1 t ao k cap xs bt bw bo hk2 ht hn hf _ (hx.below hb0) (h1.below hb0) (h2.below hb0) (h3.below hb0)).mono fun e w1 x => ?_)).mono fun e w' x => ?_
  · obtain ⟨x1, x2, x3⟩ := x
    have o3 := o1.but x3 (by omega)
    refine ⟨o3.cell 0 _ rfl, o3.free 0, ?_⟩
    by_cases hc : splC t xs k = 0
    · exact .inl ⟨(x1 hc).1, hc.symm, fun _ => (x1 hc).2, x3⟩
    · exact .inr ⟨splC t xs k, x2 hc, rfl, fun h => absurd h hc, x3⟩
  · obtain ⟨c', w1, ⟨rfl, x1, x3⟩, rfl, rfl⟩ := x
    refine ⟨rfl, fun hc => ?_, ((But.of hb0).trans x3).setNew (Nat.le_refl _) _ _⟩
    obtain ⟨ao', cap', b1, b2, b3, b4, b5⟩ := x1 hc
    have hs : (w.alloc (.cells #[.int .i64 0] 58)).heap.size = w.heap.size + 1 := by simp
    refine ⟨ao', cap', b1.other (by omega) _ _, b2.but (But.set _ _ _) (fun g off e => ?_), b3, b4, fun g off e => ?_⟩
    · have := b5 g off e; omega
    · have := b5 g off e; omega
/-- What Split answers: the parts, or an error. -/
def negB (xs : List Int) (k : Nat) : Bool := decide (0 < k ∧ minK xs (k - 1) < 0)
def shE (t : Int) (xs : List Int) (k : Nat) : Int := if 1024 < k then 8 else if negB xs k then 1 else splC t xs k
def SplitAns (t : Int) (xs : List Int) (k : Nat) (w : World) (e : Ending) (w' : World) : Prop :=
  ∃ ao m cap ys, e = .returned (.tuple #[.slice ao m cap, .int .i64 (shE t xs k)]) ∧ RowI w' ao m ys ∧ m ≤ cap ∧ cap ≤ maxLen ∧ (shE t xs k = 0 → m = k ∧ ys = partsN t (pre xs k) xs k) ∧ (shE t xs k ≠ 0 → m = 0 ∧ ys = []) ∧ Below w.heap.size w w'
theorem nonneg_of {xs : List Int} {k : Nat} (hl : xs.length = k) (h : negB xs k = false) : Nonneg xs := by
  intro i
  by_cases hi : i < k
  · unfold negB at h
    rw [decide_eq_false_iff_not] at h
    have h1 : ¬ minK xs (k - 1) < 0 := fun x => h ⟨by omega, x⟩
    rw [minK_neg] at h1
    have : ¬ xs.getD i 0 < 0 := fun x => h1 ⟨i, by omega, x⟩
    omega
  · simp only [List.getD]
    rw [List.getElem?_eq_none (by omega)]
    simp
set_option maxRecDepth 100000 in
set_option maxHeartbeats 3200000 in
theorem sh_split (t : Int) (ao : Option Addr) (k cap : Nat) (xs : List Int) (hk2 : k ≤ 1000000) (ht : IFit t) (hf : Fits xs) (w : World) (hx : RowI w ao k xs) :
    Calls Try.prog 85 #[.int .i64 t, .slice ao k cap] w (SplitAns t xs k w) := by
  have hmf : ∀ (fn : Fn) (first cap : Array Value) (w : World), (Instr.makeFunc fn first cap).run Try.prog w = .ok (.func fn first cap) w := fun _ _ _ _ => rfl
  obtain ⟨Q, eQ⟩ : ∃ Q, Q = SplitAns t xs k w := ⟨_, rfl⟩
  rw [← eQ]
  have EQ := Lib.hid eQ
  clear eQ
  have h1 := (Blk.new w #[.int .i64 t] 2 _ rfl).alloc (.cells #[.slice ao k cap] 82)
  have h2 := Blk.new (w.alloc (.cells #[.int .i64 t] 2)) #[.slice ao k cap] 82 (w.heap.size + 1) (by simp)
  have hB : Below w.heap.size w ((w.alloc (.cells #[.int .i64 t] 2)).alloc (.cells #[.slice ao k cap] 82)) := (by repeat' (first | (with_reducible exact Below.refl _ _) | (with_reducible assumption) | (with_reducible refine below_alloc ?_ _ ?_) | (with_reducible refine below_set _ ?_ ?_) | (with_reducible refine Below.drew ?_) | (with_reducible refine below_dN ?_ _) | (apply below_thenA; assumption) | omega | (simp; done) | (simp; omega) | (simp [*]; done)))
  have hxA := hx.below hB
  by_cases hk : 1024 < k
  · have hE : shE t xs k = 8 := by unfold shE; rw [if_pos hk]
    have HE := Lib.hid hE
    have ix : (1024 : Int) < (k : Int) := by omega
    clear hE hk
    go_enter Try.func85, Try.ntmps85
    go_wp2_with fail
    rw [EQ.out]
    unfold SplitAns
    rw [HE.out]
    exact ⟨none, 0, 0, [], rfl, RowI.nil _ _, Nat.le_refl _, by unfold maxLen; omega, (fun h => absurd h (by decide)), (fun _ => ⟨rfl, rfl⟩), (by repeat' (first | (with_reducible exact Below.refl _ _) | (with_reducible assumption) | (with_reducible refine below_alloc ?_ _ ?_) | (with_reducible refine below_set _ ?_ ?_) | (with_reducible refine Below.drew ?_) | (with_reducible refine below_dN ?_ _) | (apply below_thenA; assumption) | omega | (simp; done) | (simp; omega) | (simp [*]; done)))⟩
  · have ix : ¬ (1024 : Int) < (k : Int) := by omega
    have HK := Lib.hid hk
    clear hk
    cases hng : negB xs k
    · have hn := nonneg_of hx.1 hng
      have hE : shE t xs k = splC t xs k := by unfold shE; rw [if_neg HK.out, hng]; rfl
      have h3 := Blk.new ((w.alloc (.cells #[.int .i64 t] 2)).alloc (.cells #[.slice ao k cap] 82)) #[.slice none 0 0] 82 (w.heap.size + 1 + 1) (by simp)
      have hb3 : Below _ ((w.alloc (.cells #[.int .i64 t] 2)).alloc (.cells #[.slice ao k cap] 82)) (((w.alloc (.cells #[.int .i64 t] 2)).alloc (.cells #[.slice ao k cap] 82)).alloc (.cells #[.slice none 0 0] 82)) := (Below.refl _ _).alloc (Nat.le_refl _) _
      have TS := try_split t ao k cap xs w.heap.size (w.heap.size + 1) (w.heap.size + 1 + 1) hk2 ht hn hf _ (hxA.below hb3) (h1.below hb3) (h2.below hb3) h3
      have hB2 := hB.trans (hb3.mono hB.size)
      obtain ⟨E, eE⟩ : ∃ E, splC t xs k = E := ⟨_, rfl⟩
      rw [eE] at TS hE
      have HE := Lib.hid hE
      have MN := fun h0 W' hx' => sl_min ao k cap xs h0 hk2 W' hx'
      have hnm : 0 < k → ¬ minK xs (k - 1) < 0 := fun h0 hm => by
        unfold negB at hng
        rw [decide_eq_false_iff_not] at hng
        exact hng ⟨h0, hm⟩
      obtain ⟨m0, em0⟩ : ∃ m, minK xs (k - 1) = m := ⟨_, rfl⟩
      rw [em0] at hnm MN
      have HNM := Lib.hid hnm
      have hz : (w.alloc (.cells #[.int .i64 t] 2)).heap.size = w.heap.size + 1 := by simp
      have hsz3 : (((w.alloc (.cells #[.int .i64 t] 2)).alloc (.cells #[.slice ao k cap] 82)).alloc (.cells #[.slice none 0 0] 82)).heap.size = w.heap.size + 3 := by simp
      have HZ3 := Lib.hid hsz3
      clear eE hE hng hnm em0 hz hsz3 hn hf ht h3 hb3 h1 h2 hB
      by_cases h0 : 0 < k
      · have ix0 : (0 : Int) < (k : Int) := by omega
        have hm0 := HNM.out h0
        have M2 := MN h0
        clear MN HNM
        go_enter Try.func85, Try.ntmps85
        go_wp2_with (go_at_call 123; with_reducible refine (M2 _ hxA).mono ?_; rintro e w2 ⟨rfl, rfl⟩)
        refine TS.mono ?_
        rintro e w3 ⟨rfl, hout, hbt⟩
        replace hbt : Below w.heap.size w w3 := hbt.to hB2 (by omega) hB2.size
        by_cases hE0 : E = 0
        · obtain ⟨ao', cap', b1, b2, b3, b4, b5⟩ := hout hE0
          have HE0 := Lib.hid hE0
          subst hE0
          clear hout
          have c0 := b1.cell 0 _ rfl
          go_wp2_with fail
          rw [EQ.out]
          unfold SplitAns
          rw [HE.out]
          exact ⟨ao', k, cap', _, rfl, b2, b3, b4, (fun _ => ⟨rfl, rfl⟩), (fun h => absurd rfl h), hbt⟩
        · have hEb : (E != 0) = true := by simp [hE0]
          have HE0 := Lib.hid hE0
          clear hE0 hout
          go_wp2_with fail
          rw [EQ.out]
          unfold SplitAns
          rw [HE.out]
          exact ⟨none, 0, 0, [], rfl, RowI.nil _ _, Nat.le_refl _, by unfold maxLen; omega, (fun h => absurd h HE0.out), (fun _ => ⟨rfl, rfl⟩), hbt⟩
      · have ix0 : ¬ (0 : Int) < (k : Int) := by omega
        clear MN HNM
        go_enter Try.func85, Try.ntmps85
        go_wp2_with fail
        refine TS.mono ?_
        rintro e w3 ⟨rfl, hout, hbt⟩
        replace hbt : Below w.heap.size w w3 := hbt.to hB2 (by omega) hB2.size
        by_cases hE0 : E = 0
        · obtain ⟨ao', cap', b1, b2, b3, b4, b5⟩ := hout hE0
          have HE0 := Lib.hid hE0
          subst hE0
          clear hout
          have c0 := b1.cell 0 _ rfl
          go_wp2_with fail
          rw [EQ.out]
          unfold SplitAns
          rw [HE.out]
          exact ⟨ao', k, cap', _, rfl, b2, b3, b4, (fun _ => ⟨rfl, rfl⟩), (fun h => absurd rfl h), hbt⟩
        · have hEb : (E != 0) = true := by simp [hE0]
          have HE0 := Lib.hid hE0
          clear hE0 hout
          go_wp2_with fail
          rw [EQ.out]
          unfold SplitAns
          rw [HE.out]
          exact ⟨none, 0, 0, [], rfl, RowI.nil _ _, Nat.le_refl _, by unfold maxLen; omega, (fun h => absurd h HE0.out), (fun _ => ⟨rfl, rfl⟩), hbt⟩
    · have hE : shE t xs k = 1 := by unfold shE; rw [if_neg HK.out, hng]; rfl
      have HE := Lib.hid hE
      unfold negB at hng
      rw [decide_eq_true_iff] at hng
      obtain ⟨h0, hm0⟩ := hng
      have M2 := fun W' hx' => sl_min ao k cap xs h0 hk2 W' hx'
      obtain ⟨m0, em0⟩ : ∃ m, minK xs (k - 1) = m := ⟨_, rfl⟩
      rw [em0] at hm0 M2
      have ix0 : (0 : Int) < (k : Int) := by omega
      clear em0 hE hf ht h1 h2
      go_enter Try.func85, Try.ntmps85
      go_wp2_with (go_at_call 123; with_reducible refine (M2 _ hxA).mono ?_; rintro e w2 ⟨rfl, rfl⟩)
      rw [EQ.out]
      unfold SplitAns
      rw [HE.out]
      exact ⟨none, 0, 0, [], rfl, RowI.nil _ _, Nat.le_refl _, by unfold maxLen; omega, (fun h => absurd h (by decide)), (fun _ => ⟨rfl, rfl⟩), hB⟩
end Go.Proofs.Ythffphcgkmjhbaa
