/-
  The reference of layer 13: Offsets.
-/
import Derived.Test.YthofammjbicogaaYLnJ
import Derived.Test.YthofammjbicogaaYShT
import Derived.Test.YthofammjbicogaaYFlJ
namespace Go.Proofs.Ythofammjbicogaa
open Go.RowKit
set_option linter.unusedSimpArgs false
set_option linter.unusedVariables false

theorem add2_sub {A W : Int} (h : LenB A) : addP 0 [A, -W] = if lenB (A - W) then some (A - W) else none := by
  have e : lenB (0 + A) = true := by rw [Int.zero_add]; exact (lenB_iff A).2 h
  unfold addP
  rw [if_pos e, Int.zero_add]
  unfold addP
  rw [← Int.sub_eq_add_neg]
  split <;> rfl
def ROffAns (r : Option (List Int)) (w : World) (e : Ending) (w' : World) : Prop :=
  (∀ L, r = some L → ∃ ao c, e = .returned (.tuple #[.slice ao L.length c, .int .i64 0]) ∧ OwnI w' w.heap.size ao L.length c L) ∧ (r = none → e = .returned (.tuple #[.slice none 0 0, .int .i64 2])) ∧ Below w.heap.size w w'
theorem ROffAns.yes {L : List Int} {ao : Option Addr} {c : Nat} {w w' : World} (h : OwnI w' w.heap.size ao L.length c L) (hb : Below w.heap.size w w') : ROffAns (some L) w (.returned (.tuple #[.slice ao L.length c, .int .i64 0])) w' :=
  ⟨fun L' e => by obtain rfl := Option.some.inj e; exact ⟨ao, c, rfl, h⟩, fun h => by simp at h, hb⟩
theorem ROffAns.no {r : Option (List Int)} {w w' : World} (h : r = none) (hb : Below w.heap.size w w') : ROffAns r w (.returned (.tuple #[.slice none 0 0, .int .i64 2])) w' := by
  subst h
  exact ⟨fun L' e => by simp at e, fun _ => rfl, hb⟩
set_option maxRecDepth 100000 in
set_option maxHeartbeats 1600000 in
theorem r13_off_no (v : Option Addr) (k cap : Nat) (a b W H avail text : Int) (h : a < 0 ∨ (k : Int) < b ∨ b ≤ a) (w : World) :
    Calls Try.prog 19 #[.slice v k cap, .agg #[.int .i64 a, .int .i64 b, .int .i64 W, .int .i64 H], .int .i64 avail, .int .i64 text] w fun e w' => e = .returned (.tuple #[.slice none 0 0, .int .i64 0]) ∧ Below w.heap.size w w' := by
  have t5 := Blk.new w #[.int .i64 a, .int .i64 b, .int .i64 W, .int .i64 H] 39 _ rfl
  have hB0 : Below w.heap.size w (w.alloc (.cells #[.int .i64 a, .int .i64 b, .int .i64 W, .int .i64 H] 39)) := (by repeat' (first | (with_reducible exact Below.refl _ _) | (with_reducible assumption) | (with_reducible refine below_alloc ?_ _ ?_) | (with_reducible refine below_set _ ?_ ?_) | (with_reducible refine Below.drew ?_) | (with_reducible refine below_dN ?_ _) | (apply below_thenA; assumption) | omega | (simp; done) | (simp; omega) | (simp [*]; done)))
  have h3 : a < 0 ∨ (¬ a < 0 ∧ (k : Int) < b) ∨ (¬ a < 0 ∧ ¬ (k : Int) < b ∧ b ≤ a) := by omega
  have c0 := t5.cell 0 _ rfl
  have c1 := t5.cell 1 _ rfl
  clear h t5
  go_enter Try.func19, Try.ntmps19
  rcases h3 with i1 | ⟨i1, i2⟩ | ⟨i1, i2, i3⟩
  all_goals
    go_wp2_with fail
    go_ret2
    exact ⟨rfl, hB0⟩
theorem addr_w {A W : Int} (hA : IFit A) (hW : IFit (-W)) (g : Nat) (W' : World) (h : Blk W' g #[.int .i64 A, .int .i64 (-W)] 2) :
    Calls Try.prog 58 #[.slice (some ⟨g, 0, none⟩) 2 2] W' fun e w' => e = .returned (.tuple #[.int .i64 (addN [A, -W]), .int .i64 (addE [A, -W])]) ∧ Below W'.heap.size W' w' :=
  ref4_add g 0 2 2 [A, -W] (by omega) W' (ints_blk [A, -W] rfl h rfl (by intro x hx; simp at hx; rcases hx with rfl | rfl; exact hA; exact hW)) h.lt
set_option maxRecDepth 100000 in
set_option maxHeartbeats 1600000 in
theorem r13_off_far (v : Option Addr) (k cap a b : Nat) (W H avail text : Int) (hab : a < b) (hbk : b ≤ k) (hav : IFit avail) (hW : IFit (-W)) (hn : ¬ (LenB avail ∧ LenB W)) (w : World) :
    Calls Try.prog 19 #[.slice v k cap, .agg #[.int .i64 ((a : Int)), .int .i64 ((b : Int)), .int .i64 W, .int .i64 H], .int .i64 avail, .int .i64 text] w fun e w' => e = .returned (.tuple #[.slice none 0 0, .int .i64 (-1)]) ∧ Below w.heap.size w w' := by
  have AD := fun g W' h => addr_w hav hW g W' h
  obtain ⟨W0, eW⟩ : ∃ W0, w.alloc (.cells #[.int .i64 ((a : Int)), .int .i64 ((b : Int)), .int .i64 W, .int .i64 H] 39) = W0 := ⟨_, rfl⟩
  have t5 : Blk W0 w.heap.size #[.int .i64 ((a : Int)), .int .i64 ((b : Int)), .int .i64 W, .int .i64 H] 39 := by rw [← eW]; exact Blk.new w _ _ _ rfl
  have hB0 : Below w.heap.size w W0 := by rw [← eW]; exact (by repeat' (first | (with_reducible exact Below.refl _ _) | (with_reducible assumption) | (with_reducible refine below_alloc ?_ _ ?_) | (with_reducible refine below_set _ ?_ ?_) | (with_reducible refine Below.drew ?_) | (with_reducible refine below_dN ?_ _) | (apply below_thenA; assumption) | omega | (simp; done) | (simp; omega) | (simp [*]; done)))
  have c0 := t5.cell 0 _ rfl
  have c1 := t5.cell 1 _ rfl
  have c2 := t5.cell 2 _ rfl
  have iab : ¬ (b : Int) ≤ (a : Int) := by omega
  have ibk : ¬ (k : Int) < (b : Int) := by omega
  have ia0 : ¬ (a : Int) < 0 := by omega
  have wrn : IntKind.i64.wrap (-W) = -W := by unfold IFit at hW; simp [IntKind.wrap, IntKind.bits, IntKind.signed]; omega
  have h4 : avail < -17592186044416 ∨ (¬ avail < -17592186044416 ∧ 17592186044416 < avail) ∨ (¬ avail < -17592186044416 ∧ ¬ 17592186044416 < avail ∧ W < -17592186044416) ∨ (¬ avail < -17592186044416 ∧ ¬ 17592186044416 < avail ∧ ¬ W < -17592186044416 ∧ 17592186044416 < W) := by unfold LenB at hn; omega
  have H4 := Lib.hid h4
  have T5 := Lib.hid t5
  clear h4 hn hW hav t5
  go_enter Try.func19, Try.ntmps19
  go_wp2_with fail
  refine (AD _ _ (Blk.new _ _ _ _ rfl)).mono ?_
  rintro e w2 ⟨rfl, hb⟩
  have hb2 : Below W0.heap.size W0 w2 := Below.trans (by repeat' (first | (with_reducible exact Below.refl _ _) | (with_reducible assumption) | (with_reducible refine below_alloc ?_ _ ?_) | (with_reducible refine below_set _ ?_ ?_) | (with_reducible refine Below.drew ?_) | (with_reducible refine below_dN ?_ _) | (apply below_thenA; assumption) | omega | (simp; done) | (simp; omega) | (simp [*]; done))) (hb.mono (by simp))
  have hB2 := hB0.trans (hb2.mono hB0.size)
  have t5 := T5.out.below hb2
  have c2 := t5.cell 2 _ rfl
  clear hb hb2 hB0 t5 c0 c1 AD
  rcases H4.out with i1 | ⟨i1, i2⟩ | ⟨i1, i2, i3⟩ | ⟨i1, i2, i3, i4⟩
  all_goals
    go_wp2_with fail
    go_ret2
    exact ⟨rfl, hB2⟩
set_option maxRecDepth 100000 in
set_option maxHeartbeats 1600000 in
theorem r13_off_two (v : Option Addr) (k cap a b : Nat) (W H avail text : Int) (hab : a < b) (hbk : b ≤ k) (hav : LenB avail) (hW : LenB W) (hL : lenB (avail - W) = false) (w : World) :
    Calls Try.prog 19 #[.slice v k cap, .agg #[.int .i64 ((a : Int)), .int .i64 ((b : Int)), .int .i64 W, .int .i64 H], .int .i64 avail, .int .i64 text] w fun e w' => e = .returned (.tuple #[.slice none 0 0, .int .i64 2]) ∧ Below w.heap.size w w' := by
  have hWn : IFit (-W) := by unfold LenB at hW; unfold IFit; omega
  have AD := fun g W' h => addr_w hav.fit hWn g W' h
  have h0 : addP 0 [avail, -W] = none := by rw [add2_sub hav, hL]; rfl
  unfold addN addE at AD
  rw [h0] at AD
  obtain ⟨W0, eW⟩ : ∃ W0, w.alloc (.cells #[.int .i64 ((a : Int)), .int .i64 ((b : Int)), .int .i64 W, .int .i64 H] 39) = W0 := ⟨_, rfl⟩
  have t5 : Blk W0 w.heap.size #[.int .i64 ((a : Int)), .int .i64 ((b : Int)), .int .i64 W, .int .i64 H] 39 := by rw [← eW]; exact Blk.new w _ _ _ rfl
  have hB0 : Below w.heap.size w W0 := by rw [← eW]; exact (by repeat' (first | (with_reducible exact Below.refl _ _) | (with_reducible assumption) | (with_reducible refine below_alloc ?_ _ ?_) | (with_reducible refine below_set _ ?_ ?_) | (with_reducible refine Below.drew ?_) | (with_reducible refine below_dN ?_ _) | (apply below_thenA; assumption) | omega | (simp; done) | (simp; omega) | (simp [*]; done)))
  have c0 := t5.cell 0 _ rfl
  have c1 := t5.cell 1 _ rfl
  have c2 := t5.cell 2 _ rfl
  have iab : ¬ (b : Int) ≤ (a : Int) := by omega
  have ibk : ¬ (k : Int) < (b : Int) := by omega
  have ia0 : ¬ (a : Int) < 0 := by omega
  have wrn : IntKind.i64.wrap (-W) = -W := by unfold IFit at hWn; simp [IntKind.wrap, IntKind.bits, IntKind.signed]; omega
  have h4 : ¬ avail < -17592186044416 ∧ ¬ 17592186044416 < avail ∧ ¬ W < -17592186044416 ∧ ¬ 17592186044416 < W := by unfold LenB at hav hW; omega
  obtain ⟨i1, i2, i3, i4⟩ := h4
  have T5 := Lib.hid t5
  clear hW hav t5 hL h0 hWn
  go_enter Try.func19, Try.ntmps19
  go_wp2_with fail
  refine (AD _ _ (Blk.new _ _ _ _ rfl)).mono ?_
  rintro e w2 ⟨rfl, hb⟩
  have hb2 : Below W0.heap.size W0 w2 := Below.trans (by repeat' (first | (with_reducible exact Below.refl _ _) | (with_reducible assumption) | (with_reducible refine below_alloc ?_ _ ?_) | (with_reducible refine below_set _ ?_ ?_) | (with_reducible refine Below.drew ?_) | (with_reducible refine below_dN ?_ _) | (apply below_thenA; assumption) | omega | (simp; done) | (simp; omega) | (simp [*]; done))) (hb.mono (by simp))
  have hB2 := hB0.trans (hb2.mono hB0.size)
  have t5 := T5.out.below hb2
  have c2 := t5.cell 2 _ rfl
  clear hb hb2 hB0 t5 c0 c1 AD
  go_wp2_with fail
  go_ret2
  exact ⟨rfl, hB2⟩
end Go.Proofs.Ythofammjbicogaa
