/-
  The functions of package ratio, each by its contract. Third part: Good, Down.
-/
import Derived.Test.YthffphcgkmjhbaaRatB
import Derived.Deep.RegionHeld3
import Derived.Deep.RegionWith
namespace Go.Proofs.Ythffphcgkmjhbaa
open Go.RowKit
set_option linter.unusedSimpArgs false
set_option linter.unusedVariables false

/-- May a ratio be? -/
def goodB (N D : Int) : Bool := decide (1 ≤ D) && ((Nat.gcd N.natAbs D.natAbs : Int) == 1)
theorem below_undrew' {w w' : World} (h : Below w.drew.heap.size w.drew w') : Below w.heap.size w w' := (Below.drew (Below.refl _ _)).trans h
set_option maxRecDepth 100000 in
set_option maxHeartbeats 1600000 in
theorem rat_good (N D : Int) (hN : IFit N) (hD : IFit D) (w : World) :
    Calls Try.prog 45 #[.agg #[.int .i64 N, .int .i64 D]] w fun e w' => e = .returned (.bool (goodB N D)) ∧ Below w.heap.size w w' := by
  have S1 := rat_size N hN
  have S2 := rat_size D hD
  have ha : N.natAbs < 18446744073709551616 := by unfold IFit at hN; omega
  have hb : D.natAbs < 18446744073709551616 := by unfold IFit at hD; omega
  have CM := rat_common N.natAbs D.natAbs ha hb
  have hG : goodB N D = (decide (1 ≤ D) && ((Nat.gcd N.natAbs D.natAbs : Int) == 1)) := rfl
  obtain ⟨G, eG⟩ : ∃ G, goodB N D = G := ⟨_, rfl⟩
  rw [eG] at hG ⊢
  obtain ⟨a, ea⟩ : ∃ a, N.natAbs = a := ⟨_, rfl⟩
  obtain ⟨b, eb⟩ : ∃ b, D.natAbs = b := ⟨_, rfl⟩
  rw [ea] at S1 CM ha hG
  rw [eb] at S2 CM hb hG
  obtain ⟨g, eg⟩ : ∃ g, Nat.gcd a b = g := ⟨_, rfl⟩
  rw [eg] at CM hG
  have HG := Lib.hid hG
  have t := Rx.new w (.int .i64 N) (.int .i64 D) _ rfl
  have hB : Below w.heap.size w (w.alloc (.cells #[.int .i64 N, .int .i64 D] 57)) := (by repeat' (first | (with_reducible exact Below.refl _ _) | (with_reducible assumption) | (with_reducible refine below_alloc ?_ _ ?_) | (with_reducible refine below_set _ ?_ ?_) | (with_reducible refine Below.drew ?_) | (with_reducible refine below_dN ?_ _) | (apply below_thenA; assumption) | omega | (simp; done) | (simp; omega) | (simp [*]; done)))
  obtain ⟨p1, p2, p3, p4⟩ := t.cells
  clear eG ea eb eg hG hN hD ha hb
  by_cases hd : 1 ≤ D
  · have d1 : decide (1 ≤ D) = true := by simp [hd]
    go_enter Try.func45, Try.ntmps45
    go_wp2_with fail
    go_region_held3 (fun w' => w'.cell? ⟨w.heap.size, 0, none⟩ = some (.int .i64 N) ∧ w'.cell? ⟨w.heap.size, 1, none⟩ = some (.int .i64 D))
      (first | exact ⟨p1, p2⟩ | go_keep)
      (first
      | (go_at_call 109; with_reducible refine (S1 _).mono ?_; rintro e w1 ⟨rfl, rfl⟩)
      | (go_at_call 109; with_reducible refine (S2 _).mono ?_; rintro e w1 ⟨rfl, rfl⟩)
      | (go_at_call 110; with_reducible refine (CM _).mono ?_; rintro e w2 ⟨rfl, hb2⟩; replace hb2 := below_undrew' hb2; replace t := t.below hb2; replace hB := hB.trans (hb2.mono hB.size); obtain ⟨p1, p2, p3, p4⟩ := t.cells))
    go_wp2_with fail
    go_ret
    exact ⟨by rw [HG.out, d1]; rfl, hB⟩
  · have d1 : decide (1 ≤ D) = false := by simp; omega
    go_enter Try.func45, Try.ntmps45
    go_wp2_with fail
    go_quiet (fail)
    go_wp2_with fail
    go_ret
    exact ⟨by rw [HG.out, d1]; rfl, (by repeat' (first | (with_reducible exact Below.refl _ _) | (with_reducible assumption) | (with_reducible refine below_alloc ?_ _ ?_) | (with_reducible refine below_set _ ?_ ?_) | (with_reducible refine Below.drew ?_) | (with_reducible refine below_dN ?_ _) | (apply below_thenA; assumption) | omega | (simp; done) | (simp; omega) | (simp [*]; done)))⟩
/-- What Down answers. -/
def DownAns (x N D : Int) (w : World) (e : Ending) (w' : World) : Prop :=
  (goodB N D = false → e = .returned (.tuple #[.int .i64 0, .int .i64 1])) ∧ (goodB N D = true → IFit (fq (x * N) D) → e = .returned (.tuple #[.int .i64 (fq (x * N) D), .int .i64 0])) ∧
  (goodB N D = true → ¬ IFit (fq (x * N) D) → e = .returned (.tuple #[.int .i64 0, .int .i64 2])) ∧ Below w.heap.size w w'
set_option maxRecDepth 100000 in
set_option maxHeartbeats 1600000 in
theorem rat_down (x N D : Int) (hx : IFit x) (hN : IFit N) (hD : IFit D) (w : World) :
    Calls Try.prog 49 #[.agg #[.int .i64 N, .int .i64 D], .int .i64 x] w (DownAns x N D w) := by
  have GD := rat_good N D hN hD
  have hDN : goodB N D = true → D ≠ 0 := fun h => by unfold goodB at h; simp at h; omega
  have t := Rx.new w (.int .i64 N) (.int .i64 D) _ rfl
  have hB : Below w.heap.size w (w.alloc (.cells #[.int .i64 N, .int .i64 D] 57)) := (by repeat' (first | (with_reducible exact Below.refl _ _) | (with_reducible assumption) | (with_reducible refine below_alloc ?_ _ ?_) | (with_reducible refine below_set _ ?_ ?_) | (with_reducible refine Below.drew ?_) | (with_reducible refine below_dN ?_ _) | (apply below_thenA; assumption) | omega | (simp; done) | (simp; omega) | (simp [*]; done)))
  have MF := wide_muldiv_fit x N D hx hN hD
  have MN := wide_muldiv_no x N D hx hN hD
  have hans : ∀ e w', (goodB N D = false → e = .returned (.tuple #[.int .i64 0, .int .i64 1])) → (goodB N D = true → IFit (fq (x * N) D) → e = .returned (.tuple #[.int .i64 (fq (x * N) D), .int .i64 0])) → (goodB N D = true → ¬ IFit (fq (x * N) D) → e = .returned (.tuple #[.int .i64 0, .int .i64 2])) → Below w.heap.size w w' → DownAns x N D w e w' := fun e w' a b c d => ⟨a, b, c, d⟩
  obtain ⟨p1, p2, p3, p4⟩ := t.cells
  by_cases hg : goodB N D = true
  · have h0 := hDN hg
    by_cases hf : IFit (fq (x * N) D)
    · have MM := MF ⟨h0, hf⟩
      rw [hg] at GD
      have HA := Lib.hid hans
      have HGG := Lib.hid hg
      obtain ⟨F, eF⟩ : ∃ F, fq (x * N) D = F := ⟨_, rfl⟩
      rw [eF] at MM
      have EF := Lib.hid eF
      have HF := Lib.hid hf
      clear hans hg h0 hDN MF MN eF hf
      go_enter Try.func49, Try.ntmps49
      go_wp2_with fail
      refine (GD _).mono ?_
      rintro e w1 ⟨rfl, hb1⟩
      replace t := t.below hb1
      replace hB := hB.trans (hb1.mono hB.size)
      clear p1 p2 p3 p4
      obtain ⟨p1, p2, p3, p4⟩ := t.cells
      go_wp2_with fail
      refine (MM _).mono ?_
      rintro e w2 ⟨rfl, hb2⟩
      replace hB := hB.trans (hb2.mono hB.size)
      go_wp2_with fail
      go_ret2
      exact HA.out _ _ (fun h => by rw [HGG.out] at h; cases h) (fun _ _ => by rw [EF.out]; rfl) (fun _ h => absurd HF.out h) hB
    · have MM := MN (fun h => hf h.2)
      rw [hg] at GD
      have HA := Lib.hid hans
      have HGG := Lib.hid hg
      have HF := Lib.hid hf
      clear hans hg h0 hDN MF MN hf
      go_enter Try.func49, Try.ntmps49
      go_wp2_with fail
      refine (GD _).mono ?_
      rintro e w1 ⟨rfl, hb1⟩
      replace t := t.below hb1
      replace hB := hB.trans (hb1.mono hB.size)
      clear p1 p2 p3 p4
      obtain ⟨p1, p2, p3, p4⟩ := t.cells
      go_wp2_with fail
      refine (MM _).mono ?_
      rintro e w2 ⟨rfl, hb2⟩
      replace hB := hB.trans (hb2.mono hB.size)
      go_wp2_with fail
      go_ret2
      exact HA.out _ _ (fun h => by rw [HGG.out] at h; cases h) (fun _ h => absurd h HF.out) (fun _ _ => rfl) hB
  · have hg' : goodB N D = false := by simpa using hg
    rw [hg'] at GD
    have HA := Lib.hid hans
    have HGG := Lib.hid hg'
    clear hans hg hg' hDN MF MN
    go_enter Try.func49, Try.ntmps49
    go_wp2_with fail
    refine (GD _).mono ?_
    rintro e w1 ⟨rfl, hb1⟩
    replace hB := hB.trans (hb1.mono hB.size)
    go_wp2_with fail
    go_ret2
    exact HA.out _ _ (fun _ => rfl) (fun h => by rw [HGG.out] at h; cases h) (fun h => by rw [HGG.out] at h; cases h) hB
end Go.Proofs.Ythffphcgkmjhbaa
