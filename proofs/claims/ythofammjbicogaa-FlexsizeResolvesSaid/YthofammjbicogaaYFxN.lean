/-
  The law's own functions of layer 19: told, resolved.
-/
import Derived.Test.YthofammjbicogaaYFxL
namespace Go.Proofs.Ythofammjbicogaa
open Go.RowKit
set_option linter.unusedSimpArgs false
set_option linter.unusedVariables false

set_option maxRecDepth 100000 in
set_option maxHeartbeats 1600000 in
theorem law19_told (x : Fx) (w : World) : Calls Try.prog 45 #[x.val] w fun e w' => e = .returned x.val ∧ Below w.heap.size w w' := by
  unfold Fx.val
  go_enter Try.func45, Try.ntmps45
  go_wp2_with fail
  (go_light; simp [bodyPost, results, Try.results45, go_sem, *])
  exact (by repeat' (first | (with_reducible exact Below.refl _ _) | (with_reducible assumption) | (with_reducible refine below_alloc ?_ _ ?_) | (with_reducible refine below_set _ ?_ ?_) | (with_reducible refine Below.drew ?_) | (with_reducible refine below_dN ?_ _) | (apply below_thenA; assumption) | omega | (simp; done) | (simp; omega) | (simp [*]; done)))
theorem cells7 (x : Fx) : ∀ u ∈ x.vals, u.oneCell' = true := by
  intro u hu
  simp [Fx.vals] at hu
  rcases hu with rfl | rfl | rfl | rfl | rfl | rfl | rfl <;> rfl
theorem fxV_snoc {l : List Fx} {j : Nat} (hj : j < l.length) : fxV (l.take (j + 1)) = fxV (l.take j) ++ (l.getD j fx0).vals := by
  unfold fxV
  rw [List.take_succ_eq_append_getElem hj, List.flatMap_append]
  congr 1
  simp [List.getD, hj]
/-- What the closure leaves in the box of the answer. -/
def RsRel (b8 : Nat) (n : Nat) (xs : List Int) (H : Nat) (w : World) : Prop := ∃ a2 c2, Blk w b8 #[.slice a2 n c2] 31 ∧ RowI w a2 n xs ∧ (n ≤ c2 ∧ c2 ≤ maxLen) ∧ ∀ g off, a2 = some ⟨g, off, none⟩ → H < g
theorem RsRel.but {b8 n H b : Nat} {xs : List Int} {w w' : World} (h : RsRel b8 n xs H w) (hb : But b w w') (h1 : b8 ≠ b) (h2 : b ≤ H) : RsRel b8 n xs H w' := by
  obtain ⟨a2, c2, q1, q2, q3, q4⟩ := h
  exact ⟨a2, c2, q1.but hb h1, q2.but hb (fun g off e => by have := q4 g off e; omega), q3, q4⟩
set_option maxRecDepth 100000 in
set_option maxHeartbeats 1600000 in
theorem rsv1 (b6 b3 b8 : Nat) (ao : Option Addr) (n cap : Nat) (l : List Fx) (avail : Int) (hn : n ≤ 1000000) (hl : l.length = n) (hf : ∀ x ∈ l, FxFit x) (hav : IFit avail) (H : Nat) (w : World) (hH : H < w.heap.size) (hr : RowV w ao n 7 (fxV l)) (h6 : Blk w b6 #[.slice ao n cap] 117) (h3 : Blk w b3 #[.int .i64 avail] 2) (v : Value) (h8 : Blk w b8 #[v] 31) :
    Calls Try.prog 75 #[.pointer (some ⟨b6, 0, none⟩), .pointer (some ⟨b3, 0, none⟩), .pointer (some ⟨b8, 0, none⟩)] w fun e w' => (rsC avail l = 0 → e = .returned (.tuple #[]) ∧ (∃ xs, resO avail l = some xs ∧ RsRel b8 n xs H w') ∧ ButL [b8] w w') ∧ (rsC avail l ≠ 0 → e = .panicked (gave (rsC avail l)) ∧ Below w.heap.size w w') := by
  have RS := fx_resolve ao n cap l avail hn hl hf hav w hr
  obtain ⟨c, ec⟩ : ∃ c, rsC avail l = c := ⟨_, rfl⟩
  unfold RsAns at RS
  rw [ec] at RS ⊢
  have c6 := h6.cell 0 _ rfl
  have c3 := h3.cell 0 _ rfl
  have H8 := Lib.hid h8
  by_cases hc : c = 0
  · have RS2 : Calls Try.prog 76 #[.slice ao n cap, .int .i64 avail] w fun e w' => (∃ a2 c2 xs, resO avail l = some xs ∧ e = .returned (.slice a2 n c2) ∧ RowI w' a2 n xs ∧ (n ≤ c2 ∧ c2 ≤ maxLen) ∧ ∀ g off, a2 = some ⟨g, off, none⟩ → w.heap.size ≤ g ∧ g < w'.heap.size) ∧ Below w.heap.size w w' := RS.mono fun _ _ h => ⟨h.1 hc, h.2.2⟩
    clear RS h6 h3 h8 hr hf ec
    have hl8 := H8.out.lt
    go_enter Try.func75, Try.ntmps75
    go_wp2_with fail
    refine RS2.mono ?_
    rintro e w1 ⟨⟨a2, c2, xs, e0, rfl, r1, hcc, hg⟩, hb1⟩
    have q8 := H8.out.below hb1
    have d0 := q8.cell 0 _ rfl
    have f0 := q8.free 0
    have hbt := But.set (b := b8) w1 0 (.slice a2 n c2)
    have hfin : RsRel b8 n xs H (w1.setCell ⟨b8, 0, none⟩ (.slice a2 n c2)) := ⟨a2, c2, q8.set1 rfl _, r1.but hbt (fun g off e => by have := hg g off e; omega), hcc, fun g off e => by have := hg g off e; omega⟩
    have hbut : ButL [b8] w (w1.setCell ⟨b8, 0, none⟩ (.slice a2 n c2)) := (ButL.of hb1).trans (ButL.set _ _ _ (by simp))
    have HFIN := Lib.hid hfin
    have HBUT := Lib.hid hbut
    have HE := Lib.hid e0
    clear q8 hbt hfin hbut r1 RS2 e0
    go_wp2_with fail
    go_end0
    exact ⟨fun _ => ⟨rfl, ⟨xs, HE.out, HFIN.out⟩, HBUT.out⟩, fun h => absurd hc h⟩
  · have RS2 : Calls Try.prog 76 #[.slice ao n cap, .int .i64 avail] w fun e w' => e = .panicked (gave c) ∧ Below w.heap.size w w' := RS.mono fun _ _ h => ⟨h.2.1 hc, h.2.2⟩
    clear RS h6 h3 h8 hr hf ec
    go_enter Try.func75, Try.ntmps75
    go_wp2_with (go_at_call 76; with_reducible refine RS2.mono ?_; rintro e w1 ⟨rfl, hb1⟩)
    simp only [bodyPost]
    exact ⟨trivial, fun h => absurd h hc, fun _ => ⟨by first | rfl | trivial, hb1⟩⟩
theorem try_rsv (b6 b3 b8 : Nat) (ao : Option Addr) (n cap : Nat) (l : List Fx) (avail : Int) (hn : n ≤ 1000000) (hl : l.length = n) (hf : ∀ x ∈ l, FxFit x) (hav : IFit avail) (w : World) (hr : RowV w ao n 7 (fxV l)) (h6 : Blk w b6 #[.slice ao n cap] 117) (h3 : Blk w b3 #[.int .i64 avail] 2) (h8 : Blk w b8 #[.slice none 0 0] 31) :
    Calls Try.prog 16 #[.func (.func 75) #[] #[.pointer (some ⟨b6, 0, none⟩), .pointer (some ⟨b3, 0, none⟩), .pointer (some ⟨b8, 0, none⟩)]] w fun e w' => e = .returned (.int .i64 (rsC avail l)) ∧ (rsC avail l = 0 → ∃ xs, resO avail l = some xs ∧ RsRel b8 n xs w.heap.size w') ∧ (rsC avail l ≠ 0 → Blk w' b8 #[.slice none 0 0] 31) ∧ ButL [b8] w w' := by
  have l8 := h8.lt
  by_cases hc : rsC avail l = 0
  · refine (try_rel 75 _ (rsC avail l) [b8] w (fun W => ∃ xs, resO avail l = some xs ∧ RsRel b8 n xs w.heap.size W) (fun b hb => by simp at hb; omega) (fun W W' h hb => by obtain ⟨xs, h1, h2⟩ := h; exact ⟨xs, h1, h2.but hb (by omega) (Nat.le_refl _)⟩) (fun w => enters_of Try.func75 (by kernel_rfl) rfl _ w)
      (fun W hb hlt => (rsv1 b6 b3 b8 ao n cap l avail hn hl hf hav w.heap.size W hlt (hr.below hb) (h6.below hb) (h3.below hb) _ (h8.below hb)).mono fun e W' h => ⟨fun h0 => ⟨(h.1 h0).1, (h.1 h0).2.1⟩, fun h0 => absurd hc h0, (h.1 hc).2.2⟩)).mono ?_
    rintro e w' ⟨rfl, h1, h2⟩
    exact ⟨rfl, h1, fun h => absurd hc h, h2⟩
  · refine (try_rel 75 _ (rsC avail l) [] w (fun W => True) (fun b hb => by simp at hb) (fun W W' h hb => trivial) (fun w => enters_of Try.func75 (by kernel_rfl) rfl _ w)
      (fun W hb hlt => (rsv1 b6 b3 b8 ao n cap l avail hn hl hf hav w.heap.size W hlt (hr.below hb) (h6.below hb) (h3.below hb) _ (h8.below hb)).mono fun e W' h => ⟨fun h0 => absurd h0 hc, fun h0 => (h.2 h0).1, ButL.of (h.2 hc).2⟩)).mono ?_
    rintro e w' ⟨rfl, h1, h2⟩
    exact ⟨rfl, fun h => absurd h hc, fun _ => h8.butl h2 (by simp), ⟨h2.os, h2.tape, h2.output, h2.size, fun k hk _ => h2.block k hk (by simp)⟩⟩
end Go.Proofs.Ythofammjbicogaa
