/-
  The law WordsScale: its closure, tried.
-/
import Derived.Test.YtgmnboacehopfaaYWoF
import Derived.Test.YtgmnboacehopfaaYWoD
import Derived.Test.YtgmnboacehopfaaZ6
import Derived.Test.YtgmnboacehopfaaYFlD
namespace Go.Proofs.Ytgmnboacehopfaa
open Go.RowKit
set_option linter.unusedSimpArgs false
set_option linter.unusedVariables false

/-- Try over a function that ends as one knows, and of which something holds that no turn of one far block hurts. -/
theorem try_relW (F : Nat) (cap : Array Value) (c : Int) (l : List Nat) (w : World) (R : World → Prop) (hl : ∀ b, b ∈ l → b < w.heap.size) (hR : ∀ W W', R W → But w.heap.size W W' → R W') (hen : ∀ w, (callFunc F cap).run Try.prog w = .ok (.enter F cap) w)
    (h : ∀ W, Below w.heap.size w W → w.heap.size < W.heap.size → Calls Try.prog F cap W fun e W' => (c = 0 → e = .returned (.tuple #[]) ∧ R W') ∧ (c ≠ 0 → e = .panicked (gave c)) ∧ ButL l W W') :
    Calls Try.prog 12 #[.func (.func F) #[] cap] w fun e w' => e = .returned (.int .i64 c) ∧ (c = 0 → R w') ∧ ButL l w w' := by
  have o1 : Blk (w.alloc (.cells #[.int .i64 0] 36)) w.heap.size #[.int .i64 0] 36 := Blk.new w _ _ _ rfl
  have hnew : w.heap.size ∉ l := fun hm => Nat.lt_irrefl _ (hl _ hm)
  refine (fix_try F cap w (fun c' w1 => c' = c ∧ (c = 0 → R w1) ∧ ButL l (w.alloc (.cells #[.int .i64 0] 36)) w1) hen ((h _ (by repeat' (first | (with_reducible exact Below.refl _ _) | (with_reducible assumption) | (with_reducible refine below_alloc ?_ _ ?_) | (with_reducible refine below_set _ ?_ ?_) | (with_reducible refine Below.drew ?_) | (with_reducible refine below_dN ?_ _) | (apply below_thenA; assumption) | omega | (simp; done) | (simp; omega) | (simp [*]; done))) (by simp)).mono fun e w1 x => ?_)).mono fun e w' x => ?_
  · obtain ⟨x1, x2, x4⟩ := x
    have o3 := o1.butl x4 hnew
    refine ⟨o3.cell 0 _ rfl, o3.free 0, ?_⟩
    by_cases hc : c = 0
    · exact .inl ⟨(x1 hc).1, hc.symm, fun _ => (x1 hc).2, x4⟩
    · exact .inr ⟨c, x2 hc, rfl, fun h => absurd h hc, x4⟩
  · obtain ⟨c', w1, ⟨rfl, hr, hbut⟩, rfl, rfl⟩ := x
    refine ⟨rfl, fun hc => hR _ _ (hr hc) (But.set _ _ _), ((ButL.of (l := l) (show Below w.heap.size w (w.alloc (.cells #[.int .i64 0] 36)) from (by repeat' (first | (with_reducible exact Below.refl _ _) | (with_reducible assumption) | (with_reducible refine below_alloc ?_ _ ?_) | (with_reducible refine below_set _ ?_ ?_) | (with_reducible refine Below.drew ?_) | (with_reducible refine below_dN ?_ _) | (apply below_thenA; assumption) | omega | (simp; done) | (simp; omega) | (simp [*]; done))))).trans hbut).setNew (Nat.le_refl _) _ _⟩
/-- What the closure leaves in the box of the answer. -/
def SwRel (b8 m : Nat) (vs : List Value) (H : Nat) (w : World) : Prop := ∃ a2 c2, Blk w b8 #[.slice a2 m c2] 35 ∧ RowV w a2 m 3 vs ∧ ∀ g off, a2 = some ⟨g, off, none⟩ → H < g
theorem SwRel.but {b8 m H b : Nat} {vs : List Value} {w w' : World} (h : SwRel b8 m vs H w) (hb : But b w w') (h1 : b8 ≠ b) (h2 : b ≤ H) : SwRel b8 m vs H w' := by
  obtain ⟨a2, c2, q1, q2, q4⟩ := h
  exact ⟨a2, c2, q1.but hb h1, q2.but hb (fun g off e => by have := q4 g off e; omega), q4⟩
set_option maxRecDepth 100000 in
set_option maxHeartbeats 1600000 in
theorem swr1 (b7 b4 b5 b8 : Nat) (ao : Option Addr) (n cap : Nat) (l : List Wo) (p q : Int) (hn : n ≤ 1000000) (hl : l.length = n) (hf : ∀ x ∈ l, x.Fit) (hp : IFit p) (hq : IFit q) (H : Nat) (w : World) (hH : H < w.heap.size) (hH8 : b8 ≤ H) (hr : RowV w ao n 3 (l.flatMap Wo.vals)) (h7 : Blk w b7 #[.slice ao n cap] 35) (h4 : Blk w b4 #[.int .i64 p] 2) (h5 : Blk w b5 #[.int .i64 q] 2) (v : Value) (h8 : Blk w b8 #[v] 35) :
    Calls Try.prog 13 #[.pointer (some ⟨b7, 0, none⟩), .pointer (some ⟨b4, 0, none⟩), .pointer (some ⟨b5, 0, none⟩), .pointer (some ⟨b8, 0, none⟩)] w fun e w' => (scC p q l = 0 → e = .returned (.tuple #[]) ∧ SwRel b8 n ((l.map (scF p q)).flatMap Wo.vals) H w' ∧ ButL [b8] w w') ∧ (scC p q l ≠ 0 → e = .panicked (gave (scC p q l)) ∧ Below w.heap.size w w') := by
  have RS := words_scale ao n cap l p q hl hn hf hp hq w hr
  obtain ⟨c, ec⟩ : ∃ c, scC p q l = c := ⟨_, rfl⟩
  obtain ⟨vs, evs⟩ : ∃ vs, (l.map (scF p q)).flatMap Wo.vals = vs := ⟨_, rfl⟩
  unfold WsAns at RS
  rw [ec, evs] at RS
  rw [ec, evs]
  have c7 := h7.cell 0 _ rfl
  have c4 := h4.cell 0 _ rfl
  have c5 := h5.cell 0 _ rfl
  have H8 := Lib.hid h8
  by_cases hc : c = 0
  · have RS2 : Calls Try.prog 14 #[.slice ao n cap, .agg #[.int .i64 p, .int .i64 q]] w fun e w' => (∃ a2 c2, e = .returned (.slice a2 n c2) ∧ OwnW w' w.heap.size 44 3 a2 n c2 vs) ∧ Below w.heap.size w w' := RS.mono fun _ _ h => ⟨h.1 hc, h.2.2⟩
    clear RS h7 h4 h5 h8 hr hf ec evs
    have hl8 := H8.out.lt
    go_enter Try.func13, Try.ntmps13
    go_wp2_with fail
    refine RS2.mono ?_
    rintro e w1 ⟨⟨a2, c2, rfl, o1⟩, hb1⟩
    have r1 := o1.row
    have hg := o1.from
    have q8 := H8.out.below hb1
    have d0 := q8.cell 0 _ rfl
    have f0 := q8.free 0
    have hbt := But.set (b := b8) w1 0 (.slice a2 n c2)
    have hfin : SwRel b8 n vs H (w1.setCell ⟨b8, 0, none⟩ (.slice a2 n c2)) := ⟨a2, c2, q8.set1 rfl _, r1.but hbt (fun g off e => by have := hg g off e; omega), fun g off e => by have := hg g off e; omega⟩
    have hbut : ButL [b8] w (w1.setCell ⟨b8, 0, none⟩ (.slice a2 n c2)) := (ButL.of hb1).trans (ButL.set _ _ _ (by simp))
    have HFIN := Lib.hid hfin
    have HBUT := Lib.hid hbut
    clear q8 hbt hfin hbut r1 RS2 o1 hg
    go_wp2_with fail
    go_end0
    exact ⟨fun _ => ⟨rfl, HFIN.out, HBUT.out⟩, fun h => absurd hc h⟩
  · have RS2 : Calls Try.prog 14 #[.slice ao n cap, .agg #[.int .i64 p, .int .i64 q]] w fun e w' => e = .panicked (gave c) ∧ Below w.heap.size w w' := RS.mono fun _ _ h => ⟨h.2.1 hc, h.2.2⟩
    clear RS h7 h4 h5 h8 hr hf ec evs
    go_enter Try.func13, Try.ntmps13
    go_wp2_with (go_at_call 14; with_reducible refine RS2.mono ?_; rintro e w1 ⟨rfl, hb1⟩)
    simp only [bodyPost]
    exact ⟨trivial, fun h => absurd h hc, fun _ => ⟨by first | rfl | trivial, hb1⟩⟩
theorem try_swr (b7 b4 b5 b8 : Nat) (ao : Option Addr) (n cap : Nat) (l : List Wo) (p q : Int) (hn : n ≤ 1000000) (hl : l.length = n) (hf : ∀ x ∈ l, x.Fit) (hp : IFit p) (hq : IFit q) (w : World) (hr : RowV w ao n 3 (l.flatMap Wo.vals)) (h7 : Blk w b7 #[.slice ao n cap] 35) (h4 : Blk w b4 #[.int .i64 p] 2) (h5 : Blk w b5 #[.int .i64 q] 2) (h8 : Blk w b8 #[.slice none 0 0] 35) :
    Calls Try.prog 12 #[.func (.func 13) #[] #[.pointer (some ⟨b7, 0, none⟩), .pointer (some ⟨b4, 0, none⟩), .pointer (some ⟨b5, 0, none⟩), .pointer (some ⟨b8, 0, none⟩)]] w fun e w' => e = .returned (.int .i64 (scC p q l)) ∧ SwRel b8 (if scC p q l = 0 then n else 0) (if scC p q l = 0 then (l.map (scF p q)).flatMap Wo.vals else []) w.heap.size w' ∧ ButL [b8] w w' := by
  have l8 := h8.lt
  have hen : ∀ w, (callFunc 13 #[.pointer (some ⟨b7, 0, none⟩), .pointer (some ⟨b4, 0, none⟩), .pointer (some ⟨b5, 0, none⟩), .pointer (some ⟨b8, 0, none⟩)]).run Try.prog w = .ok (.enter 13 #[.pointer (some ⟨b7, 0, none⟩), .pointer (some ⟨b4, 0, none⟩), .pointer (some ⟨b5, 0, none⟩), .pointer (some ⟨b8, 0, none⟩)]) w := fun w => enters_of Try.func13 (by kernel_rfl) rfl _ w
  by_cases hc : scC p q l = 0
  · rw [if_pos hc, if_pos hc]
    refine (try_relW 13 _ (scC p q l) [b8] w (SwRel b8 n ((l.map (scF p q)).flatMap Wo.vals) w.heap.size) (fun b hb => by simp at hb; omega) (fun W W' h hb => h.but hb (by omega) (Nat.le_refl _)) hen
      (fun W hb hlt => (swr1 b7 b4 b5 b8 ao n cap l p q hn hl hf hp hq w.heap.size W hlt (by omega) (hr.below hb) (h7.below hb) (h4.below hb) (h5.below hb) _ (h8.below hb)).mono fun e W' h => ⟨fun h0 => ⟨(h.1 h0).1, (h.1 h0).2.1⟩, fun h0 => absurd hc h0, (h.1 hc).2.2⟩)).mono ?_
    rintro e w' ⟨rfl, h1, h2⟩
    exact ⟨rfl, h1 hc, h2⟩
  · rw [if_neg hc, if_neg hc]
    refine (try_relW 13 _ (scC p q l) [] w (fun W => True) (fun b hb => by simp at hb) (fun W W' h hb => trivial) hen
      (fun W hb hlt => (swr1 b7 b4 b5 b8 ao n cap l p q hn hl hf hp hq w.heap.size W hlt (by omega) (hr.below hb) (h7.below hb) (h4.below hb) (h5.below hb) _ (h8.below hb)).mono fun e W' h => ⟨fun h0 => absurd h0 hc, fun h0 => (h.2 h0).1, ButL.of (h.2 hc).2⟩)).mono ?_
    rintro e w' ⟨rfl, h1, h2⟩
    exact ⟨rfl, ⟨none, 0, h8.butl h2 (by simp), RowV.nil _ _ _, fun g off e => by simp at e⟩, ⟨h2.os, h2.tape, h2.output, h2.size, fun k hk _ => h2.block k hk (by simp)⟩⟩
end Go.Proofs.Ytgmnboacehopfaa
