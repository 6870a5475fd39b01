/-
  The functions of package fixed, each by its contract. Third part: Part and Scale whatever they are given; Try over a closure that stores a number; the reference's Part.
-/
import Derived.Test.YthffphcgkmjhbaaLawF
import Derived.Test.YthffphcgkmjhbaaBlk
import Derived.Test.YthffphcgkmjhbaaRefA
import Derived.Test.YthffphcgkmjhbaaRatC
import Derived.Test.YthffphcgkmjhbaaBigO
namespace Go.Proofs.Ythffphcgkmjhbaa
open Go.RowKit
set_option linter.unusedSimpArgs false
set_option linter.unusedVariables false

/-- A number, or a giving up. -/
def Gives (n c : Int) (w : World) (e : Ending) (w' : World) : Prop := (c = 0 → e = .returned (.int .i64 n)) ∧ (c ≠ 0 → e = .panicked (gave c)) ∧ Below w.heap.size w w'
def partE (a n d : Int) : Int := if d = 0 then 3 else if lenB (fq (a * n) d) then 0 else 2
def partN (a n d : Int) : Int := if d = 0 then 0 else if lenB (fq (a * n) d) then fq (a * n) d else 0
theorem lenB_iff (X : Int) : lenB X = true ↔ LenB X := by unfold lenB LenB; simp
theorem fix_part_any (a n d : Int) (ha : IFit a) (hn : IFit n) (hd : IFit d) (w : World) :
    Calls Try.prog 72 #[.int .i64 a, .int .i64 n, .int .i64 d] w (Gives (partN a n d) (partE a n d) w) := by
  unfold Gives partN partE
  by_cases h0 : d = 0
  · subst h0
    refine (fix_part_zero a n w).mono fun e w' h => ?_
    obtain ⟨rfl, rfl⟩ := h
    exact ⟨fun h => by simp at h, fun _ => by simp, Below.refl _ _⟩
  · simp only [if_neg h0]
    cases hl : lenB (fq (a * n) d)
    · exact (fix_part_no a n d ha hn hd h0 (fun h => by rw [(lenB_iff _).2 h] at hl; cases hl) w).mono fun e w' h => ⟨fun h => by simp at h, fun _ => h.1, h.2⟩
    · exact (fix_part a n d ha hn hd h0 ((lenB_iff _).1 hl) w).mono fun e w' h => ⟨fun _ => h.1, fun h => by simp at h, h.2⟩
def scaleE (n p q : Int) : Int := if goodB p q then partE n p q else 1
def scaleN (n p q : Int) : Int := if goodB p q then partN n p q else 0
theorem goodB_pos {p q : Int} (h : goodB p q = true) : 1 ≤ q := by unfold goodB at h; simp at h; omega
set_option maxRecDepth 100000 in
set_option maxHeartbeats 1600000 in
theorem fix_scale (n p q : Int) (hn : IFit n) (hp : IFit p) (hq : IFit q) (w : World) :
    Calls Try.prog 74 #[.int .i64 n, .agg #[.int .i64 p, .int .i64 q]] w (Gives (scaleN n p q) (scaleE n p q) w) := by
  have DN := fun W => rat_down n p q hn hp hq W
  have t := Rx.new w (.int .i64 p) (.int .i64 q) _ rfl
  have hB : Below w.heap.size w (w.alloc (.cells #[.int .i64 p, .int .i64 q] 57)) := (by repeat' (first | (with_reducible exact Below.refl _ _) | (with_reducible assumption) | (with_reducible refine below_alloc ?_ _ ?_) | (with_reducible refine below_set _ ?_ ?_) | (with_reducible refine Below.drew ?_) | (with_reducible refine below_dN ?_ _) | (apply below_thenA; assumption) | omega | (simp; done) | (simp; omega) | (simp [*]; done)))
  obtain ⟨p1, p2, p3, p4⟩ := t.cells
  unfold scaleN scaleE partN partE
  cases hg : goodB p q
  · have D1 := fun W => (DN W).mono fun _ _ h => (⟨h.1 hg, h.2.2.2⟩ : _ ∧ _)
    clear DN hg hn hp hq
    go_enter Try.func74, Try.ntmps74
    go_wp2_with fail
    refine (D1 _).mono ?_
    rintro e w1 ⟨rfl, hb1⟩
    replace hB := hB.trans (hb1.mono hB.size)
    go_wp2_with (go_at_call 62; with_reducible refine (fix_fail 1 (by decide) _).mono ?_; rintro e w2 ⟨rfl, rfl⟩)
    simp [bodyPost, Gives]
    exact hB
  · have hq1 := goodB_pos hg
    have h0 : ¬ q = 0 := by omega
    simp only [if_neg h0]
    by_cases hf : IFit (fq (n * p) q)
    · have D1 := fun W => (DN W).mono fun _ _ h => (⟨h.2.1 hg hf, h.2.2.2⟩ : _ ∧ _)
      cases hl : lenB (fq (n * p) q)
      · have OF := fun W => fix_of_no (fq (n * p) q) hf (fun h => by rw [(lenB_iff _).2 h] at hl; cases hl) W
        obtain ⟨F, eF⟩ : ∃ F, fq (n * p) q = F := ⟨_, rfl⟩
        rw [eF] at D1 OF
        clear DN hg hn hp hq eF hl hf hq1 h0
        go_enter Try.func74, Try.ntmps74
        go_wp2_with fail
        refine (D1 _).mono ?_
        rintro e w1 ⟨rfl, hb1⟩
        replace hB := hB.trans (hb1.mono hB.size)
        go_wp2_with (first
          | (go_at_call 62; with_reducible refine (fix_fail0 _).mono ?_; rintro e w2 ⟨rfl, rfl⟩)
          | (go_at_call 68; with_reducible refine (OF _).mono ?_; rintro e w2 ⟨rfl, rfl⟩))
        simp [bodyPost, Gives]
        exact hB
      · have OF := fun W => fix_of (fq (n * p) q) hf ((lenB_iff _).1 hl) W
        obtain ⟨F, eF⟩ : ∃ F, fq (n * p) q = F := ⟨_, rfl⟩
        rw [eF] at D1 OF ⊢
        clear DN hg hn hp hq eF hl hf hq1 h0
        go_enter Try.func74, Try.ntmps74
        go_wp2_with fail
        refine (D1 _).mono ?_
        rintro e w1 ⟨rfl, hb1⟩
        replace hB := hB.trans (hb1.mono hB.size)
        go_wp2_with (first
          | (go_at_call 62; with_reducible refine (fix_fail0 _).mono ?_; rintro e w2 ⟨rfl, rfl⟩)
          | (go_at_call 68; with_reducible refine (OF _).mono ?_; rintro e w2 ⟨rfl, rfl⟩))
        go_ret
        exact ⟨fun _ => rfl, fun h => absurd rfl h, hB⟩
    · have D1 := fun W => (DN W).mono fun _ _ h => (⟨h.2.2.1 hg hf, h.2.2.2⟩ : _ ∧ _)
      have hl : lenB (fq (n * p) q) = false := by
        rw [Bool.eq_false_iff]; intro h; exact hf ((lenB_iff _).1 h).fit
      rw [hl]
      clear DN hg hn hp hq hl hf hq1 h0
      go_enter Try.func74, Try.ntmps74
      go_wp2_with fail
      refine (D1 _).mono ?_
      rintro e w1 ⟨rfl, hb1⟩
      replace hB := hB.trans (hb1.mono hB.size)
      go_wp2_with (go_at_call 62; with_reducible refine (fix_fail2 _).mono ?_; rintro e w2 ⟨rfl, rfl⟩)
      simp [bodyPost, Gives]
      exact hB
theorem fix_px_any (a : Int) (ha : IFit a) (w : World) : Calls Try.prog 76 #[.int .i64 a] w (Gives (partN a 64 1) (partE a 64 1) w) := by
  have PT := fun W => fix_part_any a 64 1 ha (by unfold IFit; omega) (by unfold IFit; omega) W
  unfold partN partE at PT ⊢
  obtain ⟨F, eF⟩ : ∃ F, fq (a * 64) 1 = F := ⟨_, rfl⟩
  rw [eF] at PT ⊢
  simp only [if_neg (show ¬ (1 : Int) = 0 by decide)] at PT ⊢
  clear eF
  cases hl : lenB F
  · rw [hl] at PT
    clear hl
    go_enter Try.func76, Try.ntmps76
    go_wp2_with fail
    refine (PT _).mono ?_
    rintro e w1 ⟨_, h, hb1⟩
    obtain rfl := h (by decide)
    simp [bodyPost, Gives]
    exact hb1
  · rw [hl] at PT
    clear hl
    go_enter Try.func76, Try.ntmps76
    go_wp2_with fail
    refine (PT _).mono ?_
    rintro e w1 ⟨h, _, hb1⟩
    obtain rfl := h rfl
    go_wp2_with fail
    go_ret
    exact ⟨fun _ => rfl, fun h => absurd rfl h, hb1⟩
/-- A closure that puts a number into a block's cell, or gives up. -/
def Puts (b off : Nat) (n c : Int) (w : World) (e : Ending) (w' : World) : Prop :=
  (c = 0 → e = .returned (.tuple #[]) ∧ ∃ w3, Below w.heap.size w w3 ∧ w' = w3.setCell ⟨b, off, none⟩ (.int .i64 n)) ∧ (c ≠ 0 → e = .panicked (gave c) ∧ Below w.heap.size w w')
theorem try_puts (F : Nat) (cap : Array Value) (b off : Nat) (n c : Int) (w : World) (cs : Array Value) (T : TypeId) (hb : Blk w b cs T) (hen : ∀ w, (callFunc F cap).run Try.prog w = .ok (.enter F cap) w)
    (h : ∀ W, Below w.heap.size w W → Calls Try.prog F cap W (Puts b off n c W)) :
    Calls Try.prog 60 #[.func (.func F) #[] cap] w fun e w' => e = .returned (.int .i64 c) ∧ But b w w' ∧ Blk w' b (if c = 0 then cs.setIfInBounds off (.int .i64 n) else cs) T := by
  have hlt := hb.lt
  have o1 : Blk (w.alloc (.cells #[.int .i64 0] 58)) w.heap.size #[.int .i64 0] 58 := Blk.new w _ _ _ rfl
  have b1 := hb.alloc (.cells #[.int .i64 0] 58)
  refine (fix_try F cap w (fun c' w1 => c' = c ∧ But b (w.alloc (.cells #[.int .i64 0] 58)) w1 ∧ Blk w1 b (if c = 0 then cs.setIfInBounds off (.int .i64 n) else cs) T) hen ((h _ (by repeat' (first | (with_reducible exact Below.refl _ _) | (with_reducible assumption) | (with_reducible refine below_alloc ?_ _ ?_) | (with_reducible refine below_set _ ?_ ?_) | (with_reducible refine Below.drew ?_) | (with_reducible refine below_dN ?_ _) | (apply below_thenA; assumption) | omega | (simp; done) | (simp; omega) | (simp [*]; done)))).mono fun e w1 x => ?_)).mono fun e w' x => ?_
  · by_cases hc : c = 0
    · obtain ⟨rfl, w3, hb3, rfl⟩ := x.1 hc
      have o3 := (o1.below hb3).other (c := b) (by omega) off (.int .i64 n)
      refine ⟨o3.cell 0 _ rfl, o3.free 0, .inl ⟨rfl, hc.symm, (But.of hb3).trans (But.set _ _ _), ?_⟩⟩
      rw [if_pos hc]
      exact (b1.below hb3).set _ _
    · obtain ⟨rfl, hb3⟩ := x.2 hc
      have o3 := o1.below hb3
      refine ⟨o3.cell 0 _ rfl, o3.free 0, .inr ⟨c, rfl, rfl, But.of hb3, ?_⟩⟩
      rw [if_neg hc]
      exact b1.below hb3
  · obtain ⟨c', w1, ⟨rfl, hbut, hblk⟩, rfl, rfl⟩ := x
    refine ⟨rfl, ((But.of (b := b) (show Below w.heap.size w (w.alloc (.cells #[.int .i64 0] 58)) from (by repeat' (first | (with_reducible exact Below.refl _ _) | (with_reducible assumption) | (with_reducible refine below_alloc ?_ _ ?_) | (with_reducible refine below_set _ ?_ ?_) | (with_reducible refine Below.drew ?_) | (with_reducible refine below_dN ?_ _) | (apply below_thenA; assumption) | omega | (simp; done) | (simp; omega) | (simp [*]; done))))).trans hbut).setNew (Nat.le_refl _) _ _, hblk.other (by omega) _ _⟩
/-- Try over a closure that turns some old blocks. -/
theorem try_blks (F : Nat) (cap : Array Value) (c : Int) (L : List (Nat × Array Value × TypeId)) (w : World) (hl : ∀ e, e ∈ L → e.1 < w.heap.size) (hen : ∀ w, (callFunc F cap).run Try.prog w = .ok (.enter F cap) w)
    (h : ∀ W, Below w.heap.size w W → Calls Try.prog F cap W fun e W' => (c = 0 → e = .returned (.tuple #[])) ∧ (c ≠ 0 → e = .panicked (gave c)) ∧ BlkL W' L ∧ ButL (L.map (·.1)) W W') :
    Calls Try.prog 60 #[.func (.func F) #[] cap] w fun e w' => e = .returned (.int .i64 c) ∧ BlkL w' L ∧ ButL (L.map (·.1)) w w' := by
  have o1 : Blk (w.alloc (.cells #[.int .i64 0] 58)) w.heap.size #[.int .i64 0] 58 := Blk.new w _ _ _ rfl
  have hnew : w.heap.size ∉ L.map (·.1) := fun hm => by
    obtain ⟨e, he, e2⟩ := List.mem_map.1 hm
    have := hl e he
    omega
  refine (fix_try F cap w (fun c' w1 => c' = c ∧ BlkL w1 L ∧ ButL (L.map (·.1)) (w.alloc (.cells #[.int .i64 0] 58)) w1) hen ((h _ (by repeat' (first | (with_reducible exact Below.refl _ _) | (with_reducible assumption) | (with_reducible refine below_alloc ?_ _ ?_) | (with_reducible refine below_set _ ?_ ?_) | (with_reducible refine Below.drew ?_) | (with_reducible refine below_dN ?_ _) | (apply below_thenA; assumption) | omega | (simp; done) | (simp; omega) | (simp [*]; done)))).mono fun e w1 x => ?_)).mono fun e w' x => ?_
  · obtain ⟨x1, x2, x3, x4⟩ := x
    have o3 := o1.butl x4 hnew
    refine ⟨o3.cell 0 _ rfl, o3.free 0, ?_⟩
    by_cases hc : c = 0
    · exact .inl ⟨x1 hc, hc.symm, x3, x4⟩
    · exact .inr ⟨c, x2 hc, rfl, x3, x4⟩
  · obtain ⟨c', w1, ⟨rfl, hblk, hbut⟩, rfl, rfl⟩ := x
    refine ⟨rfl, fun e he => (hblk e he).other (Nat.ne_of_lt (hl e he)) _ _, ((ButL.of (l := L.map (·.1)) (show Below w.heap.size w (w.alloc (.cells #[.int .i64 0] 58)) from (by repeat' (first | (with_reducible exact Below.refl _ _) | (with_reducible assumption) | (with_reducible refine below_alloc ?_ _ ?_) | (with_reducible refine below_set _ ?_ ?_) | (with_reducible refine Below.drew ?_) | (with_reducible refine below_dN ?_ _) | (apply below_thenA; assumption) | omega | (simp; done) | (simp; omega) | (simp [*]; done))))).trans hbut).setNew (Nat.le_refl _) _ _⟩
set_option maxRecDepth 100000 in
set_option maxHeartbeats 3200000 in
theorem ref4_part (a n d : Int) (ha : IFit a) (hn : IFit n) (hd : IFit d) (w : World) :
    Calls Try.prog 77 #[.int .i64 a, .int .i64 n, .int .i64 d] w fun e w' => e = .returned (.tuple #[.int .i64 (partN a n d), .int .i64 (partE a n d)]) ∧ Below w.heap.size w w' := by
  unfold partN partE
  by_cases h0 : d = 0
  · subst h0
    simp only [if_true]
    clear ha hn hd
    go_enter Try.func77, Try.ntmps77
    go_wp2_with fail
    go_ret2
    exact ⟨rfl, Below.refl _ _⟩
  · simp only [if_neg h0]
    have hd0 : (d == 0) = false := by simp [h0]
    obtain ⟨x1, x2⟩ := ha
    obtain ⟨n1, n2⟩ := hn
    obtain ⟨d1, d2⟩ := hd
    have sx := BM.Sz.i64 x1 x2
    have sn := BM.Sz.i64 n1 n2
    have sd := BM.Sz.i64 d1 d2
    have sxn := BM.Sz.mul sx sn
    have sF : BM.Sz (fq (a * n) d) (4 + 4) := sxn.le (fq_abs h0)
    have DN := fun na nb ax bx k m ca cb W (h1 : IsBig W na ax k ca (a * n)) (h2 : IsBig W nb bx m cb d) hk hm => big_down na nb ax bx k m ca cb (a * n) d W h1 h2 hk hm h0
    obtain ⟨F, eF⟩ : ∃ F, fq (a * n) d = F := ⟨_, rfl⟩
    obtain ⟨R, eR⟩ : ∃ R, fr (a * n) d = R := ⟨_, rfl⟩
    rw [eF, eR] at DN
    rw [eF] at sF ⊢
    have TL := fun neg ao k cap W h hk => ref_told neg ao k cap F W h hk
    obtain ⟨V, eV⟩ : ∃ V : Int, (if lenB F then F else 0) = V := ⟨_, rfl⟩
    obtain ⟨E, eE⟩ : ∃ E : Int, (if lenB F then 0 else 2) = E := ⟨_, rfl⟩
    rw [eV, eE] at TL ⊢
    clear eF eR h0 eV eE
    go_enter Try.func77, Try.ntmps77
    go_wp2_with fail
    refine (big_of a x1 x2 _).mono ?_
    rintro e w1 ⟨a1, a2, a3, a4, rfl, I1, hB⟩
    go_wp2_with fail
    refine (big_of n n1 n2 _).mono ?_
    rintro e w2 ⟨b1, b2, b3, b4, rfl, I2, hb2⟩
    replace hB := hB.trans (hb2.mono hB.size)
    replace I1 := I1.keep hb2
    have k1 := I1.le sx
    have k2 := I2.le sn
    go_wp2_with fail
    refine (big_times a1 b1 a2 b2 a3 b3 a4 b4 a n _ I1 I2 (by omega) (by omega)).mono ?_
    rintro e w3 ⟨c1, c2, c3, c4, rfl, I3, hb3⟩
    replace hB := hB.trans (hb3.mono hB.size)
    go_wp2_with fail
    refine (big_of d d1 d2 _).mono ?_
    rintro e w4 ⟨f1, f2, f3, f4, rfl, I4, hb4⟩
    replace hB := hB.trans (hb4.mono hB.size)
    replace I3 := I3.keep hb4
    have k3 := I3.le sxn
    have k4 := I4.le sd
    clear I1 I2 hb2 hb3 hb4
    go_wp2_with fail
    refine (DN c1 f1 c2 f2 c3 f3 c4 f4 _ I3 I4 (by omega) (by omega)).mono ?_
    rintro e w5 hR
    obtain ⟨qn, qa, qk, qc, rn, ra, rk, rc, rfl, IQ, IR, hb5⟩ := hR.out
    replace hB := hB.trans (hb5.mono hB.size)
    have kq := IQ.le sF
    clear hR hb5 I3 I4 DN IR
    go_wp2_with fail
    refine (TL qn qa qk qc _ (IQ.keep (by repeat' (first | (with_reducible exact Below.refl _ _) | (with_reducible assumption) | (with_reducible refine below_alloc ?_ _ ?_) | (with_reducible refine below_set _ ?_ ?_) | (with_reducible refine Below.drew ?_) | (with_reducible refine below_dN ?_ _) | (apply below_thenA; assumption) | omega | (simp; done) | (simp; omega) | (simp [*]; done)))) (by omega)).mono ?_
    rintro e w6 ⟨rfl, hb6⟩
    have hz5 := hB.size
    have hB2 : Below w.heap.size w ((w5.alloc (.cells #[.bool qn, .slice qa qk qc] 29)).alloc (.cells #[.bool rn, .slice ra rk rc] 29)) := (by repeat' (first | (with_reducible exact Below.refl _ _) | (with_reducible assumption) | (with_reducible refine below_alloc ?_ _ ?_) | (with_reducible refine below_set _ ?_ ?_) | (with_reducible refine Below.drew ?_) | (with_reducible refine below_dN ?_ _) | (apply below_thenA; assumption) | omega | (simp; done) | (simp; omega) | (simp [*]; done)))
    replace hB := hB2.trans (hb6.mono hB2.size)
    go_wp2_with fail
    go_ret2
    exact ⟨rfl, hB⟩
end Go.Proofs.Ythffphcgkmjhbaa
