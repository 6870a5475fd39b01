/-
  The functions of package ratio, each by its contract. Second part: Of.
-/
import Derived.Test.YthffphcgkmjhbaaRatA
namespace Go.Proofs.Ythffphcgkmjhbaa
open Go.RowKit
set_option linter.unusedSimpArgs false
set_option linter.unusedVariables false

/-- A block of two cells. -/
def Rx (w : World) (b : Nat) (x y : Value) : Prop := w.heap[b]? = some (Obj.cells #[x, y] 57 (0, 0))
theorem Rx.cells {w : World} {b : Nat} {x y : Value} (h : Rx w b x y) : w.cell? ⟨b, 0, none⟩ = some x ∧ w.cell? ⟨b, 1, none⟩ = some y ∧ w.frozen? ⟨b, 0, none⟩ = false ∧ w.frozen? ⟨b, 1, none⟩ = false := by
  refine ⟨by rw [cell_of_row w b 0 _ _ _ h]; rfl, by rw [cell_of_row w b 1 _ _ _ h]; rfl, ?_, ?_⟩ <;> simp [World.frozen?, show w.heap[b]? = _ from h]
theorem Rx.lt {w : World} {b : Nat} {x y : Value} (h : Rx w b x y) : b < w.heap.size := (Array.getElem?_eq_some_iff.1 h).1
theorem Rx.new (w : World) (x y : Value) (b : Nat) (hb : b = w.heap.size) : Rx (w.alloc (.cells #[x, y] 57)) b x y := by subst hb; exact heap_alloc_new w _
theorem Rx.below {w w' : World} {b : Nat} {x y : Value} (h : Rx w b x y) (hb : Below w.heap.size w w') : Rx w' b x y := (hb.block b h.lt).trans h
theorem Rx.drew {w : World} {b : Nat} {x y : Value} (h : Rx w b x y) : Rx w.drew b x y := h
theorem quo_u64 (a g A : Nat) (ha : a < 18446744073709551616) (h : a / g = A) : IntKind.u64.wrap ((a : Int) / (g : Int)) = (A : Int) := by
  have h1 : a / g ≤ a := Nat.div_le_self _ _
  rw [h] at h1
  rw [← Int.natCast_ediv, h, IntKind.wrap_u64, Int.emod_eq_of_lt (by omega) (by omega)]
def limR (neg : Bool) : Int := if neg then 9223372036854775808 else 9223372036854775807
/-- What Of answers: the ratio in lowest terms, or that it is no pair of ints. -/
def OfAns (neg : Bool) (A B : Nat) (w : World) (e : Ending) (w' : World) : Prop :=
  (((A : Int) ≤ limR neg ∧ (B : Int) ≤ 9223372036854775807) → e = .returned (.tuple #[.agg #[.int .i64 (if neg then -(A : Int) else (A : Int)), .int .i64 ((B : Int))], .int .i64 0])) ∧
  (¬ ((A : Int) ≤ limR neg ∧ (B : Int) ≤ 9223372036854775807) → e = .returned (.tuple #[.agg #[.int .i64 0, .int .i64 0], .int .i64 2])) ∧ Below w.heap.size w w'
theorem OfAns.both {neg : Bool} {A B : Nat} {w : World} {v u : Int} {w' : World} (h : (A : Int) ≤ limR neg) (h' : (B : Int) ≤ 9223372036854775807) (hv : v = if neg then -(A : Int) else (A : Int)) (hu : u = (B : Int)) (hb : Below w.heap.size w w') :
    OfAns neg A B w (.returned (.tuple #[.agg #[.int .i64 v, .int .i64 u], .int .i64 0])) w' := ⟨fun _ => by rw [hv, hu], fun x => absurd ⟨h, h'⟩ x, hb⟩
theorem OfAns.none {neg : Bool} {A B : Nat} {w : World} {w' : World} (h : ¬ ((A : Int) ≤ limR neg ∧ (B : Int) ≤ 9223372036854775807)) (hb : Below w.heap.size w w') :
    OfAns neg A B w (.returned (.tuple #[.agg #[.int .i64 0, .int .i64 0], .int .i64 2])) w' := ⟨fun x => absurd x h, fun _ => rfl, hb⟩
theorem BP2 {w w' : World} {B b : Nat} {u v : Value} (h : Below B w w') (hb : B ≤ b := by omega) : Below B w ((w'.setCell ⟨b, 0, none⟩ u).setCell ⟨b, 1, none⟩ v) :=
  (h.setCell (p := ⟨b, 0, none⟩) hb u).setCell (p := ⟨b, 1, none⟩) hb v

set_option maxRecDepth 100000 in
set_option maxHeartbeats 3200000 in
theorem rat_of_neg (n d : Int) (hn : IFit n) (hd : IFit d) (h0 : d ≠ 0) (hz : n ≠ 0) (hs : (n < 0 ∧ 0 < d) ∨ (0 < n ∧ d < 0)) (A B : Nat) (hA : n.natAbs / Nat.gcd n.natAbs d.natAbs = A) (hB : d.natAbs / Nat.gcd n.natAbs d.natAbs = B) (w : World) :
    Calls Try.prog 44 #[.int .i64 n, .int .i64 d] w (OfAns true A B w) := by
  have S1 := rat_size n hn
  have S2 := rat_size d hd
  have hda : 0 < d.natAbs := by omega
  obtain ⟨x1, x2⟩ := hn
  obtain ⟨y1, y2⟩ := hd
  have ha : n.natAbs < 18446744073709551616 := by omega
  have hb : d.natAbs < 18446744073709551616 := by omega
  have hg0 : 0 < Nat.gcd n.natAbs d.natAbs := Nat.gcd_pos_of_pos_right _ hda
  have CM := rat_common n.natAbs d.natAbs ha hb
  obtain ⟨a, ea⟩ : ∃ a, n.natAbs = a := ⟨_, rfl⟩
  obtain ⟨b, eb⟩ : ∃ b, d.natAbs = b := ⟨_, rfl⟩
  rw [ea] at S1 CM hA hB hg0 ha
  rw [eb] at S2 CM hA hB hg0 hb
  obtain ⟨g, eg⟩ : ∃ g, Nat.gcd a b = g := ⟨_, rfl⟩
  rw [eg] at CM hA hB hg0
  have hAl : A ≤ a := by rw [← hA]; exact Nat.div_le_self _ _
  have hBl : B ≤ b := by rw [← hB]; exact Nat.div_le_self _ _
  have Q1 := quo_u64 a g A ha hA
  have Q2 := quo_u64 b g B hb hB
  have hgi : (0 : Int) < (g : Int) := by omega
  have SG := rat_signed_neg A (by omega)
  have SH := rat_signed_pos B (by omega)
  have hne : (d == 0) = false := by simp [h0]
  obtain ⟨o1, eo1⟩ : ∃ o, decide ((A : Int) ≤ 9223372036854775808) = o := ⟨_, rfl⟩
  obtain ⟨o2, eo2⟩ : ∃ o, decide ((B : Int) ≤ 9223372036854775807) = o := ⟨_, rfl⟩
  have EO1 := Lib.hid eo1
  have EO2 := Lib.hid eo2
  have t1 := Rx.new w (.int .i64 0) (.int .i64 0) _ rfl
  have hB1 : Below w.heap.size w (w.alloc (.cells #[.int .i64 0, .int .i64 0] 57)) := (by repeat' (first | (with_reducible exact Below.refl _ _) | (with_reducible assumption) | (with_reducible refine below_alloc ?_ _ ?_) | (with_reducible refine below_set _ ?_ ?_) | (with_reducible refine Below.drew ?_) | (with_reducible refine below_dN ?_ _) | (apply below_thenA; assumption) | omega | (simp; done) | (simp; omega) | (simp [*]; done)))
  clear ea eb eg hA hB eo1 eo2 hda hg0
  have hzb : (n != 0) = true := by simp [hz]
  rcases hs with ⟨s1, s2⟩ | ⟨s1, s2⟩
  · have f1 : decide (n < 0) = true := by simp [s1]
    have f2 : decide (d < 0) = false := by simp; omega
    go_enter Try.func44, Try.ntmps44
    go_wp2_with fail
    refine (S1 _).mono ?_
    rintro e w1 ⟨rfl, rfl⟩
    go_wp2_with fail
    refine (S2 _).mono ?_
    rintro e w1 ⟨rfl, rfl⟩
    go_wp2_with fail
    refine (CM _).mono ?_
    rintro e w2 ⟨rfl, hb2⟩
    have t2 := t1.below hb2
    have hB2 := hB1.trans (hb2.mono hB1.size)
    go_wp2_with fail
    refine (SG _).mono ?_
    rintro e w3 ⟨⟨v, rfl, hv⟩, rfl⟩
    have HV := Lib.hid hv
    clear hv
    rw [EO1.out]
    go_wp2_with fail
    refine (SH _).mono ?_
    rintro e w4 ⟨⟨u, rfl, hu⟩, rfl⟩
    have HU := Lib.hid hu
    clear hu
    rw [EO2.out]
    obtain ⟨p1, p2, p3, p4⟩ := t2.cells
    have l2 := t2.lt
    cases o1
    · go_wp2_with fail
      (go_light; simp [bodyPost, results, Try.results44, go_sem, *])
      exact OfAns.none (fun x => absurd x.1 (by have := EO1.out; simpa [limR] using this)) (BP2 hB2)
    · cases o2
      · go_wp2_with fail
        (go_light; simp [bodyPost, results, Try.results44, go_sem, *])
        exact OfAns.none (fun x => absurd x.2 (by have := EO2.out; simpa using this)) (BP2 hB2)
      · go_wp2_with fail
        (go_light; simp [bodyPost, results, Try.results44, go_sem, *])
        have k1 := of_decide_eq_true EO1.out
        have k2 := of_decide_eq_true EO2.out
        exact OfAns.both (by simpa [limR] using k1) k2 (by rw [HV.out (by omega)]; rfl) (HU.out (by omega)) (BP2 hB2)
  · have f1 : decide (n < 0) = false := by simp; omega
    have f2 : decide (d < 0) = true := by simp [s2]
    go_enter Try.func44, Try.ntmps44
    go_wp2_with fail
    refine (S1 _).mono ?_
    rintro e w1 ⟨rfl, rfl⟩
    go_wp2_with fail
    refine (S2 _).mono ?_
    rintro e w1 ⟨rfl, rfl⟩
    go_wp2_with fail
    refine (CM _).mono ?_
    rintro e w2 ⟨rfl, hb2⟩
    have t2 := t1.below hb2
    have hB2 := hB1.trans (hb2.mono hB1.size)
    go_wp2_with fail
    refine (SG _).mono ?_
    rintro e w3 ⟨⟨v, rfl, hv⟩, rfl⟩
    have HV := Lib.hid hv
    clear hv
    rw [EO1.out]
    go_wp2_with fail
    refine (SH _).mono ?_
    rintro e w4 ⟨⟨u, rfl, hu⟩, rfl⟩
    have HU := Lib.hid hu
    clear hu
    rw [EO2.out]
    obtain ⟨p1, p2, p3, p4⟩ := t2.cells
    have l2 := t2.lt
    cases o1
    · go_wp2_with fail
      (go_light; simp [bodyPost, results, Try.results44, go_sem, *])
      exact OfAns.none (fun x => absurd x.1 (by have := EO1.out; simpa [limR] using this)) (BP2 hB2)
    · cases o2
      · go_wp2_with fail
        (go_light; simp [bodyPost, results, Try.results44, go_sem, *])
        exact OfAns.none (fun x => absurd x.2 (by have := EO2.out; simpa using this)) (BP2 hB2)
      · go_wp2_with fail
        (go_light; simp [bodyPost, results, Try.results44, go_sem, *])
        have k1 := of_decide_eq_true EO1.out
        have k2 := of_decide_eq_true EO2.out
        exact OfAns.both (by simpa [limR] using k1) k2 (by rw [HV.out (by omega)]; rfl) (HU.out (by omega)) (BP2 hB2)

set_option maxRecDepth 100000 in
set_option maxHeartbeats 3200000 in
theorem rat_of_pos (n d : Int) (hn : IFit n) (hd : IFit d) (h0 : d ≠ 0) (hs : n = 0 ∨ (n < 0 ∧ d < 0) ∨ (0 < n ∧ 0 < d)) (A B : Nat) (hA : n.natAbs / Nat.gcd n.natAbs d.natAbs = A) (hB : d.natAbs / Nat.gcd n.natAbs d.natAbs = B) (w : World) :
    Calls Try.prog 44 #[.int .i64 n, .int .i64 d] w (OfAns false A B w) := by
  have S1 := rat_size n hn
  have S2 := rat_size d hd
  have hda : 0 < d.natAbs := by omega
  obtain ⟨x1, x2⟩ := hn
  obtain ⟨y1, y2⟩ := hd
  have ha : n.natAbs < 18446744073709551616 := by omega
  have hb : d.natAbs < 18446744073709551616 := by omega
  have hg0 : 0 < Nat.gcd n.natAbs d.natAbs := Nat.gcd_pos_of_pos_right _ hda
  have CM := rat_common n.natAbs d.natAbs ha hb
  obtain ⟨a, ea⟩ : ∃ a, n.natAbs = a := ⟨_, rfl⟩
  obtain ⟨b, eb⟩ : ∃ b, d.natAbs = b := ⟨_, rfl⟩
  rw [ea] at S1 CM hA hB hg0 ha
  rw [eb] at S2 CM hA hB hg0 hb
  obtain ⟨g, eg⟩ : ∃ g, Nat.gcd a b = g := ⟨_, rfl⟩
  rw [eg] at CM hA hB hg0
  have hAl : A ≤ a := by rw [← hA]; exact Nat.div_le_self _ _
  have hBl : B ≤ b := by rw [← hB]; exact Nat.div_le_self _ _
  have Q1 := quo_u64 a g A ha hA
  have Q2 := quo_u64 b g B hb hB
  have hgi : (0 : Int) < (g : Int) := by omega
  have SG := rat_signed_pos A (by omega)
  have SH := rat_signed_pos B (by omega)
  have hne : (d == 0) = false := by simp [h0]
  obtain ⟨o1, eo1⟩ : ∃ o, decide ((A : Int) ≤ 9223372036854775807) = o := ⟨_, rfl⟩
  obtain ⟨o2, eo2⟩ : ∃ o, decide ((B : Int) ≤ 9223372036854775807) = o := ⟨_, rfl⟩
  have EO1 := Lib.hid eo1
  have EO2 := Lib.hid eo2
  have t1 := Rx.new w (.int .i64 0) (.int .i64 0) _ rfl
  have hB1 : Below w.heap.size w (w.alloc (.cells #[.int .i64 0, .int .i64 0] 57)) := (by repeat' (first | (with_reducible exact Below.refl _ _) | (with_reducible assumption) | (with_reducible refine below_alloc ?_ _ ?_) | (with_reducible refine below_set _ ?_ ?_) | (with_reducible refine Below.drew ?_) | (with_reducible refine below_dN ?_ _) | (apply below_thenA; assumption) | omega | (simp; done) | (simp; omega) | (simp [*]; done)))
  clear ea eb eg hA hB eo1 eo2 hda hg0
  rcases hs with rfl | ⟨s1, s2⟩ | ⟨s1, s2⟩
  · clear x1 x2
    go_enter Try.func44, Try.ntmps44
    go_wp2_with fail
    refine (S1 _).mono ?_
    rintro e w1 ⟨rfl, rfl⟩
    go_wp2_with fail
    refine (S2 _).mono ?_
    rintro e w1 ⟨rfl, rfl⟩
    go_wp2_with fail
    refine (CM _).mono ?_
    rintro e w2 ⟨rfl, hb2⟩
    have t2 := t1.below hb2
    have hB2 := hB1.trans (hb2.mono hB1.size)
    go_wp2_with fail
    refine (SG _).mono ?_
    rintro e w3 ⟨⟨v, rfl, hv⟩, rfl⟩
    have HV := Lib.hid hv
    clear hv
    rw [EO1.out]
    go_wp2_with fail
    refine (SH _).mono ?_
    rintro e w4 ⟨⟨u, rfl, hu⟩, rfl⟩
    have HU := Lib.hid hu
    clear hu
    rw [EO2.out]
    obtain ⟨p1, p2, p3, p4⟩ := t2.cells
    have l2 := t2.lt
    cases o1
    · go_wp2_with fail
      (go_light; simp [bodyPost, results, Try.results44, go_sem, *])
      exact OfAns.none (fun x => absurd x.1 (by have := EO1.out; simpa [limR] using this)) (BP2 hB2)
    · cases o2
      · go_wp2_with fail
        (go_light; simp [bodyPost, results, Try.results44, go_sem, *])
        exact OfAns.none (fun x => absurd x.2 (by have := EO2.out; simpa using this)) (BP2 hB2)
      · go_wp2_with fail
        (go_light; simp [bodyPost, results, Try.results44, go_sem, *])
        have k1 := of_decide_eq_true EO1.out
        have k2 := of_decide_eq_true EO2.out
        exact OfAns.both (by simpa [limR] using k1) k2 (by rw [HV.out (by omega)]; rfl) (HU.out (by omega)) (BP2 hB2)
  · have hzb : (n != 0) = true := by simp; omega
    have f1 : decide (n < 0) = true := by simp [s1]
    have f2 : decide (d < 0) = true := by simp [s2]
    go_enter Try.func44, Try.ntmps44
    go_wp2_with fail
    refine (S1 _).mono ?_
    rintro e w1 ⟨rfl, rfl⟩
    go_wp2_with fail
    refine (S2 _).mono ?_
    rintro e w1 ⟨rfl, rfl⟩
    go_wp2_with fail
    refine (CM _).mono ?_
    rintro e w2 ⟨rfl, hb2⟩
    have t2 := t1.below hb2
    have hB2 := hB1.trans (hb2.mono hB1.size)
    go_wp2_with fail
    refine (SG _).mono ?_
    rintro e w3 ⟨⟨v, rfl, hv⟩, rfl⟩
    have HV := Lib.hid hv
    clear hv
    rw [EO1.out]
    go_wp2_with fail
    refine (SH _).mono ?_
    rintro e w4 ⟨⟨u, rfl, hu⟩, rfl⟩
    have HU := Lib.hid hu
    clear hu
    rw [EO2.out]
    obtain ⟨p1, p2, p3, p4⟩ := t2.cells
    have l2 := t2.lt
    cases o1
    · go_wp2_with fail
      (go_light; simp [bodyPost, results, Try.results44, go_sem, *])
      exact OfAns.none (fun x => absurd x.1 (by have := EO1.out; simpa [limR] using this)) (BP2 hB2)
    · cases o2
      · go_wp2_with fail
        (go_light; simp [bodyPost, results, Try.results44, go_sem, *])
        exact OfAns.none (fun x => absurd x.2 (by have := EO2.out; simpa using this)) (BP2 hB2)
      · go_wp2_with fail
        (go_light; simp [bodyPost, results, Try.results44, go_sem, *])
        have k1 := of_decide_eq_true EO1.out
        have k2 := of_decide_eq_true EO2.out
        exact OfAns.both (by simpa [limR] using k1) k2 (by rw [HV.out (by omega)]; rfl) (HU.out (by omega)) (BP2 hB2)
  · have hzb : (n != 0) = true := by simp; omega
    have f1 : decide (n < 0) = false := by simp; omega
    have f2 : decide (d < 0) = false := by simp; omega
    go_enter Try.func44, Try.ntmps44
    go_wp2_with fail
    refine (S1 _).mono ?_
    rintro e w1 ⟨rfl, rfl⟩
    go_wp2_with fail
    refine (S2 _).mono ?_
    rintro e w1 ⟨rfl, rfl⟩
    go_wp2_with fail
    refine (CM _).mono ?_
    rintro e w2 ⟨rfl, hb2⟩
    have t2 := t1.below hb2
    have hB2 := hB1.trans (hb2.mono hB1.size)
    go_wp2_with fail
    refine (SG _).mono ?_
    rintro e w3 ⟨⟨v, rfl, hv⟩, rfl⟩
    have HV := Lib.hid hv
    clear hv
    rw [EO1.out]
    go_wp2_with fail
    refine (SH _).mono ?_
    rintro e w4 ⟨⟨u, rfl, hu⟩, rfl⟩
    have HU := Lib.hid hu
    clear hu
    rw [EO2.out]
    obtain ⟨p1, p2, p3, p4⟩ := t2.cells
    have l2 := t2.lt
    cases o1
    · go_wp2_with fail
      (go_light; simp [bodyPost, results, Try.results44, go_sem, *])
      exact OfAns.none (fun x => absurd x.1 (by have := EO1.out; simpa [limR] using this)) (BP2 hB2)
    · cases o2
      · go_wp2_with fail
        (go_light; simp [bodyPost, results, Try.results44, go_sem, *])
        exact OfAns.none (fun x => absurd x.2 (by have := EO2.out; simpa using this)) (BP2 hB2)
      · go_wp2_with fail
        (go_light; simp [bodyPost, results, Try.results44, go_sem, *])
        have k1 := of_decide_eq_true EO1.out
        have k2 := of_decide_eq_true EO2.out
        exact OfAns.both (by simpa [limR] using k1) k2 (by rw [HV.out (by omega)]; rfl) (HU.out (by omega)) (BP2 hB2)
end Go.Proofs.Ythffphcgkmjhbaa
