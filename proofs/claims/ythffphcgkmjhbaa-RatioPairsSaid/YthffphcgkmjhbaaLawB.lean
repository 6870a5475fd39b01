/-
  The statements of layer 1 that name no reference: WideOrder.
-/
import Derived.Test.YthffphcgkmjhbaaLawA
import Derived.Deep.DeepCutAuto
namespace Go.Proofs.Ythffphcgkmjhbaa
open Go.RowKit
set_option linter.unusedSimpArgs false
set_option linter.unusedVariables false

/-- A box of two cells. -/
def Bx (w : World) (b : Nat) (T : TypeId) (x y : Value) : Prop := w.heap[b]? = some (Obj.cells #[x, y] T (0, 0))
theorem Bx.cells {w : World} {b : Nat} {T : TypeId} {x y : Value} (h : Bx w b T x y) : w.cell? ⟨b, 0, none⟩ = some x ∧ w.cell? ⟨b, 1, none⟩ = some y ∧ w.frozen? ⟨b, 0, none⟩ = false ∧ w.frozen? ⟨b, 1, none⟩ = false := by
  refine ⟨by rw [cell_of_row w b 0 _ _ _ h]; rfl, by rw [cell_of_row w b 1 _ _ _ h]; rfl, ?_, ?_⟩ <;> simp [World.frozen?, show w.heap[b]? = _ from h]
theorem Bx.lt {w : World} {b : Nat} {T : TypeId} {x y : Value} (h : Bx w b T x y) : b < w.heap.size := (Array.getElem?_eq_some_iff.1 h).1
theorem Bx.alloc {w : World} {b : Nat} {T : TypeId} {x y : Value} (h : Bx w b T x y) (o : Obj) : Bx (w.alloc o) b T x y := (Below.heap_alloc w o _ h.lt).trans h
theorem Bx.new (w : World) (T : TypeId) (x y : Value) (b : Nat) (hb : b = w.heap.size) : Bx (w.alloc (.cells #[x, y] T)) b T x y := by
  subst hb; exact heap_alloc_new w _
theorem Bx.below {w w' : World} {b : Nat} {T : TypeId} {x y : Value} (h : Bx w b T x y) (hb : Below w.heap.size w w') : Bx w' b T x y := (hb.block b h.lt).trans h
theorem Bx.drew {w : World} {b : Nat} {T : TypeId} {x y : Value} (h : Bx w b T x y) : Bx w.drew b T x y := h

/-- What Add and Neg answer: the number, if it fits. -/
def AnsW (n : Int) (w : World) (e : Ending) (w' : World) : Prop := ∃ vh vl ok, e = .returned (.tuple #[.agg #[.int .i64 vh, .int .u64 vl], .bool ok]) ∧ (ok = true → Wd vh vl n) ∧ Below w.heap.size w w'
theorem AnsW.out {n : Int} {w : World} {e : Ending} {w' : World} (h : AnsW n w e w') : ∃ vh vl ok, e = .returned (.tuple #[.agg #[.int .i64 vh, .int .u64 vl], .bool ok]) ∧ (ok = true → Wd vh vl n) ∧ Below w.heap.size w w' := h
theorem WAns.any {n : Int} {w : World} {e : Ending} {w' : World} (h : WAns n w.heap.size w e w') : AnsW n w e w' := by
  by_cases hf : WFit n
  · exact ⟨_, _, true, h.1 hf, fun _ => Wd.of hf, h.2.2⟩
  · exact ⟨_, _, false, h.2.1 hf, fun e => by simp at e, h.2.2⟩
theorem wide_add_any (a b h1 l1 h2 l2 : Int) (ha : Wd h1 l1 a) (hb : Wd h2 l2 b) (w : World) :
    Calls Try.prog 38 #[.agg #[.int .i64 h1, .int .u64 l1], .agg #[.int .i64 h2, .int .u64 l2]] w (AnsW (a + b) w) := (wide_add a b h1 l1 h2 l2 ha hb w).mono fun _ _ h => h.any
theorem wide_neg_any (a h1 l1 : Int) (ha : Wd h1 l1 a) (w : World) :
    Calls Try.prog 37 #[.agg #[.int .i64 h1, .int .u64 l1]] w (AnsW (-a) w) := (wide_neg a h1 l1 ha w).mono fun _ _ h => h.any
theorem wide_cmp_at (a b h1 l1 h2 l2 c : Int) (ha : Wd h1 l1 a) (hb : Wd h2 l2 b) (hc : cmp3 a b = c) (w : World) :
    Calls Try.prog 41 #[.agg #[.int .i64 h1, .int .u64 l1], .agg #[.int .i64 h2, .int .u64 l2]] w fun e w' => e = .returned (.int .i64 c) ∧ Below w.heap.size w w' := by
  subst hc; exact wide_cmp a b h1 l1 h2 l2 ha hb w
theorem Wd.eq1 {h1 l1 h2 l2 x y : Int} (hx : Wd h1 l1 x) (hy : Wd h2 l2 y) (h : h1 = h2) (l : l1 = l2) : x = y := by unfold Wd at *; subst h; subst l; omega
theorem Wd.eq2 {h1 l1 h2 l2 x y : Int} (hx : Wd h1 l1 x) (hy : Wd h2 l2 y) (h : x = y) : h1 = h2 ∧ l1 = l2 := by unfold Wd at *; omega
theorem cmp3_flip (a b : Int) : cmp3 b a = -cmp3 a b := by
  unfold cmp3
  by_cases h : a < b
  · rw [if_pos h, if_neg (by omega), if_pos h]; rfl
  · by_cases h2 : b < a
    · rw [if_pos h2, if_neg h, if_pos h2]
    · rw [if_neg h2, if_neg h, if_neg h, if_neg h2]; rfl
theorem cmp3_shift (a b c : Int) : cmp3 (a + c) (b + c) = cmp3 a b := by
  unfold cmp3
  by_cases h : a < b
  · rw [if_pos h, if_pos (by omega)]
  · by_cases h2 : b < a
    · rw [if_neg h, if_pos h2, if_neg (by omega), if_pos (by omega)]
    · rw [if_neg h, if_neg h2, if_neg (by omega), if_neg (by omega)]
theorem cmp3_negs (a b : Int) : cmp3 (-a) (-b) = -cmp3 a b := by
  rw [← cmp3_flip]
  unfold cmp3
  by_cases h : a < b
  · rw [if_neg (by omega), if_pos (by omega), if_neg (by omega), if_pos h]
  · by_cases h2 : b < a
    · rw [if_pos (by omega), if_pos h2]
    · rw [if_neg (by omega), if_neg (by omega), if_neg h2, if_neg h]
theorem cmp3_cases (a b : Int) : (cmp3 a b = -1 ∧ a < b) ∨ (cmp3 a b = 0 ∧ a = b) ∨ (cmp3 a b = 1 ∧ b < a) := by
  unfold cmp3
  by_cases h : a < b
  · rw [if_pos h]; exact .inl ⟨rfl, h⟩
  · by_cases h2 : b < a
    · rw [if_neg h, if_pos h2]; exact .inr (.inr ⟨rfl, h2⟩)
    · rw [if_neg h, if_neg h2]; exact .inr (.inl ⟨rfl, by omega⟩)
def Boxes3 (w wc : World) (b7 b8 b9 : Nat) (h1 l1 h2 l2 h3 l3 : Int) : Prop :=
  Bx wc b7 25 (.int .i64 h1) (.int .u64 l1) ∧ Bx wc b8 25 (.int .i64 h2) (.int .u64 l2) ∧ Bx wc b9 25 (.int .i64 h3) (.int .u64 l3) ∧ Below w.heap.size w wc
theorem Boxes3.step {w wc wd : World} {b7 b8 b9 : Nat} {h1 l1 h2 l2 h3 l3 : Int} (h : Boxes3 w wc b7 b8 b9 h1 l1 h2 l2 h3 l3) (hb : Below wc.heap.size wc wd) : Boxes3 w wd b7 b8 b9 h1 l1 h2 l2 h3 l3 :=
  ⟨h.1.below hb, h.2.1.below hb, h.2.2.1.below hb, h.2.2.2.trans (hb.mono h.2.2.2.size)⟩
theorem Boxes3.alloc {w wc : World} {b7 b8 b9 : Nat} {h1 l1 h2 l2 h3 l3 : Int} (h : Boxes3 w wc b7 b8 b9 h1 l1 h2 l2 h3 l3) (o : Obj) : Boxes3 w (wc.alloc o) b7 b8 b9 h1 l1 h2 l2 h3 l3 :=
  ⟨h.1.alloc o, h.2.1.alloc o, h.2.2.1.alloc o, h.2.2.2.alloc h.2.2.2.size o⟩
theorem Boxes3.c1 {w wc : World} {b7 b8 b9 : Nat} {h1 l1 h2 l2 h3 l3 : Int} (h : Boxes3 w wc b7 b8 b9 h1 l1 h2 l2 h3 l3) : Bx wc b7 25 (.int .i64 h1) (.int .u64 l1) := h.1
theorem Boxes3.c2 {w wc : World} {b7 b8 b9 : Nat} {h1 l1 h2 l2 h3 l3 : Int} (h : Boxes3 w wc b7 b8 b9 h1 l1 h2 l2 h3 l3) : Bx wc b8 25 (.int .i64 h2) (.int .u64 l2) := h.2.1
theorem Boxes3.c3 {w wc : World} {b7 b8 b9 : Nat} {h1 l1 h2 l2 h3 l3 : Int} (h : Boxes3 w wc b7 b8 b9 h1 l1 h2 l2 h3 l3) : Bx wc b9 25 (.int .i64 h3) (.int .u64 l3) := h.2.2.1
def Cut3 (w : World) (h1 l1 h2 l2 h3 l3 : Int) (s7 s8 s9 : Value) (wc : World) : Prop :=
  ∃ b7 b8 b9, s7 = .pointer (some ⟨b7, 0, none⟩) ∧ s8 = .pointer (some ⟨b8, 0, none⟩) ∧ s9 = .pointer (some ⟨b9, 0, none⟩) ∧ Boxes3 w wc b7 b8 b9 h1 l1 h2 l2 h3 l3

set_option maxRecDepth 100000 in
set_option maxHeartbeats 1600000 in
theorem law_order (x y z h1 l1 h2 l2 h3 l3 : Int) (hx : Wd h1 l1 x) (hy : Wd h2 l2 y) (hz : Wd h3 l3 z) (w : World) :
    Calls Try.prog 7 #[.agg #[.int .i64 h1, .int .u64 l1], .agg #[.int .i64 h2, .int .u64 l2], .agg #[.int .i64 h3, .int .u64 l3]] w fun e w' => e = .returned (.bool true) ∧ Below w.heap.size w w' := by
  go_enter Try.func7, Try.ntmps7
  go_upto_region 3 with (first
    | (go_at_call 24; (with_reducible refine (speaks01 _).mono ?_); rintro e w' ⟨rfl, hb'⟩; obtain ⟨hc', hf'⟩ := bcell hb'; have hz' := bz3 (n := w.heap.size) hb' (by (try simp) <;> omega); have hs' := hb'.size; (try simp at hs'); (try (have hs2' := Nat.lt_of_succ_le hs'))))
  go_cut [7, 8, 9] from 10 (fun s7 s8 s9 wc => Cut3 w h1 l1 h2 l2 h3 l3 s7 s8 s9 wc)
  case first =>
    have hW : Below w.heap.size w w' := (by repeat' (first | (with_reducible exact Below.refl _ _) | (with_reducible assumption) | (with_reducible refine below_alloc ?_ _ ?_) | (with_reducible refine below_set _ ?_ ?_) | (with_reducible refine Below.drew ?_) | (with_reducible refine below_dN ?_ _) | (apply below_thenA; assumption) | omega | (simp; done) | (simp; omega) | (simp [*]; done)))
    go_region
    all_goals
      go_wp2_with fail
      go_meet
      case rel =>
        refine ⟨_, _, _, rfl, rfl, rfl, ?_, ?_, ?_, ?_⟩
        · refine Bx.drew ?_; first | exact Bx.new _ _ _ _ _ rfl | exact Bx.new _ _ _ _ _ (by simp) | exact (Bx.new _ _ _ _ _ rfl).alloc _ | exact (Bx.new _ _ _ _ _ (by simp)).alloc _ | exact ((Bx.new _ _ _ _ _ rfl).alloc _).alloc _
        · refine Bx.drew ?_; first | exact Bx.new _ _ _ _ _ rfl | exact Bx.new _ _ _ _ _ (by simp) | exact (Bx.new _ _ _ _ _ rfl).alloc _ | exact (Bx.new _ _ _ _ _ (by simp)).alloc _ | exact ((Bx.new _ _ _ _ _ rfl).alloc _).alloc _
        · refine Bx.drew ?_; first | exact Bx.new _ _ _ _ _ rfl | exact Bx.new _ _ _ _ _ (by simp) | exact (Bx.new _ _ _ _ _ rfl).alloc _ | exact (Bx.new _ _ _ _ _ (by simp)).alloc _ | exact ((Bx.new _ _ _ _ _ rfl).alloc _).alloc _
        · exact (by repeat' (first | (with_reducible exact Below.refl _ _) | (with_reducible assumption) | (with_reducible refine below_alloc ?_ _ ?_) | (with_reducible refine below_set _ ?_ ?_) | (with_reducible refine Below.drew ?_) | (with_reducible refine below_dN ?_ _) | (apply below_thenA; assumption) | omega | (simp; done) | (simp; omega) | (simp [*]; done)))
  case rest =>
    clear hb' hc' hf' hz' hs' hs2'
    obtain ⟨b7, b8, b9, rfl, rfl, rfl, B⟩ := hcut
    obtain ⟨p1, p2, p3, p4⟩ := B.1.cells
    obtain ⟨p5, p6, p7, p8⟩ := B.2.1.cells
    go_upto_region 5 with (go_at_call 41; with_reducible refine (wide_cmp x y h1 l1 h2 l2 hx hy _).mono ?_; rintro e w1 ⟨rfl, hb1⟩)
    have B := B.step hb1
    clear p1 p2 p3 p4 p5 p6 p7 p8 hb1
    obtain ⟨c, ec⟩ : ∃ c, c = cmp3 x y := ⟨_, rfl⟩
    have HC := Lib.hid ec
    rw [← ec]
    go_cut [54] from 25 (fun s54 wx => s54 = .bool false ∧ Boxes3 w wx b7 b8 b9 h1 l1 h2 l2 h3 l3)
    case first =>
      obtain ⟨p1, p2, p3, p4⟩ := B.c1.cells
      obtain ⟨p5, p6, p7, p8⟩ := B.c2.cells
      obtain ⟨p9, p10, p11, p12⟩ := B.c3.cells
      have hyx : cmp3 y x = -c := by rw [cmp3_flip, HC.out]
      obtain ⟨d, hyz⟩ : ∃ d, cmp3 y z = d := ⟨_, rfl⟩
      obtain ⟨f, hxz⟩ : ∃ f, cmp3 x z = f := ⟨_, rfl⟩
      have hc3 := cmp3_cases x y
      have hd3 := cmp3_cases y z
      have hf3 := cmp3_cases x z
      rw [← HC.out] at hc3
      rw [hyz] at hd3
      rw [hxz] at hf3
      have hcl : -1 ≤ c := by omega
      have hcu : c ≤ 1 := by omega
      by_cases hc0 : c = 0
      · have heq : (h1 = h2 ∧ l1 = l2) := Wd.eq2 (x := x) (y := y) hx hy (by omega)
        have e0 : (c == 0) = true := by simp [hc0]
        have le0 : c ≤ 0 := by omega
        obtain ⟨rfl, rfl⟩ := heq
        by_cases hd : d ≤ 0
        · have hf : decide (0 < f) = false := by simp; omega
          have hd' : decide (0 < d) = false := by simp; omega
          clear hc3 hd3 hf3 ec hc0
          go_wp2_with (first
            | (go_at_call 41; with_reducible refine (wide_cmp_at y x _ _ _ _ (-c) hy hx hyx _).mono ?_; rintro e w2 ⟨rfl, hb2⟩; replace B := B.step hb2; (obtain ⟨p1, p2, p3, p4⟩ := B.c1.cells); (obtain ⟨p5, p6, p7, p8⟩ := B.c2.cells); (obtain ⟨p9, p10, p11, p12⟩ := B.c3.cells))
            | (go_at_call 41; with_reducible refine (wide_cmp_at y z _ _ _ _ d hy hz hyz _).mono ?_; rintro e w3 ⟨rfl, hb2⟩; replace B := B.step hb2; (obtain ⟨p1, p2, p3, p4⟩ := B.c1.cells); (obtain ⟨p5, p6, p7, p8⟩ := B.c2.cells); (obtain ⟨p9, p10, p11, p12⟩ := B.c3.cells))
            | (go_at_call 41; with_reducible refine (wide_cmp_at x z _ _ _ _ f hx hz hxz _).mono ?_; rintro e w4 ⟨rfl, hb2⟩; replace B := B.step hb2; (obtain ⟨p1, p2, p3, p4⟩ := B.c1.cells); (obtain ⟨p5, p6, p7, p8⟩ := B.c2.cells); (obtain ⟨p9, p10, p11, p12⟩ := B.c3.cells)))
          go_meet
          case rel => exact ⟨rfl, B⟩
        · clear hc3 hd3 hf3 ec hc0
          go_wp2_with (first
            | (go_at_call 41; with_reducible refine (wide_cmp_at y x _ _ _ _ (-c) hy hx hyx _).mono ?_; rintro e w2 ⟨rfl, hb2⟩; replace B := B.step hb2; (obtain ⟨p1, p2, p3, p4⟩ := B.c1.cells); (obtain ⟨p5, p6, p7, p8⟩ := B.c2.cells); (obtain ⟨p9, p10, p11, p12⟩ := B.c3.cells))
            | (go_at_call 41; with_reducible refine (wide_cmp_at y z _ _ _ _ d hy hz hyz _).mono ?_; rintro e w3 ⟨rfl, hb2⟩; replace B := B.step hb2; (obtain ⟨p1, p2, p3, p4⟩ := B.c1.cells); (obtain ⟨p5, p6, p7, p8⟩ := B.c2.cells); (obtain ⟨p9, p10, p11, p12⟩ := B.c3.cells))
            | (go_at_call 41; with_reducible refine (wide_cmp_at x z _ _ _ _ f hx hz hxz _).mono ?_; rintro e w4 ⟨rfl, hb2⟩; replace B := B.step hb2; (obtain ⟨p1, p2, p3, p4⟩ := B.c1.cells); (obtain ⟨p5, p6, p7, p8⟩ := B.c2.cells); (obtain ⟨p9, p10, p11, p12⟩ := B.c3.cells)))
          go_meet
          case rel => exact ⟨rfl, B⟩
      · have hne : ¬ (h1 = h2 ∧ l1 = l2) := fun h => by
          have := Wd.eq1 (x := x) (y := y) hx hy h.1 h.2; omega
        have e0 : (c == 0) = false := by simp [hc0]
        by_cases hh : h1 = h2
        · subst hh
          have hl : (l1 == l2) = false := by simp; intro h; exact hne ⟨rfl, h⟩
          clear hne
          by_cases le0 : c ≤ 0
          · by_cases hd : d ≤ 0
            · have hf : decide (0 < f) = false := by simp; omega
              have hd' : decide (0 < d) = false := by simp; omega
              clear hc3 hd3 hf3 ec hc0
              go_wp2_with (first
                | (go_at_call 41; with_reducible refine (wide_cmp_at y x _ _ _ _ (-c) hy hx hyx _).mono ?_; rintro e w2 ⟨rfl, hb2⟩; replace B := B.step hb2; (obtain ⟨p1, p2, p3, p4⟩ := B.c1.cells); (obtain ⟨p5, p6, p7, p8⟩ := B.c2.cells); (obtain ⟨p9, p10, p11, p12⟩ := B.c3.cells))
                | (go_at_call 41; with_reducible refine (wide_cmp_at y z _ _ _ _ d hy hz hyz _).mono ?_; rintro e w3 ⟨rfl, hb2⟩; replace B := B.step hb2; (obtain ⟨p1, p2, p3, p4⟩ := B.c1.cells); (obtain ⟨p5, p6, p7, p8⟩ := B.c2.cells); (obtain ⟨p9, p10, p11, p12⟩ := B.c3.cells))
                | (go_at_call 41; with_reducible refine (wide_cmp_at x z _ _ _ _ f hx hz hxz _).mono ?_; rintro e w4 ⟨rfl, hb2⟩; replace B := B.step hb2; (obtain ⟨p1, p2, p3, p4⟩ := B.c1.cells); (obtain ⟨p5, p6, p7, p8⟩ := B.c2.cells); (obtain ⟨p9, p10, p11, p12⟩ := B.c3.cells)))
              go_meet
              case rel => exact ⟨rfl, B⟩
            · clear hc3 hd3 hf3 ec hc0
              go_wp2_with (first
                | (go_at_call 41; with_reducible refine (wide_cmp_at y x _ _ _ _ (-c) hy hx hyx _).mono ?_; rintro e w2 ⟨rfl, hb2⟩; replace B := B.step hb2; (obtain ⟨p1, p2, p3, p4⟩ := B.c1.cells); (obtain ⟨p5, p6, p7, p8⟩ := B.c2.cells); (obtain ⟨p9, p10, p11, p12⟩ := B.c3.cells))
                | (go_at_call 41; with_reducible refine (wide_cmp_at y z _ _ _ _ d hy hz hyz _).mono ?_; rintro e w3 ⟨rfl, hb2⟩; replace B := B.step hb2; (obtain ⟨p1, p2, p3, p4⟩ := B.c1.cells); (obtain ⟨p5, p6, p7, p8⟩ := B.c2.cells); (obtain ⟨p9, p10, p11, p12⟩ := B.c3.cells))
                | (go_at_call 41; with_reducible refine (wide_cmp_at x z _ _ _ _ f hx hz hxz _).mono ?_; rintro e w4 ⟨rfl, hb2⟩; replace B := B.step hb2; (obtain ⟨p1, p2, p3, p4⟩ := B.c1.cells); (obtain ⟨p5, p6, p7, p8⟩ := B.c2.cells); (obtain ⟨p9, p10, p11, p12⟩ := B.c3.cells)))
              go_meet
              case rel => exact ⟨rfl, B⟩
          · clear hc3 hd3 hf3 ec hc0
            go_wp2_with (first
              | (go_at_call 41; with_reducible refine (wide_cmp_at y x _ _ _ _ (-c) hy hx hyx _).mono ?_; rintro e w2 ⟨rfl, hb2⟩; replace B := B.step hb2; (obtain ⟨p1, p2, p3, p4⟩ := B.c1.cells); (obtain ⟨p5, p6, p7, p8⟩ := B.c2.cells); (obtain ⟨p9, p10, p11, p12⟩ := B.c3.cells))
              | (go_at_call 41; with_reducible refine (wide_cmp_at y z _ _ _ _ d hy hz hyz _).mono ?_; rintro e w3 ⟨rfl, hb2⟩; replace B := B.step hb2; (obtain ⟨p1, p2, p3, p4⟩ := B.c1.cells); (obtain ⟨p5, p6, p7, p8⟩ := B.c2.cells); (obtain ⟨p9, p10, p11, p12⟩ := B.c3.cells))
              | (go_at_call 41; with_reducible refine (wide_cmp_at x z _ _ _ _ f hx hz hxz _).mono ?_; rintro e w4 ⟨rfl, hb2⟩; replace B := B.step hb2; (obtain ⟨p1, p2, p3, p4⟩ := B.c1.cells); (obtain ⟨p5, p6, p7, p8⟩ := B.c2.cells); (obtain ⟨p9, p10, p11, p12⟩ := B.c3.cells)))
            go_meet
            case rel => exact ⟨rfl, B⟩
        · have hh' : (h1 == h2) = false := by simp [hh]
          clear hne
          by_cases le0 : c ≤ 0
          · by_cases hd : d ≤ 0
            · have hf : decide (0 < f) = false := by simp; omega
              have hd' : decide (0 < d) = false := by simp; omega
              clear hc3 hd3 hf3 ec hc0
              go_wp2_with (first
                | (go_at_call 41; with_reducible refine (wide_cmp_at y x _ _ _ _ (-c) hy hx hyx _).mono ?_; rintro e w2 ⟨rfl, hb2⟩; replace B := B.step hb2; (obtain ⟨p1, p2, p3, p4⟩ := B.c1.cells); (obtain ⟨p5, p6, p7, p8⟩ := B.c2.cells); (obtain ⟨p9, p10, p11, p12⟩ := B.c3.cells))
                | (go_at_call 41; with_reducible refine (wide_cmp_at y z _ _ _ _ d hy hz hyz _).mono ?_; rintro e w3 ⟨rfl, hb2⟩; replace B := B.step hb2; (obtain ⟨p1, p2, p3, p4⟩ := B.c1.cells); (obtain ⟨p5, p6, p7, p8⟩ := B.c2.cells); (obtain ⟨p9, p10, p11, p12⟩ := B.c3.cells))
                | (go_at_call 41; with_reducible refine (wide_cmp_at x z _ _ _ _ f hx hz hxz _).mono ?_; rintro e w4 ⟨rfl, hb2⟩; replace B := B.step hb2; (obtain ⟨p1, p2, p3, p4⟩ := B.c1.cells); (obtain ⟨p5, p6, p7, p8⟩ := B.c2.cells); (obtain ⟨p9, p10, p11, p12⟩ := B.c3.cells)))
              go_meet
              case rel => exact ⟨rfl, B⟩
            · clear hc3 hd3 hf3 ec hc0
              go_wp2_with (first
                | (go_at_call 41; with_reducible refine (wide_cmp_at y x _ _ _ _ (-c) hy hx hyx _).mono ?_; rintro e w2 ⟨rfl, hb2⟩; replace B := B.step hb2; (obtain ⟨p1, p2, p3, p4⟩ := B.c1.cells); (obtain ⟨p5, p6, p7, p8⟩ := B.c2.cells); (obtain ⟨p9, p10, p11, p12⟩ := B.c3.cells))
                | (go_at_call 41; with_reducible refine (wide_cmp_at y z _ _ _ _ d hy hz hyz _).mono ?_; rintro e w3 ⟨rfl, hb2⟩; replace B := B.step hb2; (obtain ⟨p1, p2, p3, p4⟩ := B.c1.cells); (obtain ⟨p5, p6, p7, p8⟩ := B.c2.cells); (obtain ⟨p9, p10, p11, p12⟩ := B.c3.cells))
                | (go_at_call 41; with_reducible refine (wide_cmp_at x z _ _ _ _ f hx hz hxz _).mono ?_; rintro e w4 ⟨rfl, hb2⟩; replace B := B.step hb2; (obtain ⟨p1, p2, p3, p4⟩ := B.c1.cells); (obtain ⟨p5, p6, p7, p8⟩ := B.c2.cells); (obtain ⟨p9, p10, p11, p12⟩ := B.c3.cells)))
              go_meet
              case rel => exact ⟨rfl, B⟩
          · clear hc3 hd3 hf3 ec hc0
            go_wp2_with (first
              | (go_at_call 41; with_reducible refine (wide_cmp_at y x _ _ _ _ (-c) hy hx hyx _).mono ?_; rintro e w2 ⟨rfl, hb2⟩; replace B := B.step hb2; (obtain ⟨p1, p2, p3, p4⟩ := B.c1.cells); (obtain ⟨p5, p6, p7, p8⟩ := B.c2.cells); (obtain ⟨p9, p10, p11, p12⟩ := B.c3.cells))
              | (go_at_call 41; with_reducible refine (wide_cmp_at y z _ _ _ _ d hy hz hyz _).mono ?_; rintro e w3 ⟨rfl, hb2⟩; replace B := B.step hb2; (obtain ⟨p1, p2, p3, p4⟩ := B.c1.cells); (obtain ⟨p5, p6, p7, p8⟩ := B.c2.cells); (obtain ⟨p9, p10, p11, p12⟩ := B.c3.cells))
              | (go_at_call 41; with_reducible refine (wide_cmp_at x z _ _ _ _ f hx hz hxz _).mono ?_; rintro e w4 ⟨rfl, hb2⟩; replace B := B.step hb2; (obtain ⟨p1, p2, p3, p4⟩ := B.c1.cells); (obtain ⟨p5, p6, p7, p8⟩ := B.c2.cells); (obtain ⟨p9, p10, p11, p12⟩ := B.c3.cells)))
            go_meet
            case rel => exact ⟨rfl, B⟩
    case rest =>
      obtain ⟨rfl, B⟩ := hcut
      obtain ⟨p1, p2, p3, p4⟩ := B.1.cells
      obtain ⟨p5, p6, p7, p8⟩ := B.2.2.1.cells
      go_upto_region 9 with (first
        | (go_at_call 38; (with_reducible refine (wide_add_any x z h1 l1 h3 l3 hx hz _).mono ?_; rintro e w2 hB2; obtain ⟨ah, al, ok, rfl, hv, hb2⟩ := hB2.out; have HA := Lib.hid hv; clear hv hB2; replace B := B.step hb2; (obtain ⟨p1, p2, p3, p4⟩ := (B.alloc (.cells #[.int .i64 ah, .int .u64 al] 25)).c2.cells); (obtain ⟨p5, p6, p7, p8⟩ := (B.alloc (.cells #[.int .i64 ah, .int .u64 al] 25)).c3.cells)))
        | (go_at_call 38; with_reducible refine (wide_add_any y z h2 l2 h3 l3 hy hz _).mono ?_; rintro e w3 hB3; obtain ⟨bh, bl, is, rfl, hv, hb3⟩ := hB3.out; have HB := Lib.hid hv; clear hv hB3; have TA := (Bx.new w2 25 (.int .i64 ah) (.int .u64 al) _ rfl).below hb3; replace B := (B.alloc (.cells #[.int .i64 ah, .int .u64 al] 25)).step hb3))
      have B := B.alloc (.cells #[.int .i64 bh, .int .u64 bl] 25)
      have TA := TA.alloc (.cells #[.int .i64 bh, .int .u64 bl] 25)
      have TB := Bx.new w3 25 (.int .i64 bh) (.int .u64 bl) _ rfl
      clear p1 p2 p3 p4 p5 p6 p7 p8
      go_cut [77] from 67 (fun s77 wx => s77 = .bool false ∧ Boxes3 w wx b7 b8 b9 h1 l1 h2 l2 h3 l3)
      case first =>
        cases ok
        · go_wp2_with fail
          go_meet
          case rel => exact ⟨rfl, B⟩
        · cases is
          · go_wp2_with fail
            go_meet
            case rel => exact ⟨rfl, B⟩
          · have wa := HA.out rfl
            have wb := HB.out rfl
            have hcc : cmp3 (x + z) (y + z) = c := by rw [cmp3_shift]; exact HC.out.symm
            obtain ⟨p1, p2, p3, p4⟩ := TA.cells
            obtain ⟨p5, p6, p7, p8⟩ := TB.cells
            go_wp2_with (go_at_call 41; with_reducible refine (wide_cmp (x + z) (y + z) ah al bh bl wa wb _).mono ?_; rintro e w4 ⟨rfl, hb4⟩; rw [hcc])
            go_meet
            case rel => exact ⟨rfl, B.step hb4⟩
      case rest =>
        clear TA TB B HA HB hb2 hb3
        obtain ⟨rfl, B⟩ := hcut
        obtain ⟨p1, p2, p3, p4⟩ := B.c1.cells
        go_upto_region 13 with (first
          | (go_at_call 37; with_reducible refine (wide_neg_any x h1 l1 hx _).mono ?_; rintro e w4 hB4; obtain ⟨mh, ml, ok3, rfl, hv, hb4⟩ := hB4.out; have HA := Lib.hid hv; clear hv hB4; replace B := B.step hb4; (obtain ⟨p5, p6, p7, p8⟩ := (B.alloc (.cells #[.int .i64 mh, .int .u64 ml] 25)).c2.cells))
          | (go_at_call 37; with_reducible refine (wide_neg_any y h2 l2 hy _).mono ?_; rintro e w5 hB5; obtain ⟨nh, nl, is4, rfl, hv, hb5⟩ := hB5.out; have HB := Lib.hid hv; clear hv hB5; have TA := (Bx.new w4 25 (.int .i64 mh) (.int .u64 ml) _ rfl).below hb5; replace B := (B.alloc (.cells #[.int .i64 mh, .int .u64 ml] 25)).step hb5))
        have B := B.alloc (.cells #[.int .i64 nh, .int .u64 nl] 25)
        have TA := TA.alloc (.cells #[.int .i64 nh, .int .u64 nl] 25)
        have TB := Bx.new w5 25 (.int .i64 nh) (.int .u64 nl) _ rfl
        clear p1 p2 p3 p4 p5 p6 p7 p8
        cases ok3
        · go_wp2_with fail
          go_ret
          exact ⟨rfl, B.2.2.2⟩
        · cases is4
          · go_wp2_with fail
            go_ret
            exact ⟨rfl, B.2.2.2⟩
          · have wa := HA.out rfl
            have wb := HB.out rfl
            have hcc : cmp3 (-x) (-y) = -c := by rw [cmp3_negs, HC.out]
            have hc3 := cmp3_cases x y
            rw [← HC.out] at hc3
            have hcl : -1 ≤ c ∧ c ≤ 1 := by omega
            clear hc3
            obtain ⟨hcl, hcu⟩ := hcl
            obtain ⟨p1, p2, p3, p4⟩ := TA.cells
            obtain ⟨p5, p6, p7, p8⟩ := TB.cells
            go_wp2_with (go_at_call 41; with_reducible refine (wide_cmp (-x) (-y) mh ml nh nl wa wb _).mono ?_; rintro e w6 ⟨rfl, hb6⟩; rw [hcc])
            go_ret
            exact ⟨rfl, (B.step hb6).2.2.2⟩
end Go.Proofs.Ythffphcgkmjhbaa
