/-
  The reference of layer 2, each function by its contract. Third part: Lowest (begun).
-/
/-
  The reference of layer 2, each function by its contract. Fourth part: Good.
-/
import Derived.Test.YtmkblfejoniccaaDoorZ6
import Derived.Test.YtmkblfejoniccaaDoorZ5
namespace Go.Proofs.YtmkblfejoniccaaDoor
open Go.RowKit
set_option linter.unusedSimpArgs false
set_option linter.unusedVariables false

theorem Two.drew {w : World} {b : Nat} {x y : Value} (h : Two w b x y) : Two w.drew b x y := h
theorem Two.belowX {w w' : World} {b : Nat} {x y : Value} (hb : Below w.heap.size w w') (h : Two w b x y) : Two w' b x y := h.below hb
theorem Two.putE {w : World} {b : Nat} (h : ∃ x y, Two w b x y) (u v : Value) : Two ((w.setCell ⟨b, 0, none⟩ u).setCell ⟨b, 1, none⟩ v) b u v := by
  obtain ⟨x, y, h⟩ := h; exact h.put u v
theorem Two.putE_other {w : World} {b c : Nat} (h : ∃ x y, Two w b x y) (hc : b ≠ c) (u v : Value) : ∃ x y, Two ((w.setCell ⟨c, 0, none⟩ u).setCell ⟨c, 1, none⟩ v) b x y := by
  obtain ⟨x, y, h⟩ := h; exact ⟨x, y, h.put_other hc u v⟩
theorem Two.newS (w : World) (b : Nat) (u v x y : Value) : Two (((w.setCell ⟨b, 0, none⟩ u).setCell ⟨b, 1, none⟩ v).alloc (.cells #[x, y] 41)) w.heap.size x y := Two.new _ _ _ _ (by simp [World.setCell])
theorem Two.new1 (w : World) (x y : Value) (o : Obj) : Two ((w.alloc o).alloc (.cells #[x, y] 41)) (w.heap.size + 1) x y := Two.new _ _ _ _ (by simp)
theorem IsBig.allocd {w : World} {neg : Bool} {ao : Option Addr} {k cap : Nat} {n : Int} (h : IsBig w neg ao k cap n) (o : Obj) : IsBig (w.alloc o) neg ao k cap n := h.keeps (Keeps.alloc (Keeps.refl w) o)
theorem IsBig.drewd {w : World} {neg : Bool} {ao : Option Addr} {k cap : Nat} {n : Int} (h : IsBig w neg ao k cap n) : IsBig w.drew neg ao k cap n := h.keeps (Keeps.drew (Keeps.refl w))
theorem IsBig.belowX {w w' : World} (hb : Below w.heap.size w w') {neg : Bool} {ao : Option Addr} {k cap : Nat} {n : Int} (h : IsBig w neg ao k cap n) : IsBig w' neg ao k cap n := h.keep hb
theorem LX.n1 {w wX : World} {l : List (Nat × Value × Value)} (h : LX w l wX) : Two (wX.alloc (.cells #[.bool false, .slice none 0 0] 41)) wX.heap.size (.bool false) (.slice none 0 0) := Two.new _ _ _ _ rfl
theorem LX.n21 {w wX : World} {l : List (Nat × Value × Value)} (h : LX w l wX) : Two ((wX.alloc (.cells #[.bool false, .slice none 0 0] 41)).alloc (.cells #[.bool false, .slice none 0 0] 41)) wX.heap.size (.bool false) (.slice none 0 0) := (Two.new _ _ _ _ rfl).alloc _
theorem LX.n22 {w wX : World} {l : List (Nat × Value × Value)} (h : LX w l wX) : Two ((wX.alloc (.cells #[.bool false, .slice none 0 0] 41)).alloc (.cells #[.bool false, .slice none 0 0] 41)) (wX.heap.size + 1) (.bool false) (.slice none 0 0) := Two.new _ _ _ _ (by simp)
theorem LX.room {w wX : World} {l : List (Nat × Value × Value)} (h : LX w l wX) : w.heap.size ≤ wX.heap.size ∧ w.heap.size ≤ wX.heap.size + 1 := ⟨h.bl.size, Nat.le_succ_of_le h.bl.size⟩
theorem LX.c2 {w wX : World} {l : List (Nat × Value × Value)} (h : LX w l wX) {b : Nat} {x y : Value} (hm : (b, x, y) ∈ l) : wX.cell? ⟨b, 0, none⟩ = some x ∧ wX.cell? ⟨b, 1, none⟩ = some y := ⟨(h.get hm).cells.1, (h.get hm).cells.2.1⟩

theorem fq_nat (a g : Nat) (hg : 0 < g) : fq (a : Int) (g : Int) = ((a / g : Nat) : Int) := by unfold fq; rw [if_neg (by omega)]; simp
def LowS (w : World) (l : List (Nat × Value × Value)) (G : Int) (s6 : Value) (wx : World) : Prop :=
  ∃ b n x k c, s6 = .pointer (some ⟨b, 0, none⟩) ∧ LX w l wx ∧ Two wx b (.bool n) (.slice x k c) ∧ IsBig wx n x k c G

def LowT (w : World) (l : List (Nat × Value × Value)) (A C : Int) (cn : Bool) (cx : Option Addr) (ck cc : Nat) (s : Value) (wx : World) : Prop :=
  ∃ b n x k c, s = .pointer (some ⟨b, 0, none⟩) ∧ LX w l wx ∧ Two wx b (.bool n) (.slice x k c) ∧ IsBig wx n x k c A ∧ IsBig wx cn cx ck cc C ∧ (∀ e, e ∈ l → e.1 ≠ b) ∧ w.heap.size ≤ b
def LowR (w : World) (b7 b9 : Nat) (n9 : Bool) (x9 : Option Addr) (k9 c9 : Nat) (A B : Int) (wx : World) : Prop :=
  ∃ n x k c, Two wx b7 (.bool n) (.slice x k c) ∧ IsBig wx n x k c A ∧ Two wx b9 (.bool n9) (.slice x9 k9 c9) ∧ IsBig wx n9 x9 k9 c9 B ∧ Two wx (w.heap.size + 1 + 1) (.bool false) (.slice none 0 0) ∧ Two wx (w.heap.size + 1 + 1 + 1) (.bool false) (.slice none 0 0) ∧ Below w.heap.size w wx
theorem LX.fr {w wX : World} {l : List (Nat × Value × Value)} (h : LX w l wX) : (∀ e, e ∈ l → e.1 ≠ wX.heap.size) ∧ (∀ e, e ∈ l → e.1 ≠ wX.heap.size + 1) := ⟨h.fresh, h.fresh'⟩

set_option maxRecDepth 100000 in
set_option maxHeartbeats 3200000 in
theorem ref_lowest (na nb : Bool) (xa xb : Option Addr) (ka kb ca cb K : Nat) (X Y : Int) (w : World) (ha : IsBig w na xa ka ca X) (hb : IsBig w nb xb kb cb Y) (hx : X.natAbs < 65536 ^ K) (hy : Y.natAbs < 65536 ^ K) (hK : K ≤ 10000) (hY : Y ≠ 0) :
    Calls Tryd.prog 51 #[.agg #[.bool na, .slice xa ka ca], .agg #[.bool nb, .slice xb kb cb]] w (BigRet2 (if na = nb then ((X.natAbs / Nat.gcd X.natAbs Y.natAbs : Nat) : Int) else -((X.natAbs / Nat.gcd X.natAbs Y.natAbs : Nat) : Int)) ((Y.natAbs / Nat.gcd X.natAbs Y.natAbs : Nat) : Int) w) := by
  have hN := ha.abs
  have hD := hb.abs
  obtain ⟨a, ea⟩ : ∃ a, X.natAbs = a := ⟨_, rfl⟩
  obtain ⟨b, eb⟩ : ∃ b, Y.natAbs = b := ⟨_, rfl⟩
  have hb0 : 0 < b := by omega
  rw [ea] at hN hx ⊢
  rw [eb] at hD hy ⊢
  have hg0 : 0 < Nat.gcd a b := Nat.gcd_pos_of_pos_right _ hb0
  have hgb : Nat.gcd a b < 65536 ^ K := Nat.lt_of_le_of_lt (Nat.gcd_le_right _ hb0) hy
  have sG := sz_nat hgb
  have sa := sz_nat hx
  have sb := sz_nat hy
  have f1 := fq_nat a (Nat.gcd a b) hg0
  have f2 := fq_nat b (Nat.gcd a b) hg0
  have sA := sa.le (fq_abs (a := (a : Int)) (d := ((Nat.gcd a b : Nat) : Int)) (by omega))
  have hN0 := hN
  have hD0 := hD
  have hka := hN.le sa
  have hkb := hD.le sb
  have CM := fun W (h1 : IsBig W false xa ka ca ((a : Nat) : Int)) (h2 : IsBig W false xb kb cb ((b : Nat) : Int)) => ref_common false false xa xb ka kb ca cb a b K W h1 h2 hx hy hK
  obtain ⟨G, eG⟩ : ∃ G, ((Nat.gcd a b : Nat) : Int) = G := ⟨_, rfl⟩
  rw [eG] at CM
  have hG0 : G ≠ 0 := by omega
  rw [eG] at sG f1 f2 sA
  obtain ⟨A1, eA⟩ : ∃ A1 : Int, ((a / Nat.gcd a b : Nat) : Int) = A1 := ⟨_, rfl⟩
  obtain ⟨B1, eB⟩ : ∃ B1 : Int, ((b / Nat.gcd a b : Nat) : Int) = B1 := ⟨_, rfl⟩
  rw [eA] at f1 ⊢
  rw [eB] at f2 ⊢
  rw [f1] at sA
  have D1 := fun (n : Bool) (x : Option Addr) (k c : Nat) W (h1 : IsBig W false xa ka ca ((a : Nat) : Int)) (h2 : IsBig W n x k c G) hk => big_down false n xa x ka k ca c ((a : Nat) : Int) G W h1 h2 (by omega) hk hG0
  have D2 := fun (n : Bool) (x : Option Addr) (k c : Nat) W (h1 : IsBig W false xb kb cb ((b : Nat) : Int)) (h2 : IsBig W n x k c G) hk => big_down false n xb x kb k cb c ((b : Nat) : Int) G W h1 h2 (by omega) hk hG0
  rw [f1] at D1
  rw [f2] at D2
  clear f1 f2 eA eB eG hg0 hgb
  obtain ⟨A2, eA2⟩ : ∃ A2, (if na = nb then A1 else -A1) = A2 := ⟨_, rfl⟩
  rw [eA2]
  have EA2 := Lib.hid eA2
  clear eA2
  have E : LX w [(w.heap.size, .bool na, .slice xa ka ca), (w.heap.size + 1, .bool nb, .slice xb kb cb), (w.heap.size + 1 + 1, .bool false, .slice none 0 0), (w.heap.size + 1 + 1 + 1, .bool false, .slice none 0 0)] ((((w.alloc (.cells #[.bool na, .slice xa ka ca] 41)).alloc (.cells #[.bool nb, .slice xb kb cb] 41)).alloc (.cells #[.bool false, .slice none 0 0] 41)).alloc (.cells #[.bool false, .slice none 0 0] 41)) :=
    LX.add (LX.add (LX.add (LX.add (LX.nil (by repeat' (first | (with_reducible exact Below.refl _ _) | (with_reducible assumption) | (with_reducible refine below_alloc ?_ _ ?_) | (with_reducible refine below_set _ ?_ ?_) | (with_reducible refine Below.drew ?_) | (with_reducible refine below_dN ?_ _) | (apply below_thenA; assumption) | omega | (simp; done) | (simp; omega) | (simp [*]; done)))) (Two.new _ _ _ _ (by simp))) ((Two.new _ _ _ _ (by simp)).alloc _)) (((Two.new _ _ _ _ (by simp)).alloc _).alloc _)) ((((Two.new w _ _ _ rfl).alloc _).alloc _).alloc _)
  replace hN := (((hN.allocd (.cells #[.bool na, .slice xa ka ca] 41)).allocd (.cells #[.bool nb, .slice xb kb cb] 41)).allocd (.cells #[.bool false, .slice none 0 0] 41)).allocd (.cells #[.bool false, .slice none 0 0] 41)
  replace hD := (((hD.allocd (.cells #[.bool na, .slice xa ka ca] 41)).allocd (.cells #[.bool nb, .slice xb kb cb] 41)).allocd (.cells #[.bool false, .slice none 0 0] 41)).allocd (.cells #[.bool false, .slice none 0 0] 41)
  go_enter Tryd.func51, Tryd.ntmps51
  go_upto_region 1 with (fail)
  obtain ⟨W0, eW⟩ : ∃ W0, W0 = (((w.alloc (.cells #[.bool na, .slice xa ka ca] 41)).alloc (.cells #[.bool nb, .slice xb kb cb] 41)).alloc (.cells #[.bool false, .slice none 0 0] 41)).alloc (.cells #[.bool false, .slice none 0 0] 41) := ⟨_, rfl⟩
  rw [← eW] at E hN hD ⊢
  clear eW
  have fr1 := E.fresh
  have fr2 := E.fresh'
  obtain ⟨fr3, fr4⟩ := E.room
  have k1 := E.c2 (b := w.heap.size) (x := .bool na) (y := .slice xa ka ca) (by simp)
  have k2 := E.c2 (b := w.heap.size + 1) (x := .bool nb) (y := .slice xb kb cb) (by simp)
  obtain ⟨p1, p2⟩ := k1
  obtain ⟨p5, p6⟩ := k2
  have S4 : ∀ W, LX w [(w.heap.size, .bool na, .slice xa ka ca), (w.heap.size + 1, .bool nb, .slice xb kb cb), (w.heap.size + 1 + 1, .bool false, .slice none 0 0), (w.heap.size + 1 + 1 + 1, .bool false, .slice none 0 0)] W → W.cell? ⟨w.heap.size, 0, none⟩ = some (.bool na) ∧ W.cell? ⟨w.heap.size, 1, none⟩ = some (.slice xa ka ca) ∧ W.cell? ⟨w.heap.size + 1, 0, none⟩ = some (.bool nb) ∧ W.cell? ⟨w.heap.size + 1, 1, none⟩ = some (.slice xb kb cb) := fun W h =>
    ⟨(h.c2 (b := w.heap.size) (x := .bool na) (y := .slice xa ka ca) (by simp)).1, (h.c2 (b := w.heap.size) (x := .bool na) (y := .slice xa ka ca) (by simp)).2, (h.c2 (b := w.heap.size + 1) (x := .bool nb) (y := .slice xb kb cb) (by simp)).1, (h.c2 (b := w.heap.size + 1) (x := .bool nb) (y := .slice xb kb cb) (by simp)).2⟩
  go_cut [6] from 11 (fun s6 wx => LowS w [(w.heap.size, .bool na, .slice xa ka ca), (w.heap.size + 1, .bool nb, .slice xb kb cb), (w.heap.size + 1 + 1, .bool false, .slice none 0 0), (w.heap.size + 1 + 1 + 1, .bool false, .slice none 0 0)] G s6 wx)
  case first =>
    go_region_held3 (fun w' => w'.cell? ⟨w.heap.size, 0, none⟩ = some (.bool na) ∧ w'.cell? ⟨w.heap.size, 1, none⟩ = some (.slice xa ka ca) ∧ w'.cell? ⟨w.heap.size + 1, 0, none⟩ = some (.bool nb) ∧ w'.cell? ⟨w.heap.size + 1, 1, none⟩ = some (.slice xb kb cb))
      (first | with_reducible exact ⟨p1, p2, p5, p6⟩ | with_reducible exact S4 _ E.drew | (refine S4 _ ?_; (first | with_reducible exact E | with_reducible refine LX.drew ?_ | with_reducible refine LX.alloc ?_ _ | with_reducible refine LX.set ?_ _ _ _ ?_ ?_ | with_reducible assumption) <;> (first | with_reducible exact E | with_reducible refine LX.drew ?_ | with_reducible refine LX.alloc ?_ _ | with_reducible refine LX.set ?_ _ _ _ ?_ ?_ | with_reducible assumption) <;> (first | with_reducible exact E | with_reducible refine LX.drew ?_ | with_reducible refine LX.alloc ?_ _ | with_reducible refine LX.set ?_ _ _ _ ?_ ?_ | with_reducible assumption) <;> (first | with_reducible exact E | with_reducible refine LX.drew ?_ | with_reducible refine LX.alloc ?_ _ | with_reducible refine LX.set ?_ _ _ _ ?_ ?_ | with_reducible assumption) <;> (first | with_reducible exact E | with_reducible refine LX.drew ?_ | with_reducible refine LX.alloc ?_ _ | with_reducible refine LX.set ?_ _ _ _ ?_ ?_ | with_reducible assumption) <;> (first | with_reducible exact E | with_reducible refine LX.drew ?_ | with_reducible refine LX.alloc ?_ _ | with_reducible refine LX.set ?_ _ _ _ ?_ ?_ | with_reducible assumption) <;> (first | with_reducible exact E | with_reducible refine LX.drew ?_ | with_reducible refine LX.alloc ?_ _ | with_reducible refine LX.set ?_ _ _ _ ?_ ?_ | with_reducible assumption) <;> (first | with_reducible exact E | with_reducible refine LX.drew ?_ | with_reducible refine LX.alloc ?_ _ | with_reducible refine LX.set ?_ _ _ _ ?_ ?_ | with_reducible assumption) <;> (first | with_reducible exact E | with_reducible refine LX.drew ?_ | with_reducible refine LX.alloc ?_ _ | with_reducible refine LX.set ?_ _ _ _ ?_ ?_ | with_reducible assumption); done) | go_keep)
      (first
      | (go_at_call 93; with_reducible refine (ref_size na xa ka ca _).mono ?_; rintro e wA ⟨rfl, hbA⟩; (try (have y2 := Two.belowX hbA (by with_reducible first | exact y1 | exact y1.drew | exact (y1.alloc _).drew | exact ((y1.alloc _).alloc _).drew | exact y1.alloc _ | exact (y1.alloc _).alloc _); obtain ⟨zf1, zf2, zf3, zf4⟩ := y2.cells; have zl4 := y2.lt)); (try (have y1 := Two.belowX hbA (by with_reducible first | exact z1 | exact z1.drew | exact (z1.alloc _).drew | exact ((z1.alloc _).alloc _).drew | exact z1.alloc _ | exact (z1.alloc _).alloc _); obtain ⟨zf1, zf2, zf3, zf4⟩ := y1.cells; have zl4 := y1.lt)); (try (have z1 := Two.belowX hbA (by with_reducible first | exact E.n1.drew | exact E.n1); obtain ⟨zc1, zc2, zc3, zc4⟩ := z1.cells; have zl1 := z1.lt)); (try (replace hN := IsBig.belowX hbA (by with_reducible first | exact hN | exact hN.drewd | exact (hN.allocd _).drewd | exact ((hN.allocd _).allocd _).drewd | exact hN.allocd _ | exact (hN.allocd _).allocd _))); (try (replace hD := IsBig.belowX hbA (by with_reducible first | exact hD | exact hD.drewd | exact (hD.allocd _).drewd | exact ((hD.allocd _).allocd _).drewd | exact hD.allocd _ | exact (hD.allocd _).allocd _))); (have E' := LX.below hbA (by with_reducible first | exact E | exact E.drew | exact (E.alloc _).drew | exact ((E.alloc _).alloc _).drew | exact E.alloc _ | exact (E.alloc _).alloc _)); clear E; have E := E'; clear E'; have fr1 := E.fresh; have fr2 := E.fresh'; obtain ⟨fr3, fr4⟩ := E.room; (have k1 := E.c2 (b := w.heap.size) (x := .bool na) (y := .slice xa ka ca) (by simp)); (have k2 := E.c2 (b := w.heap.size + 1) (x := .bool nb) (y := .slice xb kb cb) (by simp)); obtain ⟨p1, p2⟩ := k1; obtain ⟨p5, p6⟩ := k2)
      | (go_at_call 93; with_reducible refine (ref_size nb xb kb cb _).mono ?_; rintro e wB ⟨rfl, hbB⟩; (try (have y2 := Two.belowX hbB (by with_reducible first | exact y1 | exact y1.drew | exact (y1.alloc _).drew | exact ((y1.alloc _).alloc _).drew | exact y1.alloc _ | exact (y1.alloc _).alloc _); obtain ⟨zf1, zf2, zf3, zf4⟩ := y2.cells; have zl4 := y2.lt)); (try (have y1 := Two.belowX hbB (by with_reducible first | exact z1 | exact z1.drew | exact (z1.alloc _).drew | exact ((z1.alloc _).alloc _).drew | exact z1.alloc _ | exact (z1.alloc _).alloc _); obtain ⟨zf1, zf2, zf3, zf4⟩ := y1.cells; have zl4 := y1.lt)); (try (have z1 := Two.belowX hbB (by with_reducible first | exact E.n1.drew | exact E.n1); obtain ⟨zc1, zc2, zc3, zc4⟩ := z1.cells; have zl1 := z1.lt)); (try (replace hN := IsBig.belowX hbB (by with_reducible first | exact hN | exact hN.drewd | exact (hN.allocd _).drewd | exact ((hN.allocd _).allocd _).drewd | exact hN.allocd _ | exact (hN.allocd _).allocd _))); (try (replace hD := IsBig.belowX hbB (by with_reducible first | exact hD | exact hD.drewd | exact (hD.allocd _).drewd | exact ((hD.allocd _).allocd _).drewd | exact hD.allocd _ | exact (hD.allocd _).allocd _))); (have E' := LX.below hbB (by with_reducible first | exact E | exact E.drew | exact (E.alloc _).drew | exact ((E.alloc _).alloc _).drew | exact E.alloc _ | exact (E.alloc _).alloc _)); clear E; have E := E'; clear E'; have fr1 := E.fresh; have fr2 := E.fresh'; obtain ⟨fr3, fr4⟩ := E.room; (have k1 := E.c2 (b := w.heap.size) (x := .bool na) (y := .slice xa ka ca) (by simp)); (have k2 := E.c2 (b := w.heap.size + 1) (x := .bool nb) (y := .slice xb kb cb) (by simp)); obtain ⟨p1, p2⟩ := k1; obtain ⟨p5, p6⟩ := k2)
      | (go_at_call 92; with_reducible refine (CM _ (by with_reducible first | exact hN | exact hN.drewd | exact (hN.allocd _).drewd | exact ((hN.allocd _).allocd _).drewd | exact hN.allocd _ | exact (hN.allocd _).allocd _) (by with_reducible first | exact hD | exact hD.drewd | exact (hD.allocd _).drewd | exact ((hD.allocd _).allocd _).drewd | exact hD.allocd _ | exact (hD.allocd _).allocd _)).mono ?_; rintro e wC hRC; obtain ⟨nC, xC, kC, cC, rfl, hIC, hbC⟩ := hRC.out; (try (have y2 := Two.belowX hbC (by with_reducible first | exact y1 | exact y1.drew | exact (y1.alloc _).drew | exact ((y1.alloc _).alloc _).drew | exact y1.alloc _ | exact (y1.alloc _).alloc _); obtain ⟨zf1, zf2, zf3, zf4⟩ := y2.cells; have zl4 := y2.lt)); (try (have y1 := Two.belowX hbC (by with_reducible first | exact z1 | exact z1.drew | exact (z1.alloc _).drew | exact ((z1.alloc _).alloc _).drew | exact z1.alloc _ | exact (z1.alloc _).alloc _); obtain ⟨zf1, zf2, zf3, zf4⟩ := y1.cells; have zl4 := y1.lt)); (try (have z1 := Two.belowX hbC (by with_reducible first | exact E.n1.drew | exact E.n1); obtain ⟨zc1, zc2, zc3, zc4⟩ := z1.cells; have zl1 := z1.lt)); (have E' := LX.below hbC (by with_reducible first | exact E | exact E.drew | exact (E.alloc _).drew | exact ((E.alloc _).alloc _).drew | exact E.alloc _ | exact (E.alloc _).alloc _)); clear E; have E := E'; clear E'; have fr1 := E.fresh; have fr2 := E.fresh'; obtain ⟨fr3, fr4⟩ := E.room; (have k1 := E.c2 (b := w.heap.size) (x := .bool na) (y := .slice xa ka ca) (by simp)); (have k2 := E.c2 (b := w.heap.size + 1) (x := .bool nb) (y := .slice xb kb cb) (by simp)); obtain ⟨p1, p2⟩ := k1; obtain ⟨p5, p6⟩ := k2))
    all_goals
      go_wp2_with fail
      go_meet
      case rel =>
        refine ⟨_, nC, xC, kC, cC, rfl, ?_, ?_, IsBig.keeps hIC ?_⟩
        · (first | with_reducible exact E | with_reducible refine LX.drew ?_ | with_reducible refine LX.alloc ?_ _ | with_reducible refine LX.set ?_ _ _ _ ?_ ?_ | with_reducible assumption) <;> (first | with_reducible exact E | with_reducible refine LX.drew ?_ | with_reducible refine LX.alloc ?_ _ | with_reducible refine LX.set ?_ _ _ _ ?_ ?_ | with_reducible assumption) <;> (first | with_reducible exact E | with_reducible refine LX.drew ?_ | with_reducible refine LX.alloc ?_ _ | with_reducible refine LX.set ?_ _ _ _ ?_ ?_ | with_reducible assumption) <;> (first | with_reducible exact E | with_reducible refine LX.drew ?_ | with_reducible refine LX.alloc ?_ _ | with_reducible refine LX.set ?_ _ _ _ ?_ ?_ | with_reducible assumption) <;> (first | with_reducible exact E | with_reducible refine LX.drew ?_ | with_reducible refine LX.alloc ?_ _ | with_reducible refine LX.set ?_ _ _ _ ?_ ?_ | with_reducible assumption) <;> (first | with_reducible exact E | with_reducible refine LX.drew ?_ | with_reducible refine LX.alloc ?_ _ | with_reducible refine LX.set ?_ _ _ _ ?_ ?_ | with_reducible assumption) <;> (first | with_reducible exact E | with_reducible refine LX.drew ?_ | with_reducible refine LX.alloc ?_ _ | with_reducible refine LX.set ?_ _ _ _ ?_ ?_ | with_reducible assumption) <;> (first | with_reducible exact E | with_reducible refine LX.drew ?_ | with_reducible refine LX.alloc ?_ _ | with_reducible refine LX.set ?_ _ _ _ ?_ ?_ | with_reducible assumption) <;> (first | with_reducible exact E | with_reducible refine LX.drew ?_ | with_reducible refine LX.alloc ?_ _ | with_reducible refine LX.set ?_ _ _ _ ?_ ?_ | with_reducible assumption)
        · (first | with_reducible refine Two.drew ?_ | with_reducible exact Two.new _ _ _ _ rfl | with_reducible exact Two.new1 _ _ _ _ | with_reducible exact Two.newS _ _ _ _ _ _ | with_reducible refine Two.alloc ?_ _ | with_reducible refine Two.putE ?_ _ _ | with_reducible refine Two.put_other ?_ ?_ _ _ | with_reducible refine Two.putE_other ?_ ?_ _ _ | with_reducible exact z1 | with_reducible exact ⟨_, _, z1⟩ | with_reducible exact z2 | with_reducible exact ⟨_, _, z2⟩ | with_reducible exact z3 | with_reducible exact ⟨_, _, z3⟩ | with_reducible exact y1 | with_reducible exact ⟨_, _, y1⟩ | with_reducible exact y2 | with_reducible exact ⟨_, _, y2⟩ | with_reducible exact y3 | with_reducible exact ⟨_, _, y3⟩ | with_reducible exact Nat.ne_of_lt (by with_reducible assumption) | with_reducible exact Nat.ne_of_gt (by with_reducible assumption) | with_reducible assumption | omega) <;> (first | with_reducible refine Two.drew ?_ | with_reducible exact Two.new _ _ _ _ rfl | with_reducible exact Two.new1 _ _ _ _ | with_reducible exact Two.newS _ _ _ _ _ _ | with_reducible refine Two.alloc ?_ _ | with_reducible refine Two.putE ?_ _ _ | with_reducible refine Two.put_other ?_ ?_ _ _ | with_reducible refine Two.putE_other ?_ ?_ _ _ | with_reducible exact z1 | with_reducible exact ⟨_, _, z1⟩ | with_reducible exact z2 | with_reducible exact ⟨_, _, z2⟩ | with_reducible exact z3 | with_reducible exact ⟨_, _, z3⟩ | with_reducible exact y1 | with_reducible exact ⟨_, _, y1⟩ | with_reducible exact y2 | with_reducible exact ⟨_, _, y2⟩ | with_reducible exact y3 | with_reducible exact ⟨_, _, y3⟩ | with_reducible exact Nat.ne_of_lt (by with_reducible assumption) | with_reducible exact Nat.ne_of_gt (by with_reducible assumption) | with_reducible assumption | omega) <;> (first | with_reducible refine Two.drew ?_ | with_reducible exact Two.new _ _ _ _ rfl | with_reducible exact Two.new1 _ _ _ _ | with_reducible exact Two.newS _ _ _ _ _ _ | with_reducible refine Two.alloc ?_ _ | with_reducible refine Two.putE ?_ _ _ | with_reducible refine Two.put_other ?_ ?_ _ _ | with_reducible refine Two.putE_other ?_ ?_ _ _ | with_reducible exact z1 | with_reducible exact ⟨_, _, z1⟩ | with_reducible exact z2 | with_reducible exact ⟨_, _, z2⟩ | with_reducible exact z3 | with_reducible exact ⟨_, _, z3⟩ | with_reducible exact y1 | with_reducible exact ⟨_, _, y1⟩ | with_reducible exact y2 | with_reducible exact ⟨_, _, y2⟩ | with_reducible exact y3 | with_reducible exact ⟨_, _, y3⟩ | with_reducible exact Nat.ne_of_lt (by with_reducible assumption) | with_reducible exact Nat.ne_of_gt (by with_reducible assumption) | with_reducible assumption | omega) <;> (first | with_reducible refine Two.drew ?_ | with_reducible exact Two.new _ _ _ _ rfl | with_reducible exact Two.new1 _ _ _ _ | with_reducible exact Two.newS _ _ _ _ _ _ | with_reducible refine Two.alloc ?_ _ | with_reducible refine Two.putE ?_ _ _ | with_reducible refine Two.put_other ?_ ?_ _ _ | with_reducible refine Two.putE_other ?_ ?_ _ _ | with_reducible exact z1 | with_reducible exact ⟨_, _, z1⟩ | with_reducible exact z2 | with_reducible exact ⟨_, _, z2⟩ | with_reducible exact z3 | with_reducible exact ⟨_, _, z3⟩ | with_reducible exact y1 | with_reducible exact ⟨_, _, y1⟩ | with_reducible exact y2 | with_reducible exact ⟨_, _, y2⟩ | with_reducible exact y3 | with_reducible exact ⟨_, _, y3⟩ | with_reducible exact Nat.ne_of_lt (by with_reducible assumption) | with_reducible exact Nat.ne_of_gt (by with_reducible assumption) | with_reducible assumption | omega) <;> (first | with_reducible refine Two.drew ?_ | with_reducible exact Two.new _ _ _ _ rfl | with_reducible exact Two.new1 _ _ _ _ | with_reducible exact Two.newS _ _ _ _ _ _ | with_reducible refine Two.alloc ?_ _ | with_reducible refine Two.putE ?_ _ _ | with_reducible refine Two.put_other ?_ ?_ _ _ | with_reducible refine Two.putE_other ?_ ?_ _ _ | with_reducible exact z1 | with_reducible exact ⟨_, _, z1⟩ | with_reducible exact z2 | with_reducible exact ⟨_, _, z2⟩ | with_reducible exact z3 | with_reducible exact ⟨_, _, z3⟩ | with_reducible exact y1 | with_reducible exact ⟨_, _, y1⟩ | with_reducible exact y2 | with_reducible exact ⟨_, _, y2⟩ | with_reducible exact y3 | with_reducible exact ⟨_, _, y3⟩ | with_reducible exact Nat.ne_of_lt (by with_reducible assumption) | with_reducible exact Nat.ne_of_gt (by with_reducible assumption) | with_reducible assumption | omega) <;> (first | with_reducible refine Two.drew ?_ | with_reducible exact Two.new _ _ _ _ rfl | with_reducible exact Two.new1 _ _ _ _ | with_reducible exact Two.newS _ _ _ _ _ _ | with_reducible refine Two.alloc ?_ _ | with_reducible refine Two.putE ?_ _ _ | with_reducible refine Two.put_other ?_ ?_ _ _ | with_reducible refine Two.putE_other ?_ ?_ _ _ | with_reducible exact z1 | with_reducible exact ⟨_, _, z1⟩ | with_reducible exact z2 | with_reducible exact ⟨_, _, z2⟩ | with_reducible exact z3 | with_reducible exact ⟨_, _, z3⟩ | with_reducible exact y1 | with_reducible exact ⟨_, _, y1⟩ | with_reducible exact y2 | with_reducible exact ⟨_, _, y2⟩ | with_reducible exact y3 | with_reducible exact ⟨_, _, y3⟩ | with_reducible exact Nat.ne_of_lt (by with_reducible assumption) | with_reducible exact Nat.ne_of_gt (by with_reducible assumption) | with_reducible assumption | omega)
        · exact (by repeat' (first | (with_reducible exact Keeps.refl _) | (with_reducible refine Keeps.alloc ?_ _) | (with_reducible refine Keeps.drew ?_) | (with_reducible refine Keeps.drewN ?_ _) | (with_reducible refine Keeps.set ?_ _ _ (T := 41) ?_ (by decide)) | (with_reducible exact TyAt.new _ _ _ _ (by simp)) | (with_reducible refine TyAt.set ?_ _ _) | (with_reducible refine TyAt.alloc ?_ _) | (with_reducible refine TyAt.drew ?_) | (with_reducible refine TyAt.drewN ?_ _) | (apply Keeps.below; assumption) | (exact Two.ty (by assumption)) | (apply TyAt.below; rotate_left; assumption)))
  case rest =>
    clear E hN hD fr1 fr2 fr3 fr4 p1 p2 p5 p6 S4 CM
    obtain ⟨bc, nC, xC, kC, cC, rfl, E0, tC, hC⟩ := hcut
    have E := LX.add E0 tC
    have hM := hN0.keep E.bl
    have hkc := hC.le sG
    have fr1 := E.fresh
    have fr2 := E.fresh'
    obtain ⟨fr3, fr4⟩ := E.room
    have k1 := E.c2 (b := w.heap.size) (x := .bool na) (y := .slice xa ka ca) (by simp)
    have k2 := E.c2 (b := bc) (x := .bool nC) (y := .slice xC kC cC) (by simp)
    obtain ⟨p1, p2⟩ := k1
    obtain ⟨p5, p6⟩ := k2
    have S4 : ∀ W, LX w ((bc, .bool nC, .slice xC kC cC) :: [(w.heap.size, .bool na, .slice xa ka ca), (w.heap.size + 1, .bool nb, .slice xb kb cb), (w.heap.size + 1 + 1, .bool false, .slice none 0 0), (w.heap.size + 1 + 1 + 1, .bool false, .slice none 0 0)]) W → W.cell? ⟨w.heap.size, 0, none⟩ = some (.bool na) ∧ W.cell? ⟨w.heap.size, 1, none⟩ = some (.slice xa ka ca) ∧ W.cell? ⟨bc, 0, none⟩ = some (.bool nC) ∧ W.cell? ⟨bc, 1, none⟩ = some (.slice xC kC cC) := fun W h => ⟨(h.c2 (b := w.heap.size) (x := .bool na) (y := .slice xa ka ca) (by simp)).1, (h.c2 (b := w.heap.size) (x := .bool na) (y := .slice xa ka ca) (by simp)).2, (h.c2 (b := bc) (x := .bool nC) (y := .slice xC kC cC) (by simp)).1, (h.c2 (b := bc) (x := .bool nC) (y := .slice xC kC cC) (by simp)).2⟩
    go_upto_region 2 with (fail)
    go_cut [7] from 16 (fun s wx => LowT w ((bc, .bool nC, .slice xC kC cC) :: [(w.heap.size, .bool na, .slice xa ka ca), (w.heap.size + 1, .bool nb, .slice xb kb cb), (w.heap.size + 1 + 1, .bool false, .slice none 0 0), (w.heap.size + 1 + 1 + 1, .bool false, .slice none 0 0)]) A1 G nC xC kC cC s wx)
    case first =>
      go_region_held3 (fun w' => w'.cell? ⟨w.heap.size, 0, none⟩ = some (.bool na) ∧ w'.cell? ⟨w.heap.size, 1, none⟩ = some (.slice xa ka ca) ∧ w'.cell? ⟨bc, 0, none⟩ = some (.bool nC) ∧ w'.cell? ⟨bc, 1, none⟩ = some (.slice xC kC cC))
        (first | with_reducible exact ⟨p1, p2, p5, p6⟩ | with_reducible exact S4 _ E.drew | (refine S4 _ ?_; (first | with_reducible exact E | with_reducible refine LX.drew ?_ | with_reducible refine LX.alloc ?_ _ | with_reducible refine LX.set ?_ _ _ _ ?_ ?_ | with_reducible assumption) <;> (first | with_reducible exact E | with_reducible refine LX.drew ?_ | with_reducible refine LX.alloc ?_ _ | with_reducible refine LX.set ?_ _ _ _ ?_ ?_ | with_reducible assumption) <;> (first | with_reducible exact E | with_reducible refine LX.drew ?_ | with_reducible refine LX.alloc ?_ _ | with_reducible refine LX.set ?_ _ _ _ ?_ ?_ | with_reducible assumption) <;> (first | with_reducible exact E | with_reducible refine LX.drew ?_ | with_reducible refine LX.alloc ?_ _ | with_reducible refine LX.set ?_ _ _ _ ?_ ?_ | with_reducible assumption) <;> (first | with_reducible exact E | with_reducible refine LX.drew ?_ | with_reducible refine LX.alloc ?_ _ | with_reducible refine LX.set ?_ _ _ _ ?_ ?_ | with_reducible assumption) <;> (first | with_reducible exact E | with_reducible refine LX.drew ?_ | with_reducible refine LX.alloc ?_ _ | with_reducible refine LX.set ?_ _ _ _ ?_ ?_ | with_reducible assumption) <;> (first | with_reducible exact E | with_reducible refine LX.drew ?_ | with_reducible refine LX.alloc ?_ _ | with_reducible refine LX.set ?_ _ _ _ ?_ ?_ | with_reducible assumption) <;> (first | with_reducible exact E | with_reducible refine LX.drew ?_ | with_reducible refine LX.alloc ?_ _ | with_reducible refine LX.set ?_ _ _ _ ?_ ?_ | with_reducible assumption) <;> (first | with_reducible exact E | with_reducible refine LX.drew ?_ | with_reducible refine LX.alloc ?_ _ | with_reducible refine LX.set ?_ _ _ _ ?_ ?_ | with_reducible assumption); done) | go_keep)
        (first
        | (go_at_call 93; with_reducible refine (ref_size na xa ka ca _).mono ?_; rintro e wA ⟨rfl, hbA⟩; (try (have y1 := Two.belowX hbA (by with_reducible first | exact z1 | exact z1.drew | exact (z1.alloc _).drew | exact ((z1.alloc _).alloc _).drew | exact z1.alloc _ | exact (z1.alloc _).alloc _); obtain ⟨zf1, zf2, zf3, zf4⟩ := y1.cells; have zl4 := y1.lt)); (try (have y2 := Two.belowX hbA (by with_reducible first | exact z2 | exact z2.drew | exact (z2.alloc _).drew | exact ((z2.alloc _).alloc _).drew | exact z2.alloc _ | exact (z2.alloc _).alloc _); obtain ⟨zf1, zf2, zf3, zf4⟩ := y2.cells; have zl4 := y2.lt)); (try (have y3 := Two.belowX hbA (by with_reducible first | exact z3 | exact z3.drew | exact (z3.alloc _).drew | exact ((z3.alloc _).alloc _).drew | exact z3.alloc _ | exact (z3.alloc _).alloc _); obtain ⟨zf1, zf2, zf3, zf4⟩ := y3.cells; have zl4 := y3.lt)); (try (have z1 := Two.belowX hbA (by with_reducible first | exact E.n1.drew | exact E.n1); obtain ⟨zc1, zc2, zc3, zc4⟩ := z1.cells; have zl1 := z1.lt)); (try (have z2 := Two.belowX hbA (by with_reducible first | exact E.n21.drew | exact E.n21); obtain ⟨zc1, zc2, zc3, zc4⟩ := z2.cells; have zl1 := z2.lt)); (try (have z3 := Two.belowX hbA (by with_reducible first | exact E.n22.drew | exact E.n22); obtain ⟨zc1, zc2, zc3, zc4⟩ := z3.cells; have zl1 := z3.lt)); (try (replace hM := IsBig.belowX hbA (by with_reducible first | exact hM | exact hM.drewd | exact (hM.allocd _).drewd | exact ((hM.allocd _).allocd _).drewd | exact hM.allocd _ | exact (hM.allocd _).allocd _))); (try (replace hC := IsBig.belowX hbA (by with_reducible first | exact hC | exact hC.drewd | exact (hC.allocd _).drewd | exact ((hC.allocd _).allocd _).drewd | exact hC.allocd _ | exact (hC.allocd _).allocd _))); (have E' := LX.below hbA (by with_reducible first | exact E | exact E.drew | exact (E.alloc _).drew | exact ((E.alloc _).alloc _).drew | exact E.alloc _ | exact (E.alloc _).alloc _)); clear E; have E := E'; clear E'; have fr1 := E.fresh; have fr2 := E.fresh'; obtain ⟨fr3, fr4⟩ := E.room; (have k1 := E.c2 (b := w.heap.size) (x := .bool na) (y := .slice xa ka ca) (by simp)); (have k2 := E.c2 (b := bc) (x := .bool nC) (y := .slice xC kC cC) (by simp)); obtain ⟨p1, p2⟩ := k1; obtain ⟨p5, p6⟩ := k2)
        | (go_at_call 68; with_reducible refine (D1 nC xC kC cC _ (by with_reducible first | exact hM | exact hM.drewd | exact (hM.allocd _).drewd | exact ((hM.allocd _).allocd _).drewd | exact hM.allocd _ | exact (hM.allocd _).allocd _) (by with_reducible first | exact hC | exact hC.drewd | exact (hC.allocd _).drewd | exact ((hC.allocd _).allocd _).drewd | exact hC.allocd _ | exact (hC.allocd _).allocd _) (by omega)).mono ?_; rintro e wB hRB; obtain ⟨nB, xB, kB, cB, nR, xR, kR, cR, rfl, hIB, hIR, hbB⟩ := hRB.out; (try (have y1 := Two.belowX hbB (by with_reducible first | exact z1 | exact z1.drew | exact (z1.alloc _).drew | exact ((z1.alloc _).alloc _).drew | exact z1.alloc _ | exact (z1.alloc _).alloc _); obtain ⟨zf1, zf2, zf3, zf4⟩ := y1.cells; have zl4 := y1.lt)); (try (have y2 := Two.belowX hbB (by with_reducible first | exact z2 | exact z2.drew | exact (z2.alloc _).drew | exact ((z2.alloc _).alloc _).drew | exact z2.alloc _ | exact (z2.alloc _).alloc _); obtain ⟨zf1, zf2, zf3, zf4⟩ := y2.cells; have zl4 := y2.lt)); (try (have y3 := Two.belowX hbB (by with_reducible first | exact z3 | exact z3.drew | exact (z3.alloc _).drew | exact ((z3.alloc _).alloc _).drew | exact z3.alloc _ | exact (z3.alloc _).alloc _); obtain ⟨zf1, zf2, zf3, zf4⟩ := y3.cells; have zl4 := y3.lt)); (try (have z1 := Two.belowX hbB (by with_reducible first | exact E.n1.drew | exact E.n1); obtain ⟨zc1, zc2, zc3, zc4⟩ := z1.cells; have zl1 := z1.lt)); (try (have z2 := Two.belowX hbB (by with_reducible first | exact E.n21.drew | exact E.n21); obtain ⟨zc1, zc2, zc3, zc4⟩ := z2.cells; have zl1 := z2.lt)); (try (have z3 := Two.belowX hbB (by with_reducible first | exact E.n22.drew | exact E.n22); obtain ⟨zc1, zc2, zc3, zc4⟩ := z3.cells; have zl1 := z3.lt)); (have E' := LX.below hbB (by with_reducible first | exact E | exact E.drew | exact (E.alloc _).drew | exact ((E.alloc _).alloc _).drew | exact E.alloc _ | exact (E.alloc _).alloc _)); clear E; have E := E'; clear E'; have fr1 := E.fresh; have fr2 := E.fresh'; obtain ⟨fr3, fr4⟩ := E.room; (have k1 := E.c2 (b := w.heap.size) (x := .bool na) (y := .slice xa ka ca) (by simp)); (have k2 := E.c2 (b := bc) (x := .bool nC) (y := .slice xC kC cC) (by simp)); obtain ⟨p1, p2⟩ := k1; obtain ⟨p5, p6⟩ := k2))
      all_goals
        go_wp2_with fail
        go_meet
        case rel =>
          refine ⟨_, nB, xB, kB, cB, rfl, ?_, ?_, IsBig.keeps hIB ?_, IsBig.keeps hC ?_, ?_, ?_⟩
          · (first | with_reducible exact E | with_reducible refine LX.drew ?_ | with_reducible refine LX.alloc ?_ _ | with_reducible refine LX.set ?_ _ _ _ ?_ ?_ | with_reducible assumption) <;> (first | with_reducible exact E | with_reducible refine LX.drew ?_ | with_reducible refine LX.alloc ?_ _ | with_reducible refine LX.set ?_ _ _ _ ?_ ?_ | with_reducible assumption) <;> (first | with_reducible exact E | with_reducible refine LX.drew ?_ | with_reducible refine LX.alloc ?_ _ | with_reducible refine LX.set ?_ _ _ _ ?_ ?_ | with_reducible assumption) <;> (first | with_reducible exact E | with_reducible refine LX.drew ?_ | with_reducible refine LX.alloc ?_ _ | with_reducible refine LX.set ?_ _ _ _ ?_ ?_ | with_reducible assumption) <;> (first | with_reducible exact E | with_reducible refine LX.drew ?_ | with_reducible refine LX.alloc ?_ _ | with_reducible refine LX.set ?_ _ _ _ ?_ ?_ | with_reducible assumption) <;> (first | with_reducible exact E | with_reducible refine LX.drew ?_ | with_reducible refine LX.alloc ?_ _ | with_reducible refine LX.set ?_ _ _ _ ?_ ?_ | with_reducible assumption) <;> (first | with_reducible exact E | with_reducible refine LX.drew ?_ | with_reducible refine LX.alloc ?_ _ | with_reducible refine LX.set ?_ _ _ _ ?_ ?_ | with_reducible assumption) <;> (first | with_reducible exact E | with_reducible refine LX.drew ?_ | with_reducible refine LX.alloc ?_ _ | with_reducible refine LX.set ?_ _ _ _ ?_ ?_ | with_reducible assumption) <;> (first | with_reducible exact E | with_reducible refine LX.drew ?_ | with_reducible refine LX.alloc ?_ _ | with_reducible refine LX.set ?_ _ _ _ ?_ ?_ | with_reducible assumption)
          · (first | with_reducible refine Two.drew ?_ | with_reducible exact Two.new _ _ _ _ rfl | with_reducible exact Two.new1 _ _ _ _ | with_reducible exact Two.newS _ _ _ _ _ _ | with_reducible refine Two.alloc ?_ _ | with_reducible refine Two.putE ?_ _ _ | with_reducible refine Two.put_other ?_ ?_ _ _ | with_reducible refine Two.putE_other ?_ ?_ _ _ | with_reducible exact z1 | with_reducible exact ⟨_, _, z1⟩ | with_reducible exact z2 | with_reducible exact ⟨_, _, z2⟩ | with_reducible exact z3 | with_reducible exact ⟨_, _, z3⟩ | with_reducible exact y1 | with_reducible exact ⟨_, _, y1⟩ | with_reducible exact y2 | with_reducible exact ⟨_, _, y2⟩ | with_reducible exact y3 | with_reducible exact ⟨_, _, y3⟩ | with_reducible exact Nat.ne_of_lt (by with_reducible assumption) | with_reducible exact Nat.ne_of_gt (by with_reducible assumption) | with_reducible assumption | omega) <;> (first | with_reducible refine Two.drew ?_ | with_reducible exact Two.new _ _ _ _ rfl | with_reducible exact Two.new1 _ _ _ _ | with_reducible exact Two.newS _ _ _ _ _ _ | with_reducible refine Two.alloc ?_ _ | with_reducible refine Two.putE ?_ _ _ | with_reducible refine Two.put_other ?_ ?_ _ _ | with_reducible refine Two.putE_other ?_ ?_ _ _ | with_reducible exact z1 | with_reducible exact ⟨_, _, z1⟩ | with_reducible exact z2 | with_reducible exact ⟨_, _, z2⟩ | with_reducible exact z3 | with_reducible exact ⟨_, _, z3⟩ | with_reducible exact y1 | with_reducible exact ⟨_, _, y1⟩ | with_reducible exact y2 | with_reducible exact ⟨_, _, y2⟩ | with_reducible exact y3 | with_reducible exact ⟨_, _, y3⟩ | with_reducible exact Nat.ne_of_lt (by with_reducible assumption) | with_reducible exact Nat.ne_of_gt (by with_reducible assumption) | with_reducible assumption | omega) <;> (first | with_reducible refine Two.drew ?_ | with_reducible exact Two.new _ _ _ _ rfl | with_reducible exact Two.new1 _ _ _ _ | with_reducible exact Two.newS _ _ _ _ _ _ | with_reducible refine Two.alloc ?_ _ | with_reducible refine Two.putE ?_ _ _ | with_reducible refine Two.put_other ?_ ?_ _ _ | with_reducible refine Two.putE_other ?_ ?_ _ _ | with_reducible exact z1 | with_reducible exact ⟨_, _, z1⟩ | with_reducible exact z2 | with_reducible exact ⟨_, _, z2⟩ | with_reducible exact z3 | with_reducible exact ⟨_, _, z3⟩ | with_reducible exact y1 | with_reducible exact ⟨_, _, y1⟩ | with_reducible exact y2 | with_reducible exact ⟨_, _, y2⟩ | with_reducible exact y3 | with_reducible exact ⟨_, _, y3⟩ | with_reducible exact Nat.ne_of_lt (by with_reducible assumption) | with_reducible exact Nat.ne_of_gt (by with_reducible assumption) | with_reducible assumption | omega) <;> (first | with_reducible refine Two.drew ?_ | with_reducible exact Two.new _ _ _ _ rfl | with_reducible exact Two.new1 _ _ _ _ | with_reducible exact Two.newS _ _ _ _ _ _ | with_reducible refine Two.alloc ?_ _ | with_reducible refine Two.putE ?_ _ _ | with_reducible refine Two.put_other ?_ ?_ _ _ | with_reducible refine Two.putE_other ?_ ?_ _ _ | with_reducible exact z1 | with_reducible exact ⟨_, _, z1⟩ | with_reducible exact z2 | with_reducible exact ⟨_, _, z2⟩ | with_reducible exact z3 | with_reducible exact ⟨_, _, z3⟩ | with_reducible exact y1 | with_reducible exact ⟨_, _, y1⟩ | with_reducible exact y2 | with_reducible exact ⟨_, _, y2⟩ | with_reducible exact y3 | with_reducible exact ⟨_, _, y3⟩ | with_reducible exact Nat.ne_of_lt (by with_reducible assumption) | with_reducible exact Nat.ne_of_gt (by with_reducible assumption) | with_reducible assumption | omega) <;> (first | with_reducible refine Two.drew ?_ | with_reducible exact Two.new _ _ _ _ rfl | with_reducible exact Two.new1 _ _ _ _ | with_reducible exact Two.newS _ _ _ _ _ _ | with_reducible refine Two.alloc ?_ _ | with_reducible refine Two.putE ?_ _ _ | with_reducible refine Two.put_other ?_ ?_ _ _ | with_reducible refine Two.putE_other ?_ ?_ _ _ | with_reducible exact z1 | with_reducible exact ⟨_, _, z1⟩ | with_reducible exact z2 | with_reducible exact ⟨_, _, z2⟩ | with_reducible exact z3 | with_reducible exact ⟨_, _, z3⟩ | with_reducible exact y1 | with_reducible exact ⟨_, _, y1⟩ | with_reducible exact y2 | with_reducible exact ⟨_, _, y2⟩ | with_reducible exact y3 | with_reducible exact ⟨_, _, y3⟩ | with_reducible exact Nat.ne_of_lt (by with_reducible assumption) | with_reducible exact Nat.ne_of_gt (by with_reducible assumption) | with_reducible assumption | omega) <;> (first | with_reducible refine Two.drew ?_ | with_reducible exact Two.new _ _ _ _ rfl | with_reducible exact Two.new1 _ _ _ _ | with_reducible exact Two.newS _ _ _ _ _ _ | with_reducible refine Two.alloc ?_ _ | with_reducible refine Two.putE ?_ _ _ | with_reducible refine Two.put_other ?_ ?_ _ _ | with_reducible refine Two.putE_other ?_ ?_ _ _ | with_reducible exact z1 | with_reducible exact ⟨_, _, z1⟩ | with_reducible exact z2 | with_reducible exact ⟨_, _, z2⟩ | with_reducible exact z3 | with_reducible exact ⟨_, _, z3⟩ | with_reducible exact y1 | with_reducible exact ⟨_, _, y1⟩ | with_reducible exact y2 | with_reducible exact ⟨_, _, y2⟩ | with_reducible exact y3 | with_reducible exact ⟨_, _, y3⟩ | with_reducible exact Nat.ne_of_lt (by with_reducible assumption) | with_reducible exact Nat.ne_of_gt (by with_reducible assumption) | with_reducible assumption | omega)
          · exact (by repeat' (first | (with_reducible exact Keeps.refl _) | (with_reducible refine Keeps.alloc ?_ _) | (with_reducible refine Keeps.drew ?_) | (with_reducible refine Keeps.drewN ?_ _) | (with_reducible refine Keeps.set ?_ _ _ (T := 41) ?_ (by decide)) | (with_reducible exact TyAt.new _ _ _ _ (by simp)) | (with_reducible refine TyAt.set ?_ _ _) | (with_reducible refine TyAt.alloc ?_ _) | (with_reducible refine TyAt.drew ?_) | (with_reducible refine TyAt.drewN ?_ _) | (apply Keeps.below; assumption) | (exact Two.ty (by assumption)) | (apply TyAt.below; rotate_left; assumption)))
          · exact (by repeat' (first | (with_reducible exact Keeps.refl _) | (with_reducible refine Keeps.alloc ?_ _) | (with_reducible refine Keeps.drew ?_) | (with_reducible refine Keeps.drewN ?_ _) | (with_reducible refine Keeps.set ?_ _ _ (T := 41) ?_ (by decide)) | (with_reducible exact TyAt.new _ _ _ _ (by simp)) | (with_reducible refine TyAt.set ?_ _ _) | (with_reducible refine TyAt.alloc ?_ _) | (with_reducible refine TyAt.drew ?_) | (with_reducible refine TyAt.drewN ?_ _) | (apply Keeps.below; assumption) | (exact Two.ty (by assumption)) | (apply TyAt.below; rotate_left; assumption)))
          · with_reducible assumption
          · with_reducible assumption
    case rest =>
      clear E hM hC fr1 fr2 fr3 fr4 p1 p2 p5 p6 S4
      obtain ⟨b7, n7, x7, k7, c7, rfl, E0, t7, h7, hC, f7, l7⟩ := hcut
      have E := LX.add E0 t7
      have hM := hD0.keep E.bl
      have fr1 := E.fresh
      have fr2 := E.fresh'
      obtain ⟨fr3, fr4⟩ := E.room
      have k1 := E.c2 (b := w.heap.size + 1) (x := .bool nb) (y := .slice xb kb cb) (by simp)
      have k2 := E.c2 (b := bc) (x := .bool nC) (y := .slice xC kC cC) (by simp)
      obtain ⟨p1, p2⟩ := k1
      obtain ⟨p5, p6⟩ := k2
      have S4 : ∀ W, LX w ((b7, .bool n7, .slice x7 k7 c7) :: ((bc, .bool nC, .slice xC kC cC) :: [(w.heap.size, .bool na, .slice xa ka ca), (w.heap.size + 1, .bool nb, .slice xb kb cb), (w.heap.size + 1 + 1, .bool false, .slice none 0 0), (w.heap.size + 1 + 1 + 1, .bool false, .slice none 0 0)])) W → W.cell? ⟨w.heap.size + 1, 0, none⟩ = some (.bool nb) ∧ W.cell? ⟨w.heap.size + 1, 1, none⟩ = some (.slice xb kb cb) ∧ W.cell? ⟨bc, 0, none⟩ = some (.bool nC) ∧ W.cell? ⟨bc, 1, none⟩ = some (.slice xC kC cC) := fun W h => ⟨(h.c2 (b := w.heap.size + 1) (x := .bool nb) (y := .slice xb kb cb) (by simp)).1, (h.c2 (b := w.heap.size + 1) (x := .bool nb) (y := .slice xb kb cb) (by simp)).2, (h.c2 (b := bc) (x := .bool nC) (y := .slice xC kC cC) (by simp)).1, (h.c2 (b := bc) (x := .bool nC) (y := .slice xC kC cC) (by simp)).2⟩
      go_upto_region 3 with (fail)
      go_cut [9] from 23 (fun s wx => LowT w ((b7, .bool n7, .slice x7 k7 c7) :: ((bc, .bool nC, .slice xC kC cC) :: [(w.heap.size, .bool na, .slice xa ka ca), (w.heap.size + 1, .bool nb, .slice xb kb cb), (w.heap.size + 1 + 1, .bool false, .slice none 0 0), (w.heap.size + 1 + 1 + 1, .bool false, .slice none 0 0)])) B1 A1 n7 x7 k7 c7 s wx)
      case first =>
        go_region_held3 (fun w' => w'.cell? ⟨w.heap.size + 1, 0, none⟩ = some (.bool nb) ∧ w'.cell? ⟨w.heap.size + 1, 1, none⟩ = some (.slice xb kb cb) ∧ w'.cell? ⟨bc, 0, none⟩ = some (.bool nC) ∧ w'.cell? ⟨bc, 1, none⟩ = some (.slice xC kC cC))
          (first | with_reducible exact ⟨p1, p2, p5, p6⟩ | with_reducible exact S4 _ E.drew | (refine S4 _ ?_; (first | with_reducible exact E | with_reducible refine LX.drew ?_ | with_reducible refine LX.alloc ?_ _ | with_reducible refine LX.set ?_ _ _ _ ?_ ?_ | with_reducible assumption) <;> (first | with_reducible exact E | with_reducible refine LX.drew ?_ | with_reducible refine LX.alloc ?_ _ | with_reducible refine LX.set ?_ _ _ _ ?_ ?_ | with_reducible assumption) <;> (first | with_reducible exact E | with_reducible refine LX.drew ?_ | with_reducible refine LX.alloc ?_ _ | with_reducible refine LX.set ?_ _ _ _ ?_ ?_ | with_reducible assumption) <;> (first | with_reducible exact E | with_reducible refine LX.drew ?_ | with_reducible refine LX.alloc ?_ _ | with_reducible refine LX.set ?_ _ _ _ ?_ ?_ | with_reducible assumption) <;> (first | with_reducible exact E | with_reducible refine LX.drew ?_ | with_reducible refine LX.alloc ?_ _ | with_reducible refine LX.set ?_ _ _ _ ?_ ?_ | with_reducible assumption) <;> (first | with_reducible exact E | with_reducible refine LX.drew ?_ | with_reducible refine LX.alloc ?_ _ | with_reducible refine LX.set ?_ _ _ _ ?_ ?_ | with_reducible assumption) <;> (first | with_reducible exact E | with_reducible refine LX.drew ?_ | with_reducible refine LX.alloc ?_ _ | with_reducible refine LX.set ?_ _ _ _ ?_ ?_ | with_reducible assumption) <;> (first | with_reducible exact E | with_reducible refine LX.drew ?_ | with_reducible refine LX.alloc ?_ _ | with_reducible refine LX.set ?_ _ _ _ ?_ ?_ | with_reducible assumption) <;> (first | with_reducible exact E | with_reducible refine LX.drew ?_ | with_reducible refine LX.alloc ?_ _ | with_reducible refine LX.set ?_ _ _ _ ?_ ?_ | with_reducible assumption); done) | go_keep)
          (first
          | (go_at_call 93; with_reducible refine (ref_size nb xb kb cb _).mono ?_; rintro e wA ⟨rfl, hbA⟩; (try (have y1 := Two.belowX hbA (by with_reducible first | exact z1 | exact z1.drew | exact (z1.alloc _).drew | exact ((z1.alloc _).alloc _).drew | exact z1.alloc _ | exact (z1.alloc _).alloc _); obtain ⟨zf1, zf2, zf3, zf4⟩ := y1.cells; have zl4 := y1.lt)); (try (have y2 := Two.belowX hbA (by with_reducible first | exact z2 | exact z2.drew | exact (z2.alloc _).drew | exact ((z2.alloc _).alloc _).drew | exact z2.alloc _ | exact (z2.alloc _).alloc _); obtain ⟨zf1, zf2, zf3, zf4⟩ := y2.cells; have zl4 := y2.lt)); (try (have y3 := Two.belowX hbA (by with_reducible first | exact z3 | exact z3.drew | exact (z3.alloc _).drew | exact ((z3.alloc _).alloc _).drew | exact z3.alloc _ | exact (z3.alloc _).alloc _); obtain ⟨zf1, zf2, zf3, zf4⟩ := y3.cells; have zl4 := y3.lt)); (try (have z1 := Two.belowX hbA (by with_reducible first | exact E.n1.drew | exact E.n1); obtain ⟨zc1, zc2, zc3, zc4⟩ := z1.cells; have zl1 := z1.lt)); (try (have z2 := Two.belowX hbA (by with_reducible first | exact E.n21.drew | exact E.n21); obtain ⟨zc1, zc2, zc3, zc4⟩ := z2.cells; have zl1 := z2.lt)); (try (have z3 := Two.belowX hbA (by with_reducible first | exact E.n22.drew | exact E.n22); obtain ⟨zc1, zc2, zc3, zc4⟩ := z3.cells; have zl1 := z3.lt)); (try (replace hM := IsBig.belowX hbA (by with_reducible first | exact hM | exact hM.drewd | exact (hM.allocd _).drewd | exact ((hM.allocd _).allocd _).drewd | exact hM.allocd _ | exact (hM.allocd _).allocd _))); (try (replace hC := IsBig.belowX hbA (by with_reducible first | exact hC | exact hC.drewd | exact (hC.allocd _).drewd | exact ((hC.allocd _).allocd _).drewd | exact hC.allocd _ | exact (hC.allocd _).allocd _))); (try (replace h7 := IsBig.belowX hbA (by with_reducible first | exact h7 | exact h7.drewd | exact (h7.allocd _).drewd | exact ((h7.allocd _).allocd _).drewd | exact h7.allocd _ | exact (h7.allocd _).allocd _))); (have E' := LX.below hbA (by with_reducible first | exact E | exact E.drew | exact (E.alloc _).drew | exact ((E.alloc _).alloc _).drew | exact E.alloc _ | exact (E.alloc _).alloc _)); clear E; have E := E'; clear E'; have fr1 := E.fresh; have fr2 := E.fresh'; obtain ⟨fr3, fr4⟩ := E.room; (have k1 := E.c2 (b := w.heap.size + 1) (x := .bool nb) (y := .slice xb kb cb) (by simp)); (have k2 := E.c2 (b := bc) (x := .bool nC) (y := .slice xC kC cC) (by simp)); obtain ⟨p1, p2⟩ := k1; obtain ⟨p5, p6⟩ := k2)
          | (go_at_call 68; with_reducible refine (D2 nC xC kC cC _ (by with_reducible first | exact hM | exact hM.drewd | exact (hM.allocd _).drewd | exact ((hM.allocd _).allocd _).drewd | exact hM.allocd _ | exact (hM.allocd _).allocd _) (by with_reducible first | exact hC | exact hC.drewd | exact (hC.allocd _).drewd | exact ((hC.allocd _).allocd _).drewd | exact hC.allocd _ | exact (hC.allocd _).allocd _) (by omega)).mono ?_; rintro e wB hRB; obtain ⟨nB, xB, kB, cB, nR, xR, kR, cR, rfl, hIB, hIR, hbB⟩ := hRB.out; (try (have y1 := Two.belowX hbB (by with_reducible first | exact z1 | exact z1.drew | exact (z1.alloc _).drew | exact ((z1.alloc _).alloc _).drew | exact z1.alloc _ | exact (z1.alloc _).alloc _); obtain ⟨zf1, zf2, zf3, zf4⟩ := y1.cells; have zl4 := y1.lt)); (try (have y2 := Two.belowX hbB (by with_reducible first | exact z2 | exact z2.drew | exact (z2.alloc _).drew | exact ((z2.alloc _).alloc _).drew | exact z2.alloc _ | exact (z2.alloc _).alloc _); obtain ⟨zf1, zf2, zf3, zf4⟩ := y2.cells; have zl4 := y2.lt)); (try (have y3 := Two.belowX hbB (by with_reducible first | exact z3 | exact z3.drew | exact (z3.alloc _).drew | exact ((z3.alloc _).alloc _).drew | exact z3.alloc _ | exact (z3.alloc _).alloc _); obtain ⟨zf1, zf2, zf3, zf4⟩ := y3.cells; have zl4 := y3.lt)); (try (have z1 := Two.belowX hbB (by with_reducible first | exact E.n1.drew | exact E.n1); obtain ⟨zc1, zc2, zc3, zc4⟩ := z1.cells; have zl1 := z1.lt)); (try (have z2 := Two.belowX hbB (by with_reducible first | exact E.n21.drew | exact E.n21); obtain ⟨zc1, zc2, zc3, zc4⟩ := z2.cells; have zl1 := z2.lt)); (try (have z3 := Two.belowX hbB (by with_reducible first | exact E.n22.drew | exact E.n22); obtain ⟨zc1, zc2, zc3, zc4⟩ := z3.cells; have zl1 := z3.lt)); (have E' := LX.below hbB (by with_reducible first | exact E | exact E.drew | exact (E.alloc _).drew | exact ((E.alloc _).alloc _).drew | exact E.alloc _ | exact (E.alloc _).alloc _)); clear E; have E := E'; clear E'; have fr1 := E.fresh; have fr2 := E.fresh'; obtain ⟨fr3, fr4⟩ := E.room; (have k1 := E.c2 (b := w.heap.size + 1) (x := .bool nb) (y := .slice xb kb cb) (by simp)); (have k2 := E.c2 (b := bc) (x := .bool nC) (y := .slice xC kC cC) (by simp)); obtain ⟨p1, p2⟩ := k1; obtain ⟨p5, p6⟩ := k2))
        all_goals
          go_wp2_with fail
          go_meet
          case rel =>
            refine ⟨_, nB, xB, kB, cB, rfl, ?_, ?_, IsBig.keeps hIB ?_, IsBig.keeps h7 ?_, ?_, ?_⟩
            · (first | with_reducible exact E | with_reducible refine LX.drew ?_ | with_reducible refine LX.alloc ?_ _ | with_reducible refine LX.set ?_ _ _ _ ?_ ?_ | with_reducible assumption) <;> (first | with_reducible exact E | with_reducible refine LX.drew ?_ | with_reducible refine LX.alloc ?_ _ | with_reducible refine LX.set ?_ _ _ _ ?_ ?_ | with_reducible assumption) <;> (first | with_reducible exact E | with_reducible refine LX.drew ?_ | with_reducible refine LX.alloc ?_ _ | with_reducible refine LX.set ?_ _ _ _ ?_ ?_ | with_reducible assumption) <;> (first | with_reducible exact E | with_reducible refine LX.drew ?_ | with_reducible refine LX.alloc ?_ _ | with_reducible refine LX.set ?_ _ _ _ ?_ ?_ | with_reducible assumption) <;> (first | with_reducible exact E | with_reducible refine LX.drew ?_ | with_reducible refine LX.alloc ?_ _ | with_reducible refine LX.set ?_ _ _ _ ?_ ?_ | with_reducible assumption) <;> (first | with_reducible exact E | with_reducible refine LX.drew ?_ | with_reducible refine LX.alloc ?_ _ | with_reducible refine LX.set ?_ _ _ _ ?_ ?_ | with_reducible assumption) <;> (first | with_reducible exact E | with_reducible refine LX.drew ?_ | with_reducible refine LX.alloc ?_ _ | with_reducible refine LX.set ?_ _ _ _ ?_ ?_ | with_reducible assumption) <;> (first | with_reducible exact E | with_reducible refine LX.drew ?_ | with_reducible refine LX.alloc ?_ _ | with_reducible refine LX.set ?_ _ _ _ ?_ ?_ | with_reducible assumption) <;> (first | with_reducible exact E | with_reducible refine LX.drew ?_ | with_reducible refine LX.alloc ?_ _ | with_reducible refine LX.set ?_ _ _ _ ?_ ?_ | with_reducible assumption)
            · (first | with_reducible refine Two.drew ?_ | with_reducible exact Two.new _ _ _ _ rfl | with_reducible exact Two.new1 _ _ _ _ | with_reducible exact Two.newS _ _ _ _ _ _ | with_reducible refine Two.alloc ?_ _ | with_reducible refine Two.putE ?_ _ _ | with_reducible refine Two.put_other ?_ ?_ _ _ | with_reducible refine Two.putE_other ?_ ?_ _ _ | with_reducible exact z1 | with_reducible exact ⟨_, _, z1⟩ | with_reducible exact z2 | with_reducible exact ⟨_, _, z2⟩ | with_reducible exact z3 | with_reducible exact ⟨_, _, z3⟩ | with_reducible exact y1 | with_reducible exact ⟨_, _, y1⟩ | with_reducible exact y2 | with_reducible exact ⟨_, _, y2⟩ | with_reducible exact y3 | with_reducible exact ⟨_, _, y3⟩ | with_reducible exact Nat.ne_of_lt (by with_reducible assumption) | with_reducible exact Nat.ne_of_gt (by with_reducible assumption) | with_reducible assumption | omega) <;> (first | with_reducible refine Two.drew ?_ | with_reducible exact Two.new _ _ _ _ rfl | with_reducible exact Two.new1 _ _ _ _ | with_reducible exact Two.newS _ _ _ _ _ _ | with_reducible refine Two.alloc ?_ _ | with_reducible refine Two.putE ?_ _ _ | with_reducible refine Two.put_other ?_ ?_ _ _ | with_reducible refine Two.putE_other ?_ ?_ _ _ | with_reducible exact z1 | with_reducible exact ⟨_, _, z1⟩ | with_reducible exact z2 | with_reducible exact ⟨_, _, z2⟩ | with_reducible exact z3 | with_reducible exact ⟨_, _, z3⟩ | with_reducible exact y1 | with_reducible exact ⟨_, _, y1⟩ | with_reducible exact y2 | with_reducible exact ⟨_, _, y2⟩ | with_reducible exact y3 | with_reducible exact ⟨_, _, y3⟩ | with_reducible exact Nat.ne_of_lt (by with_reducible assumption) | with_reducible exact Nat.ne_of_gt (by with_reducible assumption) | with_reducible assumption | omega) <;> (first | with_reducible refine Two.drew ?_ | with_reducible exact Two.new _ _ _ _ rfl | with_reducible exact Two.new1 _ _ _ _ | with_reducible exact Two.newS _ _ _ _ _ _ | with_reducible refine Two.alloc ?_ _ | with_reducible refine Two.putE ?_ _ _ | with_reducible refine Two.put_other ?_ ?_ _ _ | with_reducible refine Two.putE_other ?_ ?_ _ _ | with_reducible exact z1 | with_reducible exact ⟨_, _, z1⟩ | with_reducible exact z2 | with_reducible exact ⟨_, _, z2⟩ | with_reducible exact z3 | with_reducible exact ⟨_, _, z3⟩ | with_reducible exact y1 | with_reducible exact ⟨_, _, y1⟩ | with_reducible exact y2 | with_reducible exact ⟨_, _, y2⟩ | with_reducible exact y3 | with_reducible exact ⟨_, _, y3⟩ | with_reducible exact Nat.ne_of_lt (by with_reducible assumption) | with_reducible exact Nat.ne_of_gt (by with_reducible assumption) | with_reducible assumption | omega) <;> (first | with_reducible refine Two.drew ?_ | with_reducible exact Two.new _ _ _ _ rfl | with_reducible exact Two.new1 _ _ _ _ | with_reducible exact Two.newS _ _ _ _ _ _ | with_reducible refine Two.alloc ?_ _ | with_reducible refine Two.putE ?_ _ _ | with_reducible refine Two.put_other ?_ ?_ _ _ | with_reducible refine Two.putE_other ?_ ?_ _ _ | with_reducible exact z1 | with_reducible exact ⟨_, _, z1⟩ | with_reducible exact z2 | with_reducible exact ⟨_, _, z2⟩ | with_reducible exact z3 | with_reducible exact ⟨_, _, z3⟩ | with_reducible exact y1 | with_reducible exact ⟨_, _, y1⟩ | with_reducible exact y2 | with_reducible exact ⟨_, _, y2⟩ | with_reducible exact y3 | with_reducible exact ⟨_, _, y3⟩ | with_reducible exact Nat.ne_of_lt (by with_reducible assumption) | with_reducible exact Nat.ne_of_gt (by with_reducible assumption) | with_reducible assumption | omega) <;> (first | with_reducible refine Two.drew ?_ | with_reducible exact Two.new _ _ _ _ rfl | with_reducible exact Two.new1 _ _ _ _ | with_reducible exact Two.newS _ _ _ _ _ _ | with_reducible refine Two.alloc ?_ _ | with_reducible refine Two.putE ?_ _ _ | with_reducible refine Two.put_other ?_ ?_ _ _ | with_reducible refine Two.putE_other ?_ ?_ _ _ | with_reducible exact z1 | with_reducible exact ⟨_, _, z1⟩ | with_reducible exact z2 | with_reducible exact ⟨_, _, z2⟩ | with_reducible exact z3 | with_reducible exact ⟨_, _, z3⟩ | with_reducible exact y1 | with_reducible exact ⟨_, _, y1⟩ | with_reducible exact y2 | with_reducible exact ⟨_, _, y2⟩ | with_reducible exact y3 | with_reducible exact ⟨_, _, y3⟩ | with_reducible exact Nat.ne_of_lt (by with_reducible assumption) | with_reducible exact Nat.ne_of_gt (by with_reducible assumption) | with_reducible assumption | omega) <;> (first | with_reducible refine Two.drew ?_ | with_reducible exact Two.new _ _ _ _ rfl | with_reducible exact Two.new1 _ _ _ _ | with_reducible exact Two.newS _ _ _ _ _ _ | with_reducible refine Two.alloc ?_ _ | with_reducible refine Two.putE ?_ _ _ | with_reducible refine Two.put_other ?_ ?_ _ _ | with_reducible refine Two.putE_other ?_ ?_ _ _ | with_reducible exact z1 | with_reducible exact ⟨_, _, z1⟩ | with_reducible exact z2 | with_reducible exact ⟨_, _, z2⟩ | with_reducible exact z3 | with_reducible exact ⟨_, _, z3⟩ | with_reducible exact y1 | with_reducible exact ⟨_, _, y1⟩ | with_reducible exact y2 | with_reducible exact ⟨_, _, y2⟩ | with_reducible exact y3 | with_reducible exact ⟨_, _, y3⟩ | with_reducible exact Nat.ne_of_lt (by with_reducible assumption) | with_reducible exact Nat.ne_of_gt (by with_reducible assumption) | with_reducible assumption | omega)
            · exact (by repeat' (first | (with_reducible exact Keeps.refl _) | (with_reducible refine Keeps.alloc ?_ _) | (with_reducible refine Keeps.drew ?_) | (with_reducible refine Keeps.drewN ?_ _) | (with_reducible refine Keeps.set ?_ _ _ (T := 41) ?_ (by decide)) | (with_reducible exact TyAt.new _ _ _ _ (by simp)) | (with_reducible refine TyAt.set ?_ _ _) | (with_reducible refine TyAt.alloc ?_ _) | (with_reducible refine TyAt.drew ?_) | (with_reducible refine TyAt.drewN ?_ _) | (apply Keeps.below; assumption) | (exact Two.ty (by assumption)) | (apply TyAt.below; rotate_left; assumption)))
            · exact (by repeat' (first | (with_reducible exact Keeps.refl _) | (with_reducible refine Keeps.alloc ?_ _) | (with_reducible refine Keeps.drew ?_) | (with_reducible refine Keeps.drewN ?_ _) | (with_reducible refine Keeps.set ?_ _ _ (T := 41) ?_ (by decide)) | (with_reducible exact TyAt.new _ _ _ _ (by simp)) | (with_reducible refine TyAt.set ?_ _ _) | (with_reducible refine TyAt.alloc ?_ _) | (with_reducible refine TyAt.drew ?_) | (with_reducible refine TyAt.drewN ?_ _) | (apply Keeps.below; assumption) | (exact Two.ty (by assumption)) | (apply TyAt.below; rotate_left; assumption)))
            · with_reducible assumption
            · with_reducible assumption
      case rest =>
        clear E hM hC h7 fr1 fr2 fr3 fr4 p1 p2 p5 p6 S4
        obtain ⟨b9, n9, x9, k9, c9, rfl, E, t9, h9, h7, f9, l9⟩ := hcut
        have hk7 := h7.le sA
        have g7 := E.get (b := b7) (x := .bool n7) (y := .slice x7 k7 c7) (by simp)
        have gN := E.get (b := w.heap.size) (x := .bool na) (y := .slice xa ka ca) (by simp)
        have gD := E.get (b := w.heap.size + 1) (x := .bool nb) (y := .slice xb kb cb) (by simp)
        have z2 := E.get (b := w.heap.size + 1 + 1) (x := .bool false) (y := .slice none 0 0) (by simp)
        have z3 := E.get (b := w.heap.size + 1 + 1 + 1) (x := .bool false) (y := .slice none 0 0) (by simp)
        have e79 := f9 (b7, .bool n7, .slice x7 k7 c7) (by simp)
        have e2 := f7 (w.heap.size + 1 + 1, .bool false, .slice none 0 0) (by simp)
        have e3 := f7 (w.heap.size + 1 + 1 + 1, .bool false, .slice none 0 0) (by simp)
        have e4 := f9 (w.heap.size + 1 + 1, .bool false, .slice none 0 0) (by simp)
        have e5 := f9 (w.heap.size + 1 + 1 + 1, .bool false, .slice none 0 0) (by simp)
        simp only at e79 e2 e3 e4 e5
        have hbl := E.bl
        have hl7 := l7
        obtain ⟨p1, p2, p3, p4⟩ := gN.cells
        obtain ⟨p5, p6, p7, p8⟩ := gD.cells
        go_upto_if 34 with (fail)
        obtain ⟨c, ec⟩ : ∃ c, c = (na == nb) := ⟨_, rfl⟩
        rw [← ec]
        have EC := Lib.hid ec
        clear ec p1 p2 p3 p4 p5 p6 p7 p8
        go_cut [] from 34 (fun wx => LowR w b7 b9 n9 x9 k9 c9 A2 B1 wx)
        case first =>
          obtain ⟨p1, p2, p3, p4⟩ := g7.cells
          cases c
          · have hs : na ≠ nb := by have := EC.out; intro h; simp [h] at this
            have EV := Lib.hid (show A2 = -A1 from by rw [← EA2.out, if_neg hs])
            clear hs
            go_wp2_with (go_at_call 63; go_loud (with_reducible refine (big_minus n7 x7 k7 c7 A1 _ h7 ?_).mono ?_); omega; rintro e w5 ⟨n5, x5, k5, c5, rfl, hI5, hb5⟩; replace g7 := g7.below hb5; replace t9 := t9.below hb5; replace z2 := z2.below hb5; replace z3 := z3.below hb5; replace h9 := h9.keep hb5; replace hbl := hbl.trans (hb5.mono hbl.size); obtain ⟨q1, q2, q3, q4⟩ := g7.cells)
            go_meet
            case rel => exact ⟨n5, x5, k5, c5, g7.put _ _, by rw [EV.out]; exact IsBig.put hI5 g7 _ _, t9.put_other (fun h => e79 h.symm) _ _, IsBig.put h9 g7 _ _, z2.put_other e2 _ _, z3.put_other e3 _ _, BP hbl hl7 _ _⟩
          · have hs : na = nb := by have := EC.out; simpa using this.symm
            have EV := Lib.hid (show A2 = A1 from by rw [← EA2.out, if_pos hs])
            clear hs
            go_wp2_with fail
            go_meet
            case rel => exact ⟨n7, x7, k7, c7, g7, by rw [EV.out]; exact h7, t9, h9, z2, z3, hbl⟩
        case rest =>
          clear g7 gN gD t9 z2 z3 h7 h9 hbl E
          obtain ⟨n, x, k, c', g7, h7, t9, h9, z2, z3, hbl⟩ := hcut
          obtain ⟨p1, p2, p3, p4⟩ := g7.cells
          obtain ⟨p5, p6, p7, p8⟩ := t9.cells
          obtain ⟨q1, q2, q3, q4⟩ := z2.cells
          obtain ⟨q5, q6, q7, q8⟩ := z3.cells
          go_wp2_with fail
          go_region
          all_goals
            go_wp2_with fail
            (go_light; simp [bodyPost, results, Tryd.results51, go_sem, *])
            exact ⟨n, x, k, c', n9, x9, k9, c9, rfl, IsBig.keeps h7 (by repeat' (first | (with_reducible exact Keeps.refl _) | (with_reducible refine Keeps.alloc ?_ _) | (with_reducible refine Keeps.drew ?_) | (with_reducible refine Keeps.drewN ?_ _) | (with_reducible refine Keeps.set ?_ _ _ (T := 41) ?_ (by decide)) | (with_reducible exact TyAt.new _ _ _ _ (by simp)) | (with_reducible refine TyAt.set ?_ _ _) | (with_reducible refine TyAt.alloc ?_ _) | (with_reducible refine TyAt.drew ?_) | (with_reducible refine TyAt.drewN ?_ _) | (apply Keeps.below; assumption) | (exact Two.ty (by assumption)) | (apply TyAt.below; rotate_left; assumption))), IsBig.keeps h9 (by repeat' (first | (with_reducible exact Keeps.refl _) | (with_reducible refine Keeps.alloc ?_ _) | (with_reducible refine Keeps.drew ?_) | (with_reducible refine Keeps.drewN ?_ _) | (with_reducible refine Keeps.set ?_ _ _ (T := 41) ?_ (by decide)) | (with_reducible exact TyAt.new _ _ _ _ (by simp)) | (with_reducible refine TyAt.set ?_ _ _) | (with_reducible refine TyAt.alloc ?_ _) | (with_reducible refine TyAt.drew ?_) | (with_reducible refine TyAt.drewN ?_ _) | (apply Keeps.below; assumption) | (exact Two.ty (by assumption)) | (apply TyAt.below; rotate_left; assumption))), (by repeat' (first | (with_reducible exact Below.refl _ _) | (with_reducible assumption) | (with_reducible refine below_alloc ?_ _ ?_) | (with_reducible refine below_set _ ?_ ?_) | (with_reducible refine Below.drew ?_) | (with_reducible refine below_dN ?_ _) | (apply below_thenA; assumption) | omega | (simp; done) | (simp; omega) | (simp [*]; done)))⟩
end Go.Proofs.YtmkblfejoniccaaDoor
namespace Go.Proofs.YtmkblfejoniccaaDoor
open Go.RowKit
set_option linter.unusedSimpArgs false
set_option linter.unusedVariables false

theorem low_good (n d : Int) (hn : IFit n) (hd : IFit d) (h1 : 1 ≤ d) (A B : Int) (hA : A = if n < 0 then -((n.natAbs / Nat.gcd n.natAbs d.natAbs : Nat) : Int) else ((n.natAbs / Nat.gcd n.natAbs d.natAbs : Nat) : Int)) (hB : B = ((d.natAbs / Nat.gcd n.natAbs d.natAbs : Nat) : Int)) :
    (A = n ∧ B = d) ↔ Nat.gcd n.natAbs d.natAbs = 1 := by
  have hg : 0 < Nat.gcd n.natAbs d.natAbs := Nat.gcd_pos_of_pos_right _ (by omega)
  constructor
  · rintro ⟨_, h2⟩
    rw [hB] at h2
    have h3 : d.natAbs / Nat.gcd n.natAbs d.natAbs = d.natAbs := by omega
    rcases Nat.lt_or_ge 1 (Nat.gcd n.natAbs d.natAbs) with h | h
    · have := Nat.div_lt_self (show 0 < d.natAbs by omega) h
      omega
    · omega
  · intro h
    rw [h] at hA hB
    rw [Nat.div_one] at hA hB
    refine ⟨?_, by omega⟩
    rw [hA]; split <;> omega
theorem intB_iff' (p : Int) : intB p = true ↔ IFit p := by unfold intB IFit; simp; omega
theorem IsBig.sign {w : World} {neg : Bool} {ao : Option Addr} {k cap : Nat} {n : Int} (h : IsBig w neg ao k cap n) : neg = decide (n < 0) := by
  obtain ⟨ds, h1, h2, h3, rfl⟩ := h
  cases neg
  · simp [sgn]
  · have : BM.bval ds ≠ 0 := fun e => h3 rfl (h2.eq_nil e)
    simp [sgn]; omega
theorem goodB_iff (n d : Int) (h1 : 1 ≤ d) : goodB n d = true ↔ Nat.gcd n.natAbs d.natAbs = 1 := by
  unfold goodB
  obtain ⟨g, eg⟩ : ∃ g, Nat.gcd n.natAbs d.natAbs = g := ⟨_, rfl⟩
  rw [eg]
  simp [h1]; omega
set_option maxRecDepth 100000 in
set_option maxHeartbeats 1600000 in
theorem ref_good (n d : Int) (hn : IFit n) (hd : IFit d) (w : World) :
    Calls Tryd.prog 85 #[.int .i64 n, .int .i64 d] w fun e w' => e = .returned (.bool (goodB n d)) ∧ Below w.heap.size w w' := by
  by_cases h1 : 1 ≤ d
  · have hgd := goodB_iff n d h1
    have hlow := low_good n d hn hd h1 _ _ rfl rfl
    have hl1 : decide (d < 1) = false := by simp; omega
    have e4 : (65536 : Nat) ^ 4 = 18446744073709551616 := by decide
    have hn' := hn
    have hd' := hd
    obtain ⟨n1, n2⟩ := hn
    obtain ⟨d1, d2⟩ := hd
    have hx : n.natAbs < 65536 ^ 4 := by omega
    have hy : d.natAbs < 65536 ^ 4 := by omega
    have hA1 : n.natAbs / Nat.gcd n.natAbs d.natAbs ≤ n.natAbs := Nat.div_le_self _ _
    have hB1 : d.natAbs / Nat.gcd n.natAbs d.natAbs ≤ d.natAbs := Nat.div_le_self _ _
    have LW := fun na nb xa xb ka kb ca cb W (h1 : IsBig W na xa ka ca n) (h2 : IsBig W nb xb kb cb d) => ref_lowest na nb xa xb ka kb ca cb 4 n d W h1 h2 hx hy (by omega) (by omega)
    obtain ⟨g, eg⟩ : ∃ g, Nat.gcd n.natAbs d.natAbs = g := ⟨_, rfl⟩
    rw [eg] at hgd hlow LW hA1 hB1
    obtain ⟨a, ea⟩ : ∃ a, n.natAbs / g = a := ⟨_, rfl⟩
    obtain ⟨b, eb⟩ : ∃ b, d.natAbs / g = b := ⟨_, rfl⟩
    rw [ea, eb] at hlow LW
    rw [ea] at hA1
    rw [eb] at hB1
    obtain ⟨A, eA⟩ : ∃ A : Int, (if n < 0 then -(a : Int) else (a : Int)) = A := ⟨_, rfl⟩
    rw [eA] at hlow
    have hAf : IFit A := by rw [← eA]; unfold IFit; split <;> omega
    have hBf : IFit (b : Int) := by unfold IFit; omega
    have iA : intB A = true := (intB_iff' A).2 hAf
    have iB : intB (b : Int) = true := (intB_iff' b).2 hBf
    have vA : intV A = A := by unfold intV; rw [iA]; rfl
    have vB : intV (b : Int) = b := by unfold intV; rw [iB]; rfl
    have sA := BM.Sz.i64 hAf.1 hAf.2
    have sB := BM.Sz.i64 hBf.1 hBf.2
    have IT := fun na nb xa xb ka kb ca cb W (h1 : IsBig W na xa ka ca A) (h2 : IsBig W nb xb kb cb (b : Int)) hk hm => ref_ints na nb xa xb ka kb ca cb A b W h1 h2 hk hm
    rw [vA, vB, iA, iB] at IT
    have HG := Lib.hid hgd
    have HL := Lib.hid hlow
    have HE := Lib.hid eA
    clear hgd hlow eA eg ea eb iA iB vA vB hx hy hA1 hB1 e4
    go_enter Tryd.func85, Tryd.ntmps85
    go_wp2_with fail
    refine (big_of n n1 n2 _).mono ?_
    rintro e w1 ⟨m1, x1, k1, c1, rfl, hI1, hb1⟩
    go_wp2_with fail
    refine (big_of d d1 d2 _).mono ?_
    rintro e w2 ⟨m2, x2, k2, c2, rfl, hI2, hb2⟩
    have s1 := Lib.hid hI1.sign
    have s2 := Lib.hid hI2.sign
    go_wp2_with fail
    refine (LW m1 m2 x1 x2 k1 k2 c1 c2 w2 (hI1.keep hb2) hI2).mono ?_
    rintro e w3 hRet
    obtain ⟨qn, qa, qk, qc, rn, ra, rk, rc, rfl, hQ, hR, hb3⟩ := hRet.out
    have ha : (if m1 = m2 then ((a : Nat) : Int) else -((a : Nat) : Int)) = A := by
      rw [s1.out, s2.out, ← HE.out]
      have : decide (d < 0) = false := by simp; omega
      rw [this]
      by_cases h : n < 0 <;> simp [h]
    rw [ha] at hQ
    have hB3 := (hb1.trans (hb2.mono hb1.size))
    have hB4 := hB3.trans (hb3.mono hB3.size)
    have hqk := hQ.le sA
    have hrk := hR.le sB
    clear ha s1 s2 LW hRet
    go_wp2_with fail
    refine (IT qn rn qa ra qk rk qc rc _ ((hQ.allocd _).allocd _) ((hR.allocd _).allocd _) (by omega) (by omega)).mono ?_
    rintro e w4 ⟨rfl, hb4⟩
    have hs4 := hB4.size
    have hB4a : Below w.heap.size w ((w3.alloc (.cells #[.bool qn, .slice qa qk qc] 41)).alloc (.cells #[.bool rn, .slice ra rk rc] 41)) := (hB4.alloc hs4 _).alloc (by simp; omega) _
    have hB5 : Below w.heap.size w w4 := hB4a.trans (hb4.mono hB4a.size)
    by_cases hg : g = 1
    · obtain ⟨ha, hb⟩ := HL.out.2 hg
      have f1 : (A == n) = true := by simp [ha]
      have f2 : (((b : Nat) : Int) == d) = true := by simp [hb]
      have HV : Hid (goodB n d = true) := Lib.hid (HG.out.2 hg)
      clear ha hb hg
      go_wp2_with fail
      go_ret
      exact ⟨by rw [HV.out]; rfl, hB5⟩
    · have HV : Hid (goodB n d = false) := Lib.hid (by rw [Bool.eq_false_iff]; exact fun x => hg (HG.out.1 x))
      by_cases ha : A = n
      · have f1 : (A == n) = true := by simp [ha]
        have f2 : (((b : Nat) : Int) == d) = false := by simp; intro h; exact hg (HL.out.1 ⟨ha, h⟩)
        clear ha hg
        go_wp2_with fail
        go_ret
        exact ⟨by rw [HV.out]; rfl, hB5⟩
      · have f1 : (A == n) = false := by simp [ha]
        clear ha hg
        go_wp2_with fail
        go_ret
        exact ⟨by rw [HV.out]; rfl, hB5⟩
  · have hl1 : decide (d < 1) = true := by simp; omega
    have HV : Hid (goodB n d = false) := Lib.hid (by unfold goodB; simp; omega)
    clear h1
    go_enter Tryd.func85, Tryd.ntmps85
    go_wp2_with fail
    go_ret
    exact ⟨by rw [HV.out]; rfl, Below.refl _ _⟩
end Go.Proofs.YtmkblfejoniccaaDoor
