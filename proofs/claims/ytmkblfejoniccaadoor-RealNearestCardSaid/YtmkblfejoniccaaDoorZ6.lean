/-
  The reference of layer 2, each function by its contract. Second part: size, Ints; boxes by a list.
-/
/-
  The reference of layer 2, each function by its contract. Third part: Lowest (begun).
-/
/-
  The functions of package ratio, each by its contract. First part: size, common, signed.
-/
import Derived.Test.YtmkblfejoniccaaDoorZ5
import Derived.Test.YtmkblfejoniccaaDoorZ2
import Derived.Deep.LoopGhost
import Derived.BigQuiet
namespace Go.Proofs.YtmkblfejoniccaaDoor
open Go.RowKit
set_option linter.unusedSimpArgs false
set_option linter.unusedVariables false

theorem IsBig.abs {w : World} {neg : Bool} {ao : Option Addr} {k cap : Nat} {n : Int} (h : IsBig w neg ao k cap n) : IsBig w false ao k cap ((n.natAbs : Nat) : Int) := by
  obtain ⟨ds, h1, h2, h3, rfl⟩ := h
  exact ⟨ds, h1, h2, (fun e => by cases e), by cases neg <;> simp [sgn]⟩
set_option maxRecDepth 100000 in
set_option maxHeartbeats 1600000 in
theorem ref_size (neg : Bool) (ao : Option Addr) (k cap : Nat) (w : World) :
    Calls Tryd.prog 93 #[.agg #[.bool neg, .slice ao k cap]] w fun e w' => e = .returned (.agg #[.bool false, .slice ao k cap]) ∧ Below w.heap.size w w' := by
  have t0 : Two (w.alloc (.cells #[.bool neg, .slice ao k cap] 41)) w.heap.size (.bool neg) (.slice ao k cap) := Two.new w _ _ _ rfl
  obtain ⟨q1, q2, q3, q4⟩ := t0.cells
  go_enter Tryd.func93, Tryd.ntmps93
  go_wp2_with fail
  (go_light; simp [bodyPost, results, Tryd.results93, go_sem, *])
  exact (by repeat' (first | (with_reducible exact Below.refl _ _) | (with_reducible assumption) | (with_reducible refine below_alloc ?_ _ ?_) | (with_reducible refine below_set _ ?_ ?_) | (with_reducible refine Below.drew ?_) | (with_reducible refine below_dN ?_ _) | (apply below_thenA; assumption) | omega | (simp; done) | (simp; omega) | (simp [*]; done)))
set_option maxRecDepth 100000 in
set_option maxHeartbeats 1600000 in
theorem ref_ints (na nb : Bool) (xa xb : Option Addr) (ka kb ca cb : Nat) (X Y : Int) (w : World) (ha : IsBig w na xa ka ca X) (hb : IsBig w nb xb kb cb Y) (h1 : ka ≤ 100000) (h2 : kb ≤ 100000) :
    Calls Tryd.prog 52 #[.agg #[.bool na, .slice xa ka ca], .agg #[.bool nb, .slice xb kb cb]] w fun e w' =>
      e = .returned (.tuple #[.int .i64 (intV X), .int .i64 (intV Y), .bool (intB X && intB Y)]) ∧ Below w.heap.size w w' := by
  have IX := fun W (hW : IsBig W na xa ka ca X) => big_int na xa ka ca X W hW h1
  have IY := fun W (hW : IsBig W nb xb kb cb Y) => big_int nb xb kb cb Y W hW h2
  obtain ⟨V, eV⟩ : ∃ V, intV X = V := ⟨_, rfl⟩
  obtain ⟨U, eU⟩ : ∃ U, intV Y = U := ⟨_, rfl⟩
  obtain ⟨B, eB⟩ : ∃ B, intB X = B := ⟨_, rfl⟩
  obtain ⟨C, eC⟩ : ∃ C, intB Y = C := ⟨_, rfl⟩
  rw [eV, eB] at IX
  rw [eU, eC] at IY
  rw [eV, eU, eB, eC]
  clear eV eU eB eC
  have t0 := (Two.new w (.bool na) (.slice xa ka ca) _ rfl).alloc (.cells #[.bool nb, .slice xb kb cb] 41)
  have t1 := Two.new (w.alloc (.cells #[.bool na, .slice xa ka ca] 41)) (.bool nb) (.slice xb kb cb) (w.heap.size + 1) (by simp)
  have hA : IsBig ((w.alloc (.cells #[.bool na, .slice xa ka ca] 41)).alloc (.cells #[.bool nb, .slice xb kb cb] 41)) na xa ka ca X := ha.keep (by repeat' (first | (with_reducible exact Below.refl _ _) | (with_reducible assumption) | (with_reducible refine below_alloc ?_ _ ?_) | (with_reducible refine below_set _ ?_ ?_) | (with_reducible refine Below.drew ?_) | (with_reducible refine below_dN ?_ _) | (apply below_thenA; assumption) | omega | (simp; done) | (simp; omega) | (simp [*]; done)))
  have hB : IsBig ((w.alloc (.cells #[.bool na, .slice xa ka ca] 41)).alloc (.cells #[.bool nb, .slice xb kb cb] 41)) nb xb kb cb Y := hb.keep (by repeat' (first | (with_reducible exact Below.refl _ _) | (with_reducible assumption) | (with_reducible refine below_alloc ?_ _ ?_) | (with_reducible refine below_set _ ?_ ?_) | (with_reducible refine Below.drew ?_) | (with_reducible refine below_dN ?_ _) | (apply below_thenA; assumption) | omega | (simp; done) | (simp; omega) | (simp [*]; done)))
  have hW : Below w.heap.size w ((w.alloc (.cells #[.bool na, .slice xa ka ca] 41)).alloc (.cells #[.bool nb, .slice xb kb cb] 41)) := (by repeat' (first | (with_reducible exact Below.refl _ _) | (with_reducible assumption) | (with_reducible refine below_alloc ?_ _ ?_) | (with_reducible refine below_set _ ?_ ?_) | (with_reducible refine Below.drew ?_) | (with_reducible refine below_dN ?_ _) | (apply below_thenA; assumption) | omega | (simp; done) | (simp; omega) | (simp [*]; done)))
  obtain ⟨q1, q2, q3, q4⟩ := t0.cells
  go_enter Tryd.func52, Tryd.ntmps52
  go_wp2_with fail
  refine (IX _ hA).mono ?_
  rintro e w1 ⟨rfl, hb1⟩
  replace t1 := t1.below hb1
  replace hB := hB.keep hb1
  replace hW := hW.trans (hb1.mono hW.size)
  clear q1 q2 q3 q4
  obtain ⟨q1, q2, q3, q4⟩ := t1.cells
  go_wp2_with fail
  refine (IY _ hB).mono ?_
  rintro e w2 ⟨rfl, hb2⟩
  replace hW := hW.trans (hb2.mono hW.size)
  cases B
  · go_wp2_with fail
    (go_light; simp [bodyPost, results, Tryd.results52, go_sem, *])
  · go_wp2_with fail
    (go_light; simp [bodyPost, results, Tryd.results52, go_sem, *])
/-- Boxes of two cells, by a list. -/
def LX (w : World) (l : List (Nat × Value × Value)) (wX : World) : Prop := (∀ e, e ∈ l → Two wX e.1 e.2.1 e.2.2) ∧ Below w.heap.size w wX
section
variable {w wX w' : World} {l : List (Nat × Value × Value)}
theorem LX.get (h : LX w l wX) {b : Nat} {x y : Value} (hm : (b, x, y) ∈ l) : Two wX b x y := h.1 _ hm
theorem LX.bl (h : LX w l wX) : Below w.heap.size w wX := h.2
theorem LX.alloc (h : LX w l wX) (o : Obj) : LX w l (wX.alloc o) := ⟨fun e he => (h.1 e he).alloc o, h.bl.alloc h.bl.size o⟩
theorem LX.drew (h : LX w l wX) : LX w l wX.drew := ⟨fun e he => h.1 e he, h.bl.drew⟩
theorem LX.below (hb : Below wX.heap.size wX w') (h : LX w l wX) : LX w l w' := ⟨fun e he => (h.1 e he).below hb, h.bl.trans (hb.mono h.bl.size)⟩
theorem LX.set (h : LX w l wX) (c o : Nat) (v : Value) (hc : ∀ e, e ∈ l → e.1 ≠ c) (hb : w.heap.size ≤ c) : LX w l (wX.setCell ⟨c, o, none⟩ v) :=
  ⟨fun e he => (Below.heap_setCell _ _ _ _ (hc e he)).trans (h.1 e he), h.bl.setCell (p := ⟨c, o, none⟩) hb v⟩
theorem LX.fresh (h : LX w l wX) : ∀ e, e ∈ l → e.1 ≠ wX.heap.size := fun e he => Nat.ne_of_lt (h.1 e he).lt
theorem LX.fresh' (h : LX w l wX) : ∀ e, e ∈ l → e.1 ≠ wX.heap.size + 1 := fun e he => Nat.ne_of_lt (Nat.lt_succ_of_lt (h.1 e he).lt)
theorem LX.add (h : LX w l wX) {b : Nat} {x y : Value} (t : Two wX b x y) : LX w ((b, x, y) :: l) wX :=
  ⟨fun e he => (List.mem_cons.1 he).elim (fun x => by subst x; exact t) (fun x => h.1 e x), h.bl⟩
theorem LX.nil (hb : Below w.heap.size w wX) : LX w [] wX := ⟨fun e he => absurd he (List.not_mem_nil), hb⟩
end
end Go.Proofs.YtmkblfejoniccaaDoor
namespace Go.Proofs.YtmkblfejoniccaaDoor
open Go.RowKit
set_option linter.unusedSimpArgs false
set_option linter.unusedVariables false

theorem Two.drew {w : World} {b : Nat} {x y : Value} (h : Two w b x y) : Two w.drew b x y := h
theorem Two.belowX {w w' : World} {b : Nat} {x y : Value} (hb : Below w.heap.size w w') (h : Two w b x y) : Two w' b x y := h.below hb
theorem Two.putE {w : World} {b : Nat} (h : ∃ x y, Two w b x y) (u v : Value) : Two ((w.setCell ⟨b, 0, none⟩ u).setCell ⟨b, 1, none⟩ v) b u v := by
  obtain ⟨x, y, h⟩ := h; exact h.put u v
theorem Two.putE_other {w : World} {b c : Nat} (h : ∃ x y, Two w b x y) (hc : b ≠ c) (u v : Value) : ∃ x y, Two ((w.setCell ⟨c, 0, none⟩ u).setCell ⟨c, 1, none⟩ v) b x y := by
  obtain ⟨x, y, h⟩ := h; exact ⟨x, y, h.put_other hc u v⟩
theorem Two.newS (w : World) (b : Nat) (u v x y : Value) : Two (((w.setCell ⟨b, 0, none⟩ u).setCell ⟨b, 1, none⟩ v).alloc (.cells #[x, y] 41)) w.heap.size x y := Two.new _ _ _ _ (by simp [World.setCell])
theorem Two.new1 (w : World) (x y : Value) (o : Obj) : Two ((w.alloc o).alloc (.cells #[x, y] 41)) (w.heap.size + 1) x y := Two.new _ _ _ _ (by simp)
theorem IsBig.allocd {w : World} {neg : Bool} {ao : Option Addr} {k cap : Nat} {n : Int} (h : IsBig w neg ao k cap n) (o : Obj) : IsBig (w.alloc o) neg ao k cap n := h.keeps (Keeps.alloc (Keeps.refl w) o)
theorem IsBig.drewd {w : World} {neg : Bool} {ao : Option Addr} {k cap : Nat} {n : Int} (h : IsBig w neg ao k cap n) : IsBig w.drew neg ao k cap n := h.keeps (Keeps.drew (Keeps.refl w))
theorem IsBig.belowX {w w' : World} (hb : Below w.heap.size w w') {neg : Bool} {ao : Option Addr} {k cap : Nat} {n : Int} (h : IsBig w neg ao k cap n) : IsBig w' neg ao k cap n := h.keep hb
theorem LX.n1 {w wX : World} {l : List (Nat × Value × Value)} (h : LX w l wX) : Two (wX.alloc (.cells #[.bool false, .slice none 0 0] 41)) wX.heap.size (.bool false) (.slice none 0 0) := Two.new _ _ _ _ rfl
theorem LX.n21 {w wX : World} {l : List (Nat × Value × Value)} (h : LX w l wX) : Two ((wX.alloc (.cells #[.bool false, .slice none 0 0] 41)).alloc (.cells #[.bool false, .slice none 0 0] 41)) wX.heap.size (.bool false) (.slice none 0 0) := (Two.new _ _ _ _ rfl).alloc _
theorem LX.n22 {w wX : World} {l : List (Nat × Value × Value)} (h : LX w l wX) : Two ((wX.alloc (.cells #[.bool false, .slice none 0 0] 41)).alloc (.cells #[.bool false, .slice none 0 0] 41)) (wX.heap.size + 1) (.bool false) (.slice none 0 0) := Two.new _ _ _ _ (by simp)
theorem LX.room {w wX : World} {l : List (Nat × Value × Value)} (h : LX w l wX) : w.heap.size ≤ wX.heap.size ∧ w.heap.size ≤ wX.heap.size + 1 := ⟨h.bl.size, Nat.le_succ_of_le h.bl.size⟩
theorem LX.c2 {w wX : World} {l : List (Nat × Value × Value)} (h : LX w l wX) {b : Nat} {x y : Value} (hm : (b, x, y) ∈ l) : wX.cell? ⟨b, 0, none⟩ = some x ∧ wX.cell? ⟨b, 1, none⟩ = some y := ⟨(h.get hm).cells.1, (h.get hm).cells.2.1⟩

theorem fq_nat (a g : Nat) (hg : 0 < g) : fq (a : Int) (g : Int) = ((a / g : Nat) : Int) := by unfold fq; rw [if_neg (by omega)]; simp
def LowS (w : World) (l : List (Nat × Value × Value)) (G : Int) (s6 : Value) (wx : World) : Prop :=
  ∃ b n x k c, s6 = .pointer (some ⟨b, 0, none⟩) ∧ LX w l wx ∧ Two wx b (.bool n) (.slice x k c) ∧ IsBig wx n x k c G

def LowT (w : World) (l : List (Nat × Value × Value)) (A C : Int) (cn : Bool) (cx : Option Addr) (ck cc : Nat) (s : Value) (wx : World) : Prop :=
  ∃ b n x k c, s = .pointer (some ⟨b, 0, none⟩) ∧ LX w l wx ∧ Two wx b (.bool n) (.slice x k c) ∧ IsBig wx n x k c A ∧ IsBig wx cn cx ck cc C ∧ (∀ e, e ∈ l → e.1 ≠ b) ∧ w.heap.size ≤ b
def LowR (w : World) (b7 b9 : Nat) (n9 : Bool) (x9 : Option Addr) (k9 c9 : Nat) (A B : Int) (wx : World) : Prop :=
  ∃ n x k c, Two wx b7 (.bool n) (.slice x k c) ∧ IsBig wx n x k c A ∧ Two wx b9 (.bool n9) (.slice x9 k9 c9) ∧ IsBig wx n9 x9 k9 c9 B ∧ Two wx (w.heap.size + 1 + 1) (.bool false) (.slice none 0 0) ∧ Two wx (w.heap.size + 1 + 1 + 1) (.bool false) (.slice none 0 0) ∧ Below w.heap.size w wx
theorem LX.fr {w wX : World} {l : List (Nat × Value × Value)} (h : LX w l wX) : (∀ e, e ∈ l → e.1 ≠ wX.heap.size) ∧ (∀ e, e ∈ l → e.1 ≠ wX.heap.size + 1) := ⟨h.fresh, h.fresh'⟩

set_option maxRecDepth 100000 in
set_option maxHeartbeats 3200000 in
theorem ref_lowest (na nb : Bool) (xa xb : Option Addr) (ka kb ca cb K : Nat) (X Y : Int) (w : World) (ha : IsBig w na xa ka ca X) (hb : IsBig w nb xb kb cb Y) (hx : X.natAbs < 65536 ^ K) (hy : Y.natAbs < 65536 ^ K) (hK : K ≤ 10000) (hY : Y ≠ 0) :
    Calls Tryd.prog 51 #[.agg #[.bool na, .slice xa ka ca], .agg #[.bool nb, .slice xb kb cb]] w (BigRet2 (if na = nb then ((X.natAbs / Nat.gcd X.natAbs Y.natAbs : Nat) : Int) else -((X.natAbs / Nat.gcd X.natAbs Y.natAbs : Nat) : Int)) ((Y.natAbs / Nat.gcd X.natAbs Y.natAbs : Nat) : Int) w) := by
  have hN := ha.abs
  have hD := hb.abs
  obtain ⟨a, ea⟩ : ∃ a, X.natAbs = a := ⟨_, rfl⟩
  obtain ⟨b, eb⟩ : ∃ b, Y.natAbs = b := ⟨_, rfl⟩
  have hb0 : 0 < b := by omega
  rw [ea] at hN hx ⊢
  rw [eb] at hD hy ⊢
  have hg0 : 0 < Nat.gcd a b := Nat.gcd_pos_of_pos_right _ hb0
  have hgb : Nat.gcd a b < 65536 ^ K := Nat.lt_of_le_of_lt (Nat.gcd_le_right _ hb0) hy
  have sG := sz_nat hgb
  have sa := sz_nat hx
  have sb := sz_nat hy
  have f1 := fq_nat a (Nat.gcd a b) hg0
  have f2 := fq_nat b (Nat.gcd a b) hg0
  have sA := sa.le (fq_abs (a := (a : Int)) (d := ((Nat.gcd a b : Nat) : Int)) (by omega))
  have hN0 := hN
  have hD0 := hD
  have hka := hN.le sa
  have hkb := hD.le sb
  have CM := fun W (h1 : IsBig W false xa ka ca ((a : Nat) : Int)) (h2 : IsBig W false xb kb cb ((b : Nat) : Int)) => ref_common false false xa xb ka kb ca cb a b K W h1 h2 hx hy hK
  obtain ⟨G, eG⟩ : ∃ G, ((Nat.gcd a b : Nat) : Int) = G := ⟨_, rfl⟩
  rw [eG] at CM
  have hG0 : G ≠ 0 := by omega
  rw [eG] at sG f1 f2 sA
  obtain ⟨A1, eA⟩ : ∃ A1 : Int, ((a / Nat.gcd a b : Nat) : Int) = A1 := ⟨_, rfl⟩
  obtain ⟨B1, eB⟩ : ∃ B1 : Int, ((b / Nat.gcd a b : Nat) : Int) = B1 := ⟨_, rfl⟩
  rw [eA] at f1 ⊢
  rw [eB] at f2 ⊢
  rw [f1] at sA
  have D1 := fun (n : Bool) (x : Option Addr) (k c : Nat) W (h1 : IsBig W false xa ka ca ((a : Nat) : Int)) (h2 : IsBig W n x k c G) hk => big_down false n xa x ka k ca c ((a : Nat) : Int) G W h1 h2 (by omega) hk hG0
  have D2 := fun (n : Bool) (x : Option Addr) (k c : Nat) W (h1 : IsBig W false xb kb cb ((b : Nat) : Int)) (h2 : IsBig W n x k c G) hk => big_down false n xb x kb k cb c ((b : Nat) : Int) G W h1 h2 (by omega) hk hG0
  rw [f1] at D1
  rw [f2] at D2
  clear f1 f2 eA eB eG hg0 hgb
  obtain ⟨A2, eA2⟩ : ∃ A2, (if na = nb then A1 else -A1) = A2 := ⟨_, rfl⟩
  rw [eA2]
  have EA2 := Lib.hid eA2
  clear eA2
  have E : LX w [(w.heap.size, .bool na, .slice xa ka ca), (w.heap.size + 1, .bool nb, .slice xb kb cb), (w.heap.size + 1 + 1, .bool false, .slice none 0 0), (w.heap.size + 1 + 1 + 1, .bool false, .slice none 0 0)] ((((w.alloc (.cells #[.bool na, .slice xa ka ca] 41)).alloc (.cells #[.bool nb, .slice xb kb cb] 41)).alloc (.cells #[.bool false, .slice none 0 0] 41)).alloc (.cells #[.bool false, .slice none 0 0] 41)) :=
    LX.add (LX.add (LX.add (LX.add (LX.nil (by repeat' (first | (with_reducible exact Below.refl _ _) | (with_reducible assumption) | (with_reducible refine below_alloc ?_ _ ?_) | (with_reducible refine below_set _ ?_ ?_) | (with_reducible refine Below.drew ?_) | (with_reducible refine below_dN ?_ _) | (apply below_thenA; assumption) | omega | (simp; done) | (simp; omega) | (simp [*]; done)))) (Two.new _ _ _ _ (by simp))) ((Two.new _ _ _ _ (by simp)).alloc _)) (((Two.new _ _ _ _ (by simp)).alloc _).alloc _)) ((((Two.new w _ _ _ rfl).alloc _).alloc _).alloc _)
  replace hN := (((hN.allocd (.cells #[.bool na, .slice xa ka ca] 41)).allocd (.cells #[.bool nb, .slice xb kb cb] 41)).allocd (.cells #[.bool false, .slice none 0 0] 41)).allocd (.cells #[.bool false, .slice none 0 0] 41)
  replace hD := (((hD.allocd (.cells #[.bool na, .slice xa ka ca] 41)).allocd (.cells #[.bool nb, .slice xb kb cb] 41)).allocd (.cells #[.bool false, .slice none 0 0] 41)).allocd (.cells #[.bool false, .slice none 0 0] 41)
  go_enter Tryd.func51, Tryd.ntmps51
  go_upto_region 1 with (fail)
  obtain ⟨W0, eW⟩ : ∃ W0, W0 = (((w.alloc (.cells #[.bool na, .slice xa ka ca] 41)).alloc (.cells #[.bool nb, .slice xb kb cb] 41)).alloc (.cells #[.bool false, .slice none 0 0] 41)).alloc (.cells #[.bool false, .slice none 0 0] 41) := ⟨_, rfl⟩
  rw [← eW] at E hN hD ⊢
  clear eW
  have fr1 := E.fresh
  have fr2 := E.fresh'
  obtain ⟨fr3, fr4⟩ := E.room
  have k1 := E.c2 (b := w.heap.size) (x := .bool na) (y := .slice xa ka ca) (by simp)
  have k2 := E.c2 (b := w.heap.size + 1) (x := .bool nb) (y := .slice xb kb cb) (by simp)
  obtain ⟨p1, p2⟩ := k1
  obtain ⟨p5, p6⟩ := k2
  have S4 : ∀ W, LX w [(w.heap.size, .bool na, .slice xa ka ca), (w.heap.size + 1, .bool nb, .slice xb kb cb), (w.heap.size + 1 + 1, .bool false, .slice none 0 0), (w.heap.size + 1 + 1 + 1, .bool false, .slice none 0 0)] W → W.cell? ⟨w.heap.size, 0, none⟩ = some (.bool na) ∧ W.cell? ⟨w.heap.size, 1, none⟩ = some (.slice xa ka ca) ∧ W.cell? ⟨w.heap.size + 1, 0, none⟩ = some (.bool nb) ∧ W.cell? ⟨w.heap.size + 1, 1, none⟩ = some (.slice xb kb cb) := fun W h =>
    ⟨(h.c2 (b := w.heap.size) (x := .bool na) (y := .slice xa ka ca) (by simp)).1, (h.c2 (b := w.heap.size) (x := .bool na) (y := .slice xa ka ca) (by simp)).2, (h.c2 (b := w.heap.size + 1) (x := .bool nb) (y := .slice xb kb cb) (by simp)).1, (h.c2 (b := w.heap.size + 1) (x := .bool nb) (y := .slice xb kb cb) (by simp)).2⟩
  go_cut [6] from 11 (fun s6 wx => LowS w [(w.heap.size, .bool na, .slice xa ka ca), (w.heap.size + 1, .bool nb, .slice xb kb cb), (w.heap.size + 1 + 1, .bool false, .slice none 0 0), (w.heap.size + 1 + 1 + 1, .bool false, .slice none 0 0)] G s6 wx)
  case first =>
    go_region_held3 (fun w' => w'.cell? ⟨w.heap.size, 0, none⟩ = some (.bool na) ∧ w'.cell? ⟨w.heap.size, 1, none⟩ = some (.slice xa ka ca) ∧ w'.cell? ⟨w.heap.size + 1, 0, none⟩ = some (.bool nb) ∧ w'.cell? ⟨w.heap.size + 1, 1, none⟩ = some (.slice xb kb cb))
      (first | with_reducible exact ⟨p1, p2, p5, p6⟩ | with_reducible exact S4 _ E.drew | (refine S4 _ ?_; (first | with_reducible exact E | with_reducible refine LX.drew ?_ | with_reducible refine LX.alloc ?_ _ | with_reducible refine LX.set ?_ _ _ _ ?_ ?_ | with_reducible assumption) <;> (first | with_reducible exact E | with_reducible refine LX.drew ?_ | with_reducible refine LX.alloc ?_ _ | with_reducible refine LX.set ?_ _ _ _ ?_ ?_ | with_reducible assumption) <;> (first | with_reducible exact E | with_reducible refine LX.drew ?_ | with_reducible refine LX.alloc ?_ _ | with_reducible refine LX.set ?_ _ _ _ ?_ ?_ | with_reducible assumption) <;> (first | with_reducible exact E | with_reducible refine LX.drew ?_ | with_reducible refine LX.alloc ?_ _ | with_reducible refine LX.set ?_ _ _ _ ?_ ?_ | with_reducible assumption) <;> (first | with_reducible exact E | with_reducible refine LX.drew ?_ | with_reducible refine LX.alloc ?_ _ | with_reducible refine LX.set ?_ _ _ _ ?_ ?_ | with_reducible assumption) <;> (first | with_reducible exact E | with_reducible refine LX.drew ?_ | with_reducible refine LX.alloc ?_ _ | with_reducible refine LX.set ?_ _ _ _ ?_ ?_ | with_reducible assumption) <;> (first | with_reducible exact E | with_reducible refine LX.drew ?_ | with_reducible refine LX.alloc ?_ _ | with_reducible refine LX.set ?_ _ _ _ ?_ ?_ | with_reducible assumption) <;> (first | with_reducible exact E | with_reducible refine LX.drew ?_ | with_reducible refine LX.alloc ?_ _ | with_reducible refine LX.set ?_ _ _ _ ?_ ?_ | with_reducible assumption) <;> (first | with_reducible exact E | with_reducible refine LX.drew ?_ | with_reducible refine LX.alloc ?_ _ | with_reducible refine LX.set ?_ _ _ _ ?_ ?_ | with_reducible assumption); done) | go_keep)
      (first
      | (go_at_call 93; with_reducible refine (ref_size na xa ka ca _).mono ?_; rintro e wA ⟨rfl, hbA⟩; (try (have y2 := Two.belowX hbA (by with_reducible first | exact y1 | exact y1.drew | exact (y1.alloc _).drew | exact ((y1.alloc _).alloc _).drew | exact y1.alloc _ | exact (y1.alloc _).alloc _); obtain ⟨zf1, zf2, zf3, zf4⟩ := y2.cells; have zl4 := y2.lt)); (try (have y1 := Two.belowX hbA (by with_reducible first | exact z1 | exact z1.drew | exact (z1.alloc _).drew | exact ((z1.alloc _).alloc _).drew | exact z1.alloc _ | exact (z1.alloc _).alloc _); obtain ⟨zf1, zf2, zf3, zf4⟩ := y1.cells; have zl4 := y1.lt)); (try (have z1 := Two.belowX hbA (by with_reducible first | exact E.n1.drew | exact E.n1); obtain ⟨zc1, zc2, zc3, zc4⟩ := z1.cells; have zl1 := z1.lt)); (try (replace hN := IsBig.belowX hbA (by with_reducible first | exact hN | exact hN.drewd | exact (hN.allocd _).drewd | exact ((hN.allocd _).allocd _).drewd | exact hN.allocd _ | exact (hN.allocd _).allocd _))); (try (replace hD := IsBig.belowX hbA (by with_reducible first | exact hD | exact hD.drewd | exact (hD.allocd _).drewd | exact ((hD.allocd _).allocd _).drewd | exact hD.allocd _ | exact (hD.allocd _).allocd _))); (have E' := LX.below hbA (by with_reducible first | exact E | exact E.drew | exact (E.alloc _).drew | exact ((E.alloc _).alloc _).drew | exact E.alloc _ | exact (E.alloc _).alloc _)); clear E; have E := E'; clear E'; have fr1 := E.fresh; have fr2 := E.fresh'; obtain ⟨fr3, fr4⟩ := E.room; (have k1 := E.c2 (b := w.heap.size) (x := .bool na) (y := .slice xa ka ca) (by simp)); (have k2 := E.c2 (b := w.heap.size + 1) (x := .bool nb) (y := .slice xb kb cb) (by simp)); obtain ⟨p1, p2⟩ := k1; obtain ⟨p5, p6⟩ := k2)
      | (go_at_call 93; with_reducible refine (ref_size nb xb kb cb _).mono ?_; rintro e wB ⟨rfl, hbB⟩; (try (have y2 := Two.belowX hbB (by with_reducible first | exact y1 | exact y1.drew | exact (y1.alloc _).drew | exact ((y1.alloc _).alloc _).drew | exact y1.alloc _ | exact (y1.alloc _).alloc _); obtain ⟨zf1, zf2, zf3, zf4⟩ := y2.cells; have zl4 := y2.lt)); (try (have y1 := Two.belowX hbB (by with_reducible first | exact z1 | exact z1.drew | exact (z1.alloc _).drew | exact ((z1.alloc _).alloc _).drew | exact z1.alloc _ | exact (z1.alloc _).alloc _); obtain ⟨zf1, zf2, zf3, zf4⟩ := y1.cells; have zl4 := y1.lt)); (try (have z1 := Two.belowX hbB (by with_reducible first | exact E.n1.drew | exact E.n1); obtain ⟨zc1, zc2, zc3, zc4⟩ := z1.cells; have zl1 := z1.lt)); (try (replace hN := IsBig.belowX hbB (by with_reducible first | exact hN | exact hN.drewd | exact (hN.allocd _).drewd | exact ((hN.allocd _).allocd _).drewd | exact hN.allocd _ | exact (hN.allocd _).allocd _))); (try (replace hD := IsBig.belowX hbB (by with_reducible first | exact hD | exact hD.drewd | exact (hD.allocd _).drewd | exact ((hD.allocd _).allocd _).drewd | exact hD.allocd _ | exact (hD.allocd _).allocd _))); (have E' := LX.below hbB (by with_reducible first | exact E | exact E.drew | exact (E.alloc _).drew | exact ((E.alloc _).alloc _).drew | exact E.alloc _ | exact (E.alloc _).alloc _)); clear E; have E := E'; clear E'; have fr1 := E.fresh; have fr2 := E.fresh'; obtain ⟨fr3, fr4⟩ := E.room; (have k1 := E.c2 (b := w.heap.size) (x := .bool na) (y := .slice xa ka ca) (by simp)); (have k2 := E.c2 (b := w.heap.size + 1) (x := .bool nb) (y := .slice xb kb cb) (by simp)); obtain ⟨p1, p2⟩ := k1; obtain ⟨p5, p6⟩ := k2)
      | (go_at_call 92; with_reducible refine (CM _ (by with_reducible first | exact hN | exact hN.drewd | exact (hN.allocd _).drewd | exact ((hN.allocd _).allocd _).drewd | exact hN.allocd _ | exact (hN.allocd _).allocd _) (by with_reducible first | exact hD | exact hD.drewd | exact (hD.allocd _).drewd | exact ((hD.allocd _).allocd _).drewd | exact hD.allocd _ | exact (hD.allocd _).allocd _)).mono ?_; rintro e wC hRC; obtain ⟨nC, xC, kC, cC, rfl, hIC, hbC⟩ := hRC.out; (try (have y2 := Two.belowX hbC (by with_reducible first | exact y1 | exact y1.drew | exact (y1.alloc _).drew | exact ((y1.alloc _).alloc _).drew | exact y1.alloc _ | exact (y1.alloc _).alloc _); obtain ⟨zf1, zf2, zf3, zf4⟩ := y2.cells; have zl4 := y2.lt)); (try (have y1 := Two.belowX hbC (by with_reducible first | exact z1 | exact z1.drew | exact (z1.alloc _).drew | exact ((z1.alloc _).alloc _).drew | exact z1.alloc _ | exact (z1.alloc _).alloc _); obtain ⟨zf1, zf2, zf3, zf4⟩ := y1.cells; have zl4 := y1.lt)); (try (have z1 := Two.belowX hbC (by with_reducible first | exact E.n1.drew | exact E.n1); obtain ⟨zc1, zc2, zc3, zc4⟩ := z1.cells; have zl1 := z1.lt)); (have E' := LX.below hbC (by with_reducible first | exact E | exact E.drew | exact (E.alloc _).drew | exact ((E.alloc _).alloc _).drew | exact E.alloc _ | exact (E.alloc _).alloc _)); clear E; have E := E'; clear E'; have fr1 := E.fresh; have fr2 := E.fresh'; obtain ⟨fr3, fr4⟩ := E.room; (have k1 := E.c2 (b := w.heap.size) (x := .bool na) (y := .slice xa ka ca) (by simp)); (have k2 := E.c2 (b := w.heap.size + 1) (x := .bool nb) (y := .slice xb kb cb) (by simp)); obtain ⟨p1, p2⟩ := k1; obtain ⟨p5, p6⟩ := k2))
    all_goals
      go_wp2_with fail
      go_meet
      case rel =>
        refine ⟨_, nC, xC, kC, cC, rfl, ?_, ?_, IsBig.keeps hIC ?_⟩
        · (first | with_reducible exact E | with_reducible refine LX.drew ?_ | with_reducible refine LX.alloc ?_ _ | with_reducible refine LX.set ?_ _ _ _ ?_ ?_ | with_reducible assumption) <;> (first | with_reducible exact E | with_reducible refine LX.drew ?_ | with_reducible refine LX.alloc ?_ _ | with_reducible refine LX.set ?_ _ _ _ ?_ ?_ | with_reducible assumption) <;> (first | with_reducible exact E | with_reducible refine LX.drew ?_ | with_reducible refine LX.alloc ?_ _ | with_reducible refine LX.set ?_ _ _ _ ?_ ?_ | with_reducible assumption) <;> (first | with_reducible exact E | with_reducible refine LX.drew ?_ | with_reducible refine LX.alloc ?_ _ | with_reducible refine LX.set ?_ _ _ _ ?_ ?_ | with_reducible assumption) <;> (first | with_reducible exact E | with_reducible refine LX.drew ?_ | with_reducible refine LX.alloc ?_ _ | with_reducible refine LX.set ?_ _ _ _ ?_ ?_ | with_reducible assumption) <;> (first | with_reducible exact E | with_reducible refine LX.drew ?_ | with_reducible refine LX.alloc ?_ _ | with_reducible refine LX.set ?_ _ _ _ ?_ ?_ | with_reducible assumption) <;> (first | with_reducible exact E | with_reducible refine LX.drew ?_ | with_reducible refine LX.alloc ?_ _ | with_reducible refine LX.set ?_ _ _ _ ?_ ?_ | with_reducible assumption) <;> (first | with_reducible exact E | with_reducible refine LX.drew ?_ | with_reducible refine LX.alloc ?_ _ | with_reducible refine LX.set ?_ _ _ _ ?_ ?_ | with_reducible assumption) <;> (first | with_reducible exact E | with_reducible refine LX.drew ?_ | with_reducible refine LX.alloc ?_ _ | with_reducible refine LX.set ?_ _ _ _ ?_ ?_ | with_reducible assumption)
        · (first | with_reducible refine Two.drew ?_ | with_reducible exact Two.new _ _ _ _ rfl | with_reducible exact Two.new1 _ _ _ _ | with_reducible exact Two.newS _ _ _ _ _ _ | with_reducible refine Two.alloc ?_ _ | with_reducible refine Two.putE ?_ _ _ | with_reducible refine Two.put_other ?_ ?_ _ _ | with_reducible refine Two.putE_other ?_ ?_ _ _ | with_reducible exact z1 | with_reducible exact ⟨_, _, z1⟩ | with_reducible exact z2 | with_reducible exact ⟨_, _, z2⟩ | with_reducible exact z3 | with_reducible exact ⟨_, _, z3⟩ | with_reducible exact y1 | with_reducible exact ⟨_, _, y1⟩ | with_reducible exact y2 | with_reducible exact ⟨_, _, y2⟩ | with_reducible exact y3 | with_reducible exact ⟨_, _, y3⟩ | with_reducible exact Nat.ne_of_lt (by with_reducible assumption) | with_reducible exact Nat.ne_of_gt (by with_reducible assumption) | with_reducible assumption | omega) <;> (first | with_reducible refine Two.drew ?_ | with_reducible exact Two.new _ _ _ _ rfl | with_reducible exact Two.new1 _ _ _ _ | with_reducible exact Two.newS _ _ _ _ _ _ | with_reducible refine Two.alloc ?_ _ | with_reducible refine Two.putE ?_ _ _ | with_reducible refine Two.put_other ?_ ?_ _ _ | with_reducible refine Two.putE_other ?_ ?_ _ _ | with_reducible exact z1 | with_reducible exact ⟨_, _, z1⟩ | with_reducible exact z2 | with_reducible exact ⟨_, _, z2⟩ | with_reducible exact z3 | with_reducible exact ⟨_, _, z3⟩ | with_reducible exact y1 | with_reducible exact ⟨_, _, y1⟩ | with_reducible exact y2 | with_reducible exact ⟨_, _, y2⟩ | with_reducible exact y3 | with_reducible exact ⟨_, _, y3⟩ | with_reducible exact Nat.ne_of_lt (by with_reducible assumption) | with_reducible exact Nat.ne_of_gt (by with_reducible assumption) | with_reducible assumption | omega) <;> (first | with_reducible refine Two.drew ?_ | with_reducible exact Two.new _ _ _ _ rfl | with_reducible exact Two.new1 _ _ _ _ | with_reducible exact Two.newS _ _ _ _ _ _ | with_reducible refine Two.alloc ?_ _ | with_reducible refine Two.putE ?_ _ _ | with_reducible refine Two.put_other ?_ ?_ _ _ | with_reducible refine Two.putE_other ?_ ?_ _ _ | with_reducible exact z1 | with_reducible exact ⟨_, _, z1⟩ | with_reducible exact z2 | with_reducible exact ⟨_, _, z2⟩ | with_reducible exact z3 | with_reducible exact ⟨_, _, z3⟩ | with_reducible exact y1 | with_reducible exact ⟨_, _, y1⟩ | with_reducible exact y2 | with_reducible exact ⟨_, _, y2⟩ | with_reducible exact y3 | with_reducible exact ⟨_, _, y3⟩ | with_reducible exact Nat.ne_of_lt (by with_reducible assumption) | with_reducible exact Nat.ne_of_gt (by with_reducible assumption) | with_reducible assumption | omega) <;> (first | with_reducible refine Two.drew ?_ | with_reducible exact Two.new _ _ _ _ rfl | with_reducible exact Two.new1 _ _ _ _ | with_reducible exact Two.newS _ _ _ _ _ _ | with_reducible refine Two.alloc ?_ _ | with_reducible refine Two.putE ?_ _ _ | with_reducible refine Two.put_other ?_ ?_ _ _ | with_reducible refine Two.putE_other ?_ ?_ _ _ | with_reducible exact z1 | with_reducible exact ⟨_, _, z1⟩ | with_reducible exact z2 | with_reducible exact ⟨_, _, z2⟩ | with_reducible exact z3 | with_reducible exact ⟨_, _, z3⟩ | with_reducible exact y1 | with_reducible exact ⟨_, _, y1⟩ | with_reducible exact y2 | with_reducible exact ⟨_, _, y2⟩ | with_reducible exact y3 | with_reducible exact ⟨_, _, y3⟩ | with_reducible exact Nat.ne_of_lt (by with_reducible assumption) | with_reducible exact Nat.ne_of_gt (by with_reducible assumption) | with_reducible assumption | omega) <;> (first | with_reducible refine Two.drew ?_ | with_reducible exact Two.new _ _ _ _ rfl | with_reducible exact Two.new1 _ _ _ _ | with_reducible exact Two.newS _ _ _ _ _ _ | with_reducible refine Two.alloc ?_ _ | with_reducible refine Two.putE ?_ _ _ | with_reducible refine Two.put_other ?_ ?_ _ _ | with_reducible refine Two.putE_other ?_ ?_ _ _ | with_reducible exact z1 | with_reducible exact ⟨_, _, z1⟩ | with_reducible exact z2 | with_reducible exact ⟨_, _, z2⟩ | with_reducible exact z3 | with_reducible exact ⟨_, _, z3⟩ | with_reducible exact y1 | with_reducible exact ⟨_, _, y1⟩ | with_reducible exact y2 | with_reducible exact ⟨_, _, y2⟩ | with_reducible exact y3 | with_reducible exact ⟨_, _, y3⟩ | with_reducible exact Nat.ne_of_lt (by with_reducible assumption) | with_reducible exact Nat.ne_of_gt (by with_reducible assumption) | with_reducible assumption | omega) <;> (first | with_reducible refine Two.drew ?_ | with_reducible exact Two.new _ _ _ _ rfl | with_reducible exact Two.new1 _ _ _ _ | with_reducible exact Two.newS _ _ _ _ _ _ | with_reducible refine Two.alloc ?_ _ | with_reducible refine Two.putE ?_ _ _ | with_reducible refine Two.put_other ?_ ?_ _ _ | with_reducible refine Two.putE_other ?_ ?_ _ _ | with_reducible exact z1 | with_reducible exact ⟨_, _, z1⟩ | with_reducible exact z2 | with_reducible exact ⟨_, _, z2⟩ | with_reducible exact z3 | with_reducible exact ⟨_, _, z3⟩ | with_reducible exact y1 | with_reducible exact ⟨_, _, y1⟩ | with_reducible exact y2 | with_reducible exact ⟨_, _, y2⟩ | with_reducible exact y3 | with_reducible exact ⟨_, _, y3⟩ | with_reducible exact Nat.ne_of_lt (by with_reducible assumption) | with_reducible exact Nat.ne_of_gt (by with_reducible assumption) | with_reducible assumption | omega)
        · exact (by repeat' (first | (with_reducible exact Keeps.refl _) | (with_reducible refine Keeps.alloc ?_ _) | (with_reducible refine Keeps.drew ?_) | (with_reducible refine Keeps.drewN ?_ _) | (with_reducible refine Keeps.set ?_ _ _ (T := 41) ?_ (by decide)) | (with_reducible exact TyAt.new _ _ _ _ (by simp)) | (with_reducible refine TyAt.set ?_ _ _) | (with_reducible refine TyAt.alloc ?_ _) | (with_reducible refine TyAt.drew ?_) | (with_reducible refine TyAt.drewN ?_ _) | (apply Keeps.below; assumption) | (exact Two.ty (by assumption)) | (apply TyAt.below; rotate_left; assumption)))
  case rest =>
    clear E hN hD fr1 fr2 fr3 fr4 p1 p2 p5 p6 S4 CM
    obtain ⟨bc, nC, xC, kC, cC, rfl, E0, tC, hC⟩ := hcut
    have E := LX.add E0 tC
    have hM := hN0.keep E.bl
    have hkc := hC.le sG
    have fr1 := E.fresh
    have fr2 := E.fresh'
    obtain ⟨fr3, fr4⟩ := E.room
    have k1 := E.c2 (b := w.heap.size) (x := .bool na) (y := .slice xa ka ca) (by simp)
    have k2 := E.c2 (b := bc) (x := .bool nC) (y := .slice xC kC cC) (by simp)
    obtain ⟨p1, p2⟩ := k1
    obtain ⟨p5, p6⟩ := k2
    have S4 : ∀ W, LX w ((bc, .bool nC, .slice xC kC cC) :: [(w.heap.size, .bool na, .slice xa ka ca), (w.heap.size + 1, .bool nb, .slice xb kb cb), (w.heap.size + 1 + 1, .bool false, .slice none 0 0), (w.heap.size + 1 + 1 + 1, .bool false, .slice none 0 0)]) W → W.cell? ⟨w.heap.size, 0, none⟩ = some (.bool na) ∧ W.cell? ⟨w.heap.size, 1, none⟩ = some (.slice xa ka ca) ∧ W.cell? ⟨bc, 0, none⟩ = some (.bool nC) ∧ W.cell? ⟨bc, 1, none⟩ = some (.slice xC kC cC) := fun W h => ⟨(h.c2 (b := w.heap.size) (x := .bool na) (y := .slice xa ka ca) (by simp)).1, (h.c2 (b := w.heap.size) (x := .bool na) (y := .slice xa ka ca) (by simp)).2, (h.c2 (b := bc) (x := .bool nC) (y := .slice xC kC cC) (by simp)).1, (h.c2 (b := bc) (x := .bool nC) (y := .slice xC kC cC) (by simp)).2⟩
    go_upto_region 2 with (fail)
    go_cut [7] from 16 (fun s wx => LowT w ((bc, .bool nC, .slice xC kC cC) :: [(w.heap.size, .bool na, .slice xa ka ca), (w.heap.size + 1, .bool nb, .slice xb kb cb), (w.heap.size + 1 + 1, .bool false, .slice none 0 0), (w.heap.size + 1 + 1 + 1, .bool false, .slice none 0 0)]) A1 G nC xC kC cC s wx)
    case first =>
      go_region_held3 (fun w' => w'.cell? ⟨w.heap.size, 0, none⟩ = some (.bool na) ∧ w'.cell? ⟨w.heap.size, 1, none⟩ = some (.slice xa ka ca) ∧ w'.cell? ⟨bc, 0, none⟩ = some (.bool nC) ∧ w'.cell? ⟨bc, 1, none⟩ = some (.slice xC kC cC))
        (first | with_reducible exact ⟨p1, p2, p5, p6⟩ | with_reducible exact S4 _ E.drew | (refine S4 _ ?_; (first | with_reducible exact E | with_reducible refine LX.drew ?_ | with_reducible refine LX.alloc ?_ _ | with_reducible refine LX.set ?_ _ _ _ ?_ ?_ | with_reducible assumption) <;> (first | with_reducible exact E | with_reducible refine LX.drew ?_ | with_reducible refine LX.alloc ?_ _ | with_reducible refine LX.set ?_ _ _ _ ?_ ?_ | with_reducible assumption) <;> (first | with_reducible exact E | with_reducible refine LX.drew ?_ | with_reducible refine LX.alloc ?_ _ | with_reducible refine LX.set ?_ _ _ _ ?_ ?_ | with_reducible assumption) <;> (first | with_reducible exact E | with_reducible refine LX.drew ?_ | with_reducible refine LX.alloc ?_ _ | with_reducible refine LX.set ?_ _ _ _ ?_ ?_ | with_reducible assumption) <;> (first | with_reducible exact E | with_reducible refine LX.drew ?_ | with_reducible refine LX.alloc ?_ _ | with_reducible refine LX.set ?_ _ _ _ ?_ ?_ | with_reducible assumption) <;> (first | with_reducible exact E | with_reducible refine LX.drew ?_ | with_reducible refine LX.alloc ?_ _ | with_reducible refine LX.set ?_ _ _ _ ?_ ?_ | with_reducible assumption) <;> (first | with_reducible exact E | with_reducible refine LX.drew ?_ | with_reducible refine LX.alloc ?_ _ | with_reducible refine LX.set ?_ _ _ _ ?_ ?_ | with_reducible assumption) <;> (first | with_reducible exact E | with_reducible refine LX.drew ?_ | with_reducible refine LX.alloc ?_ _ | with_reducible refine LX.set ?_ _ _ _ ?_ ?_ | with_reducible assumption) <;> (first | with_reducible exact E | with_reducible refine LX.drew ?_ | with_reducible refine LX.alloc ?_ _ | with_reducible refine LX.set ?_ _ _ _ ?_ ?_ | with_reducible assumption); done) | go_keep)
        (first
        | (go_at_call 93; with_reducible refine (ref_size na xa ka ca _).mono ?_; rintro e wA ⟨rfl, hbA⟩; (try (have y1 := Two.belowX hbA (by with_reducible first | exact z1 | exact z1.drew | exact (z1.alloc _).drew | exact ((z1.alloc _).alloc _).drew | exact z1.alloc _ | exact (z1.alloc _).alloc _); obtain ⟨zf1, zf2, zf3, zf4⟩ := y1.cells; have zl4 := y1.lt)); (try (have y2 := Two.belowX hbA (by with_reducible first | exact z2 | exact z2.drew | exact (z2.alloc _).drew | exact ((z2.alloc _).alloc _).drew | exact z2.alloc _ | exact (z2.alloc _).alloc _); obtain ⟨zf1, zf2, zf3, zf4⟩ := y2.cells; have zl4 := y2.lt)); (try (have y3 := Two.belowX hbA (by with_reducible first | exact z3 | exact z3.drew | exact (z3.alloc _).drew | exact ((z3.alloc _).alloc _).drew | exact z3.alloc _ | exact (z3.alloc _).alloc _); obtain ⟨zf1, zf2, zf3, zf4⟩ := y3.cells; have zl4 := y3.lt)); (try (have z1 := Two.belowX hbA (by with_reducible first | exact E.n1.drew | exact E.n1); obtain ⟨zc1, zc2, zc3, zc4⟩ := z1.cells; have zl1 := z1.lt)); (try (have z2 := Two.belowX hbA (by with_reducible first | exact E.n21.drew | exact E.n21); obtain ⟨zc1, zc2, zc3, zc4⟩ := z2.cells; have zl1 := z2.lt)); (try (have z3 := Two.belowX hbA (by with_reducible first | exact E.n22.drew | exact E.n22); obtain ⟨zc1, zc2, zc3, zc4⟩ := z3.cells; have zl1 := z3.lt)); (try (replace hM := IsBig.belowX hbA (by with_reducible first | exact hM | exact hM.drewd | exact (hM.allocd _).drewd | exact ((hM.allocd _).allocd _).drewd | exact hM.allocd _ | exact (hM.allocd _).allocd _))); (try (replace hC := IsBig.belowX hbA (by with_reducible first | exact hC | exact hC.drewd | exact (hC.allocd _).drewd | exact ((hC.allocd _).allocd _).drewd | exact hC.allocd _ | exact (hC.allocd _).allocd _))); (have E' := LX.below hbA (by with_reducible first | exact E | exact E.drew | exact (E.alloc _).drew | exact ((E.alloc _).alloc _).drew | exact E.alloc _ | exact (E.alloc _).alloc _)); clear E; have E := E'; clear E'; have fr1 := E.fresh; have fr2 := E.fresh'; obtain ⟨fr3, fr4⟩ := E.room; (have k1 := E.c2 (b := w.heap.size) (x := .bool na) (y := .slice xa ka ca) (by simp)); (have k2 := E.c2 (b := bc) (x := .bool nC) (y := .slice xC kC cC) (by simp)); obtain ⟨p1, p2⟩ := k1; obtain ⟨p5, p6⟩ := k2)
        | (go_at_call 68; with_reducible refine (D1 nC xC kC cC _ (by with_reducible first | exact hM | exact hM.drewd | exact (hM.allocd _).drewd | exact ((hM.allocd _).allocd _).drewd | exact hM.allocd _ | exact (hM.allocd _).allocd _) (by with_reducible first | exact hC | exact hC.drewd | exact (hC.allocd _).drewd | exact ((hC.allocd _).allocd _).drewd | exact hC.allocd _ | exact (hC.allocd _).allocd _) (by omega)).mono ?_; rintro e wB hRB; obtain ⟨nB, xB, kB, cB, nR, xR, kR, cR, rfl, hIB, hIR, hbB⟩ := hRB.out; (try (have y1 := Two.belowX hbB (by with_reducible first | exact z1 | exact z1.drew | exact (z1.alloc _).drew | exact ((z1.alloc _).alloc _).drew | exact z1.alloc _ | exact (z1.alloc _).alloc _); obtain ⟨zf1, zf2, zf3, zf4⟩ := y1.cells; have zl4 := y1.lt)); (try (have y2 := Two.belowX hbB (by with_reducible first | exact z2 | exact z2.drew | exact (z2.alloc _).drew | exact ((z2.alloc _).alloc _).drew | exact z2.alloc _ | exact (z2.alloc _).alloc _); obtain ⟨zf1, zf2, zf3, zf4⟩ := y2.cells; have zl4 := y2.lt)); (try (have y3 := Two.belowX hbB (by with_reducible first | exact z3 | exact z3.drew | exact (z3.alloc _).drew | exact ((z3.alloc _).alloc _).drew | exact z3.alloc _ | exact (z3.alloc _).alloc _); obtain ⟨zf1, zf2, zf3, zf4⟩ := y3.cells; have zl4 := y3.lt)); (try (have z1 := Two.belowX hbB (by with_reducible first | exact E.n1.drew | exact E.n1); obtain ⟨zc1, zc2, zc3, zc4⟩ := z1.cells; have zl1 := z1.lt)); (try (have z2 := Two.belowX hbB (by with_reducible first | exact E.n21.drew | exact E.n21); obtain ⟨zc1, zc2, zc3, zc4⟩ := z2.cells; have zl1 := z2.lt)); (try (have z3 := Two.belowX hbB (by with_reducible first | exact E.n22.drew | exact E.n22); obtain ⟨zc1, zc2, zc3, zc4⟩ := z3.cells; have zl1 := z3.lt)); (have E' := LX.below hbB (by with_reducible first | exact E | exact E.drew | exact (E.alloc _).drew | exact ((E.alloc _).alloc _).drew | exact E.alloc _ | exact (E.alloc _).alloc _)); clear E; have E := E'; clear E'; have fr1 := E.fresh; have fr2 := E.fresh'; obtain ⟨fr3, fr4⟩ := E.room; (have k1 := E.c2 (b := w.heap.size) (x := .bool na) (y := .slice xa ka ca) (by simp)); (have k2 := E.c2 (b := bc) (x := .bool nC) (y := .slice xC kC cC) (by simp)); obtain ⟨p1, p2⟩ := k1; obtain ⟨p5, p6⟩ := k2))
      all_goals
        go_wp2_with fail
        go_meet
        case rel =>
          refine ⟨_, nB, xB, kB, cB, rfl, ?_, ?_, IsBig.keeps hIB ?_, IsBig.keeps hC ?_, ?_, ?_⟩
          · (first | with_reducible exact E | with_reducible refine LX.drew ?_ | with_reducible refine LX.alloc ?_ _ | with_reducible refine LX.set ?_ _ _ _ ?_ ?_ | with_reducible assumption) <;> (first | with_reducible exact E | with_reducible refine LX.drew ?_ | with_reducible refine LX.alloc ?_ _ | with_reducible refine LX.set ?_ _ _ _ ?_ ?_ | with_reducible assumption) <;> (first | with_reducible exact E | with_reducible refine LX.drew ?_ | with_reducible refine LX.alloc ?_ _ | with_reducible refine LX.set ?_ _ _ _ ?_ ?_ | with_reducible assumption) <;> (first | with_reducible exact E | with_reducible refine LX.drew ?_ | with_reducible refine LX.alloc ?_ _ | with_reducible refine LX.set ?_ _ _ _ ?_ ?_ | with_reducible assumption) <;> (first | with_reducible exact E | with_reducible refine LX.drew ?_ | with_reducible refine LX.alloc ?_ _ | with_reducible refine LX.set ?_ _ _ _ ?_ ?_ | with_reducible assumption) <;> (first | with_reducible exact E | with_reducible refine LX.drew ?_ | with_reducible refine LX.alloc ?_ _ | with_reducible refine LX.set ?_ _ _ _ ?_ ?_ | with_reducible assumption) <;> (first | with_reducible exact E | with_reducible refine LX.drew ?_ | with_reducible refine LX.alloc ?_ _ | with_reducible refine LX.set ?_ _ _ _ ?_ ?_ | with_reducible assumption) <;> (first | with_reducible exact E | with_reducible refine LX.drew ?_ | with_reducible refine LX.alloc ?_ _ | with_reducible refine LX.set ?_ _ _ _ ?_ ?_ | with_reducible assumption) <;> (first | with_reducible exact E | with_reducible refine LX.drew ?_ | with_reducible refine LX.alloc ?_ _ | with_reducible refine LX.set ?_ _ _ _ ?_ ?_ | with_reducible assumption)
          · (first | with_reducible refine Two.drew ?_ | with_reducible exact Two.new _ _ _ _ rfl | with_reducible exact Two.new1 _ _ _ _ | with_reducible exact Two.newS _ _ _ _ _ _ | with_reducible refine Two.alloc ?_ _ | with_reducible refine Two.putE ?_ _ _ | with_reducible refine Two.put_other ?_ ?_ _ _ | with_reducible refine Two.putE_other ?_ ?_ _ _ | with_reducible exact z1 | with_reducible exact ⟨_, _, z1⟩ | with_reducible exact z2 | with_reducible exact ⟨_, _, z2⟩ | with_reducible exact z3 | with_reducible exact ⟨_, _, z3⟩ | with_reducible exact y1 | with_reducible exact ⟨_, _, y1⟩ | with_reducible exact y2 | with_reducible exact ⟨_, _, y2⟩ | with_reducible exact y3 | with_reducible exact ⟨_, _, y3⟩ | with_reducible exact Nat.ne_of_lt (by with_reducible assumption) | with_reducible exact Nat.ne_of_gt (by with_reducible assumption) | with_reducible assumption | omega) <;> (first | with_reducible refine Two.drew ?_ | with_reducible exact Two.new _ _ _ _ rfl | with_reducible exact Two.new1 _ _ _ _ | with_reducible exact Two.newS _ _ _ _ _ _ | with_reducible refine Two.alloc ?_ _ | with_reducible refine Two.putE ?_ _ _ | with_reducible refine Two.put_other ?_ ?_ _ _ | with_reducible refine Two.putE_other ?_ ?_ _ _ | with_reducible exact z1 | with_reducible exact ⟨_, _, z1⟩ | with_reducible exact z2 | with_reducible exact ⟨_, _, z2⟩ | with_reducible exact z3 | with_reducible exact ⟨_, _, z3⟩ | with_reducible exact y1 | with_reducible exact ⟨_, _, y1⟩ | with_reducible exact y2 | with_reducible exact ⟨_, _, y2⟩ | with_reducible exact y3 | with_reducible exact ⟨_, _, y3⟩ | with_reducible exact Nat.ne_of_lt (by with_reducible assumption) | with_reducible exact Nat.ne_of_gt (by with_reducible assumption) | with_reducible assumption | omega) <;> (first | with_reducible refine Two.drew ?_ | with_reducible exact Two.new _ _ _ _ rfl | with_reducible exact Two.new1 _ _ _ _ | with_reducible exact Two.newS _ _ _ _ _ _ | with_reducible refine Two.alloc ?_ _ | with_reducible refine Two.putE ?_ _ _ | with_reducible refine Two.put_other ?_ ?_ _ _ | with_reducible refine Two.putE_other ?_ ?_ _ _ | with_reducible exact z1 | with_reducible exact ⟨_, _, z1⟩ | with_reducible exact z2 | with_reducible exact ⟨_, _, z2⟩ | with_reducible exact z3 | with_reducible exact ⟨_, _, z3⟩ | with_reducible exact y1 | with_reducible exact ⟨_, _, y1⟩ | with_reducible exact y2 | with_reducible exact ⟨_, _, y2⟩ | with_reducible exact y3 | with_reducible exact ⟨_, _, y3⟩ | with_reducible exact Nat.ne_of_lt (by with_reducible assumption) | with_reducible exact Nat.ne_of_gt (by with_reducible assumption) | with_reducible assumption | omega) <;> (first | with_reducible refine Two.drew ?_ | with_reducible exact Two.new _ _ _ _ rfl | with_reducible exact Two.new1 _ _ _ _ | with_reducible exact Two.newS _ _ _ _ _ _ | with_reducible refine Two.alloc ?_ _ | with_reducible refine Two.putE ?_ _ _ | with_reducible refine Two.put_other ?_ ?_ _ _ | with_reducible refine Two.putE_other ?_ ?_ _ _ | with_reducible exact z1 | with_reducible exact ⟨_, _, z1⟩ | with_reducible exact z2 | with_reducible exact ⟨_, _, z2⟩ | with_reducible exact z3 | with_reducible exact ⟨_, _, z3⟩ | with_reducible exact y1 | with_reducible exact ⟨_, _, y1⟩ | with_reducible exact y2 | with_reducible exact ⟨_, _, y2⟩ | with_reducible exact y3 | with_reducible exact ⟨_, _, y3⟩ | with_reducible exact Nat.ne_of_lt (by with_reducible assumption) | with_reducible exact Nat.ne_of_gt (by with_reducible assumption) | with_reducible assumption | omega) <;> (first | with_reducible refine Two.drew ?_ | with_reducible exact Two.new _ _ _ _ rfl | with_reducible exact Two.new1 _ _ _ _ | with_reducible exact Two.newS _ _ _ _ _ _ | with_reducible refine Two.alloc ?_ _ | with_reducible refine Two.putE ?_ _ _ | with_reducible refine Two.put_other ?_ ?_ _ _ | with_reducible refine Two.putE_other ?_ ?_ _ _ | with_reducible exact z1 | with_reducible exact ⟨_, _, z1⟩ | with_reducible exact z2 | with_reducible exact ⟨_, _, z2⟩ | with_reducible exact z3 | with_reducible exact ⟨_, _, z3⟩ | with_reducible exact y1 | with_reducible exact ⟨_, _, y1⟩ | with_reducible exact y2 | with_reducible exact ⟨_, _, y2⟩ | with_reducible exact y3 | with_reducible exact ⟨_, _, y3⟩ | with_reducible exact Nat.ne_of_lt (by with_reducible assumption) | with_reducible exact Nat.ne_of_gt (by with_reducible assumption) | with_reducible assumption | omega) <;> (first | with_reducible refine Two.drew ?_ | with_reducible exact Two.new _ _ _ _ rfl | with_reducible exact Two.new1 _ _ _ _ | with_reducible exact Two.newS _ _ _ _ _ _ | with_reducible refine Two.alloc ?_ _ | with_reducible refine Two.putE ?_ _ _ | with_reducible refine Two.put_other ?_ ?_ _ _ | with_reducible refine Two.putE_other ?_ ?_ _ _ | with_reducible exact z1 | with_reducible exact ⟨_, _, z1⟩ | with_reducible exact z2 | with_reducible exact ⟨_, _, z2⟩ | with_reducible exact z3 | with_reducible exact ⟨_, _, z3⟩ | with_reducible exact y1 | with_reducible exact ⟨_, _, y1⟩ | with_reducible exact y2 | with_reducible exact ⟨_, _, y2⟩ | with_reducible exact y3 | with_reducible exact ⟨_, _, y3⟩ | with_reducible exact Nat.ne_of_lt (by with_reducible assumption) | with_reducible exact Nat.ne_of_gt (by with_reducible assumption) | with_reducible assumption | omega)
          · exact (by repeat' (first | (with_reducible exact Keeps.refl _) | (with_reducible refine Keeps.alloc ?_ _) | (with_reducible refine Keeps.drew ?_) | (with_reducible refine Keeps.drewN ?_ _) | (with_reducible refine Keeps.set ?_ _ _ (T := 41) ?_ (by decide)) | (with_reducible exact TyAt.new _ _ _ _ (by simp)) | (with_reducible refine TyAt.set ?_ _ _) | (with_reducible refine TyAt.alloc ?_ _) | (with_reducible refine TyAt.drew ?_) | (with_reducible refine TyAt.drewN ?_ _) | (apply Keeps.below; assumption) | (exact Two.ty (by assumption)) | (apply TyAt.below; rotate_left; assumption)))
          · exact (by repeat' (first | (with_reducible exact Keeps.refl _) | (with_reducible refine Keeps.alloc ?_ _) | (with_reducible refine Keeps.drew ?_) | (with_reducible refine Keeps.drewN ?_ _) | (with_reducible refine Keeps.set ?_ _ _ (T := 41) ?_ (by decide)) | (with_reducible exact TyAt.new _ _ _ _ (by simp)) | (with_reducible refine TyAt.set ?_ _ _) | (with_reducible refine TyAt.alloc ?_ _) | (with_reducible refine TyAt.drew ?_) | (with_reducible refine TyAt.drewN ?_ _) | (apply Keeps.below; assumption) | (exact Two.ty (by assumption)) | (apply TyAt.below; rotate_left; assumption)))
          · with_reducible assumption
          · with_reducible assumption
    case rest =>
      clear E hM hC fr1 fr2 fr3 fr4 p1 p2 p5 p6 S4
      obtain ⟨b7, n7, x7, k7, c7, rfl, E0, t7, h7, hC, f7, l7⟩ := hcut
      have E := LX.add E0 t7
      have hM := hD0.keep E.bl
      have fr1 := E.fresh
      have fr2 := E.fresh'
      obtain ⟨fr3, fr4⟩ := E.room
      have k1 := E.c2 (b := w.heap.size + 1) (x := .bool nb) (y := .slice xb kb cb) (by simp)
      have k2 := E.c2 (b := bc) (x := .bool nC) (y := .slice xC kC cC) (by simp)
      obtain ⟨p1, p2⟩ := k1
      obtain ⟨p5, p6⟩ := k2
      have S4 : ∀ W, LX w ((b7, .bool n7, .slice x7 k7 c7) :: ((bc, .bool nC, .slice xC kC cC) :: [(w.heap.size, .bool na, .slice xa ka ca), (w.heap.size + 1, .bool nb, .slice xb kb cb), (w.heap.size + 1 + 1, .bool false, .slice none 0 0), (w.heap.size + 1 + 1 + 1, .bool false, .slice none 0 0)])) W → W.cell? ⟨w.heap.size + 1, 0, none⟩ = some (.bool nb) ∧ W.cell? ⟨w.heap.size + 1, 1, none⟩ = some (.slice xb kb cb) ∧ W.cell? ⟨bc, 0, none⟩ = some (.bool nC) ∧ W.cell? ⟨bc, 1, none⟩ = some (.slice xC kC cC) := fun W h => ⟨(h.c2 (b := w.heap.size + 1) (x := .bool nb) (y := .slice xb kb cb) (by simp)).1, (h.c2 (b := w.heap.size + 1) (x := .bool nb) (y := .slice xb kb cb) (by simp)).2, (h.c2 (b := bc) (x := .bool nC) (y := .slice xC kC cC) (by simp)).1, (h.c2 (b := bc) (x := .bool nC) (y := .slice xC kC cC) (by simp)).2⟩
      go_upto_region 3 with (fail)
      go_cut [9] from 23 (fun s wx => LowT w ((b7, .bool n7, .slice x7 k7 c7) :: ((bc, .bool nC, .slice xC kC cC) :: [(w.heap.size, .bool na, .slice xa ka ca), (w.heap.size + 1, .bool nb, .slice xb kb cb), (w.heap.size + 1 + 1, .bool false, .slice none 0 0), (w.heap.size + 1 + 1 + 1, .bool false, .slice none 0 0)])) B1 A1 n7 x7 k7 c7 s wx)
      case first =>
        go_region_held3 (fun w' => w'.cell? ⟨w.heap.size + 1, 0, none⟩ = some (.bool nb) ∧ w'.cell? ⟨w.heap.size + 1, 1, none⟩ = some (.slice xb kb cb) ∧ w'.cell? ⟨bc, 0, none⟩ = some (.bool nC) ∧ w'.cell? ⟨bc, 1, none⟩ = some (.slice xC kC cC))
          (first | with_reducible exact ⟨p1, p2, p5, p6⟩ | with_reducible exact S4 _ E.drew | (refine S4 _ ?_; (first | with_reducible exact E | with_reducible refine LX.drew ?_ | with_reducible refine LX.alloc ?_ _ | with_reducible refine LX.set ?_ _ _ _ ?_ ?_ | with_reducible assumption) <;> (first | with_reducible exact E | with_reducible refine LX.drew ?_ | with_reducible refine LX.alloc ?_ _ | with_reducible refine LX.set ?_ _ _ _ ?_ ?_ | with_reducible assumption) <;> (first | with_reducible exact E | with_reducible refine LX.drew ?_ | with_reducible refine LX.alloc ?_ _ | with_reducible refine LX.set ?_ _ _ _ ?_ ?_ | with_reducible assumption) <;> (first | with_reducible exact E | with_reducible refine LX.drew ?_ | with_reducible refine LX.alloc ?_ _ | with_reducible refine LX.set ?_ _ _ _ ?_ ?_ | with_reducible assumption) <;> (first | with_reducible exact E | with_reducible refine LX.drew ?_ | with_reducible refine LX.alloc ?_ _ | with_reducible refine LX.set ?_ _ _ _ ?_ ?_ | with_reducible assumption) <;> (first | with_reducible exact E | with_reducible refine LX.drew ?_ | with_reducible refine LX.alloc ?_ _ | with_reducible refine LX.set ?_ _ _ _ ?_ ?_ | with_reducible assumption) <;> (first | with_reducible exact E | with_reducible refine LX.drew ?_ | with_reducible refine LX.alloc ?_ _ | with_reducible refine LX.set ?_ _ _ _ ?_ ?_ | with_reducible assumption) <;> (first | with_reducible exact E | with_reducible refine LX.drew ?_ | with_reducible refine LX.alloc ?_ _ | with_reducible refine LX.set ?_ _ _ _ ?_ ?_ | with_reducible assumption) <;> (first | with_reducible exact E | with_reducible refine LX.drew ?_ | with_reducible refine LX.alloc ?_ _ | with_reducible refine LX.set ?_ _ _ _ ?_ ?_ | with_reducible assumption); done) | go_keep)
          (first
          | (go_at_call 93; with_reducible refine (ref_size nb xb kb cb _).mono ?_; rintro e wA ⟨rfl, hbA⟩; (try (have y1 := Two.belowX hbA (by with_reducible first | exact z1 | exact z1.drew | exact (z1.alloc _).drew | exact ((z1.alloc _).alloc _).drew | exact z1.alloc _ | exact (z1.alloc _).alloc _); obtain ⟨zf1, zf2, zf3, zf4⟩ := y1.cells; have zl4 := y1.lt)); (try (have y2 := Two.belowX hbA (by with_reducible first | exact z2 | exact z2.drew | exact (z2.alloc _).drew | exact ((z2.alloc _).alloc _).drew | exact z2.alloc _ | exact (z2.alloc _).alloc _); obtain ⟨zf1, zf2, zf3, zf4⟩ := y2.cells; have zl4 := y2.lt)); (try (have y3 := Two.belowX hbA (by with_reducible first | exact z3 | exact z3.drew | exact (z3.alloc _).drew | exact ((z3.alloc _).alloc _).drew | exact z3.alloc _ | exact (z3.alloc _).alloc _); obtain ⟨zf1, zf2, zf3, zf4⟩ := y3.cells; have zl4 := y3.lt)); (try (have z1 := Two.belowX hbA (by with_reducible first | exact E.n1.drew | exact E.n1); obtain ⟨zc1, zc2, zc3, zc4⟩ := z1.cells; have zl1 := z1.lt)); (try (have z2 := Two.belowX hbA (by with_reducible first | exact E.n21.drew | exact E.n21); obtain ⟨zc1, zc2, zc3, zc4⟩ := z2.cells; have zl1 := z2.lt)); (try (have z3 := Two.belowX hbA (by with_reducible first | exact E.n22.drew | exact E.n22); obtain ⟨zc1, zc2, zc3, zc4⟩ := z3.cells; have zl1 := z3.lt)); (try (replace hM := IsBig.belowX hbA (by with_reducible first | exact hM | exact hM.drewd | exact (hM.allocd _).drewd | exact ((hM.allocd _).allocd _).drewd | exact hM.allocd _ | exact (hM.allocd _).allocd _))); (try (replace hC := IsBig.belowX hbA (by with_reducible first | exact hC | exact hC.drewd | exact (hC.allocd _).drewd | exact ((hC.allocd _).allocd _).drewd | exact hC.allocd _ | exact (hC.allocd _).allocd _))); (try (replace h7 := IsBig.belowX hbA (by with_reducible first | exact h7 | exact h7.drewd | exact (h7.allocd _).drewd | exact ((h7.allocd _).allocd _).drewd | exact h7.allocd _ | exact (h7.allocd _).allocd _))); (have E' := LX.below hbA (by with_reducible first | exact E | exact E.drew | exact (E.alloc _).drew | exact ((E.alloc _).alloc _).drew | exact E.alloc _ | exact (E.alloc _).alloc _)); clear E; have E := E'; clear E'; have fr1 := E.fresh; have fr2 := E.fresh'; obtain ⟨fr3, fr4⟩ := E.room; (have k1 := E.c2 (b := w.heap.size + 1) (x := .bool nb) (y := .slice xb kb cb) (by simp)); (have k2 := E.c2 (b := bc) (x := .bool nC) (y := .slice xC kC cC) (by simp)); obtain ⟨p1, p2⟩ := k1; obtain ⟨p5, p6⟩ := k2)
          | (go_at_call 68; with_reducible refine (D2 nC xC kC cC _ (by with_reducible first | exact hM | exact hM.drewd | exact (hM.allocd _).drewd | exact ((hM.allocd _).allocd _).drewd | exact hM.allocd _ | exact (hM.allocd _).allocd _) (by with_reducible first | exact hC | exact hC.drewd | exact (hC.allocd _).drewd | exact ((hC.allocd _).allocd _).drewd | exact hC.allocd _ | exact (hC.allocd _).allocd _) (by omega)).mono ?_; rintro e wB hRB; obtain ⟨nB, xB, kB, cB, nR, xR, kR, cR, rfl, hIB, hIR, hbB⟩ := hRB.out; (try (have y1 := Two.belowX hbB (by with_reducible first | exact z1 | exact z1.drew | exact (z1.alloc _).drew | exact ((z1.alloc _).alloc _).drew | exact z1.alloc _ | exact (z1.alloc _).alloc _); obtain ⟨zf1, zf2, zf3, zf4⟩ := y1.cells; have zl4 := y1.lt)); (try (have y2 := Two.belowX hbB (by with_reducible first | exact z2 | exact z2.drew | exact (z2.alloc _).drew | exact ((z2.alloc _).alloc _).drew | exact z2.alloc _ | exact (z2.alloc _).alloc _); obtain ⟨zf1, zf2, zf3, zf4⟩ := y2.cells; have zl4 := y2.lt)); (try (have y3 := Two.belowX hbB (by with_reducible first | exact z3 | exact z3.drew | exact (z3.alloc _).drew | exact ((z3.alloc _).alloc _).drew | exact z3.alloc _ | exact (z3.alloc _).alloc _); obtain ⟨zf1, zf2, zf3, zf4⟩ := y3.cells; have zl4 := y3.lt)); (try (have z1 := Two.belowX hbB (by with_reducible first | exact E.n1.drew | exact E.n1); obtain ⟨zc1, zc2, zc3, zc4⟩ := z1.cells; have zl1 := z1.lt)); (try (have z2 := Two.belowX hbB (by with_reducible first | exact E.n21.drew | exact E.n21); obtain ⟨zc1, zc2, zc3, zc4⟩ := z2.cells; have zl1 := z2.lt)); (try (have z3 := Two.belowX hbB (by with_reducible first | exact E.n22.drew | exact E.n22); obtain ⟨zc1, zc2, zc3, zc4⟩ := z3.cells; have zl1 := z3.lt)); (have E' := LX.below hbB (by with_reducible first | exact E | exact E.drew | exact (E.alloc _).drew | exact ((E.alloc _).alloc _).drew | exact E.alloc _ | exact (E.alloc _).alloc _)); clear E; have E := E'; clear E'; have fr1 := E.fresh; have fr2 := E.fresh'; obtain ⟨fr3, fr4⟩ := E.room; (have k1 := E.c2 (b := w.heap.size + 1) (x := .bool nb) (y := .slice xb kb cb) (by simp)); (have k2 := E.c2 (b := bc) (x := .bool nC) (y := .slice xC kC cC) (by simp)); obtain ⟨p1, p2⟩ := k1; obtain ⟨p5, p6⟩ := k2))
        all_goals
          go_wp2_with fail
          go_meet
          case rel =>
            refine ⟨_, nB, xB, kB, cB, rfl, ?_, ?_, IsBig.keeps hIB ?_, IsBig.keeps h7 ?_, ?_, ?_⟩
            · (first | with_reducible exact E | with_reducible refine LX.drew ?_ | with_reducible refine LX.alloc ?_ _ | with_reducible refine LX.set ?_ _ _ _ ?_ ?_ | with_reducible assumption) <;> (first | with_reducible exact E | with_reducible refine LX.drew ?_ | with_reducible refine LX.alloc ?_ _ | with_reducible refine LX.set ?_ _ _ _ ?_ ?_ | with_reducible assumption) <;> (first | with_reducible exact E | with_reducible refine LX.drew ?_ | with_reducible refine LX.alloc ?_ _ | with_reducible refine LX.set ?_ _ _ _ ?_ ?_ | with_reducible assumption) <;> (first | with_reducible exact E | with_reducible refine LX.drew ?_ | with_reducible refine LX.alloc ?_ _ | with_reducible refine LX.set ?_ _ _ _ ?_ ?_ | with_reducible assumption) <;> (first | with_reducible exact E | with_reducible refine LX.drew ?_ | with_reducible refine LX.alloc ?_ _ | with_reducible refine LX.set ?_ _ _ _ ?_ ?_ | with_reducible assumption) <;> (first | with_reducible exact E | with_reducible refine LX.drew ?_ | with_reducible refine LX.alloc ?_ _ | with_reducible refine LX.set ?_ _ _ _ ?_ ?_ | with_reducible assumption) <;> (first | with_reducible exact E | with_reducible refine LX.drew ?_ | with_reducible refine LX.alloc ?_ _ | with_reducible refine LX.set ?_ _ _ _ ?_ ?_ | with_reducible assumption) <;> (first | with_reducible exact E | with_reducible refine LX.drew ?_ | with_reducible refine LX.alloc ?_ _ | with_reducible refine LX.set ?_ _ _ _ ?_ ?_ | with_reducible assumption) <;> (first | with_reducible exact E | with_reducible refine LX.drew ?_ | with_reducible refine LX.alloc ?_ _ | with_reducible refine LX.set ?_ _ _ _ ?_ ?_ | with_reducible assumption)
            · (first | with_reducible refine Two.drew ?_ | with_reducible exact Two.new _ _ _ _ rfl | with_reducible exact Two.new1 _ _ _ _ | with_reducible exact Two.newS _ _ _ _ _ _ | with_reducible refine Two.alloc ?_ _ | with_reducible refine Two.putE ?_ _ _ | with_reducible refine Two.put_other ?_ ?_ _ _ | with_reducible refine Two.putE_other ?_ ?_ _ _ | with_reducible exact z1 | with_reducible exact ⟨_, _, z1⟩ | with_reducible exact z2 | with_reducible exact ⟨_, _, z2⟩ | with_reducible exact z3 | with_reducible exact ⟨_, _, z3⟩ | with_reducible exact y1 | with_reducible exact ⟨_, _, y1⟩ | with_reducible exact y2 | with_reducible exact ⟨_, _, y2⟩ | with_reducible exact y3 | with_reducible exact ⟨_, _, y3⟩ | with_reducible exact Nat.ne_of_lt (by with_reducible assumption) | with_reducible exact Nat.ne_of_gt (by with_reducible assumption) | with_reducible assumption | omega) <;> (first | with_reducible refine Two.drew ?_ | with_reducible exact Two.new _ _ _ _ rfl | with_reducible exact Two.new1 _ _ _ _ | with_reducible exact Two.newS _ _ _ _ _ _ | with_reducible refine Two.alloc ?_ _ | with_reducible refine Two.putE ?_ _ _ | with_reducible refine Two.put_other ?_ ?_ _ _ | with_reducible refine Two.putE_other ?_ ?_ _ _ | with_reducible exact z1 | with_reducible exact ⟨_, _, z1⟩ | with_reducible exact z2 | with_reducible exact ⟨_, _, z2⟩ | with_reducible exact z3 | with_reducible exact ⟨_, _, z3⟩ | with_reducible exact y1 | with_reducible exact ⟨_, _, y1⟩ | with_reducible exact y2 | with_reducible exact ⟨_, _, y2⟩ | with_reducible exact y3 | with_reducible exact ⟨_, _, y3⟩ | with_reducible exact Nat.ne_of_lt (by with_reducible assumption) | with_reducible exact Nat.ne_of_gt (by with_reducible assumption) | with_reducible assumption | omega) <;> (first | with_reducible refine Two.drew ?_ | with_reducible exact Two.new _ _ _ _ rfl | with_reducible exact Two.new1 _ _ _ _ | with_reducible exact Two.newS _ _ _ _ _ _ | with_reducible refine Two.alloc ?_ _ | with_reducible refine Two.putE ?_ _ _ | with_reducible refine Two.put_other ?_ ?_ _ _ | with_reducible refine Two.putE_other ?_ ?_ _ _ | with_reducible exact z1 | with_reducible exact ⟨_, _, z1⟩ | with_reducible exact z2 | with_reducible exact ⟨_, _, z2⟩ | with_reducible exact z3 | with_reducible exact ⟨_, _, z3⟩ | with_reducible exact y1 | with_reducible exact ⟨_, _, y1⟩ | with_reducible exact y2 | with_reducible exact ⟨_, _, y2⟩ | with_reducible exact y3 | with_reducible exact ⟨_, _, y3⟩ | with_reducible exact Nat.ne_of_lt (by with_reducible assumption) | with_reducible exact Nat.ne_of_gt (by with_reducible assumption) | with_reducible assumption | omega) <;> (first | with_reducible refine Two.drew ?_ | with_reducible exact Two.new _ _ _ _ rfl | with_reducible exact Two.new1 _ _ _ _ | with_reducible exact Two.newS _ _ _ _ _ _ | with_reducible refine Two.alloc ?_ _ | with_reducible refine Two.putE ?_ _ _ | with_reducible refine Two.put_other ?_ ?_ _ _ | with_reducible refine Two.putE_other ?_ ?_ _ _ | with_reducible exact z1 | with_reducible exact ⟨_, _, z1⟩ | with_reducible exact z2 | with_reducible exact ⟨_, _, z2⟩ | with_reducible exact z3 | with_reducible exact ⟨_, _, z3⟩ | with_reducible exact y1 | with_reducible exact ⟨_, _, y1⟩ | with_reducible exact y2 | with_reducible exact ⟨_, _, y2⟩ | with_reducible exact y3 | with_reducible exact ⟨_, _, y3⟩ | with_reducible exact Nat.ne_of_lt (by with_reducible assumption) | with_reducible exact Nat.ne_of_gt (by with_reducible assumption) | with_reducible assumption | omega) <;> (first | with_reducible refine Two.drew ?_ | with_reducible exact Two.new _ _ _ _ rfl | with_reducible exact Two.new1 _ _ _ _ | with_reducible exact Two.newS _ _ _ _ _ _ | with_reducible refine Two.alloc ?_ _ | with_reducible refine Two.putE ?_ _ _ | with_reducible refine Two.put_other ?_ ?_ _ _ | with_reducible refine Two.putE_other ?_ ?_ _ _ | with_reducible exact z1 | with_reducible exact ⟨_, _, z1⟩ | with_reducible exact z2 | with_reducible exact ⟨_, _, z2⟩ | with_reducible exact z3 | with_reducible exact ⟨_, _, z3⟩ | with_reducible exact y1 | with_reducible exact ⟨_, _, y1⟩ | with_reducible exact y2 | with_reducible exact ⟨_, _, y2⟩ | with_reducible exact y3 | with_reducible exact ⟨_, _, y3⟩ | with_reducible exact Nat.ne_of_lt (by with_reducible assumption) | with_reducible exact Nat.ne_of_gt (by with_reducible assumption) | with_reducible assumption | omega) <;> (first | with_reducible refine Two.drew ?_ | with_reducible exact Two.new _ _ _ _ rfl | with_reducible exact Two.new1 _ _ _ _ | with_reducible exact Two.newS _ _ _ _ _ _ | with_reducible refine Two.alloc ?_ _ | with_reducible refine Two.putE ?_ _ _ | with_reducible refine Two.put_other ?_ ?_ _ _ | with_reducible refine Two.putE_other ?_ ?_ _ _ | with_reducible exact z1 | with_reducible exact ⟨_, _, z1⟩ | with_reducible exact z2 | with_reducible exact ⟨_, _, z2⟩ | with_reducible exact z3 | with_reducible exact ⟨_, _, z3⟩ | with_reducible exact y1 | with_reducible exact ⟨_, _, y1⟩ | with_reducible exact y2 | with_reducible exact ⟨_, _, y2⟩ | with_reducible exact y3 | with_reducible exact ⟨_, _, y3⟩ | with_reducible exact Nat.ne_of_lt (by with_reducible assumption) | with_reducible exact Nat.ne_of_gt (by with_reducible assumption) | with_reducible assumption | omega)
            · exact (by repeat' (first | (with_reducible exact Keeps.refl _) | (with_reducible refine Keeps.alloc ?_ _) | (with_reducible refine Keeps.drew ?_) | (with_reducible refine Keeps.drewN ?_ _) | (with_reducible refine Keeps.set ?_ _ _ (T := 41) ?_ (by decide)) | (with_reducible exact TyAt.new _ _ _ _ (by simp)) | (with_reducible refine TyAt.set ?_ _ _) | (with_reducible refine TyAt.alloc ?_ _) | (with_reducible refine TyAt.drew ?_) | (with_reducible refine TyAt.drewN ?_ _) | (apply Keeps.below; assumption) | (exact Two.ty (by assumption)) | (apply TyAt.below; rotate_left; assumption)))
            · exact (by repeat' (first | (with_reducible exact Keeps.refl _) | (with_reducible refine Keeps.alloc ?_ _) | (with_reducible refine Keeps.drew ?_) | (with_reducible refine Keeps.drewN ?_ _) | (with_reducible refine Keeps.set ?_ _ _ (T := 41) ?_ (by decide)) | (with_reducible exact TyAt.new _ _ _ _ (by simp)) | (with_reducible refine TyAt.set ?_ _ _) | (with_reducible refine TyAt.alloc ?_ _) | (with_reducible refine TyAt.drew ?_) | (with_reducible refine TyAt.drewN ?_ _) | (apply Keeps.below; assumption) | (exact Two.ty (by assumption)) | (apply TyAt.below; rotate_left; assumption)))
            · with_reducible assumption
            · with_reducible assumption
      case rest =>
        clear E hM hC h7 fr1 fr2 fr3 fr4 p1 p2 p5 p6 S4
        obtain ⟨b9, n9, x9, k9, c9, rfl, E, t9, h9, h7, f9, l9⟩ := hcut
        have hk7 := h7.le sA
        have g7 := E.get (b := b7) (x := .bool n7) (y := .slice x7 k7 c7) (by simp)
        have gN := E.get (b := w.heap.size) (x := .bool na) (y := .slice xa ka ca) (by simp)
        have gD := E.get (b := w.heap.size + 1) (x := .bool nb) (y := .slice xb kb cb) (by simp)
        have z2 := E.get (b := w.heap.size + 1 + 1) (x := .bool false) (y := .slice none 0 0) (by simp)
        have z3 := E.get (b := w.heap.size + 1 + 1 + 1) (x := .bool false) (y := .slice none 0 0) (by simp)
        have e79 := f9 (b7, .bool n7, .slice x7 k7 c7) (by simp)
        have e2 := f7 (w.heap.size + 1 + 1, .bool false, .slice none 0 0) (by simp)
        have e3 := f7 (w.heap.size + 1 + 1 + 1, .bool false, .slice none 0 0) (by simp)
        have e4 := f9 (w.heap.size + 1 + 1, .bool false, .slice none 0 0) (by simp)
        have e5 := f9 (w.heap.size + 1 + 1 + 1, .bool false, .slice none 0 0) (by simp)
        simp only at e79 e2 e3 e4 e5
        have hbl := E.bl
        have hl7 := l7
        obtain ⟨p1, p2, p3, p4⟩ := gN.cells
        obtain ⟨p5, p6, p7, p8⟩ := gD.cells
        go_upto_if 34 with (fail)
        obtain ⟨c, ec⟩ : ∃ c, c = (na == nb) := ⟨_, rfl⟩
        rw [← ec]
        have EC := Lib.hid ec
        clear ec p1 p2 p3 p4 p5 p6 p7 p8
        go_cut [] from 34 (fun wx => LowR w b7 b9 n9 x9 k9 c9 A2 B1 wx)
        case first =>
          obtain ⟨p1, p2, p3, p4⟩ := g7.cells
          cases c
          · have hs : na ≠ nb := by have := EC.out; intro h; simp [h] at this
            have EV := Lib.hid (show A2 = -A1 from by rw [← EA2.out, if_neg hs])
            clear hs
            go_wp2_with (go_at_call 63; go_loud (with_reducible refine (big_minus n7 x7 k7 c7 A1 _ h7 ?_).mono ?_); omega; rintro e w5 ⟨n5, x5, k5, c5, rfl, hI5, hb5⟩; replace g7 := g7.below hb5; replace t9 := t9.below hb5; replace z2 := z2.below hb5; replace z3 := z3.below hb5; replace h9 := h9.keep hb5; replace hbl := hbl.trans (hb5.mono hbl.size); obtain ⟨q1, q2, q3, q4⟩ := g7.cells)
            go_meet
            case rel => exact ⟨n5, x5, k5, c5, g7.put _ _, by rw [EV.out]; exact IsBig.put hI5 g7 _ _, t9.put_other (fun h => e79 h.symm) _ _, IsBig.put h9 g7 _ _, z2.put_other e2 _ _, z3.put_other e3 _ _, BP hbl hl7 _ _⟩
          · have hs : na = nb := by have := EC.out; simpa using this.symm
            have EV := Lib.hid (show A2 = A1 from by rw [← EA2.out, if_pos hs])
            clear hs
            go_wp2_with fail
            go_meet
            case rel => exact ⟨n7, x7, k7, c7, g7, by rw [EV.out]; exact h7, t9, h9, z2, z3, hbl⟩
        case rest =>
          clear g7 gN gD t9 z2 z3 h7 h9 hbl E
          obtain ⟨n, x, k, c', g7, h7, t9, h9, z2, z3, hbl⟩ := hcut
          obtain ⟨p1, p2, p3, p4⟩ := g7.cells
          obtain ⟨p5, p6, p7, p8⟩ := t9.cells
          obtain ⟨q1, q2, q3, q4⟩ := z2.cells
          obtain ⟨q5, q6, q7, q8⟩ := z3.cells
          go_wp2_with fail
          go_region
          all_goals
            go_wp2_with fail
            (go_light; simp [bodyPost, results, Tryd.results51, go_sem, *])
            exact ⟨n, x, k, c', n9, x9, k9, c9, rfl, IsBig.keeps h7 (by repeat' (first | (with_reducible exact Keeps.refl _) | (with_reducible refine Keeps.alloc ?_ _) | (with_reducible refine Keeps.drew ?_) | (with_reducible refine Keeps.drewN ?_ _) | (with_reducible refine Keeps.set ?_ _ _ (T := 41) ?_ (by decide)) | (with_reducible exact TyAt.new _ _ _ _ (by simp)) | (with_reducible refine TyAt.set ?_ _ _) | (with_reducible refine TyAt.alloc ?_ _) | (with_reducible refine TyAt.drew ?_) | (with_reducible refine TyAt.drewN ?_ _) | (apply Keeps.below; assumption) | (exact Two.ty (by assumption)) | (apply TyAt.below; rotate_left; assumption))), IsBig.keeps h9 (by repeat' (first | (with_reducible exact Keeps.refl _) | (with_reducible refine Keeps.alloc ?_ _) | (with_reducible refine Keeps.drew ?_) | (with_reducible refine Keeps.drewN ?_ _) | (with_reducible refine Keeps.set ?_ _ _ (T := 41) ?_ (by decide)) | (with_reducible exact TyAt.new _ _ _ _ (by simp)) | (with_reducible refine TyAt.set ?_ _ _) | (with_reducible refine TyAt.alloc ?_ _) | (with_reducible refine TyAt.drew ?_) | (with_reducible refine TyAt.drewN ?_ _) | (apply Keeps.below; assumption) | (exact Two.ty (by assumption)) | (apply TyAt.below; rotate_left; assumption))), (by repeat' (first | (with_reducible exact Below.refl _ _) | (with_reducible assumption) | (with_reducible refine below_alloc ?_ _ ?_) | (with_reducible refine below_set _ ?_ ?_) | (with_reducible refine Below.drew ?_) | (with_reducible refine below_dN ?_ _) | (apply below_thenA; assumption) | omega | (simp; done) | (simp; omega) | (simp [*]; done)))⟩
end Go.Proofs.YtmkblfejoniccaaDoor
namespace Go.Proofs.YtmkblfejoniccaaDoor
open Go.RowKit
set_option linter.unusedSimpArgs false
set_option linter.unusedVariables false

set_option maxRecDepth 100000 in
set_option maxHeartbeats 1600000 in
theorem rat_size (n : Int) (hn : IFit n) (w : World) : Calls Tryd.prog 54 #[.int .i64 n] w fun e w' => e = .returned (.int .u64 (((n.natAbs : Nat) : Int))) ∧ w' = w := by
  obtain ⟨h1, h2⟩ := hn
  have hm : IntKind.u64.max = 18446744073709551615 := rfl
  by_cases h : n < 0
  · have E : Hid (IntKind.u64.wrap (-IntKind.u64.wrap n) = ((n.natAbs : Nat) : Int)) := Lib.hid (by simp only [IntKind.wrap_u64]; omega)
    go_enter Tryd.func54, Tryd.ntmps54
    go_wp2_with fail
    go_ret
    exact ⟨by rw [← E.out]; rfl, rfl⟩
  · have E : Hid (n = ((n.natAbs : Nat) : Int)) := Lib.hid (by omega)
    go_enter Tryd.func54, Tryd.ntmps54
    go_wp2_with fail
    go_ret
    exact ⟨by rw [← E.out]; rfl, rfl⟩
set_option maxRecDepth 100000 in
set_option maxHeartbeats 1600000 in
theorem rat_common (a b : Nat) (ha : a < 18446744073709551616) (hb : b < 18446744073709551616) (w : World) :
    Calls Tryd.prog 53 #[.int .u64 ((a : Int)), .int .u64 ((b : Int))] w fun e w' => e = .returned (.int .u64 (((Nat.gcd a b : Nat) : Int))) ∧ Below w.heap.size w w' := by
  obtain ⟨G, eG⟩ : ∃ G, Nat.gcd a b = G := ⟨_, rfl⟩
  rw [eG]
  have EG := Lib.hid eG
  clear eG
  go_enter Tryd.func53, Tryd.ntmps53
  go_wp2_with fail
  go_loopg [0, 1] b (fun g s0 s1 wr => ∃ (x y : Nat), x < 18446744073709551616 ∧ y < 18446744073709551616 ∧ g = y ∧ s0 = .int .u64 ((x : Int)) ∧ s1 = .int .u64 ((y : Int)) ∧ Nat.gcd x y = G ∧ Below w.heap.size w wr)
  case atStart => exact ⟨a, b, ha, hb, rfl, rfl, rfl, EG.out, Below.refl _ _⟩
  case round =>
    obtain ⟨x, y, hx, hy, rfl, rfl, rfl, hg, hB⟩ := hrel
    have HG := Lib.hid hg
    clear hg
    by_cases h0 : gk = 0
    · subst h0
      have e := HG.out
      rw [Nat.gcd_zero_right] at e
      subst e
      go_wp2_with fail
      go_ret
      exact ⟨rfl, hB⟩
    · have hp : (0 : Int) < (gk : Int) := by omega
      have hne : (gk : Int) ≠ 0 := by omega
      go_wp2_with fail
      go_region
      all_goals
        go_wp2_with fail
        go_roundg (x % gk)
        case measure => exact Nat.mod_lt _ (by omega)
        case rel => exact ⟨gk, x % gk, hy, by have := Nat.mod_lt x (show gk > 0 by omega); omega, rfl, rfl, by go_num, by rw [← HG.out, Nat.gcd_comm x]; exact (Nat.gcd_comm _ _).trans (Nat.gcd_rec _ _).symm, (by repeat' (first | (with_reducible exact Below.refl _ _) | (with_reducible assumption) | (with_reducible refine below_alloc ?_ _ ?_) | (with_reducible refine below_set _ ?_ ?_) | (with_reducible refine Below.drew ?_) | (with_reducible refine below_dN ?_ _) | (apply below_thenA; assumption) | omega | (simp; done) | (simp; omega) | (simp [*]; done)))⟩
theorem wrap_i64_neg (n : Nat) (h : n ≤ 9223372036854775808) : wrap64 (-wrap64 (n : Int)) = -(n : Int) := by
  simp only [wrap64]; omega
theorem wrap_i64_pos (n : Nat) (h : n ≤ 9223372036854775807) : wrap64 (n : Int) = (n : Int) := by
  simp only [wrap64]; omega
set_option maxRecDepth 100000 in
set_option maxHeartbeats 1600000 in
theorem rat_signed_neg (n : Nat) (hn : n < 18446744073709551616) (w : World) :
    Calls Tryd.prog 55 #[.int .u64 ((n : Int)), .bool true] w fun e w' => (∃ v, e = .returned (.tuple #[.int .i64 v, .bool (decide ((n : Int) ≤ 9223372036854775808))]) ∧ (n ≤ 9223372036854775808 → v = -(n : Int))) ∧ w' = w := by
  have E : Hid (n ≤ 9223372036854775808 → wrap64 (-wrap64 (n : Int)) = -(n : Int)) := Lib.hid (wrap_i64_neg n)
  go_enter Tryd.func55, Tryd.ntmps55
  go_wp2_with fail
  go_ret2
  exact ⟨⟨_, rfl, E.out⟩, rfl⟩
set_option maxRecDepth 100000 in
set_option maxHeartbeats 1600000 in
theorem rat_signed_pos (n : Nat) (hn : n < 18446744073709551616) (w : World) :
    Calls Tryd.prog 55 #[.int .u64 ((n : Int)), .bool false] w fun e w' => (∃ v, e = .returned (.tuple #[.int .i64 v, .bool (decide ((n : Int) ≤ 9223372036854775807))]) ∧ (n ≤ 9223372036854775807 → v = (n : Int))) ∧ w' = w := by
  have E : Hid (n ≤ 9223372036854775807 → wrap64 (n : Int) = (n : Int)) := Lib.hid (wrap_i64_pos n)
  go_enter Tryd.func55, Tryd.ntmps55
  go_wp2_with fail
  go_ret2
  exact ⟨⟨_, rfl, E.out⟩, rfl⟩
end Go.Proofs.YtmkblfejoniccaaDoor
