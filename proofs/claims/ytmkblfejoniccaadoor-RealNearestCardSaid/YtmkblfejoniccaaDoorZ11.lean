/-
  Package math: Ldexp of a positive normal float, where nothing is lost.
-/
/-
  Package real: Nearest.
-/
/-
  Package real: Nearest of a good ratio that isn't 0.
-/
/-
  Package real: Nearest of a good ratio that isn't 0: the walk.
-/
import Derived.Test.YtmkblfejoniccaaDoorZ10
import Derived.Test.YtmkblfejoniccaaDoorZ1
import Derived.WalkLawsBesides
import Derived.Test.YtmkblfejoniccaaDoorZ7
namespace Go.Proofs.YtmkblfejoniccaaDoor
open Go.RowKit
set_option linter.unusedSimpArgs false
set_option linter.unusedVariables false

theorem flo_from2 (b : Nat) (w : World) : (callFunc 16 #[.int .u64 (b : Int)]).run Tryd.prog w = .ok (.value (.float .f64 b)) w := by
  rw [run_callFunc_extern Tryd.func16 (by kernel_rfl) (by kernel_rfl) (by kernel_rfl) (e := Extern.MathFloatBits.float64frombits) (by kernel_rfl)]
  rfl
theorem abs_bits2 (b : Nat) (hb : b < 18446744073709551616) : bits .andNot .u64 (b : Int) 9223372036854775808 = ((b % 9223372036854775808 : Nat) : Int) := by
  have h := u64_andNot_nat b 9223372036854775808 hb (by omega)
  have e : b &&& (18446744073709551615 - 9223372036854775808) = b % 9223372036854775808 := by
    have := Nat.and_two_pow_sub_one_eq_mod b 63
    rw [show (2 : Nat) ^ 63 = 9223372036854775808 by decide] at this
    exact this
  rw [e] at h
  exact h
set_option maxRecDepth 100000 in
set_option maxHeartbeats 1600000 in
theorem math_abs2 (b : Nat) (hb : b < 18446744073709551616) (w : World) : Calls Tryd.prog 117 #[.float .f64 b] w fun e w' => e = .returned (.float .f64 (b % 9223372036854775808)) ∧ w' = w := by
  have FB := flo_bits
  have e1 := abs_bits2 b hb
  obtain ⟨x, ex⟩ : ∃ x, b % 9223372036854775808 = x := ⟨_, rfl⟩
  rw [ex] at e1
  rw [ex]
  have FF : ∀ w, (callFunc 16 #[.int .u64 (x : Int)]).run Tryd.prog w = .ok (.value (.float .f64 x)) w := flo_from2 x
  clear ex
  go_enter Tryd.func117, Tryd.ntmps117
  go_wp2_with fail
  go_ret
  exact ⟨rfl, rfl⟩
set_option maxRecDepth 100000 in
set_option maxHeartbeats 1600000 in
theorem math_isnan (b : Nat) (hb : b < 18446744073709551616) (w : World) : Calls Tryd.prog 72 #[.float .f64 b] w fun e w' => e = .returned (.bool (decide (fKi b = 1))) ∧ w' = w := by
  have m1 : (FloatKind.f64.format.order b b != some .eq) = decide (fKi b = 1) := by
    rw [bne, show FloatKind.f64.format = Ieee.double from rfl, fl_eq_is b b hb hb]
    by_cases h : fKi b = 1 <;> simp [h]
  go_enter Tryd.func72, Tryd.ntmps72
  go_wp2_with fail
  go_ret
  exact ⟨by first | rfl | rw [m1], rfl⟩
/-- A positive float that is a number, against the greatest one and the least normal one. -/
theorem pos_key {b : Nat} (h : b < 9218868437227405312) : fKi b ≠ 1 ∧ fK b = (b : Int) := by
  obtain ⟨g1, g2⟩ := fG_self (b := b) (by omega)
  refine ⟨fun e => by rw [nan_iff (by omega), g1] at e; omega, ?_⟩
  unfold fK
  rw [g1, g2]
  rfl
set_option maxRecDepth 100000 in
set_option maxHeartbeats 1600000 in
theorem math_isinf (b : Nat) (h : b < 9218868437227405312) (w : World) : Calls Tryd.prog 110 #[.float .f64 b, .int .i64 0] w fun e w' => e = .returned (.bool false) ∧ w' = w := by
  have MA := math_abs2 b (by omega)
  rw [Nat.mod_eq_of_lt (show b < 9223372036854775808 by omega)] at MA
  have m1 : (FloatKind.f64.format.order b 9218868437227405311 == some .gt) = false := by
    obtain ⟨n1, k1⟩ := pos_key h
    obtain ⟨n2, k2⟩ := pos_key (b := 9218868437227405311) (by omega)
    rw [show FloatKind.f64.format = Ieee.double from rfl, order_key (by omega) (by omega) n1 n2, k1, k2, Int.compare_eq_ite_lt]
    split
    · rfl
    · rw [if_neg (by omega)]; rfl
  go_enter Tryd.func110, Tryd.ntmps110
  go_wp2_with (go_at_call 117; with_reducible refine (MA _).mono ?_; rintro e w1 ⟨rfl, rfl⟩)
  (go_light; simp [bodyPost, results, Tryd.results110, go_sem, *])
set_option maxRecDepth 100000 in
set_option maxHeartbeats 1600000 in
theorem math_normalize (b : Nat) (h0 : 4503599627370496 ≤ b) (h : b < 9218868437227405312) (w : World) : Calls Tryd.prog 111 #[.float .f64 b] w fun e w' => e = .returned (.tuple #[.float .f64 b, .int .i64 0]) ∧ w' = w := by
  have MA := math_abs2 b (by omega)
  rw [Nat.mod_eq_of_lt (show b < 9223372036854775808 by omega)] at MA
  have m1 : (FloatKind.f64.format.order b 4503599627370496 == some .lt) = false := by
    obtain ⟨n1, k1⟩ := pos_key h
    obtain ⟨n2, k2⟩ := pos_key (b := 4503599627370496) (by omega)
    rw [show FloatKind.f64.format = Ieee.double from rfl, order_key (by omega) (by omega) n1 n2, k1, k2, Int.compare_eq_ite_lt, if_neg (by omega)]
    split <;> rfl
  go_enter Tryd.func111, Tryd.ntmps111
  go_wp2_with (go_at_call 117; with_reducible refine (MA _).mono ?_; rintro e w1 ⟨rfl, rfl⟩)
  (go_light; simp [bodyPost, results, Tryd.results111, go_sem, *])
theorem bits_ma2 (b : Nat) (hb : b < 9223372036854775808) : bits .andNot .u64 (b : Int) 9218868437227405312 = ((b % 4503599627370496 : Nat) : Int) := by
  have h := u64_andNot_nat b 9218868437227405312 (by omega) (by omega)
  have e : b &&& (18446744073709551615 - 9218868437227405312) = b % 4503599627370496 := by
    have e1 : 18446744073709551615 - 9218868437227405312 = 2 ^ 63 ||| (2 ^ 52 - 1) := by decide
    have e2 : b &&& 2 ^ 63 = 0 := by
      refine Nat.eq_of_testBit_eq fun i => ?_
      rw [Nat.testBit_and, Nat.testBit_two_pow, Nat.zero_testBit]
      by_cases hi : 63 = i
      · subst hi
        rw [Nat.testBit_lt_two_pow (show b < 2 ^ 63 from hb)]; rfl
      · simp [hi]
    rw [e1, Nat.and_or_distrib_left, e2, Nat.zero_or, Nat.and_two_pow_sub_one_eq_mod]
  rw [e] at h
  exact h
theorem or_ex (m E : Nat) (hm : m < 4503599627370496) (hE : E < 2048) : bits .or .u64 (m : Int) ((E * 4503599627370496 : Nat) : Int) = ((E * 4503599627370496 + m : Nat) : Int) := by
  have h := bits_or_u64_nat m (E * 4503599627370496) (by omega) (by omega)
  have e : m ||| E * 4503599627370496 = E * 4503599627370496 + m := by
    have := Nat.two_pow_add_eq_or_of_lt (i := 52) (b := m) hm E
    rw [show (2 : Nat) ^ 52 = 4503599627370496 by decide, Nat.mul_comm] at this
    rw [Nat.or_comm, ← this]
  rw [e] at h
  exact h
theorem and_i64b (x : Int) (n m : Nat) (hm : m = 2 ^ n - 1) (hn : n ≤ 62) : bits .and .i64 x (m : Int) = x % ((2 ^ n : Nat) : Int) := by
  have hm2 : m < 2 ^ 62 := by
    have : 2 ^ n ≤ 2 ^ 62 := Nat.pow_le_pow_right (by omega) hn
    have := Nat.pow_pos (n := n) (show 0 < 2 by omega)
    omega
  have h2 : (BitVec.ofInt 64 (m : Int)).toNat = m := by
    rw [BitVec.ofInt_natCast, BitVec.toNat_ofNat]; exact Nat.mod_eq_of_lt (by omega)
  have h1 : (((BitVec.ofInt 64 x).toNat : Nat) : Int) = x % 18446744073709551616 := by
    rw [BitVec.toNat_ofInt]
    have := Int.emod_nonneg x (show (18446744073709551616 : Int) ≠ 0 by decide)
    rw [Int.toNat_of_nonneg (by simpa using this)]
    rfl
  show IntKind.i64.wrap ((BitVec.ofInt 64 x &&& BitVec.ofInt 64 (m : Int)).toNat : Int) = _
  rw [BitVec.toNat_and, h2, hm, Nat.and_two_pow_sub_one_eq_mod]
  have hd : ((2 ^ n : Nat) : Int) ∣ 18446744073709551616 := by
    refine ⟨((2 ^ (64 - n) : Nat) : Int), ?_⟩
    rw [← Int.natCast_mul, ← Nat.pow_add, show n + (64 - n) = 64 by omega]
    rfl
  have e : (((BitVec.ofInt 64 x).toNat % 2 ^ n : Nat) : Int) = x % ((2 ^ n : Nat) : Int) := by
    rw [Int.natCast_emod, h1, Int.emod_emod_of_dvd _ hd]
  rw [e]
  have hp : (0 : Int) < ((2 ^ n : Nat) : Int) := by
    have := Nat.pow_pos (n := n) (show 0 < 2 by omega)
    omega
  have q1 := Int.emod_nonneg x (show ((2 ^ n : Nat) : Int) ≠ 0 by omega)
  have q2 := Int.emod_lt_of_pos x hp
  have q3 : ((2 ^ n : Nat) : Int) ≤ 4611686018427387904 := by
    have : 2 ^ n ≤ 2 ^ 62 := Nat.pow_le_pow_right (by omega) hn
    have e2 : (2 : Nat) ^ 62 = 4611686018427387904 := by decide
    omega
  rw [IntKind.wrap_i64]
  omega
set_option maxRecDepth 100000 in
set_option maxHeartbeats 3200000 in
theorem math_ldexp (b : Nat) (e : Int) (h0 : 4503599627370496 ≤ b) (h : b < 9218868437227405312) (E : Nat) (hE : ((b / 4503599627370496 : Nat) : Int) + e = (E : Int)) (E1 : 1 ≤ E) (E2 : E ≤ 1900) (r : Nat) (hr : E * 4503599627370496 + b % 4503599627370496 = r) (w : World) :
    Calls Tryd.prog 95 #[.float .f64 b, .int .i64 e] w fun e w' => e = .returned (.float .f64 r) ∧ w' = w := by
  have FB := flo_bits
  have II := math_isinf b h
  have IN := math_isnan b (by omega)
  rw [decide_eq_false (pos_key h).1] at IN
  have NO := math_normalize b h0 h
  have e1 : bits .and .i64 (((b / 4503599627370496 : Nat) : Int)) 2047 = ((b / 4503599627370496 : Nat) : Int) := by
    have q := and_i64b ((b / 4503599627370496 : Nat) : Int) 11 2047 (by decide) (by decide)
    rw [show ((2047 : Nat) : Int) = 2047 from rfl] at q
    rw [q, show ((2 ^ 11 : Nat) : Int) = 2048 by decide]
    omega
  have e2 := bits_ma2 b (by omega)
  have e3 := or_ex (b % 4503599627370496) E (by omega) (by omega)
  rw [hr] at e3
  have FF : ∀ w, (callFunc 16 #[.int .u64 (r : Int)]).run Tryd.prog w = .ok (.value (.float .f64 r)) w := flo_from2 r
  have hrl : r < 9218868437227405312 := by omega
  have m0 : (FloatKind.f64.format.order b 0 == some .eq) = false := by
    obtain ⟨n1, k1⟩ := pos_key h
    obtain ⟨n2, k2⟩ := pos_key (b := 0) (by omega)
    rw [show FloatKind.f64.format = Ieee.double from rfl, order_key (by omega) (by omega) n1 n2, k1, k2, Int.compare_eq_ite_lt, if_neg (by omega), if_pos (by omega)]
    rfl
  have hm : Go.floatBits .mul .f64 4607182418800017408 r = some r := by
    obtain ⟨g1, g2⟩ := fG_self (b := r) (by omega)
    refine fl_one (fin_small (by rw [g1]; exact hrl) (by omega)) (by rw [g1]; omega) ?_
    have hx : fEx r = E := by unfold fEx; omega
    unfold fPo
    rw [hx, if_neg (by omega)]
    omega
  have FM : ∀ t w, (binOp .mul t (.float .f64 4607182418800017408) (.float .f64 r)).run Tryd.prog w = .ok (.float .f64 r) w := fun t w => run_float_arith w .mul t .f64 _ _ _ hm
  obtain ⟨x, ex⟩ : ∃ x, b / 4503599627370496 = x := ⟨_, rfl⟩
  obtain ⟨m, em⟩ : ∃ x, b % 4503599627370496 = x := ⟨_, rfl⟩
  have e0 : (b : Int) / 4503599627370496 = (x : Int) := by omega
  rw [ex] at e1 hE
  rw [em] at e2 e3
  have hx : x < 2048 := by omega
  have hsh : IntKind.u64.wrap ((E : Int) * 4503599627370496) = ((E * 4503599627370496 : Nat) : Int) := by rw [IntKind.wrap_u64]; omega
  obtain ⟨X, eX⟩ : ∃ X : Int, (E : Int) - 1023 = X := ⟨_, rfl⟩
  have he : e + ((x : Int) - 1023) = X := by omega
  have he2 : X + 1023 = (E : Int) := by omega
  have c1 : decide (X < -1075) = false := by simp; omega
  have c2 : decide (1023 < X) = false := by simp; omega
  have c3 : decide (X < -1022) = false := by simp; omega
  have bX1 : -1022 ≤ X := by omega
  have bX2 : X ≤ 900 := by omega
  obtain ⟨S, eS⟩ : ∃ x, E * 4503599627370496 = x := ⟨_, rfl⟩
  rw [eS] at hsh e3
  have hb1 : (0 : Int) ≤ (b : Int) := by omega
  have hb2 : (b : Int) < 18446744073709551616 := by omega
  have be1 : -2048 ≤ e := by omega
  have be2 : e ≤ 2048 := by omega
  have HB := Lib.hid h0
  clear ex em hm hr eS h0 h eX hE
  go_enter Tryd.func95, Tryd.ntmps95
  go_wp2_with (first
    | (go_at_call 110; with_reducible refine (II _).mono ?_; rintro e w1 ⟨rfl, rfl⟩)
    | (go_at_call 72; with_reducible refine (IN _).mono ?_; rintro e w1 ⟨rfl, rfl⟩)
    | (go_at_call 111; with_reducible refine (NO _).mono ?_; rintro e w1 ⟨rfl, rfl⟩))
  go_ret
  exact ⟨rfl, rfl⟩
end Go.Proofs.YtmkblfejoniccaaDoor
namespace Go.Proofs.YtmkblfejoniccaaDoor
open Go.RowKit
set_option linter.unusedSimpArgs false
set_option linter.unusedVariables false

set_option maxRecDepth 100000 in
set_option maxHeartbeats 1600000 in
theorem math_nan2 (w : World) : Calls Tryd.prog 42 #[] w fun e w' => e = .returned (.float .f64 9221120237041090561) ∧ w' = w := by
  have FF : ∀ w, (callFunc 16 #[.int .u64 9221120237041090561]).run Tryd.prog w = .ok (.value (.float .f64 9221120237041090561)) w := flo_from2 9221120237041090561
  go_enter Tryd.func42, Tryd.ntmps42
  go_wp2_with fail
  go_ret
  exact ⟨rfl, rfl⟩
set_option maxRecDepth 100000 in
set_option maxHeartbeats 1600000 in
theorem math_Ldexp (b : Nat) (e : Int) (h0 : 4503599627370496 ≤ b) (h : b < 9218868437227405312) (E : Nat) (hE : ((b / 4503599627370496 : Nat) : Int) + e = (E : Int)) (E1 : 1 ≤ E) (E2 : E ≤ 1900) (r : Nat) (hr : E * 4503599627370496 + b % 4503599627370496 = r) (w : World) :
    Calls Tryd.prog 58 #[.float .f64 b, .int .i64 e] w fun e w' => e = .returned (.float .f64 r) ∧ w' = w := by
  have LD := math_ldexp b e h0 h E hE E1 E2 r hr
  clear h0 h hE E1 E2 hr
  go_enter Tryd.func58, Tryd.ntmps58
  go_wp2_with (go_at_call 95; with_reducible refine (LD _).mono ?_; rintro e w1 ⟨rfl, rfl⟩)
  go_ret
  exact ⟨rfl, rfl⟩
/-- The nearest float's bits. -/
def nrG (a d : Nat) : Nat := (1085 - nrK a d) * 4503599627370496 + nrM (a * 2 ^ nrK a d) d
def nrB (N D : Int) : Nat := if goodB N D = false then 9221120237041090561 else if N = 0 then 0 else (if N < 0 then 9223372036854775808 else 0) + nrG N.natAbs D.natAbs
theorem neg_float {r : Nat} (h : r < 9223372036854775808) : Op.negFloat .f64 r = 9223372036854775808 + r := by
  show r ^^^ 2 ^ (11 + 52) = _
  have e : r ^^^ 2 ^ 63 = 2 ^ 63 ||| r := by
    refine Nat.eq_of_testBit_eq fun i => ?_
    rw [Nat.testBit_xor, Nat.testBit_or, Nat.testBit_two_pow]
    by_cases hi : 63 = i
    · subst hi
      rw [Nat.testBit_lt_two_pow (show r < 2 ^ 63 from h)]; rfl
    · simp [hi]
  have h2 := Nat.two_pow_add_eq_or_of_lt (i := 63) (b := r) h 1
  rw [Nat.mul_one] at h2
  rw [show 11 + 52 = 63 from rfl, e, ← h2]
set_option maxRecDepth 100000 in
set_option maxHeartbeats 3200000 in
theorem real_Nearest_bad (N D : Int) (hN : IFit N) (hD : IFit D) (hg : goodB N D = false) (w : World) : Calls Tryd.prog 20 #[.agg #[.int .i64 N, .int .i64 D]] w fun e w' => e = .returned (.float .f64 (nrB N D)) ∧ Below w.heap.size w w' := by
  have GD := rat_good N D hN hD
  rw [hg] at GD
  rw [show nrB N D = 9221120237041090561 by unfold nrB; rw [if_pos hg]]
  go_enter Tryd.func20, Tryd.ntmps20
  go_wp2_with (first
    | (go_at_call 18; (with_reducible refine (GD _).mono ?_); rintro e w' ⟨rfl, hb'⟩; obtain ⟨hc', hf'⟩ := bcell hb'; have hz' := bz1 (n := w.heap.size) hb' (by (try simp) <;> omega); have hs' := hb'.size; (try simp at hs'); (try (have hs2' := Nat.lt_of_succ_le hs')))
    | (go_at_call 42; with_reducible refine (math_nan2 _).mono ?_; rintro e w1 ⟨rfl, rfl⟩))
  go_ret
  exact ⟨rfl, (by repeat' (first | (with_reducible exact Below.refl _ _) | (with_reducible assumption) | (with_reducible refine below_alloc ?_ _ ?_) | (with_reducible refine below_set _ ?_ ?_) | (with_reducible refine Below.drew ?_) | (with_reducible refine below_dN ?_ _) | (apply below_thenA; assumption) | omega | (simp; done) | (simp; omega) | (simp [*]; done)))⟩
set_option maxRecDepth 100000 in
set_option maxHeartbeats 3200000 in
theorem real_Nearest_zero (D : Int) (hD : IFit D) (hg : goodB 0 D = true) (w : World) : Calls Tryd.prog 20 #[.agg #[.int .i64 0, .int .i64 D]] w fun e w' => e = .returned (.float .f64 (nrB 0 D)) ∧ Below w.heap.size w w' := by
  have GD := rat_good 0 D (by unfold IFit; omega) hD
  rw [hg] at GD
  rw [show nrB 0 D = 0 by unfold nrB; rw [if_neg (by rw [hg]; decide), if_pos rfl]]
  go_enter Tryd.func20, Tryd.ntmps20
  go_wp2_with (go_at_call 18; (with_reducible refine (GD _).mono ?_); rintro e w' ⟨rfl, hb'⟩; obtain ⟨hc', hf'⟩ := bcell hb'; have hz' := bz1 (n := w.heap.size) hb' (by (try simp) <;> omega); have hs' := hb'.size; (try simp at hs'); (try (have hs2' := Nat.lt_of_succ_le hs')))
  go_ret
  exact ⟨rfl, (by repeat' (first | (with_reducible exact Below.refl _ _) | (with_reducible assumption) | (with_reducible refine below_alloc ?_ _ ?_) | (with_reducible refine below_set _ ?_ ?_) | (with_reducible refine Below.drew ?_) | (with_reducible refine below_dN ?_ _) | (apply below_thenA; assumption) | omega | (simp; done) | (simp; omega) | (simp [*]; done)))⟩
/-- The three words of a quotient, and what the walk needs of them. -/
structure Wds (a d q0 r0 q1 r1 q2 r2 : Nat) : Prop where
  e0 : a / d = q0
  e1 : a % d = r0
  e2 : r0 * 18446744073709551616 / d = q1
  e3 : r0 * 18446744073709551616 % d = r1
  e4 : r1 * 18446744073709551616 / d = q2
  e5 : r1 * 18446744073709551616 % d = r2
  b0 : q0 ≤ 9223372036854775808
  b1 : q1 < 18446744073709551616
  b2 : q2 < 18446744073709551616
  c0 : r0 < d
  c1 : r1 < d
  c2 : r2 < d
theorem wds_of {a d : Nat} (ha : a ≤ 9223372036854775808) (hd : 0 < d) : ∃ q0 r0 q1 r1 q2 r2, Wds a d q0 r0 q1 r1 q2 r2 := by
  have w1 : ∀ r : Nat, r < d → r * 18446744073709551616 / d < 18446744073709551616 := fun r h => (Nat.div_lt_iff_lt_mul hd).2 (by
    rw [Nat.mul_comm 18446744073709551616 d]
    exact Nat.mul_lt_mul_of_pos_right h (by decide))
  have m0 := Nat.mod_lt a hd
  have m1 := Nat.mod_lt (a % d * 18446744073709551616) hd
  have m2 := Nat.mod_lt (a % d * 18446744073709551616 % d * 18446744073709551616) hd
  exact ⟨_, _, _, _, _, _, rfl, rfl, rfl, rfl, rfl, rfl, Nat.le_trans (Nat.div_le_self _ _) ha, w1 _ m0, w1 _ m1, m0, m1, m2⟩
/-- The join of two words, in the walk's own form. -/
theorem join_walk {q p n : Nat} (hn : n ≤ 63) (hq : q * 2 ^ n < 18446744073709551616) (hp : p < 18446744073709551616) :
    bits .or .u64 (IntKind.u64.wrap ((q : Int) * 2 ^ n)) ((p : Int) / 2 ^ (64 - n)) = (((q * 18446744073709551616 + p) * 2 ^ n / 18446744073709551616 : Nat) : Int) := by
  have e : (q : Int) * 2 ^ n = ((q * 2 ^ n : Nat) : Int) := by simp
  have h := (shift_join (q : Int) (p : Int) n hn (by omega) (by rw [e]; omega) (by omega) (by omega)).1
  rw [IntKind.wrap_u64, Int.emod_eq_of_lt (by rw [e]; omega) (by rw [e]; omega), h]
  simp
theorem below_walk {p n : Nat} : IntKind.u64.wrap ((p : Int) * 2 ^ n) = ((p * 2 ^ n % 18446744073709551616 : Nat) : Int) := by
  rw [IntKind.wrap_u64, show (p : Int) * 2 ^ n = ((p * 2 ^ n : Nat) : Int) by simp]
  omega
end Go.Proofs.YtmkblfejoniccaaDoor
namespace Go.Proofs.YtmkblfejoniccaaDoor
open Go.RowKit
set_option linter.unusedSimpArgs false
set_option linter.unusedVariables false

theorem nr_case0 {a d q0 r0 q1 r1 q2 r2 : Nat} (H : Wds a d q0 r0 q1 r1 q2 r2) (ha : 0 < a) (ha2 : a ≤ 9223372036854775808) (hd : 0 < d) (hd2 : d ≤ 9223372036854775807) (h : q0 ≠ 0) :
    ∃ (n top below : Nat) (more : Bool), lzN (q0 : Int) = n ∧ n ≤ 63 ∧ nrK a d = n ∧ top < 18446744073709551616 ∧ below < 18446744073709551616 ∧ bits .or .u64 (IntKind.u64.wrap ((q0 : Int) * 2 ^ n)) ((q1 : Int) / 2 ^ (64 - n)) = (top : Int) ∧ IntKind.u64.wrap ((q1 : Int) * 2 ^ n) = (below : Int) ∧
      more = (decide (below ≠ 0) || decide (q2 ≠ 0) || decide (r2 ≠ 0)) ∧ nrT top more = nrM (a * 2 ^ nrK a d) d := by
  obtain ⟨k1, k2, k3⟩ := nrK_spec ha ha2 hd hd2
  obtain ⟨e0, e1, e2, e3, e4, e5, b0, b1, b2, c0, c1, c2⟩ := H
  obtain ⟨l0, l1, l2⟩ := lz_nat (y := q0) (by omega) (by omega)
  have hk : nrK a d = lzN (q0 : Int) := by unfold nrK; rw [e0, if_neg h]
  rw [hk] at k2 k3
  obtain ⟨n, hn⟩ : ∃ n, lzN (q0 : Int) = n := ⟨_, rfl⟩
  rw [hn] at hk l0 l1 l2 k2 k3
  obtain ⟨t1, t2⟩ := two_words (a := a) (d := d) (n := n) hd l0
  have hj := join_walk (q := q0) (p := q1) l0 l2 b1
  rw [e0, e1, e2] at t1
  rw [e1, e2, e3] at t2
  rw [t1] at hj
  have hb := top_bnd hd k2 k3
  refine ⟨n, _, _, _, hn, l0, hk, hb.2, Nat.mod_lt (q1 * 2 ^ n) (by decide), hj, below_walk, rfl, ?_⟩
  rw [hk, ← nrT_is]
  congr 1
  have hr : (q2 = 0 ∧ r2 = 0) ↔ r1 = 0 := by
    have hdm := Nat.div_add_mod (r1 * 18446744073709551616) d
    rw [e4, e5] at hdm
    constructor
    · rintro ⟨h1, h2⟩; rw [h1, h2] at hdm; omega
    · intro h1
      rw [h1, Nat.zero_mul] at hdm
      have : d * q2 = 0 := by omega
      rcases Nat.mul_eq_zero.1 this with h | h <;> omega
  by_cases z : a * 2 ^ n % d = 0
  · obtain ⟨z1, z2⟩ := t2.2 z
    obtain ⟨z3, z4⟩ := hr.2 z2
    rw [z1, z3, z4, z]; rfl
  · rw [decide_eq_true z]
    by_cases y1 : q1 * 2 ^ n % 18446744073709551616 = 0
    · have : r1 ≠ 0 := fun e => z (t2.1 ⟨y1, e⟩)
      have : ¬ (q2 = 0 ∧ r2 = 0) := fun e => this (hr.1 e)
      by_cases y2 : q2 = 0
      · have : r2 ≠ 0 := fun e => this ⟨y2, e⟩
        simp [this]
      · simp [y2]
    · simp only [ne_eq, y1, not_false_eq_true, decide_true, Bool.true_or]
theorem nr_case1 {a d q0 r0 q1 r1 q2 r2 : Nat} (H : Wds a d q0 r0 q1 r1 q2 r2) (ha : 0 < a) (ha2 : a ≤ 9223372036854775808) (hd : 0 < d) (hd2 : d ≤ 9223372036854775807) (h : q0 = 0) :
    ∃ (n top below : Nat) (more : Bool), lzN (q1 : Int) = n ∧ n ≤ 63 ∧ nrK a d = 64 + n ∧ top < 18446744073709551616 ∧ below < 18446744073709551616 ∧ bits .or .u64 (IntKind.u64.wrap ((q1 : Int) * 2 ^ n)) ((q2 : Int) / 2 ^ (64 - n)) = (top : Int) ∧ IntKind.u64.wrap ((q2 : Int) * 2 ^ n) = (below : Int) ∧
      more = (decide (below ≠ 0) || decide (r2 ≠ 0)) ∧ nrT top more = nrM (a * 2 ^ nrK a d) d := by
  obtain ⟨k1, k2, k3⟩ := nrK_spec ha ha2 hd hd2
  obtain ⟨e0, e1, e2, e3, e4, e5, b0, b1, b2, c0, c1, c2⟩ := H
  have hr0 : r0 = a := by
    have := Nat.div_add_mod a d
    rw [e0, e1, h] at this
    omega
  subst hr0
  have hq1 : 0 < q1 := by
    rw [← e2]
    exact Nat.div_pos (by omega) hd
  obtain ⟨l0, l1, l2⟩ := lz_nat (y := q1) hq1 b1
  have hk : nrK r0 d = 64 + lzN (q1 : Int) := by unfold nrK; rw [e0, if_pos h, e2]
  rw [hk] at k2 k3
  obtain ⟨n, hn⟩ : ∃ n, lzN (q1 : Int) = n := ⟨_, rfl⟩
  rw [hn] at hk l0 l1 l2 k2 k3
  obtain ⟨t1, t2⟩ := two_words (a := r0 * 18446744073709551616) (d := d) (n := n) hd l0
  have hj := join_walk (q := q1) (p := q2) l0 l2 b2
  rw [e2, e3, e4] at t1
  rw [e3, e4, e5] at t2
  rw [t1] at hj
  have ep : r0 * 18446744073709551616 * 2 ^ n = r0 * 2 ^ (64 + n) := by rw [Nat.pow_add, ← Nat.mul_assoc]
  rw [ep] at t2 hj
  have hb := top_bnd hd k2 k3
  refine ⟨n, _, _, _, hn, l0, hk, hb.2, Nat.mod_lt (q2 * 2 ^ n) (by decide), hj, below_walk, rfl, ?_⟩
  rw [hk, ← nrT_is]
  congr 1
  by_cases z : r0 * 2 ^ (64 + n) % d = 0
  · obtain ⟨z1, z2⟩ := t2.2 z
    rw [z1, z2, z]; rfl
  · rw [decide_eq_true z]
    by_cases y1 : q2 * 2 ^ n % 18446744073709551616 = 0
    · have : r2 ≠ 0 := fun e => z (t2.1 ⟨y1, e⟩)
      simp [this]
    · simp only [ne_eq, y1, not_false_eq_true, decide_true, Bool.true_or]
set_option maxRecDepth 100000 in
theorem ldexp_parts {m k B R E q r : Nat} (x : Int) (hq : B / 4503599627370496 = q) (hr : B % 4503599627370496 = r) (hB : 4836865999795912704 + m = B) (hk : k ≤ 127) (h : (m = 9007199254740992 ∧ E + k = 1087) ∨ (4503599627370496 ≤ m ∧ m < 9007199254740992 ∧ E + k = 1086)) (hx : x = 11 - (k : Int)) (hR : (1085 - k) * 4503599627370496 + m = R) :
    4503599627370496 ≤ B ∧ B < 9218868437227405312 ∧ (q : Int) + x = (E : Int) ∧ 1 ≤ E ∧ E ≤ 1900 ∧ E * 4503599627370496 + r = R := by
  have hdm := Nat.div_add_mod B 4503599627370496
  have hml := Nat.mod_lt B (show 0 < 4503599627370496 by decide)
  rw [hq, hr] at hdm
  rw [hr] at hml
  clear hq hr
  obtain ⟨C, hC⟩ : ∃ C : Nat, C = 4503599627370496 := ⟨_, rfl⟩
  rcases h with ⟨h0, h⟩ | ⟨h1, h2, h⟩
  · have hq : q = 1076 := by omega
    have hr : r = 0 := by omega
    have hE : E = (1085 - k) + 2 := by omega
    obtain ⟨j, hj⟩ : ∃ j, 1085 - k = j := ⟨_, rfl⟩
    rw [hj] at hE hR
    refine ⟨by omega, by omega, by omega, by omega, by omega, ?_⟩
    rw [hE, hr, ← hR, h0, Nat.add_mul]
  · have hq : q = 1075 := by omega
    have hr : r + 4503599627370496 = m := by omega
    have hE : E = (1085 - k) + 1 := by omega
    obtain ⟨j, hj⟩ : ∃ j, 1085 - k = j := ⟨_, rfl⟩
    rw [hj] at hE hR
    refine ⟨by omega, by omega, by omega, by omega, by omega, ?_⟩
    rw [hE, ← hR, ← hr, Nat.add_mul, Nat.one_mul, Nat.add_assoc, Nat.add_comm 4503599627370496 r]

/-- Ldexp of the mantissa. -/
theorem ldexp_m (m k : Nat) (hk : k ≤ 127) (h1 : 4503599627370496 ≤ m) (h2 : m ≤ 9007199254740992) (B : Nat) (hB : 1074 * 4503599627370496 + m = B) (x : Int) (hx : x = 11 - (k : Int)) (R : Nat) (hR : (1085 - k) * 4503599627370496 + m = R) (w : World) :
    Calls Tryd.prog 58 #[.float .f64 B, .int .i64 x] w fun e w' => e = .returned (.float .f64 R) ∧ w' = w := by
  have hB' : 4836865999795912704 + m = B := by rw [← hB]
  by_cases c : m = 9007199254740992
  · obtain ⟨a1, a2, a3, a4, a5, a6⟩ := ldexp_parts (E := 1087 - k) x rfl rfl hB' hk (.inl ⟨c, by omega⟩) hx hR
    exact math_Ldexp B x a1 a2 (1087 - k) a3 a4 a5 R a6 w
  · obtain ⟨a1, a2, a3, a4, a5, a6⟩ := ldexp_parts (E := 1086 - k) x rfl rfl hB' hk (.inr ⟨h1, by omega, by omega⟩) hx hR
    exact math_Ldexp B x a1 a2 (1086 - k) a3 a4 a5 R a6 w
end Go.Proofs.YtmkblfejoniccaaDoor
namespace Go.Proofs.YtmkblfejoniccaaDoor
open Go.RowKit
set_option linter.unusedSimpArgs false
set_option linter.unusedVariables false

theorem div64_n (r d q s : Nat) (h0 : r < d) (h1 : d ≤ 9223372036854775807) (hq : r * 18446744073709551616 / d = q) (hs : r * 18446744073709551616 % d = s) (w : World) :
    Calls Tryd.prog 56 #[.int .u64 (r : Int), .int .u64 0, .int .u64 (d : Int)] w fun e w' => e = .returned (.tuple #[.int .u64 (q : Int), .int .u64 (s : Int)]) ∧ Below w.heap.size w w' := by
  have h := div64_any (r : Int) 0 (d : Int) (by omega) (by omega) (by omega) (by omega) (by omega) w
  have e1 : ((r : Int) * 18446744073709551616 + 0) / (d : Int) = (q : Int) := by rw [← hq, Int.add_zero]; simp
  have e2 : ((r : Int) * 18446744073709551616 + 0) % (d : Int) = (s : Int) := by rw [← hs, Int.add_zero]; simp
  rw [e1, e2] at h
  exact h
/-- The words' box, and what came in. -/
def NearW (N D : Int) (c : Nat) (q0 q1 q2 : Nat) (w W : World) : Prop :=
  Blk W w.heap.size #[.int .i64 N, .int .i64 D] 25 ∧ Blk W c #[.int .u64 (q0 : Int), .int .u64 (q1 : Int), .int .u64 (q2 : Int)] 120 ∧ Below w.heap.size w W ∧ w.heap.size < c
theorem NearW.arr {N D : Int} {c q0 q1 q2 : Nat} {w W : World} (h : NearW N D c q0 q1 q2 w W) : Blk W c #[.int .u64 (q0 : Int), .int .u64 (q1 : Int), .int .u64 (q2 : Int)] 120 := h.2.1
theorem NearW.rat {N D : Int} {c q0 q1 q2 : Nat} {w W : World} (h : NearW N D c q0 q1 q2 w W) : Blk W w.heap.size #[.int .i64 N, .int .i64 D] 25 := h.1
theorem NearW.below {N D : Int} {c q0 q1 q2 : Nat} {w W W' : World} (h : NearW N D c q0 q1 q2 w W) (hb : Below W.heap.size W W') : NearW N D c q0 q1 q2 w W' :=
  ⟨h.1.below hb, h.2.1.below hb, h.2.2.1.trans (hb.mono h.2.2.1.size), h.2.2.2⟩
theorem NearW.new {N D : Int} {w W : World} (t : Blk W w.heap.size #[.int .i64 N, .int .i64 D] 25) (hb : Below w.heap.size w W) (n : Nat) : NearW N D W.heap.size 0 0 0 w ((W.drewN n).alloc (.cells #[.int .u64 0, .int .u64 0, .int .u64 0] 120)) :=
  ⟨Blk.alloc (Blk.drewN t n) _, Blk.new _ _ _ _ rfl, below_alloc (below_dN hb n) _ hb.size, t.lt⟩
theorem NearW.set {N D : Int} {c q0 q1 q2 : Nat} {w W : World} (h : NearW N D c q0 q1 q2 w W) (i x p0 p1 p2 : Nat) (he : (#[.int .u64 (q0 : Int), .int .u64 (q1 : Int), .int .u64 (q2 : Int)] : Array Value).setIfInBounds i (.int .u64 (x : Int)) = #[.int .u64 (p0 : Int), .int .u64 (p1 : Int), .int .u64 (p2 : Int)]) : NearW N D c p0 p1 p2 w (W.setCell ⟨c, i, none⟩ (.int .u64 (x : Int))) := by
  obtain ⟨h1, h2, h3, h4⟩ := h
  refine ⟨h1.other (by omega) _ _, ?_, below_set _ h3 (by show w.heap.size ≤ c; omega), h4⟩
  have := h2.set i (.int .u64 (x : Int))
  rw [he] at this
  exact this
theorem quo_u64n (a g A : Nat) (ha : a < 18446744073709551616) (h : a / g = A) : IntKind.u64.wrap ((a : Int) / (g : Int)) = (A : Int) := by
  have h1 : a / g ≤ a := Nat.div_le_self _ _
  rw [h] at h1
  rw [← Int.natCast_ediv, h, IntKind.wrap_u64, Int.emod_eq_of_lt (by omega) (by omega)]
theorem rem_u64n (a g A : Nat) (hg : A < 18446744073709551616) (h : a % g = A) : IntKind.u64.wrap ((a : Int) % (g : Int)) = (A : Int) := by
  rw [← Int.natCast_emod, h, IntKind.wrap_u64, Int.emod_eq_of_lt (by omega) (by omega)]
set_option maxRecDepth 100000 in
set_option maxHeartbeats 6400000 in
theorem real_Nearest_pos0 (N : Int) (hN : IFit N) (a d : Nat) (hD : IFit (d : Int)) (hg : goodB N (d : Int) = true) (ea : N.natAbs = a) (hpos : 0 < N) (q0 r0 q1 r1 q2 r2 : Nat) (H : Wds a d q0 r0 q1 r1 q2 r2) (hq0 : q0 ≠ 0) (w : World) : Calls Tryd.prog 20 #[.agg #[.int .i64 N, .int .i64 ((d : Int))]] w fun e w' => e = .returned (.float .f64 (nrG a d)) ∧ Below w.heap.size w w' := by
  have GD := rat_good N (d : Int) hN hD
  rw [hg] at GD
  have hd1 : 1 ≤ (d : Int) := by
    unfold goodB at hg
    rw [Bool.and_eq_true, decide_eq_true_eq] at hg
    exact hg.1
  obtain ⟨N1, N2⟩ := hN
  obtain ⟨D1, D2⟩ := hD
  have hc0 := nr_case0 H (by omega) (by omega) (by omega) (by omega) hq0
  obtain ⟨e0, e1, e2, e3, e4, e5, b0, b1, b2, c0, c1, c2⟩ := H
  have DV1 := div64_n r0 d q1 r1 c0 (by omega) e2 e3
  have DV2 := div64_n r1 d q2 r2 c1 (by omega) e4 e5
  have F1 : IntKind.u64.wrap N = (a : Int) := by rw [IntKind.wrap_u64]; omega
  have F2 : IntKind.u64.wrap (d : Int) = (d : Int) := by rw [IntKind.wrap_u64]; omega
  have F3 := quo_u64n a d q0 (by omega) e0
  have F4 : (a : Int) % (d : Int) = (r0 : Int) := by rw [← e1]; simp
  have n0 : (N == 0) = false := by simp; omega
  have n1 : decide (N < 0) = false := by simp; omega
  have n2 : ((q0 : Int) == 0) = false := by simp; omega
  have n3 : ((d : Int) == 0) = false := by simp; omega
  obtain ⟨n, top, below, more, x1, x2, x3, x4, x5, x6, x7, x8, x9⟩ := hc0
  have LZ := lz_any (q0 : Int) n (by omega) (by omega) x1
  have h64 : (64 : Int) - (n : Int) = ((64 - n : Nat) : Int) := by omega
  have RN := real_nearest top more x4
  rw [x9] at RN
  have hsp := nrK_spec (a := a) (d := d) (by omega) (by omega) (by omega) (by omega)
  have hbd := nrM_bnd (by omega) hsp.2.1 hsp.2.2
  have hR : (1085 - nrK a d) * 4503599627370496 + nrM (a * 2 ^ nrK a d) d = nrG a d := rfl
  have hRl : nrG a d < 9223372036854775808 := by rw [← hR]; omega
  obtain ⟨R, eR⟩ : ∃ R, nrG a d = R := ⟨_, rfl⟩
  obtain ⟨M, eM⟩ : ∃ M, nrM (a * 2 ^ nrK a d) d = M := ⟨_, rfl⟩
  rw [eM] at RN hbd hR
  rw [eR] at hR hRl ⊢
  have FI := fl_m53 M hbd.1 hbd.2
  obtain ⟨B, eB⟩ : ∃ B, 1074 * 4503599627370496 + M = B := ⟨_, rfl⟩
  rw [eB] at FI
  have LD := fun x hx => ldexp_m M (nrK a d) hsp.1 hbd.1 hbd.2 B eB x hx R hR
  rw [x3] at LD
  obtain ⟨g1, hg1⟩ : ∃ c : Bool, ((below : Int) != 0) = c := ⟨_, rfl⟩
  obtain ⟨g2, hg2⟩ : ∃ c : Bool, ((q2 : Int) != 0) = c := ⟨_, rfl⟩
  obtain ⟨g3, hg3⟩ : ∃ c : Bool, ((r2 : Int) != 0) = c := ⟨_, rfl⟩
  have hm : more = (g1 || g2 || g3) := by
    have z1 : g1 = decide (below ≠ 0) := by rw [← hg1]; by_cases h : below = 0 <;> simp [h]
    have z2 : g2 = decide (q2 ≠ 0) := by rw [← hg2]; by_cases h : q2 = 0 <;> simp [h]
    have z3 : g3 = decide (r2 ≠ 0) := by rw [← hg3]; by_cases h : r2 = 0 <;> simp [h]
    rw [x8, z1, z2, z3]
  clear x1 x3 x8 x9 hbd hR hsp eM eB eR
  have HE := Lib.hid (And.intro e0 (And.intro e1 (And.intro e2 (And.intro e3 (And.intro e4 e5)))))
  clear e0 e1 e2 e3 e4 e5 hg
  have t0 := Blk.new w #[.int .i64 N, .int .i64 ((d : Int))] 25 w.heap.size rfl
  have hB0 : Below w.heap.size w (w.alloc (.cells #[.int .i64 N, .int .i64 ((d : Int))] 25)) := (Below.refl _ _).alloc (Nat.le_refl _) _
  go_enter Tryd.func20, Tryd.ntmps20
  go_upto_region 5 with (go_at_call 18; with_reducible refine (GD _).mono ?_; rintro e w1 ⟨rfl, hb1⟩; have t1 := t0.below hb1; have hB1 := hB0.trans (hb1.mono hB0.size); have c10 := t1.cell 0 _ rfl; have c11 := t1.cell 1 _ rfl)
  go_quiet (fail)
  go_upto_region 9 with (fail)
  refine wp_worldF (NearW N (d : Int) w1.heap.size 0 0 0 w) (NearW.new t1 hB1 _) ?_
  obtain ⟨c, hc⟩ : ∃ c, w1.heap.size = c := ⟨_, rfl⟩
  rw [hc]
  clear t1 hB1 hb1 c10 c11 t0 hB0 hc GD
  intro W1 T1
  have k0 := T1.arr.cell 0 _ rfl
  have k1 := T1.arr.free 0
  have T1' := T1.set 0 q0 q0 0 0 rfl
  have k2 := T1'.rat.cell 0 _ rfl
  go_upto_region 11 with (fail)
  rw [F4]
  refine wp_worldF (NearW N (d : Int) c q0 0 0 w) T1' ?_
  clear T1 T1' k0 k1 k2 F3 F4
  intro W2 T2
  go_upto_region 12 with (go_at_call 56; with_reducible refine (DV1 _).mono ?_; rintro e w2 ⟨rfl, hb2⟩; have T3 := T2.below hb2; have k3 := T3.arr.cell 1 _ rfl; have k4 := T3.arr.free 1)
  refine wp_worldF (NearW N (d : Int) c q0 q1 0 w) (T3.set 1 q1 q0 q1 0 rfl) ?_
  clear T2 T3 k3 k4 hb2 DV1
  intro W3 T3
  go_upto_region 13 with (go_at_call 56; with_reducible refine (DV2 _).mono ?_; rintro e w3 ⟨rfl, hb3⟩; have T4 := T3.below hb3; have k3 := T4.arr.cell 2 _ rfl; have k4 := T4.arr.free 2)
  refine wp_worldF (NearW N (d : Int) c q0 q1 q2 w) (T4.set 2 q2 q0 q1 q2 rfl) ?_
  clear T3 T4 k3 k4 hb3 DV2
  intro W4 T4
  have k0 := T4.arr.cell 0 _ rfl
  have k1 := T4.arr.cell 1 _ rfl
  have k2 := T4.arr.cell 2 _ rfl
  have k3 := T4.rat.cell 0 _ rfl
  go_upto_region 17 with (go_at_call 57; with_reducible refine (LZ _).mono ?_; rintro e w4 ⟨rfl, rfl⟩)
  go_quiet (fail)
  clear x6 x7 h64 LZ
  have HB4 := Lib.hid T4.2.2.1
  rcases g1 with _ | _
  · rcases g2 with _ | _
    · replace hm : more = g3 := by simpa using hm
      subst hm
      go_wp2_with (first
        | (go_at_call 59; with_reducible refine (RN _).mono ?_; rintro e w5 ⟨rfl, rfl⟩)
        | (go_at_call 58; with_reducible refine (LD _ (by omega) _).mono ?_; rintro e w5 ⟨rfl, rfl⟩))
      go_ret
      exact ⟨rfl, below_dN HB4.out _⟩
    · replace hm : more = true := by simpa using hm
      subst hm
      go_wp2_with (first
        | (go_at_call 59; with_reducible refine (RN _).mono ?_; rintro e w5 ⟨rfl, rfl⟩)
        | (go_at_call 58; with_reducible refine (LD _ (by omega) _).mono ?_; rintro e w5 ⟨rfl, rfl⟩))
      go_ret
      exact ⟨rfl, below_dN HB4.out _⟩
  · replace hm : more = true := by simpa using hm
    subst hm
    go_wp2_with (first
      | (go_at_call 59; with_reducible refine (RN _).mono ?_; rintro e w5 ⟨rfl, rfl⟩)
      | (go_at_call 58; with_reducible refine (LD _ (by omega) _).mono ?_; rintro e w5 ⟨rfl, rfl⟩))
    go_ret
    exact ⟨rfl, below_dN HB4.out _⟩
set_option maxRecDepth 100000 in
set_option maxHeartbeats 6400000 in
theorem real_Nearest_pos1 (N : Int) (hN : IFit N) (a d : Nat) (hD : IFit (d : Int)) (hg : goodB N (d : Int) = true) (ea : N.natAbs = a) (hpos : 0 < N) (q0 r0 q1 r1 q2 r2 : Nat) (H : Wds a d q0 r0 q1 r1 q2 r2) (hq0 : q0 = 0) (w : World) : Calls Tryd.prog 20 #[.agg #[.int .i64 N, .int .i64 ((d : Int))]] w fun e w' => e = .returned (.float .f64 (nrG a d)) ∧ Below w.heap.size w w' := by
  subst hq0
  have GD := rat_good N (d : Int) hN hD
  rw [hg] at GD
  have hd1 : 1 ≤ (d : Int) := by
    unfold goodB at hg
    rw [Bool.and_eq_true, decide_eq_true_eq] at hg
    exact hg.1
  obtain ⟨N1, N2⟩ := hN
  obtain ⟨D1, D2⟩ := hD
  have hc0 := nr_case1 H (by omega) (by omega) (by omega) (by omega) rfl
  obtain ⟨e0, e1, e2, e3, e4, e5, b0, b1, b2, c0, c1, c2⟩ := H
  have DV1 := div64_n r0 d q1 r1 c0 (by omega) e2 e3
  have DV2 := div64_n r1 d q2 r2 c1 (by omega) e4 e5
  have F1 : IntKind.u64.wrap N = (a : Int) := by rw [IntKind.wrap_u64]; omega
  have F2 : IntKind.u64.wrap (d : Int) = (d : Int) := by rw [IntKind.wrap_u64]; omega
  have F3 : IntKind.u64.wrap ((a : Int) / (d : Int)) = 0 := quo_u64n a d 0 (by omega) e0
  have F4 : (a : Int) % (d : Int) = (r0 : Int) := by rw [← e1]; simp
  have n0 : (N == 0) = false := by simp; omega
  have n1 : decide (N < 0) = false := by simp; omega
  have n3 : ((d : Int) == 0) = false := by simp; omega
  obtain ⟨n, top, below, more, x1, x2, x3, x4, x5, x6, x7, x8, x9⟩ := hc0
  have LZ := lz_any (q1 : Int) n (by omega) (by omega) x1
  have h64 : (64 : Int) - (n : Int) = ((64 - n : Nat) : Int) := by omega
  have RN := real_nearest top more x4
  rw [x9] at RN
  have hsp := nrK_spec (a := a) (d := d) (by omega) (by omega) (by omega) (by omega)
  have hbd := nrM_bnd (by omega) hsp.2.1 hsp.2.2
  have hR : (1085 - nrK a d) * 4503599627370496 + nrM (a * 2 ^ nrK a d) d = nrG a d := rfl
  have hRl : nrG a d < 9223372036854775808 := by rw [← hR]; omega
  obtain ⟨R, eR⟩ : ∃ R, nrG a d = R := ⟨_, rfl⟩
  obtain ⟨M, eM⟩ : ∃ M, nrM (a * 2 ^ nrK a d) d = M := ⟨_, rfl⟩
  rw [eM] at RN hbd hR
  rw [eR] at hR hRl ⊢
  have FI := fl_m53 M hbd.1 hbd.2
  obtain ⟨B, eB⟩ : ∃ B, 1074 * 4503599627370496 + M = B := ⟨_, rfl⟩
  rw [eB] at FI
  have LD := fun x hx => ldexp_m M (nrK a d) hsp.1 hbd.1 hbd.2 B eB x hx R hR
  rw [x3] at LD
  obtain ⟨g1, hg1⟩ : ∃ c : Bool, ((below : Int) != 0) = c := ⟨_, rfl⟩
  obtain ⟨g3, hg3⟩ : ∃ c : Bool, ((r2 : Int) != 0) = c := ⟨_, rfl⟩
  have hm : more = (g1 || g3) := by
    have z1 : g1 = decide (below ≠ 0) := by rw [← hg1]; by_cases h : below = 0 <;> simp [h]
    have z3 : g3 = decide (r2 ≠ 0) := by rw [← hg3]; by_cases h : r2 = 0 <;> simp [h]
    rw [x8, z1, z3]
  clear x1 x3 x8 x9 hbd hR hsp eM eB eR
  have HE := Lib.hid (And.intro e0 (And.intro e1 (And.intro e2 (And.intro e3 (And.intro e4 e5)))))
  clear e0 e1 e2 e3 e4 e5 hg
  have t0 := Blk.new w #[.int .i64 N, .int .i64 ((d : Int))] 25 w.heap.size rfl
  have hB0 : Below w.heap.size w (w.alloc (.cells #[.int .i64 N, .int .i64 ((d : Int))] 25)) := (Below.refl _ _).alloc (Nat.le_refl _) _
  go_enter Tryd.func20, Tryd.ntmps20
  go_upto_region 5 with (go_at_call 18; with_reducible refine (GD _).mono ?_; rintro e w1 ⟨rfl, hb1⟩; have t1 := t0.below hb1; have hB1 := hB0.trans (hb1.mono hB0.size); have c10 := t1.cell 0 _ rfl; have c11 := t1.cell 1 _ rfl)
  go_quiet (fail)
  go_upto_region 9 with (fail)
  refine wp_worldF (NearW N (d : Int) w1.heap.size 0 0 0 w) (NearW.new t1 hB1 _) ?_
  obtain ⟨c, hc⟩ : ∃ c, w1.heap.size = c := ⟨_, rfl⟩
  rw [hc]
  clear t1 hB1 hb1 c10 c11 t0 hB0 hc GD
  intro W1 T1
  have k0 := T1.arr.cell 0 _ rfl
  have k1 := T1.arr.free 0
  have T1' := T1.set 0 0 0 0 0 rfl
  have k2 := T1'.rat.cell 0 _ rfl
  go_upto_region 11 with (fail)
  rw [F4]
  refine wp_worldF (NearW N (d : Int) c 0 0 0 w) T1' ?_
  clear T1 T1' k0 k1 k2 F3 F4
  intro W2 T2
  go_upto_region 12 with (go_at_call 56; with_reducible refine (DV1 _).mono ?_; rintro e w2 ⟨rfl, hb2⟩; have T3 := T2.below hb2; have k3 := T3.arr.cell 1 _ rfl; have k4 := T3.arr.free 1)
  refine wp_worldF (NearW N (d : Int) c 0 q1 0 w) (T3.set 1 q1 0 q1 0 rfl) ?_
  clear T2 T3 k3 k4 hb2 DV1
  intro W3 T3
  go_upto_region 13 with (go_at_call 56; with_reducible refine (DV2 _).mono ?_; rintro e w3 ⟨rfl, hb3⟩; have T4 := T3.below hb3; have k3 := T4.arr.cell 2 _ rfl; have k4 := T4.arr.free 2)
  refine wp_worldF (NearW N (d : Int) c 0 q1 q2 w) (T4.set 2 q2 0 q1 q2 rfl) ?_
  clear T3 T4 k3 k4 hb3 DV2
  intro W4 T4
  have k0 : W4.cell? ⟨c, 0, none⟩ = some (.int .u64 0) := T4.arr.cell 0 _ rfl
  have k1 := T4.arr.cell 1 _ rfl
  have k2 := T4.arr.cell 2 _ rfl
  have k3 := T4.rat.cell 0 _ rfl
  go_upto_region 17 with (go_at_call 57; with_reducible refine (LZ _).mono ?_; rintro e w4 ⟨rfl, rfl⟩)
  go_quiet (fail)
  clear x6 x7 h64 LZ
  have HB4 := Lib.hid T4.2.2.1
  rcases g1 with _ | _
  · replace hm : more = g3 := by simpa using hm
    subst hm
    go_wp2_with (first
      | (go_at_call 59; with_reducible refine (RN _).mono ?_; rintro e w5 ⟨rfl, rfl⟩)
      | (go_at_call 58; with_reducible refine (LD _ (by omega) _).mono ?_; rintro e w5 ⟨rfl, rfl⟩))
    go_ret
    exact ⟨rfl, below_dN HB4.out _⟩
  · replace hm : more = true := by simpa using hm
    subst hm
    go_wp2_with (first
      | (go_at_call 59; with_reducible refine (RN _).mono ?_; rintro e w5 ⟨rfl, rfl⟩)
      | (go_at_call 58; with_reducible refine (LD _ (by omega) _).mono ?_; rintro e w5 ⟨rfl, rfl⟩))
    go_ret
    exact ⟨rfl, below_dN HB4.out _⟩
set_option maxRecDepth 100000 in
set_option maxHeartbeats 6400000 in
theorem real_Nearest_neg0 (N : Int) (hN : IFit N) (a d : Nat) (hD : IFit (d : Int)) (hg : goodB N (d : Int) = true) (ea : N.natAbs = a) (hpos : N < 0) (q0 r0 q1 r1 q2 r2 : Nat) (H : Wds a d q0 r0 q1 r1 q2 r2) (hq0 : q0 ≠ 0) (w : World) : Calls Tryd.prog 20 #[.agg #[.int .i64 N, .int .i64 ((d : Int))]] w fun e w' => e = .returned (.float .f64 (9223372036854775808 + nrG a d)) ∧ Below w.heap.size w w' := by
  have GD := rat_good N (d : Int) hN hD
  rw [hg] at GD
  have hd1 : 1 ≤ (d : Int) := by
    unfold goodB at hg
    rw [Bool.and_eq_true, decide_eq_true_eq] at hg
    exact hg.1
  obtain ⟨N1, N2⟩ := hN
  obtain ⟨D1, D2⟩ := hD
  have hc0 := nr_case0 H (by omega) (by omega) (by omega) (by omega) hq0
  obtain ⟨e0, e1, e2, e3, e4, e5, b0, b1, b2, c0, c1, c2⟩ := H
  have DV1 := div64_n r0 d q1 r1 c0 (by omega) e2 e3
  have DV2 := div64_n r1 d q2 r2 c1 (by omega) e4 e5
  obtain ⟨X, eX⟩ : ∃ X : Int, 18446744073709551616 - (a : Int) = X := ⟨_, rfl⟩
  have F1 : IntKind.u64.wrap N = X := by rw [IntKind.wrap_u64]; omega
  have F1n : IntKind.u64.wrap (-X) = (a : Int) := by rw [IntKind.wrap_u64]; omega
  have X1 : 0 ≤ X := by omega
  have X2 : X ≤ 18446744073709551615 := by omega
  clear eX
  have F2 : IntKind.u64.wrap (d : Int) = (d : Int) := by rw [IntKind.wrap_u64]; omega
  have F3 := quo_u64n a d q0 (by omega) e0
  have F4 : (a : Int) % (d : Int) = (r0 : Int) := by rw [← e1]; simp
  have n0 : (N == 0) = false := by simp; omega
  have n1 : decide (N < 0) = true := by simp; omega
  have n2 : ((q0 : Int) == 0) = false := by simp; omega
  have n3 : ((d : Int) == 0) = false := by simp; omega
  obtain ⟨n, top, below, more, x1, x2, x3, x4, x5, x6, x7, x8, x9⟩ := hc0
  have LZ := lz_any (q0 : Int) n (by omega) (by omega) x1
  have h64 : (64 : Int) - (n : Int) = ((64 - n : Nat) : Int) := by omega
  have RN := real_nearest top more x4
  rw [x9] at RN
  have hsp := nrK_spec (a := a) (d := d) (by omega) (by omega) (by omega) (by omega)
  have hbd := nrM_bnd (by omega) hsp.2.1 hsp.2.2
  have hR : (1085 - nrK a d) * 4503599627370496 + nrM (a * 2 ^ nrK a d) d = nrG a d := rfl
  have hRl : nrG a d < 9223372036854775808 := by rw [← hR]; omega
  obtain ⟨R, eR⟩ : ∃ R, nrG a d = R := ⟨_, rfl⟩
  obtain ⟨M, eM⟩ : ∃ M, nrM (a * 2 ^ nrK a d) d = M := ⟨_, rfl⟩
  rw [eM] at RN hbd hR
  rw [eR] at hR hRl ⊢
  have NF := neg_float hRl
  obtain ⟨V, eV⟩ : ∃ V, 9223372036854775808 + R = V := ⟨_, rfl⟩
  rw [eV] at NF ⊢
  clear eV
  have UN : Op.unary .neg (.float .f64 R) = pure (.float .f64 V) := by
    show pure (Value.float .f64 (Op.negFloat .f64 R)) = _
    rw [NF]
  clear NF
  have FI := fl_m53 M hbd.1 hbd.2
  obtain ⟨B, eB⟩ : ∃ B, 1074 * 4503599627370496 + M = B := ⟨_, rfl⟩
  rw [eB] at FI
  have LD := fun x hx => ldexp_m M (nrK a d) hsp.1 hbd.1 hbd.2 B eB x hx R hR
  rw [x3] at LD
  obtain ⟨g1, hg1⟩ : ∃ c : Bool, ((below : Int) != 0) = c := ⟨_, rfl⟩
  obtain ⟨g2, hg2⟩ : ∃ c : Bool, ((q2 : Int) != 0) = c := ⟨_, rfl⟩
  obtain ⟨g3, hg3⟩ : ∃ c : Bool, ((r2 : Int) != 0) = c := ⟨_, rfl⟩
  have hm : more = (g1 || g2 || g3) := by
    have z1 : g1 = decide (below ≠ 0) := by rw [← hg1]; by_cases h : below = 0 <;> simp [h]
    have z2 : g2 = decide (q2 ≠ 0) := by rw [← hg2]; by_cases h : q2 = 0 <;> simp [h]
    have z3 : g3 = decide (r2 ≠ 0) := by rw [← hg3]; by_cases h : r2 = 0 <;> simp [h]
    rw [x8, z1, z2, z3]
  clear x1 x3 x8 x9 hbd hR hsp eM eB eR
  have HE := Lib.hid (And.intro e0 (And.intro e1 (And.intro e2 (And.intro e3 (And.intro e4 e5)))))
  clear e0 e1 e2 e3 e4 e5 hg
  have t0 := Blk.new w #[.int .i64 N, .int .i64 ((d : Int))] 25 w.heap.size rfl
  have hB0 : Below w.heap.size w (w.alloc (.cells #[.int .i64 N, .int .i64 ((d : Int))] 25)) := (Below.refl _ _).alloc (Nat.le_refl _) _
  go_enter Tryd.func20, Tryd.ntmps20
  go_upto_region 5 with (go_at_call 18; with_reducible refine (GD _).mono ?_; rintro e w1 ⟨rfl, hb1⟩; have t1 := t0.below hb1; have hB1 := hB0.trans (hb1.mono hB0.size); have c10 := t1.cell 0 _ rfl; have c11 := t1.cell 1 _ rfl)
  go_quiet (fail)
  go_upto_region 9 with (fail)
  refine wp_worldF (NearW N (d : Int) w1.heap.size 0 0 0 w) (NearW.new t1 hB1 _) ?_
  obtain ⟨c, hc⟩ : ∃ c, w1.heap.size = c := ⟨_, rfl⟩
  rw [hc]
  clear t1 hB1 hb1 c10 c11 t0 hB0 hc GD
  intro W1 T1
  have k0 := T1.arr.cell 0 _ rfl
  have k1 := T1.arr.free 0
  have T1' := T1.set 0 q0 q0 0 0 rfl
  have k2 := T1'.rat.cell 0 _ rfl
  go_upto_region 11 with (fail)
  rw [F4]
  refine wp_worldF (NearW N (d : Int) c q0 0 0 w) T1' ?_
  clear T1 T1' k0 k1 k2 F3 F4
  intro W2 T2
  go_upto_region 12 with (go_at_call 56; with_reducible refine (DV1 _).mono ?_; rintro e w2 ⟨rfl, hb2⟩; have T3 := T2.below hb2; have k3 := T3.arr.cell 1 _ rfl; have k4 := T3.arr.free 1)
  refine wp_worldF (NearW N (d : Int) c q0 q1 0 w) (T3.set 1 q1 q0 q1 0 rfl) ?_
  clear T2 T3 k3 k4 hb2 DV1
  intro W3 T3
  go_upto_region 13 with (go_at_call 56; with_reducible refine (DV2 _).mono ?_; rintro e w3 ⟨rfl, hb3⟩; have T4 := T3.below hb3; have k3 := T4.arr.cell 2 _ rfl; have k4 := T4.arr.free 2)
  refine wp_worldF (NearW N (d : Int) c q0 q1 q2 w) (T4.set 2 q2 q0 q1 q2 rfl) ?_
  clear T3 T4 k3 k4 hb3 DV2
  intro W4 T4
  have k0 := T4.arr.cell 0 _ rfl
  have k1 := T4.arr.cell 1 _ rfl
  have k2 := T4.arr.cell 2 _ rfl
  have k3 := T4.rat.cell 0 _ rfl
  go_upto_region 17 with (go_at_call 57; with_reducible refine (LZ _).mono ?_; rintro e w4 ⟨rfl, rfl⟩)
  go_quiet (fail)
  clear x6 x7 h64 LZ
  have HB4 := Lib.hid T4.2.2.1
  rcases g1 with _ | _
  · rcases g2 with _ | _
    · replace hm : more = g3 := by simpa using hm
      subst hm
      go_wp2_with (first
        | (go_at_call 59; with_reducible refine (RN _).mono ?_; rintro e w5 ⟨rfl, rfl⟩)
        | (go_at_call 58; with_reducible refine (LD _ (by omega) _).mono ?_; rintro e w5 ⟨rfl, rfl⟩))
      go_ret
      exact ⟨rfl, below_dN HB4.out _⟩
    · replace hm : more = true := by simpa using hm
      subst hm
      go_wp2_with (first
        | (go_at_call 59; with_reducible refine (RN _).mono ?_; rintro e w5 ⟨rfl, rfl⟩)
        | (go_at_call 58; with_reducible refine (LD _ (by omega) _).mono ?_; rintro e w5 ⟨rfl, rfl⟩))
      go_ret
      exact ⟨rfl, below_dN HB4.out _⟩
  · replace hm : more = true := by simpa using hm
    subst hm
    go_wp2_with (first
      | (go_at_call 59; with_reducible refine (RN _).mono ?_; rintro e w5 ⟨rfl, rfl⟩)
      | (go_at_call 58; with_reducible refine (LD _ (by omega) _).mono ?_; rintro e w5 ⟨rfl, rfl⟩))
    go_ret
    exact ⟨rfl, below_dN HB4.out _⟩
set_option maxRecDepth 100000 in
set_option maxHeartbeats 6400000 in
theorem real_Nearest_neg1 (N : Int) (hN : IFit N) (a d : Nat) (hD : IFit (d : Int)) (hg : goodB N (d : Int) = true) (ea : N.natAbs = a) (hpos : N < 0) (q0 r0 q1 r1 q2 r2 : Nat) (H : Wds a d q0 r0 q1 r1 q2 r2) (hq0 : q0 = 0) (w : World) : Calls Tryd.prog 20 #[.agg #[.int .i64 N, .int .i64 ((d : Int))]] w fun e w' => e = .returned (.float .f64 (9223372036854775808 + nrG a d)) ∧ Below w.heap.size w w' := by
  subst hq0
  have GD := rat_good N (d : Int) hN hD
  rw [hg] at GD
  have hd1 : 1 ≤ (d : Int) := by
    unfold goodB at hg
    rw [Bool.and_eq_true, decide_eq_true_eq] at hg
    exact hg.1
  obtain ⟨N1, N2⟩ := hN
  obtain ⟨D1, D2⟩ := hD
  have hc0 := nr_case1 H (by omega) (by omega) (by omega) (by omega) rfl
  obtain ⟨e0, e1, e2, e3, e4, e5, b0, b1, b2, c0, c1, c2⟩ := H
  have DV1 := div64_n r0 d q1 r1 c0 (by omega) e2 e3
  have DV2 := div64_n r1 d q2 r2 c1 (by omega) e4 e5
  obtain ⟨X, eX⟩ : ∃ X : Int, 18446744073709551616 - (a : Int) = X := ⟨_, rfl⟩
  have F1 : IntKind.u64.wrap N = X := by rw [IntKind.wrap_u64]; omega
  have F1n : IntKind.u64.wrap (-X) = (a : Int) := by rw [IntKind.wrap_u64]; omega
  have X1 : 0 ≤ X := by omega
  have X2 : X ≤ 18446744073709551615 := by omega
  clear eX
  have F2 : IntKind.u64.wrap (d : Int) = (d : Int) := by rw [IntKind.wrap_u64]; omega
  have F3 : IntKind.u64.wrap ((a : Int) / (d : Int)) = 0 := quo_u64n a d 0 (by omega) e0
  have F4 : (a : Int) % (d : Int) = (r0 : Int) := by rw [← e1]; simp
  have n0 : (N == 0) = false := by simp; omega
  have n1 : decide (N < 0) = true := by simp; omega
  have n3 : ((d : Int) == 0) = false := by simp; omega
  obtain ⟨n, top, below, more, x1, x2, x3, x4, x5, x6, x7, x8, x9⟩ := hc0
  have LZ := lz_any (q1 : Int) n (by omega) (by omega) x1
  have h64 : (64 : Int) - (n : Int) = ((64 - n : Nat) : Int) := by omega
  have RN := real_nearest top more x4
  rw [x9] at RN
  have hsp := nrK_spec (a := a) (d := d) (by omega) (by omega) (by omega) (by omega)
  have hbd := nrM_bnd (by omega) hsp.2.1 hsp.2.2
  have hR : (1085 - nrK a d) * 4503599627370496 + nrM (a * 2 ^ nrK a d) d = nrG a d := rfl
  have hRl : nrG a d < 9223372036854775808 := by rw [← hR]; omega
  obtain ⟨R, eR⟩ : ∃ R, nrG a d = R := ⟨_, rfl⟩
  obtain ⟨M, eM⟩ : ∃ M, nrM (a * 2 ^ nrK a d) d = M := ⟨_, rfl⟩
  rw [eM] at RN hbd hR
  rw [eR] at hR hRl ⊢
  have NF := neg_float hRl
  obtain ⟨V, eV⟩ : ∃ V, 9223372036854775808 + R = V := ⟨_, rfl⟩
  rw [eV] at NF ⊢
  clear eV
  have UN : Op.unary .neg (.float .f64 R) = pure (.float .f64 V) := by
    show pure (Value.float .f64 (Op.negFloat .f64 R)) = _
    rw [NF]
  clear NF
  have FI := fl_m53 M hbd.1 hbd.2
  obtain ⟨B, eB⟩ : ∃ B, 1074 * 4503599627370496 + M = B := ⟨_, rfl⟩
  rw [eB] at FI
  have LD := fun x hx => ldexp_m M (nrK a d) hsp.1 hbd.1 hbd.2 B eB x hx R hR
  rw [x3] at LD
  obtain ⟨g1, hg1⟩ : ∃ c : Bool, ((below : Int) != 0) = c := ⟨_, rfl⟩
  obtain ⟨g3, hg3⟩ : ∃ c : Bool, ((r2 : Int) != 0) = c := ⟨_, rfl⟩
  have hm : more = (g1 || g3) := by
    have z1 : g1 = decide (below ≠ 0) := by rw [← hg1]; by_cases h : below = 0 <;> simp [h]
    have z3 : g3 = decide (r2 ≠ 0) := by rw [← hg3]; by_cases h : r2 = 0 <;> simp [h]
    rw [x8, z1, z3]
  clear x1 x3 x8 x9 hbd hR hsp eM eB eR
  have HE := Lib.hid (And.intro e0 (And.intro e1 (And.intro e2 (And.intro e3 (And.intro e4 e5)))))
  clear e0 e1 e2 e3 e4 e5 hg
  have t0 := Blk.new w #[.int .i64 N, .int .i64 ((d : Int))] 25 w.heap.size rfl
  have hB0 : Below w.heap.size w (w.alloc (.cells #[.int .i64 N, .int .i64 ((d : Int))] 25)) := (Below.refl _ _).alloc (Nat.le_refl _) _
  go_enter Tryd.func20, Tryd.ntmps20
  go_upto_region 5 with (go_at_call 18; with_reducible refine (GD _).mono ?_; rintro e w1 ⟨rfl, hb1⟩; have t1 := t0.below hb1; have hB1 := hB0.trans (hb1.mono hB0.size); have c10 := t1.cell 0 _ rfl; have c11 := t1.cell 1 _ rfl)
  go_quiet (fail)
  go_upto_region 9 with (fail)
  refine wp_worldF (NearW N (d : Int) w1.heap.size 0 0 0 w) (NearW.new t1 hB1 _) ?_
  obtain ⟨c, hc⟩ : ∃ c, w1.heap.size = c := ⟨_, rfl⟩
  rw [hc]
  clear t1 hB1 hb1 c10 c11 t0 hB0 hc GD
  intro W1 T1
  have k0 := T1.arr.cell 0 _ rfl
  have k1 := T1.arr.free 0
  have T1' := T1.set 0 0 0 0 0 rfl
  have k2 := T1'.rat.cell 0 _ rfl
  go_upto_region 11 with (fail)
  rw [F4]
  refine wp_worldF (NearW N (d : Int) c 0 0 0 w) T1' ?_
  clear T1 T1' k0 k1 k2 F3 F4
  intro W2 T2
  go_upto_region 12 with (go_at_call 56; with_reducible refine (DV1 _).mono ?_; rintro e w2 ⟨rfl, hb2⟩; have T3 := T2.below hb2; have k3 := T3.arr.cell 1 _ rfl; have k4 := T3.arr.free 1)
  refine wp_worldF (NearW N (d : Int) c 0 q1 0 w) (T3.set 1 q1 0 q1 0 rfl) ?_
  clear T2 T3 k3 k4 hb2 DV1
  intro W3 T3
  go_upto_region 13 with (go_at_call 56; with_reducible refine (DV2 _).mono ?_; rintro e w3 ⟨rfl, hb3⟩; have T4 := T3.below hb3; have k3 := T4.arr.cell 2 _ rfl; have k4 := T4.arr.free 2)
  refine wp_worldF (NearW N (d : Int) c 0 q1 q2 w) (T4.set 2 q2 0 q1 q2 rfl) ?_
  clear T3 T4 k3 k4 hb3 DV2
  intro W4 T4
  have k0 : W4.cell? ⟨c, 0, none⟩ = some (.int .u64 0) := T4.arr.cell 0 _ rfl
  have k1 := T4.arr.cell 1 _ rfl
  have k2 := T4.arr.cell 2 _ rfl
  have k3 := T4.rat.cell 0 _ rfl
  go_upto_region 17 with (go_at_call 57; with_reducible refine (LZ _).mono ?_; rintro e w4 ⟨rfl, rfl⟩)
  go_quiet (fail)
  clear x6 x7 h64 LZ
  have HB4 := Lib.hid T4.2.2.1
  rcases g1 with _ | _
  · replace hm : more = g3 := by simpa using hm
    subst hm
    go_wp2_with (first
      | (go_at_call 59; with_reducible refine (RN _).mono ?_; rintro e w5 ⟨rfl, rfl⟩)
      | (go_at_call 58; with_reducible refine (LD _ (by omega) _).mono ?_; rintro e w5 ⟨rfl, rfl⟩))
    go_ret
    exact ⟨rfl, below_dN HB4.out _⟩
  · replace hm : more = true := by simpa using hm
    subst hm
    go_wp2_with (first
      | (go_at_call 59; with_reducible refine (RN _).mono ?_; rintro e w5 ⟨rfl, rfl⟩)
      | (go_at_call 58; with_reducible refine (LD _ (by omega) _).mono ?_; rintro e w5 ⟨rfl, rfl⟩))
    go_ret
    exact ⟨rfl, below_dN HB4.out _⟩
theorem real_Nearest (N D : Int) (hN : IFit N) (hD : IFit D) (w : World) : Calls Tryd.prog 20 #[.agg #[.int .i64 N, .int .i64 D]] w fun e w' => e = .returned (.float .f64 (nrB N D)) ∧ Below w.heap.size w w' := by
  by_cases hg : goodB N D = false
  · exact real_Nearest_bad N D hN hD hg w
  · have hg1 : goodB N D = true := by simpa using hg
    by_cases h0 : N = 0
    · subst h0; exact real_Nearest_zero D hD hg1 w
    · have hd1 : 1 ≤ D := by
        have := hg1
        unfold goodB at this
        rw [Bool.and_eq_true, decide_eq_true_eq] at this
        exact this.1
      obtain ⟨d, rfl⟩ : ∃ d : Nat, D = (d : Int) := ⟨D.toNat, by omega⟩
      have e : nrB N (d : Int) = (if N < 0 then 9223372036854775808 else 0) + nrG N.natAbs d := by
        unfold nrB
        rw [if_neg hg, if_neg h0, Int.natAbs_natCast]
      rw [e]
      have hN' := hN
      obtain ⟨N1, N2⟩ := hN'
      obtain ⟨q0, r0, q1, r1, q2, r2, H⟩ := wds_of (a := N.natAbs) (d := d) (by omega) (by omega)
      by_cases hn : N < 0
      · rw [if_pos hn]
        by_cases hq : q0 = 0
        · exact real_Nearest_neg1 N hN _ d hD hg1 rfl hn q0 r0 q1 r1 q2 r2 H hq w
        · exact real_Nearest_neg0 N hN _ d hD hg1 rfl hn q0 r0 q1 r1 q2 r2 H hq w
      · rw [if_neg hn, Nat.zero_add]
        by_cases hq : q0 = 0
        · exact real_Nearest_pos1 N hN _ d hD hg1 rfl (by omega) q0 r0 q1 r1 q2 r2 H hq w
        · exact real_Nearest_pos0 N hN _ d hD hg1 rfl (by omega) q0 r0 q1 r1 q2 r2 H hq w
end Go.Proofs.YtmkblfejoniccaaDoor
