/-
  math/bits.Div64 where the upper word isn't 0: by digits of half a word.
-/
import Derived.Test.YthffphcgkmjhbaaWideC
import Derived.Test.YthffphcgkmjhbaaKnuth
import Derived.Test.YthffphcgkmjhbaaShelf
import Derived.Deep.DeepCutAuto
import Derived.Deep.CutBlock
import Derived.Deep.CutRange
namespace Go.Proofs.Ythffphcgkmjhbaa
open Go.RowKit
set_option linter.unusedSimpArgs false
set_option linter.unusedVariables false
def lzN (y : Int) : Nat := 64 - Lib.bitLen y.toNat
theorem lz_any (y : Int) (s : Nat) (h0 : 0 ≤ y) (h1 : y ≤ 18446744073709551615) (hs : lzN y = s) (w : World) :
    Calls Try.prog 129 #[.int .u64 y] w fun e w' => e = .returned (.int .i64 ((s : Int))) ∧ w = w' := by
  refine (Try.bits_LeadingZeros64 y w h0 h1).mono ?_
  rintro e w' ⟨rfl, rfl⟩
  have h := Lib.bitLen_le y.toNat 64 (by omega) (by omega)
  refine ⟨ret_int ?_, rfl⟩
  subst hs
  unfold lzN
  omega

set_option maxRecDepth 100000 in
set_option maxHeartbeats 1000000 in
theorem div64_walk (hi lo y : Int) (s : Nat) (hs : lzN y = s) (h0 : 0 < hi) (h1 : hi < y) (h2 : y ≤ 18446744073709551615) (l0 : 0 ≤ lo) (l1 : lo ≤ 18446744073709551615) (s63 : s ≤ 63)
    (Y y1 y0 U L d1 d0 Q1 R1 Q0 R0 : Int)
    (E1 : IntKind.u64.wrap (y * 2 ^ s) = Y) (E2 : Y / 4294967296 = y1) (E3 : bits .and .u64 Y 4294967295 = y0)
    (E4 : bits .or .u64 (IntKind.u64.wrap (hi * 2 ^ s)) (lo / 2 ^ (64 - s)) = U) (E5 : IntKind.u64.wrap (lo * 2 ^ s) = L) (E6 : L / 4294967296 = d1) (E7 : bits .and .u64 L 4294967295 = d0)
    (y1a : 2147483648 ≤ y1) (y1b : y1 < 4294967296) (y0a : 0 ≤ y0) (y0b : y0 < 4294967296) (hY : Hid (y1 * 4294967296 + y0 = Y)) (U0 : 0 ≤ U) (hU : U < Y) (Y0 : 0 < Y) (Yb : Y ≤ 18446744073709551615) (L0 : 0 ≤ L) (Lb : L ≤ 18446744073709551615) (d1a : 0 ≤ d1) (d1b : d1 < 4294967296) (d0a : 0 ≤ d0) (d0b : d0 < 4294967296)
    (E9 : U / y1 * y1 ≤ U) (E9' : 0 ≤ U / y1 * y1) (q0a : 0 ≤ U / y1) (q0b : U / y1 ≤ 4294967297)
    (HQ1 : Hid (Q1 = (U * 4294967296 + d1) / Y)) (Q1a : 0 ≤ Q1) (Q1b : Q1 < 4294967296)
    (E10 : IntKind.u64.wrap (IntKind.u64.wrap (IntKind.u64.wrap (U * 4294967296) + d1) - IntKind.u64.wrap (Q1 * Y)) = R1) (R1a : 0 ≤ R1) (R1b : R1 < Y)
    (E12 : R1 / y1 * y1 ≤ R1) (E12' : 0 ≤ R1 / y1 * y1) (p0a : 0 ≤ R1 / y1) (p0b : R1 / y1 ≤ 4294967297)
    (HQ0 : Hid (Q0 = (R1 * 4294967296 + d0) / Y)) (Q0a : 0 ≤ Q0) (Q0b : Q0 < 4294967296)
    (E13 : IntKind.u64.wrap (IntKind.u64.wrap (IntKind.u64.wrap (R1 * 4294967296) + d0) - IntKind.u64.wrap (Q0 * Y)) = R0) (R0a : 0 ≤ R0) (R0b : R0 < Y)
    (w : World) :
    Calls Try.prog 101 #[.int .u64 hi, .int .u64 lo, .int .u64 y] w fun e w' => e = .returned (.tuple #[.int .u64 (Q1 * 4294967296 + Q0), .int .u64 (R0 / 2 ^ s)]) ∧ w = w' := by
  have H := Lib.hid hs
  clear hs
  go_enter Try.func101, Try.ntmps101
  go_upto_block 0 with (go_at_call 129; refine (lz_any y s (by omega) (by omega) H.out _).mono ?_; rintro e w' ⟨rfl, rfl⟩)
  go_cut [15, 16] from 67 to 85 (fun a b wx => a = .int .u64 Q1 ∧ wx = w)
  case first =>
    go_wp2_with fail
    go_loop [15, 16] (fun a b => ∃ q r : Int, a = .int .u64 q ∧ b = .int .u64 r ∧ KD.KInv Y y1 U d1 q r) (fun a _ => (intOf a).toNat)
    case atStart =>
      exact ⟨U / y1, U - U / y1 * y1, rfl, rfl, by exact KD.KInv.start hY.out (by omega) (by omega) (by omega) (by omega) (by omega) (by omega) (by omega) (by omega)⟩
    case round =>
      obtain ⟨q, r, rfl, rfl, hI⟩ := hrel
      obtain ⟨_, hq0, hr0, hr, hq, _⟩ := id hI
      rename_i hx1 hx2
      clear hx1 hx2
      by_cases hq2 : 4294967296 ≤ q
      · have hg := hI.pos (by omega) (by omega) (by omega) (by omega)
        have HG := Lib.hid hg
        clear hg
        by_cases hr2 : 4294967296 ≤ r + y1
        · go_wp2
          go_meet
          have := hI.big hY.out (by omega) (by omega) (by omega) (by omega) (by omega) HG.out (by omega)
          have e := HQ1.out
          exact ⟨by rw [e, ← this], rfl⟩
        · go_wp2
          go_round
          case rel => exact ⟨q - 1, r + y1, rfl, rfl, hI.next (by omega) (by omega) HG.out (by omega)⟩
          case measure => simp [intOf]; omega
      · have hm1 := KD.mul_lt (q := q) (y := y0) (by omega) (by omega) (by omega) (by omega)
        have hm0 : 0 ≤ q * y0 := Int.mul_nonneg (by omega) (by omega)
        by_cases ht : 4294967296 * r + d1 < q * y0
        · obtain ⟨hg, hp⟩ := hI.test hY.out (by omega) (by omega) (by omega) ht
          have HG := Lib.hid hg
          clear hg
          by_cases hr2 : 4294967296 ≤ r + y1
          · go_wp2
            go_meet
            have := hI.big hY.out (by omega) (by omega) (by omega) (by omega) hp HG.out (by omega)
            have e := HQ1.out
            exact ⟨by rw [e, ← this], rfl⟩
          · go_wp2
            go_round
            case rel => exact ⟨q - 1, r + y1, rfl, rfl, hI.next (by omega) hp HG.out (by omega)⟩
            case measure => simp [intOf]; omega
        · have HD := Lib.hid (hI.done hY.out (by omega) (by omega) ht)
          go_wp2
          go_meet
          have e := HQ1.out
          exact ⟨by rw [e, ← HD.out], rfl⟩
  case rest =>
    obtain ⟨rfl, rfl⟩ := hcut
    go_upto_block 2 with (fail)
    go_cut [18, 16] from 102 to 120 (fun a b wx => a = .int .u64 Q0 ∧ wx = wc)
    case first =>
      go_wp2_with fail
      go_loop [18, 16] (fun a b => ∃ q r : Int, a = .int .u64 q ∧ b = .int .u64 r ∧ KD.KInv Y y1 R1 d0 q r) (fun a _ => (intOf a).toNat)
      case atStart =>
        exact ⟨R1 / y1, R1 - R1 / y1 * y1, rfl, rfl, by exact KD.KInv.start hY.out (by omega) (by omega) (by omega) (by omega) (by omega) (by omega) (by omega) (by omega)⟩
      case round =>
        obtain ⟨q, r, rfl, rfl, hI⟩ := hrel
        obtain ⟨_, hq0, hr0, hr, hq, _⟩ := id hI
        rename_i hx1 hx2
        clear hx1 hx2
        by_cases hq2 : 4294967296 ≤ q
        · have hg := hI.pos (by omega) (by omega) (by omega) (by omega)
          have HG := Lib.hid hg
          clear hg
          by_cases hr2 : 4294967296 ≤ r + y1
          · go_wp2
            go_meet
            have := hI.big hY.out (by omega) (by omega) (by omega) (by omega) (by omega) HG.out (by omega)
            have e := HQ0.out
            exact ⟨by rw [e, ← this], rfl⟩
          · go_wp2
            go_round
            case rel => exact ⟨q - 1, r + y1, rfl, rfl, hI.next (by omega) (by omega) HG.out (by omega)⟩
            case measure => simp [intOf]; omega
        · have hm1 := KD.mul_lt (q := q) (y := y0) (by omega) (by omega) (by omega) (by omega)
          have hm0 : 0 ≤ q * y0 := Int.mul_nonneg (by omega) (by omega)
          by_cases ht : 4294967296 * r + d0 < q * y0
          · obtain ⟨hg, hp⟩ := hI.test hY.out (by omega) (by omega) (by omega) ht
            have HG := Lib.hid hg
            clear hg
            by_cases hr2 : 4294967296 ≤ r + y1
            · go_wp2
              go_meet
              have := hI.big hY.out (by omega) (by omega) (by omega) (by omega) hp HG.out (by omega)
              have e := HQ0.out
              exact ⟨by rw [e, ← this], rfl⟩
            · go_wp2
              go_round
              case rel => exact ⟨q - 1, r + y1, rfl, rfl, hI.next (by omega) hp HG.out (by omega)⟩
              case measure => simp [intOf]; omega
          · have HD := Lib.hid (hI.done hY.out (by omega) (by omega) ht)
            go_wp2
            go_meet
            have e := HQ0.out
            exact ⟨by rw [e, ← HD.out], rfl⟩
    case rest =>
      obtain ⟨rfl, rfl⟩ := hcut
      go_wp2_with fail
      go_ret2
      exact ⟨rfl, rfl⟩

theorem bitLen_gt (n : Nat) (h : n < 2 ^ 64) : n < 2 ^ Lib.bitLen n := by
  rcases Nat.lt_or_ge n (2 ^ Lib.bitLen n) with hl | hl
  · exact hl
  · have e := Lib.bitLen_shift _ n hl h
    have hp : 0 < n / 2 ^ Lib.bitLen n := Nat.div_pos hl (Nat.two_pow_pos _)
    have hd : n / 2 ^ Lib.bitLen n ≤ n := Nat.div_le_self ..
    have := Lib.bitLen_half (n / 2 ^ Lib.bitLen n) (by omega) (by omega)
    omega
theorem bitLen_ge (n : Nat) (h0 : n ≠ 0) (h : n < 2 ^ 64) : 2 ^ (Lib.bitLen n - 1) ≤ n := by
  rcases Nat.lt_or_ge n (2 ^ (Lib.bitLen n - 1)) with hl | hl
  · have h1 := Lib.bitLen_le n 64 (by decide) h
    have h2 := Lib.bitLen_half n h0 h
    have := Lib.bitLen_le n (Lib.bitLen n - 1) (by omega) hl
    omega
  · exact hl
theorem lz_spec (y : Int) (s : Nat) (h0 : 0 < y) (h1 : y ≤ 18446744073709551615) (hs : lzN y = s) : s ≤ 63 ∧ 9223372036854775808 ≤ y * 2 ^ s ∧ y * 2 ^ s < 18446744073709551616 := by
  obtain ⟨n, rfl⟩ := Int.eq_ofNat_of_zero_le (show 0 ≤ y by omega)
  unfold lzN at hs
  simp only [Int.toNat_natCast] at hs
  have hn : n < 2 ^ 64 := by omega
  have a := bitLen_gt n hn
  have b := bitLen_ge n (by omega) hn
  have c := Lib.bitLen_half n (by omega) hn
  have d := Lib.bitLen_le n 64 (by decide) hn
  generalize Lib.bitLen n = L at *
  have e1 : n * 2 ^ s < 2 ^ L * 2 ^ s := Nat.mul_lt_mul_of_pos_right a (Nat.two_pow_pos _)
  have e2 : 2 ^ (L - 1) * 2 ^ s ≤ n * 2 ^ s := Nat.mul_le_mul_right _ b
  rw [← Nat.pow_add] at e1 e2
  rw [show L + s = 64 by omega] at e1
  rw [show L - 1 + s = 63 by omega] at e2
  refine ⟨by omega, ?_, ?_⟩
  · have : ((2 ^ 63 : Nat) : Int) ≤ ((n * 2 ^ s : Nat) : Int) := by exact_mod_cast e2
    rw [Int.natCast_mul, Int.natCast_pow] at this
    exact this
  · have : ((n * 2 ^ s : Nat) : Int) < ((2 ^ 64 : Nat) : Int) := by exact_mod_cast e1
    rw [Int.natCast_mul, Int.natCast_pow] at this
    exact this
theorem wraps_u64 (n : Int) (h₀ : 0 ≤ n) (h₁ : n < 2 ^ 64) : IntKind.u64.wrap n = n := by rw [IntKind.wrap_u64]; omega
theorem mask32 (x : Int) (h0 : 0 ≤ x) (h1 : x < 18446744073709551616) : bits .and .u64 x 4294967295 = x % 4294967296 :=
  bits_mask .u64 64 (by decide) wraps_u64 32 (by decide) x h0 h1
/-- A word shifted, and the first bits of the next one. -/
theorem shift_join (hi lo : Int) (s : Nat) (h63 : s ≤ 63) (h0 : 0 ≤ hi) (h1 : hi * 2 ^ s < 18446744073709551616) (l0 : 0 ≤ lo) (l1 : lo < 18446744073709551616) :
    bits .or .u64 (hi * 2 ^ s) (lo / 2 ^ (64 - s)) = (hi * 18446744073709551616 + lo) * 2 ^ s / 18446744073709551616 ∧ lo * 2 ^ s % 18446744073709551616 = (hi * 18446744073709551616 + lo) * 2 ^ s % 18446744073709551616 := by
  have hp : (0 : Int) < 2 ^ s := Int.pow_pos (by decide)
  have hq : (0 : Int) < 2 ^ (64 - s) := Int.pow_pos (by decide)
  have hpq : (2 : Int) ^ (64 - s) * 2 ^ s = 18446744073709551616 := by
    rw [← Int.pow_add, show 64 - s + s = 64 by omega]; rfl
  have hlt : lo / 2 ^ (64 - s) < 2 ^ s := Int.ediv_lt_of_lt_mul hq (by rw [Int.mul_comm, hpq]; exact l1)
  have hnn : 0 ≤ lo / 2 ^ (64 - s) := Int.ediv_nonneg l0 (by omega)
  have hle : (2 : Int) ^ s ≤ 2 ^ 64 := by
    have : (2 : Nat) ^ s ≤ 2 ^ 64 := Nat.pow_le_pow_right (by decide) (by omega)
    exact_mod_cast this
  have hj := bits_join .u64 64 (by decide) wraps_u64 s (hi * 2 ^ s) (lo / 2 ^ (64 - s)) (Int.mul_nonneg h0 (by omega)) (Int.mul_emod_left _ _) h1 hnn hlt (by omega)
  rw [hj]
  have e : (hi * 18446744073709551616 + lo) * 2 ^ s = lo * 2 ^ s + 18446744073709551616 * (hi * 2 ^ s) := by
    rw [Int.add_mul, Int.mul_right_comm]
    omega
  rw [e, Int.add_mul_ediv_left _ _ (by decide), Int.add_mul_emod_self_left]
  refine ⟨?_, rfl⟩
  rw [← hpq, Int.mul_ediv_mul_of_pos_left _ _ hp]
  omega

set_option maxHeartbeats 400000 in
theorem div64_hi (hi lo y : Int) (h0 : 0 < hi) (h1 : hi < y) (h2 : y ≤ 18446744073709551615) (l0 : 0 ≤ lo) (l1 : lo ≤ 18446744073709551615) (w : World) :
    Calls Try.prog 101 #[.int .u64 hi, .int .u64 lo, .int .u64 y] w fun e w' => e = .returned (.tuple #[.int .u64 ((hi * 18446744073709551616 + lo) / y), .int .u64 ((hi * 18446744073709551616 + lo) % y)]) ∧ w = w' := by
  obtain ⟨s, hs⟩ : ∃ s, lzN y = s := ⟨_, rfl⟩
  obtain ⟨s63, ya, yb⟩ := lz_spec y s (by omega) h2 hs
  have hp : (0 : Int) < 2 ^ s := Int.pow_pos (by decide)
  have hhi : (hi + 1) * 2 ^ s ≤ y * 2 ^ s := Int.mul_le_mul_of_nonneg_right (by omega) (by omega)
  rw [Int.add_mul] at hhi
  obtain ⟨hU, hL⟩ := shift_join hi lo s s63 (by omega) (by omega) l0 (by omega)
  obtain ⟨u1, u2⟩ := KD.unshift (hi * 18446744073709551616 + lo) y (2 ^ s) hp
  have hlt : (hi * 18446744073709551616 + lo) * 2 ^ s < y * 2 ^ s * 18446744073709551616 := by
    have : (hi * 18446744073709551616 + lo + 1) * 2 ^ s ≤ y * 18446744073709551616 * 2 ^ s := Int.mul_le_mul_of_nonneg_right (by omega) (by omega)
    rw [Int.add_mul, Int.mul_right_comm y] at this
    omega
  have hnn : 0 ≤ (hi * 18446744073709551616 + lo) * 2 ^ s := Int.mul_nonneg (by omega) (by omega)
  have hh0 : 0 ≤ hi * 2 ^ s := Int.mul_nonneg (by omega) (by omega)
  have hl0 : 0 ≤ lo * 2 ^ s := Int.mul_nonneg (by omega) (by omega)
  have hm0 : hi * 2 ^ s < 18446744073709551616 := by omega
  generalize hY : y * 2 ^ s = Y at *
  generalize hX : (hi * 18446744073709551616 + lo) * 2 ^ s = X at *
  rw [← u1, ← u2]
  have hY1 : 2147483648 ≤ Y / 4294967296 := by omega
  have dm := fun x : Int => Int.mul_ediv_add_emod x 4294967296
  have kw := KD.whole (U := X / 18446744073709551616) (a := X % 18446744073709551616 / 4294967296) (b := X % 18446744073709551616 % 4294967296) (Y := Y) (by omega)
  have e : X / 18446744073709551616 * 18446744073709551616 + (X % 18446744073709551616 / 4294967296 * 4294967296 + X % 18446744073709551616 % 4294967296) = X := by omega
  rw [e] at kw
  rw [kw.1, kw.2]
  have hUY : X / 18446744073709551616 < Y := Int.ediv_lt_of_lt_mul (by decide) hlt
  have wr : ∀ U d : Int, 0 ≤ U → U < Y → 0 ≤ d → d < 4294967296 → IntKind.u64.wrap (IntKind.u64.wrap (IntKind.u64.wrap (U * 4294967296) + d) - IntKind.u64.wrap ((U * 4294967296 + d) / Y * Y)) = (U * 4294967296 + d) % Y := by
    intro U d a1 a2 a3 a4
    have h1 := Int.mul_ediv_add_emod (U * 4294967296 + d) Y
    have h2 := Int.emod_lt_of_pos (U * 4294967296 + d) (show 0 < Y by omega)
    have h3 := Int.emod_nonneg (U * 4294967296 + d) (show Y ≠ 0 by omega)
    rw [Int.mul_comm] at h1
    generalize (U * 4294967296 + d) / Y * Y = p at *
    simp only [IntKind.wrap_u64]
    omega
  have nn : ∀ U d : Int, 0 ≤ U → U < Y → 0 ≤ d → 0 ≤ (U * 4294967296 + d) / Y := fun U d a1 a2 a3 => Int.ediv_nonneg (by omega) (by omega)
  have gl : ∀ U : Int, 0 ≤ U → U < Y → U / (Y / 4294967296) * (Y / 4294967296) ≤ U ∧ 0 ≤ U / (Y / 4294967296) * (Y / 4294967296) ∧ 0 ≤ U / (Y / 4294967296) ∧ U / (Y / 4294967296) ≤ 4294967297 := by
    intro U a1 a2
    have hq : 0 ≤ U / (Y / 4294967296) := Int.ediv_nonneg a1 (by omega)
    exact ⟨Int.ediv_mul_le _ (by omega), Int.mul_nonneg hq (by omega), hq, KD.guess_le (y0 := Y % 4294967296) hY1 (by omega) (by omega)⟩
  have U0 : 0 ≤ X / 18446744073709551616 := by omega
  have d10 : 0 ≤ X % 18446744073709551616 / 4294967296 := by omega
  have d11 : X % 18446744073709551616 / 4294967296 < 4294967296 := by omega
  have d00 : 0 ≤ X % 18446744073709551616 % 4294967296 := by omega
  have d01 : X % 18446744073709551616 % 4294967296 < 4294967296 := by omega
  have R0 := Int.emod_nonneg (X / 18446744073709551616 * 4294967296 + X % 18446744073709551616 / 4294967296) (show Y ≠ 0 by omega)
  have R1 := Int.emod_lt_of_pos (X / 18446744073709551616 * 4294967296 + X % 18446744073709551616 / 4294967296) (show 0 < Y by omega)
  have g1 := gl _ U0 hUY
  have g2 := gl _ R0 R1
  exact div64_walk hi lo y s hs h0 h1 h2 l0 l1 s63 Y (Y / 4294967296) (Y % 4294967296) (X / 18446744073709551616) (X % 18446744073709551616) (X % 18446744073709551616 / 4294967296) (X % 18446744073709551616 % 4294967296)
    _ _ _ _
    (by rw [hY, wraps_u64 _ (by omega) (by omega)]) rfl (mask32 _ (by omega) (by omega))
    (by rw [wraps_u64 _ hh0 hm0]; exact hU) (by rw [IntKind.wrap_u64]; exact hL) rfl (mask32 _ (by omega) (by omega))
    hY1 (by omega) (by omega) (by omega) (by show _ = _; omega) U0 hUY (by omega) (by omega) (by omega) (by omega) d10 d11 d00 d01
    g1.1 g1.2.1 g1.2.2.1 g1.2.2.2
    rfl (nn _ _ U0 hUY d10) (KD.digit_lt (by omega) hUY d11)
    (wr _ _ U0 hUY d10 d11) R0 R1
    g2.1 g2.2.1 g2.2.2.1 g2.2.2.2
    rfl (nn _ _ R0 R1 d00) (KD.digit_lt (by omega) R1 d01)
    (wr _ _ R0 R1 d00 d01) (Int.emod_nonneg _ (by omega)) (Int.emod_lt_of_pos _ (by omega)) w

set_option maxRecDepth 100000 in
set_option maxHeartbeats 400000 in
theorem div64_any (hi lo y : Int) (h0 : 0 ≤ hi) (h1 : hi < y) (h2 : y ≤ 18446744073709551615) (l0 : 0 ≤ lo) (l1 : lo ≤ 18446744073709551615) (w : World) :
    Calls Try.prog 101 #[.int .u64 hi, .int .u64 lo, .int .u64 y] w fun e w' => e = .returned (.tuple #[.int .u64 ((hi * 18446744073709551616 + lo) / y), .int .u64 ((hi * 18446744073709551616 + lo) % y)]) ∧ Below w.heap.size w w' := by
  by_cases hz : hi = 0
  · subst hz
    have hy : (y == 0) = false := by simp; omega
    go_enter Try.func101, Try.ntmps101
    go_wp2_with fail
    go_quiet (fail)
    go_wp2
    go_ret2
    exact ⟨ret_uu (by simp) (by simp), (by repeat' (first | (with_reducible exact Below.refl _ _) | (with_reducible assumption) | (with_reducible refine below_alloc ?_ _ ?_) | (with_reducible refine below_set _ ?_ ?_) | (with_reducible refine Below.drew ?_) | (with_reducible refine below_dN ?_ _) | (apply below_thenA; assumption) | omega | (simp; done) | (simp; omega) | (simp [*]; done)))⟩
  · refine (div64_hi hi lo y (by omega) h1 h2 l0 l1 w).mono ?_
    rintro e w' ⟨rfl, rfl⟩
    exact ⟨rfl, Below.refl _ _⟩
end Go.Proofs.Ythffphcgkmjhbaa
