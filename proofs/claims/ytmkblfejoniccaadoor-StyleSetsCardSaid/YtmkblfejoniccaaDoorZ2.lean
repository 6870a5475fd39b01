/-
  math/bits.Div64 where the upper word isn't 0: by digits of half a word.
-/
/-
  The functions of package wide, each by its contract: Div and MulDiv.
-/
/-
  The functions of package wide, each by its contract: MulDiv; what the statements of layer 1 ask first.
-/
/-
  Regions whose order is left open, by one claim for each operation: what it leaves, in whatever order the others come up.
-/
import Derived.Test.YtmkblfejoniccaaDoorZ1
import Derived.Test.YtmkblfejoniccaaDoorShelf
import Derived.Deep.DeepCutAuto
import Derived.Deep.CutBlock
import Derived.Deep.CutRange
import Derived.OrdersHeld
import Derived.Deep.RegionHeld
import Derived.Below
namespace Go.Proofs.YtmkblfejoniccaaDoor
open Go.RowKit
set_option linter.unusedSimpArgs false
set_option linter.unusedVariables false
def lzN (y : Int) : Nat := 64 - Lib.bitLen y.toNat
theorem lz_any (y : Int) (s : Nat) (h0 : 0 ≤ y) (h1 : y ≤ 18446744073709551615) (hs : lzN y = s) (w : World) :
    Calls Tryd.prog 57 #[.int .u64 y] w fun e w' => e = .returned (.int .i64 ((s : Int))) ∧ w = w' := by
  refine (Tryd.bits_LeadingZeros64 y w h0 h1).mono ?_
  rintro e w' ⟨rfl, rfl⟩
  have h := Lib.bitLen_le y.toNat 64 (by omega) (by omega)
  refine ⟨ret_int ?_, rfl⟩
  subst hs
  unfold lzN
  omega

set_option maxRecDepth 100000 in
set_option maxHeartbeats 1000000 in
theorem div64_walk (hi lo y : Int) (s : Nat) (hs : lzN y = s) (h0 : 0 < hi) (h1 : hi < y) (h2 : y ≤ 18446744073709551615) (l0 : 0 ≤ lo) (l1 : lo ≤ 18446744073709551615) (s63 : s ≤ 63)
    (Y y1 y0 U L d1 d0 Q1 R1 Q0 R0 : Int)
    (E1 : IntKind.u64.wrap (y * 2 ^ s) = Y) (E2 : Y / 4294967296 = y1) (E3 : bits .and .u64 Y 4294967295 = y0)
    (E4 : bits .or .u64 (IntKind.u64.wrap (hi * 2 ^ s)) (lo / 2 ^ (64 - s)) = U) (E5 : IntKind.u64.wrap (lo * 2 ^ s) = L) (E6 : L / 4294967296 = d1) (E7 : bits .and .u64 L 4294967295 = d0)
    (y1a : 2147483648 ≤ y1) (y1b : y1 < 4294967296) (y0a : 0 ≤ y0) (y0b : y0 < 4294967296) (hY : Hid (y1 * 4294967296 + y0 = Y)) (U0 : 0 ≤ U) (hU : U < Y) (Y0 : 0 < Y) (Yb : Y ≤ 18446744073709551615) (L0 : 0 ≤ L) (Lb : L ≤ 18446744073709551615) (d1a : 0 ≤ d1) (d1b : d1 < 4294967296) (d0a : 0 ≤ d0) (d0b : d0 < 4294967296)
    (E9 : U / y1 * y1 ≤ U) (E9' : 0 ≤ U / y1 * y1) (q0a : 0 ≤ U / y1) (q0b : U / y1 ≤ 4294967297)
    (HQ1 : Hid (Q1 = (U * 4294967296 + d1) / Y)) (Q1a : 0 ≤ Q1) (Q1b : Q1 < 4294967296)
    (E10 : IntKind.u64.wrap (IntKind.u64.wrap (IntKind.u64.wrap (U * 4294967296) + d1) - IntKind.u64.wrap (Q1 * Y)) = R1) (R1a : 0 ≤ R1) (R1b : R1 < Y)
    (E12 : R1 / y1 * y1 ≤ R1) (E12' : 0 ≤ R1 / y1 * y1) (p0a : 0 ≤ R1 / y1) (p0b : R1 / y1 ≤ 4294967297)
    (HQ0 : Hid (Q0 = (R1 * 4294967296 + d0) / Y)) (Q0a : 0 ≤ Q0) (Q0b : Q0 < 4294967296)
    (E13 : IntKind.u64.wrap (IntKind.u64.wrap (IntKind.u64.wrap (R1 * 4294967296) + d0) - IntKind.u64.wrap (Q0 * Y)) = R0) (R0a : 0 ≤ R0) (R0b : R0 < Y)
    (w : World) :
    Calls Tryd.prog 56 #[.int .u64 hi, .int .u64 lo, .int .u64 y] w fun e w' => e = .returned (.tuple #[.int .u64 (Q1 * 4294967296 + Q0), .int .u64 (R0 / 2 ^ s)]) ∧ w = w' := by
  have H := Lib.hid hs
  clear hs
  go_enter Tryd.func56, Tryd.ntmps56
  go_upto_block 0 with (go_at_call 57; refine (lz_any y s (by omega) (by omega) H.out _).mono ?_; rintro e w' ⟨rfl, rfl⟩)
  go_cut [15, 16] from 67 to 85 (fun a b wx => a = .int .u64 Q1 ∧ wx = w)
  case first =>
    go_wp2_with fail
    go_loop [15, 16] (fun a b => ∃ q r : Int, a = .int .u64 q ∧ b = .int .u64 r ∧ KD.KInv Y y1 U d1 q r) (fun a _ => (intOf a).toNat)
    case atStart =>
      exact ⟨U / y1, U - U / y1 * y1, rfl, rfl, by exact KD.KInv.start hY.out (by omega) (by omega) (by omega) (by omega) (by omega) (by omega) (by omega) (by omega)⟩
    case round =>
      obtain ⟨q, r, rfl, rfl, hI⟩ := hrel
      obtain ⟨_, hq0, hr0, hr, hq, _⟩ := id hI
      rename_i hx1 hx2
      clear hx1 hx2
      by_cases hq2 : 4294967296 ≤ q
      · have hg := hI.pos (by omega) (by omega) (by omega) (by omega)
        have HG := Lib.hid hg
        clear hg
        by_cases hr2 : 4294967296 ≤ r + y1
        · go_wp2
          go_meet
          have := hI.big hY.out (by omega) (by omega) (by omega) (by omega) (by omega) HG.out (by omega)
          have e := HQ1.out
          exact ⟨by rw [e, ← this], rfl⟩
        · go_wp2
          go_round
          case rel => exact ⟨q - 1, r + y1, rfl, rfl, hI.next (by omega) (by omega) HG.out (by omega)⟩
          case measure => simp [intOf]; omega
      · have hm1 := KD.mul_lt (q := q) (y := y0) (by omega) (by omega) (by omega) (by omega)
        have hm0 : 0 ≤ q * y0 := Int.mul_nonneg (by omega) (by omega)
        by_cases ht : 4294967296 * r + d1 < q * y0
        · obtain ⟨hg, hp⟩ := hI.test hY.out (by omega) (by omega) (by omega) ht
          have HG := Lib.hid hg
          clear hg
          by_cases hr2 : 4294967296 ≤ r + y1
          · go_wp2
            go_meet
            have := hI.big hY.out (by omega) (by omega) (by omega) (by omega) hp HG.out (by omega)
            have e := HQ1.out
            exact ⟨by rw [e, ← this], rfl⟩
          · go_wp2
            go_round
            case rel => exact ⟨q - 1, r + y1, rfl, rfl, hI.next (by omega) hp HG.out (by omega)⟩
            case measure => simp [intOf]; omega
        · have HD := Lib.hid (hI.done hY.out (by omega) (by omega) ht)
          go_wp2
          go_meet
          have e := HQ1.out
          exact ⟨by rw [e, ← HD.out], rfl⟩
  case rest =>
    obtain ⟨rfl, rfl⟩ := hcut
    go_upto_block 2 with (fail)
    go_cut [18, 16] from 102 to 120 (fun a b wx => a = .int .u64 Q0 ∧ wx = wc)
    case first =>
      go_wp2_with fail
      go_loop [18, 16] (fun a b => ∃ q r : Int, a = .int .u64 q ∧ b = .int .u64 r ∧ KD.KInv Y y1 R1 d0 q r) (fun a _ => (intOf a).toNat)
      case atStart =>
        exact ⟨R1 / y1, R1 - R1 / y1 * y1, rfl, rfl, by exact KD.KInv.start hY.out (by omega) (by omega) (by omega) (by omega) (by omega) (by omega) (by omega) (by omega)⟩
      case round =>
        obtain ⟨q, r, rfl, rfl, hI⟩ := hrel
        obtain ⟨_, hq0, hr0, hr, hq, _⟩ := id hI
        rename_i hx1 hx2
        clear hx1 hx2
        by_cases hq2 : 4294967296 ≤ q
        · have hg := hI.pos (by omega) (by omega) (by omega) (by omega)
          have HG := Lib.hid hg
          clear hg
          by_cases hr2 : 4294967296 ≤ r + y1
          · go_wp2
            go_meet
            have := hI.big hY.out (by omega) (by omega) (by omega) (by omega) (by omega) HG.out (by omega)
            have e := HQ0.out
            exact ⟨by rw [e, ← this], rfl⟩
          · go_wp2
            go_round
            case rel => exact ⟨q - 1, r + y1, rfl, rfl, hI.next (by omega) (by omega) HG.out (by omega)⟩
            case measure => simp [intOf]; omega
        · have hm1 := KD.mul_lt (q := q) (y := y0) (by omega) (by omega) (by omega) (by omega)
          have hm0 : 0 ≤ q * y0 := Int.mul_nonneg (by omega) (by omega)
          by_cases ht : 4294967296 * r + d0 < q * y0
          · obtain ⟨hg, hp⟩ := hI.test hY.out (by omega) (by omega) (by omega) ht
            have HG := Lib.hid hg
            clear hg
            by_cases hr2 : 4294967296 ≤ r + y1
            · go_wp2
              go_meet
              have := hI.big hY.out (by omega) (by omega) (by omega) (by omega) hp HG.out (by omega)
              have e := HQ0.out
              exact ⟨by rw [e, ← this], rfl⟩
            · go_wp2
              go_round
              case rel => exact ⟨q - 1, r + y1, rfl, rfl, hI.next (by omega) hp HG.out (by omega)⟩
              case measure => simp [intOf]; omega
          · have HD := Lib.hid (hI.done hY.out (by omega) (by omega) ht)
            go_wp2
            go_meet
            have e := HQ0.out
            exact ⟨by rw [e, ← HD.out], rfl⟩
    case rest =>
      obtain ⟨rfl, rfl⟩ := hcut
      go_wp2_with fail
      go_ret2
      exact ⟨rfl, rfl⟩

theorem bitLen_gt (n : Nat) (h : n < 2 ^ 64) : n < 2 ^ Lib.bitLen n := by
  rcases Nat.lt_or_ge n (2 ^ Lib.bitLen n) with hl | hl
  · exact hl
  · have e := Lib.bitLen_shift _ n hl h
    have hp : 0 < n / 2 ^ Lib.bitLen n := Nat.div_pos hl (Nat.two_pow_pos _)
    have hd : n / 2 ^ Lib.bitLen n ≤ n := Nat.div_le_self ..
    have := Lib.bitLen_half (n / 2 ^ Lib.bitLen n) (by omega) (by omega)
    omega
theorem bitLen_ge (n : Nat) (h0 : n ≠ 0) (h : n < 2 ^ 64) : 2 ^ (Lib.bitLen n - 1) ≤ n := by
  rcases Nat.lt_or_ge n (2 ^ (Lib.bitLen n - 1)) with hl | hl
  · have h1 := Lib.bitLen_le n 64 (by decide) h
    have h2 := Lib.bitLen_half n h0 h
    have := Lib.bitLen_le n (Lib.bitLen n - 1) (by omega) hl
    omega
  · exact hl
theorem lz_spec (y : Int) (s : Nat) (h0 : 0 < y) (h1 : y ≤ 18446744073709551615) (hs : lzN y = s) : s ≤ 63 ∧ 9223372036854775808 ≤ y * 2 ^ s ∧ y * 2 ^ s < 18446744073709551616 := by
  obtain ⟨n, rfl⟩ := Int.eq_ofNat_of_zero_le (show 0 ≤ y by omega)
  unfold lzN at hs
  simp only [Int.toNat_natCast] at hs
  have hn : n < 2 ^ 64 := by omega
  have a := bitLen_gt n hn
  have b := bitLen_ge n (by omega) hn
  have c := Lib.bitLen_half n (by omega) hn
  have d := Lib.bitLen_le n 64 (by decide) hn
  generalize Lib.bitLen n = L at *
  have e1 : n * 2 ^ s < 2 ^ L * 2 ^ s := Nat.mul_lt_mul_of_pos_right a (Nat.two_pow_pos _)
  have e2 : 2 ^ (L - 1) * 2 ^ s ≤ n * 2 ^ s := Nat.mul_le_mul_right _ b
  rw [← Nat.pow_add] at e1 e2
  rw [show L + s = 64 by omega] at e1
  rw [show L - 1 + s = 63 by omega] at e2
  refine ⟨by omega, ?_, ?_⟩
  · have : ((2 ^ 63 : Nat) : Int) ≤ ((n * 2 ^ s : Nat) : Int) := by exact_mod_cast e2
    rw [Int.natCast_mul, Int.natCast_pow] at this
    exact this
  · have : ((n * 2 ^ s : Nat) : Int) < ((2 ^ 64 : Nat) : Int) := by exact_mod_cast e1
    rw [Int.natCast_mul, Int.natCast_pow] at this
    exact this
theorem wraps_u64 (n : Int) (h₀ : 0 ≤ n) (h₁ : n < 2 ^ 64) : IntKind.u64.wrap n = n := by rw [IntKind.wrap_u64]; omega
theorem mask32 (x : Int) (h0 : 0 ≤ x) (h1 : x < 18446744073709551616) : bits .and .u64 x 4294967295 = x % 4294967296 :=
  bits_mask .u64 64 (by decide) wraps_u64 32 (by decide) x h0 h1
/-- A word shifted, and the first bits of the next one. -/
theorem shift_join (hi lo : Int) (s : Nat) (h63 : s ≤ 63) (h0 : 0 ≤ hi) (h1 : hi * 2 ^ s < 18446744073709551616) (l0 : 0 ≤ lo) (l1 : lo < 18446744073709551616) :
    bits .or .u64 (hi * 2 ^ s) (lo / 2 ^ (64 - s)) = (hi * 18446744073709551616 + lo) * 2 ^ s / 18446744073709551616 ∧ lo * 2 ^ s % 18446744073709551616 = (hi * 18446744073709551616 + lo) * 2 ^ s % 18446744073709551616 := by
  have hp : (0 : Int) < 2 ^ s := Int.pow_pos (by decide)
  have hq : (0 : Int) < 2 ^ (64 - s) := Int.pow_pos (by decide)
  have hpq : (2 : Int) ^ (64 - s) * 2 ^ s = 18446744073709551616 := by
    rw [← Int.pow_add, show 64 - s + s = 64 by omega]; rfl
  have hlt : lo / 2 ^ (64 - s) < 2 ^ s := Int.ediv_lt_of_lt_mul hq (by rw [Int.mul_comm, hpq]; exact l1)
  have hnn : 0 ≤ lo / 2 ^ (64 - s) := Int.ediv_nonneg l0 (by omega)
  have hle : (2 : Int) ^ s ≤ 2 ^ 64 := by
    have : (2 : Nat) ^ s ≤ 2 ^ 64 := Nat.pow_le_pow_right (by decide) (by omega)
    exact_mod_cast this
  have hj := bits_join .u64 64 (by decide) wraps_u64 s (hi * 2 ^ s) (lo / 2 ^ (64 - s)) (Int.mul_nonneg h0 (by omega)) (Int.mul_emod_left _ _) h1 hnn hlt (by omega)
  rw [hj]
  have e : (hi * 18446744073709551616 + lo) * 2 ^ s = lo * 2 ^ s + 18446744073709551616 * (hi * 2 ^ s) := by
    rw [Int.add_mul, Int.mul_right_comm]
    omega
  rw [e, Int.add_mul_ediv_left _ _ (by decide), Int.add_mul_emod_self_left]
  refine ⟨?_, rfl⟩
  rw [← hpq, Int.mul_ediv_mul_of_pos_left _ _ hp]
  omega

set_option maxHeartbeats 400000 in
theorem div64_hi (hi lo y : Int) (h0 : 0 < hi) (h1 : hi < y) (h2 : y ≤ 18446744073709551615) (l0 : 0 ≤ lo) (l1 : lo ≤ 18446744073709551615) (w : World) :
    Calls Tryd.prog 56 #[.int .u64 hi, .int .u64 lo, .int .u64 y] w fun e w' => e = .returned (.tuple #[.int .u64 ((hi * 18446744073709551616 + lo) / y), .int .u64 ((hi * 18446744073709551616 + lo) % y)]) ∧ w = w' := by
  obtain ⟨s, hs⟩ : ∃ s, lzN y = s := ⟨_, rfl⟩
  obtain ⟨s63, ya, yb⟩ := lz_spec y s (by omega) h2 hs
  have hp : (0 : Int) < 2 ^ s := Int.pow_pos (by decide)
  have hhi : (hi + 1) * 2 ^ s ≤ y * 2 ^ s := Int.mul_le_mul_of_nonneg_right (by omega) (by omega)
  rw [Int.add_mul] at hhi
  obtain ⟨hU, hL⟩ := shift_join hi lo s s63 (by omega) (by omega) l0 (by omega)
  obtain ⟨u1, u2⟩ := KD.unshift (hi * 18446744073709551616 + lo) y (2 ^ s) hp
  have hlt : (hi * 18446744073709551616 + lo) * 2 ^ s < y * 2 ^ s * 18446744073709551616 := by
    have : (hi * 18446744073709551616 + lo + 1) * 2 ^ s ≤ y * 18446744073709551616 * 2 ^ s := Int.mul_le_mul_of_nonneg_right (by omega) (by omega)
    rw [Int.add_mul, Int.mul_right_comm y] at this
    omega
  have hnn : 0 ≤ (hi * 18446744073709551616 + lo) * 2 ^ s := Int.mul_nonneg (by omega) (by omega)
  have hh0 : 0 ≤ hi * 2 ^ s := Int.mul_nonneg (by omega) (by omega)
  have hl0 : 0 ≤ lo * 2 ^ s := Int.mul_nonneg (by omega) (by omega)
  have hm0 : hi * 2 ^ s < 18446744073709551616 := by omega
  generalize hY : y * 2 ^ s = Y at *
  generalize hX : (hi * 18446744073709551616 + lo) * 2 ^ s = X at *
  rw [← u1, ← u2]
  have hY1 : 2147483648 ≤ Y / 4294967296 := by omega
  have dm := fun x : Int => Int.mul_ediv_add_emod x 4294967296
  have kw := KD.whole (U := X / 18446744073709551616) (a := X % 18446744073709551616 / 4294967296) (b := X % 18446744073709551616 % 4294967296) (Y := Y) (by omega)
  have e : X / 18446744073709551616 * 18446744073709551616 + (X % 18446744073709551616 / 4294967296 * 4294967296 + X % 18446744073709551616 % 4294967296) = X := by omega
  rw [e] at kw
  rw [kw.1, kw.2]
  have hUY : X / 18446744073709551616 < Y := Int.ediv_lt_of_lt_mul (by decide) hlt
  have wr : ∀ U d : Int, 0 ≤ U → U < Y → 0 ≤ d → d < 4294967296 → IntKind.u64.wrap (IntKind.u64.wrap (IntKind.u64.wrap (U * 4294967296) + d) - IntKind.u64.wrap ((U * 4294967296 + d) / Y * Y)) = (U * 4294967296 + d) % Y := by
    intro U d a1 a2 a3 a4
    have h1 := Int.mul_ediv_add_emod (U * 4294967296 + d) Y
    have h2 := Int.emod_lt_of_pos (U * 4294967296 + d) (show 0 < Y by omega)
    have h3 := Int.emod_nonneg (U * 4294967296 + d) (show Y ≠ 0 by omega)
    rw [Int.mul_comm] at h1
    generalize (U * 4294967296 + d) / Y * Y = p at *
    simp only [IntKind.wrap_u64]
    omega
  have nn : ∀ U d : Int, 0 ≤ U → U < Y → 0 ≤ d → 0 ≤ (U * 4294967296 + d) / Y := fun U d a1 a2 a3 => Int.ediv_nonneg (by omega) (by omega)
  have gl : ∀ U : Int, 0 ≤ U → U < Y → U / (Y / 4294967296) * (Y / 4294967296) ≤ U ∧ 0 ≤ U / (Y / 4294967296) * (Y / 4294967296) ∧ 0 ≤ U / (Y / 4294967296) ∧ U / (Y / 4294967296) ≤ 4294967297 := by
    intro U a1 a2
    have hq : 0 ≤ U / (Y / 4294967296) := Int.ediv_nonneg a1 (by omega)
    exact ⟨Int.ediv_mul_le _ (by omega), Int.mul_nonneg hq (by omega), hq, KD.guess_le (y0 := Y % 4294967296) hY1 (by omega) (by omega)⟩
  have U0 : 0 ≤ X / 18446744073709551616 := by omega
  have d10 : 0 ≤ X % 18446744073709551616 / 4294967296 := by omega
  have d11 : X % 18446744073709551616 / 4294967296 < 4294967296 := by omega
  have d00 : 0 ≤ X % 18446744073709551616 % 4294967296 := by omega
  have d01 : X % 18446744073709551616 % 4294967296 < 4294967296 := by omega
  have R0 := Int.emod_nonneg (X / 18446744073709551616 * 4294967296 + X % 18446744073709551616 / 4294967296) (show Y ≠ 0 by omega)
  have R1 := Int.emod_lt_of_pos (X / 18446744073709551616 * 4294967296 + X % 18446744073709551616 / 4294967296) (show 0 < Y by omega)
  have g1 := gl _ U0 hUY
  have g2 := gl _ R0 R1
  exact div64_walk hi lo y s hs h0 h1 h2 l0 l1 s63 Y (Y / 4294967296) (Y % 4294967296) (X / 18446744073709551616) (X % 18446744073709551616) (X % 18446744073709551616 / 4294967296) (X % 18446744073709551616 % 4294967296)
    _ _ _ _
    (by rw [hY, wraps_u64 _ (by omega) (by omega)]) rfl (mask32 _ (by omega) (by omega))
    (by rw [wraps_u64 _ hh0 hm0]; exact hU) (by rw [IntKind.wrap_u64]; exact hL) rfl (mask32 _ (by omega) (by omega))
    hY1 (by omega) (by omega) (by omega) (by show _ = _; omega) U0 hUY (by omega) (by omega) (by omega) (by omega) d10 d11 d00 d01
    g1.1 g1.2.1 g1.2.2.1 g1.2.2.2
    rfl (nn _ _ U0 hUY d10) (KD.digit_lt (by omega) hUY d11)
    (wr _ _ U0 hUY d10 d11) R0 R1
    g2.1 g2.2.1 g2.2.2.1 g2.2.2.2
    rfl (nn _ _ R0 R1 d00) (KD.digit_lt (by omega) R1 d01)
    (wr _ _ R0 R1 d00 d01) (Int.emod_nonneg _ (by omega)) (Int.emod_lt_of_pos _ (by omega)) w

set_option maxRecDepth 100000 in
set_option maxHeartbeats 400000 in
theorem div64_any (hi lo y : Int) (h0 : 0 ≤ hi) (h1 : hi < y) (h2 : y ≤ 18446744073709551615) (l0 : 0 ≤ lo) (l1 : lo ≤ 18446744073709551615) (w : World) :
    Calls Tryd.prog 56 #[.int .u64 hi, .int .u64 lo, .int .u64 y] w fun e w' => e = .returned (.tuple #[.int .u64 ((hi * 18446744073709551616 + lo) / y), .int .u64 ((hi * 18446744073709551616 + lo) % y)]) ∧ Below w.heap.size w w' := by
  by_cases hz : hi = 0
  · subst hz
    have hy : (y == 0) = false := by simp; omega
    go_enter Tryd.func56, Tryd.ntmps56
    go_wp2_with fail
    go_quiet (fail)
    go_wp2
    go_ret2
    exact ⟨ret_uu (by simp) (by simp), (by repeat' (first | (with_reducible exact Below.refl _ _) | (with_reducible assumption) | (with_reducible refine below_alloc ?_ _ ?_) | (with_reducible refine below_set _ ?_ ?_) | (with_reducible refine Below.drew ?_) | (with_reducible refine below_dN ?_ _) | (apply below_thenA; assumption) | omega | (simp; done) | (simp; omega) | (simp [*]; done)))⟩
  · refine (div64_hi hi lo y (by omega) h1 h2 l0 l1 w).mono ?_
    rintro e w' ⟨rfl, rfl⟩
    exact ⟨rfl, Below.refl _ _⟩
end Go.Proofs.YtmkblfejoniccaaDoor
namespace Go.Proofs.YtmkblfejoniccaaDoor
open Go.RowKit
set_option linter.unusedSimpArgs false
set_option linter.unusedVariables false

/-- The quotient rounded down, and the rest. -/
def fq (a d : Int) : Int := if d < 0 then (-a) / (-d) else a / d
def fr (a d : Int) : Int := a - fq a d * d
theorem fr_pos {a d : Int} (h : 0 < d) : fr a d = a % d := by
  have := Int.mul_ediv_add_emod a d
  unfold fr fq
  rw [if_neg (by omega), Int.mul_comm]
  omega
theorem fr_neg {a d : Int} (h : d < 0) : fr a d = -((-a) % (-d)) := by
  have := Int.mul_ediv_add_emod (-a) (-d)
  unfold fr fq
  rw [if_pos h, Int.mul_comm]
  rw [Int.neg_mul] at this
  omega
theorem absI_div {a d : Int} (hd : d ≠ 0) : fq a d * absI d + (absI a / absI d) * absI d = fq a d * absI d + (absI a / absI d) * absI d := rfl
/-- By size: of one sign the quotient of sizes, else it with the other sign, and one less where there is a rest. -/
theorem fq_size {a d : Int} (hd : d ≠ 0) :
    ((a < 0 ↔ d < 0) → fq a d = absI a / absI d ∧ fr a d = if d < 0 then -(absI a % absI d) else absI a % absI d) ∧
    (¬ (a < 0 ↔ d < 0) → absI a % absI d = 0 → fq a d = -(absI a / absI d) ∧ fr a d = 0) ∧
    (¬ (a < 0 ↔ d < 0) → 0 < absI a % absI d → fq a d = -(absI a / absI d + 1) ∧ fr a d = if d < 0 then -(absI d - absI a % absI d) else absI d - absI a % absI d) := by
  have div_of : ∀ x y q : Int, 0 < y → q * y ≤ x → x < q * y + y → x / y = q := by
    intro x y q hy h1 h2
    refine Int.le_antisymm (Int.le_of_lt_add_one (Int.ediv_lt_of_lt_mul hy ?_)) ((Int.le_ediv_iff_mul_le hy).2 h1)
    rw [Int.add_mul]; omega
  have key : ∀ x y : Int, 0 < y → x / y * y + x % y = x ∧ 0 ≤ x % y ∧ x % y < y := fun x y h =>
    ⟨by have := Int.mul_ediv_add_emod x y; rw [Int.mul_comm] at this; exact this, Int.emod_nonneg _ (by omega), Int.emod_lt_of_pos _ h⟩
  rcases Int.lt_or_lt_of_ne hd with hn | hp
  · have ed : absI d = -d := by unfold absI; omega
    unfold fr fq
    rw [if_pos hn, ed]
    rcases Int.lt_or_le a 0 with ha | ha
    · have ea : absI a = -a := by unfold absI; omega
      rw [ea, if_pos hn]
      obtain ⟨k1, k2, k3⟩ := key (-a) (-d) (by omega)
      rw [Int.mul_neg] at k1
      exact ⟨fun _ => ⟨rfl, by omega⟩, fun h => absurd ⟨fun _ => hn, fun _ => ha⟩ h, fun h => absurd ⟨fun _ => hn, fun _ => ha⟩ h⟩
    · have ea : absI a = a := by unfold absI; omega
      rw [ea, if_pos hn]
      obtain ⟨k1, k2, k3⟩ := key a (-d) (by omega)
      rw [Int.mul_neg] at k1
      refine ⟨fun h => absurd (h.2 hn) (by omega), fun _ hz => ?_, fun _ hz => ?_⟩
      · rw [div_of (-a) (-d) (-(a / -d)) (by omega) (by rw [Int.neg_mul_neg]; omega) (by rw [Int.neg_mul_neg]; omega)]
        exact ⟨rfl, by rw [Int.neg_mul]; omega⟩
      · rw [div_of (-a) (-d) (-(a / -d + 1)) (by omega) (by rw [Int.neg_mul_neg, Int.add_mul]; omega) (by rw [Int.neg_mul_neg, Int.add_mul]; omega)]
        exact ⟨rfl, by rw [Int.neg_mul, Int.add_mul]; omega⟩
  · have ed : absI d = d := by unfold absI; omega
    have nn : ¬ d < 0 := by omega
    unfold fr fq
    rw [if_neg nn, if_neg nn, if_neg nn, ed]
    rcases Int.lt_or_le a 0 with ha | ha
    · have ea : absI a = -a := by unfold absI; omega
      rw [ea]
      obtain ⟨k1, k2, k3⟩ := key (-a) d hp
      refine ⟨fun h => absurd (h.1 ha) nn, fun _ hz => ?_, fun _ hz => ?_⟩
      · rw [div_of a d (-(-a / d)) hp (by rw [Int.neg_mul]; omega) (by rw [Int.neg_mul]; omega)]
        exact ⟨rfl, by rw [Int.neg_mul]; omega⟩
      · rw [div_of a d (-(-a / d + 1)) hp (by rw [Int.neg_mul, Int.add_mul]; omega) (by rw [Int.neg_mul, Int.add_mul]; omega)]
        exact ⟨rfl, by rw [Int.neg_mul, Int.add_mul]; omega⟩
    · have ea : absI a = a := by unfold absI; omega
      rw [ea]
      obtain ⟨k1, k2, k3⟩ := key a d hp
      exact ⟨fun _ => ⟨rfl, by omega⟩, fun h => absurd ⟨fun h => absurd h (by omega), fun h => absurd h nn⟩ h, fun h => absurd ⟨fun h => absurd h (by omega), fun h => absurd h nn⟩ h⟩

theorem wide_turned_to (m hi lo : Int) (h1 : -9223372036854775808 ≤ hi) (h2 : hi ≤ 9223372036854775807) (h3 : 0 ≤ lo) (h4 : lo ≤ 18446744073709551615)
    (h : hi * 18446744073709551616 + lo = m ∨ hi * 18446744073709551616 + lo = m - 340282366920938463463374607431768211456) (hf : WFit (-m)) (w : World) :
    Calls Tryd.prog 119 #[.agg #[.int .i64 hi, .int .u64 lo]] w fun e w' => e = .returned (.agg #[.int .i64 ((-m) / 18446744073709551616), .int .u64 ((-m) % 18446744073709551616)]) ∧ Below w.heap.size w w' := by
  refine (wide_turned _ hi lo ⟨h1, h2, h3, h4, rfl⟩ w).mono ?_
  rintro e w' ⟨r1, r2, r3⟩
  unfold WFit at *
  refine ⟨?_, r3⟩
  rcases h with h | h
  · rw [h] at r1
    exact r1 hf
  · rw [r2 (by omega)]
    exact ret_w (by omega) (by omega)

/-- What Div answers. -/
def DZero : Ending := .returned (.tuple #[.agg #[.int .i64 0, .int .u64 0], .int .i64 0, .bool false])
def DAns (a d : Int) (B : Nat) (w : World) (e : Ending) (w' : World) : Prop :=
  (d = 0 → e = DZero) ∧ (d ≠ 0 → WFit (fq a d) → e = .returned (.tuple #[.agg #[.int .i64 ((fq a d) / 18446744073709551616), .int .u64 ((fq a d) % 18446744073709551616)], .int .i64 (fr a d), .bool true])) ∧ (d ≠ 0 → ¬ WFit (fq a d) → e = DZero) ∧ Below B w w'
theorem ret_wib {h l r h' l' r' : Int} {b : Bool} (e1 : h = h') (e2 : l = l') (e3 : r = r') : Ending.returned (.tuple #[.agg #[.int .i64 h, .int .u64 l], .int .i64 r, .bool b]) = .returned (.tuple #[.agg #[.int .i64 (h'), .int .u64 (l')], .int .i64 (r'), .bool b]) := by rw [e1, e2, e3]
-- WALK
set_option maxRecDepth 100000 in
set_option maxHeartbeats 1000000 in
theorem wide_div_walkR (a d hi lo : Int) (hA : Wd hi lo a) (d1 : -9223372036854775808 ≤ d) (d2 : d ≤ 9223372036854775807) (hd : d ≠ 0)
    (Ah Al D qh hm ql R : Int) (EA : absI a / 18446744073709551616 = Ah) (EB : absI a % 18446744073709551616 = Al) (ED : absI d % 18446744073709551616 = D)
    (E1 : Ah / D = qh) (E2 : Ah % D = hm) (E3 : (hm * 18446744073709551616 + Al) / D = ql) (E4 : (hm * 18446744073709551616 + Al) % D = R)
    (A0 : 0 ≤ Ah) (A1 : Ah ≤ 9223372036854775808) (L0 : 0 ≤ Al) (L1 : Al ≤ 18446744073709551615) (D0 : 1 ≤ D) (D1 : D ≤ 9223372036854775808)
    (q0 : 0 ≤ qh) (q1 : qh ≤ 9223372036854775808) (m0 : 0 ≤ hm) (m1 : hm < D) (l0 : 0 ≤ ql) (l1 : ql ≤ 18446744073709551615) (r0 : 0 ≤ R) (r1 : R < D)
    (HQ : Hid (absI a / absI d = qh * 18446744073709551616 + ql)) (HR : Hid (absI a % absI d = R)) (HD : Hid (absI d = D))
    (HS : Hid (R = 0 ∨ qh ≤ 4611686018427387904)) (HB : Hid (qh * 18446744073709551616 + ql ≤ 170141183460469231731687303715884105728)) (h3 : 0 < R) (w : World) :
    Calls Tryd.prog 113 #[.agg #[.int .i64 hi, .int .u64 lo], .int .i64 d] w (DAns a d w.heap.size w) := by
  obtain ⟨a1, a2, a3, a4, a5⟩ := id hA
  have A5 := Lib.hid a5
  clear a5
  have hD : Wd (d / 18446744073709551616) (d % 18446744073709551616) d := Wd.of (by unfold WFit; omega)
  have HA := Lib.hid hA
  have HDd := Lib.hid hD
  clear hA hD
  have dz : (d == 0) = false := by simpa using hd
  have A1 := add64_0 ql 1 l0 (by decide)
  have hq : qh ≤ 4611686018427387904 := by rcases HS.out with h | h <;> omega
  by_cases h1 : hi < 0 <;> by_cases h2 : d < 0
  all_goals
    go_enter Tryd.func113, Tryd.ntmps113
    go_wp2_with (first
      | (go_at_call 118; (with_reducible refine (wide_size a hi lo HA.out _).mono ?_); rintro e w' ⟨rfl, hb'⟩; obtain ⟨hc', hf'⟩ := bcell hb'; have hz' := bz2 (n := w.heap.size) hb' (by (try simp) <;> omega); have hs' := hb'.size; (try simp at hs'); (try (have hs2' := Nat.lt_of_succ_le hs')))
      | (go_at_call 118; (with_reducible refine (wide_size d _ _ HDd.out _).mono ?_); rintro e w' ⟨rfl, hb'⟩; obtain ⟨hc', hf'⟩ := bcell hb'; have hz' := bz2 (n := w.heap.size) hb' (by (try simp) <;> omega); have hs' := hb'.size; (try simp at hs'); (try (have hs2' := Nat.lt_of_succ_le hs')))
      | (go_at_call 100; (with_reducible refine (wide_of d d1 d2 _).mono ?_); rintro e w' ⟨rfl, hb'⟩; obtain ⟨hc', hf'⟩ := bcell hb'; have hz' := bz2 (n := w.heap.size) hb' (by (try simp) <;> omega); have hs' := hb'.size; (try simp at hs'); (try (have hs2' := Nat.lt_of_succ_le hs')))
      | (go_at_call 56; (with_reducible refine (div64_any hm Al D m0 m1 (by omega) L0 L1 _).mono ?_); rintro e w' ⟨rfl, hb'⟩; obtain ⟨hc', hf'⟩ := bcell hb'; have hz' := bz2 (n := w.heap.size) hb' (by (try simp) <;> omega); have hs' := hb'.size; (try simp at hs'); (try (have hs2' := Nat.lt_of_succ_le hs')))
      | (go_at_call 119; (with_reducible refine (wide_turned_to (qh * 18446744073709551616 + ql + 1) (qh + (ql + 1) / 18446744073709551616) ((ql + 1) % 18446744073709551616) (by omega) (by omega) (by omega) (by omega) (by omega) (by unfold WFit; omega) _).mono ?_); rintro e w' ⟨rfl, hb'⟩; obtain ⟨hc', hf'⟩ := bcell hb'; have hz' := bz2 (n := w.heap.size) hb' (by (try simp) <;> omega); have hs' := hb'.size; (try simp at hs'); (try (have hs2' := Nat.lt_of_succ_le hs'))))
    all_goals
      (go_light; simp [bodyPost, results, Tryd.results113, go_sem, *])
      go_light
      have a5 := A5.out
      have ed := HD.out
      have hB := HB.out
      obtain ⟨f1, f2, f3⟩ := fq_size (a := a) hd
      rw [HQ.out, HR.out] at f1 f2 f3
      rw [HD.out] at f3
      first | rw [if_pos (show d < 0 by omega)] at f1 f3 | rw [if_neg (show ¬ d < 0 by omega)] at f1 f3
      refine ⟨fun h => absurd h hd, fun _ h => ?_, fun _ h => ?_, (by repeat' (first | (with_reducible exact Below.refl _ _) | (with_reducible assumption) | (with_reducible refine below_alloc ?_ _ ?_) | (with_reducible refine below_set _ ?_ ?_) | (with_reducible refine Below.drew ?_) | (with_reducible refine below_dN ?_ _) | (apply below_thenA; assumption) | omega | (simp; done) | (simp; omega) | (simp [*]; done)))⟩
      all_goals
        unfold WFit at h
        by_cases hs : (a < 0 ↔ d < 0)
        · obtain ⟨e1, e2⟩ := f1 hs
          rw [e1] at h
          (try rw [e1]); (try rw [e2])
          first | done | (exfalso; omega) | (refine ret_wib ?_ ?_ ?_ <;> omega) | rfl
        · obtain ⟨e1, e2⟩ := f3 hs h3
          rw [e1] at h
          (try rw [e1]); (try rw [e2])
          first | done | (exfalso; omega) | (refine ret_wib ?_ ?_ ?_ <;> omega) | rfl

set_option maxRecDepth 100000 in
set_option maxHeartbeats 1000000 in
theorem wide_div_walk0 (a d hi lo : Int) (hA : Wd hi lo a) (d1 : -9223372036854775808 ≤ d) (d2 : d ≤ 9223372036854775807) (hd : d ≠ 0)
    (Ah Al D qh hm ql R : Int) (EA : absI a / 18446744073709551616 = Ah) (EB : absI a % 18446744073709551616 = Al) (ED : absI d % 18446744073709551616 = D)
    (E1 : Ah / D = qh) (E2 : Ah % D = hm) (E3 : (hm * 18446744073709551616 + Al) / D = ql) (E4 : (hm * 18446744073709551616 + Al) % D = R)
    (A0 : 0 ≤ Ah) (A1 : Ah ≤ 9223372036854775808) (L0 : 0 ≤ Al) (L1 : Al ≤ 18446744073709551615) (D0 : 1 ≤ D) (D1 : D ≤ 9223372036854775808)
    (q0 : 0 ≤ qh) (q1 : qh ≤ 9223372036854775808) (m0 : 0 ≤ hm) (m1 : hm < D) (l0 : 0 ≤ ql) (l1 : ql ≤ 18446744073709551615) (r0 : 0 ≤ R) (r1 : R < D)
    (HQ : Hid (absI a / absI d = qh * 18446744073709551616 + ql)) (HR : Hid (absI a % absI d = R)) (HD : Hid (absI d = D))
    (HS : Hid (R = 0 ∨ qh ≤ 4611686018427387904)) (HB : Hid (qh * 18446744073709551616 + ql ≤ 170141183460469231731687303715884105728)) (h3 : ¬ 0 < R) (w : World) :
    Calls Tryd.prog 113 #[.agg #[.int .i64 hi, .int .u64 lo], .int .i64 d] w (DAns a d w.heap.size w) := by
  obtain ⟨a1, a2, a3, a4, a5⟩ := id hA
  have A5 := Lib.hid a5
  clear a5
  have hD : Wd (d / 18446744073709551616) (d % 18446744073709551616) d := Wd.of (by unfold WFit; omega)
  have HA := Lib.hid hA
  have HDd := Lib.hid hD
  clear hA hD
  have dz : (d == 0) = false := by simpa using hd
  have A1 := add64_0 ql 1 l0 (by decide)
  have hR : R = 0 := by omega
  have HR0 := Lib.hid hR
  clear hR
  by_cases h1 : hi < 0 <;> by_cases h2 : d < 0
  all_goals
    go_enter Tryd.func113, Tryd.ntmps113
    go_wp2_with (first
      | (go_at_call 118; (with_reducible refine (wide_size a hi lo HA.out _).mono ?_); rintro e w' ⟨rfl, hb'⟩; obtain ⟨hc', hf'⟩ := bcell hb'; have hz' := bz2 (n := w.heap.size) hb' (by (try simp) <;> omega); have hs' := hb'.size; (try simp at hs'); (try (have hs2' := Nat.lt_of_succ_le hs')))
      | (go_at_call 118; (with_reducible refine (wide_size d _ _ HDd.out _).mono ?_); rintro e w' ⟨rfl, hb'⟩; obtain ⟨hc', hf'⟩ := bcell hb'; have hz' := bz2 (n := w.heap.size) hb' (by (try simp) <;> omega); have hs' := hb'.size; (try simp at hs'); (try (have hs2' := Nat.lt_of_succ_le hs')))
      | (go_at_call 100; (with_reducible refine (wide_of d d1 d2 _).mono ?_); rintro e w' ⟨rfl, hb'⟩; obtain ⟨hc', hf'⟩ := bcell hb'; have hz' := bz2 (n := w.heap.size) hb' (by (try simp) <;> omega); have hs' := hb'.size; (try simp at hs'); (try (have hs2' := Nat.lt_of_succ_le hs')))
      | (go_at_call 56; (with_reducible refine (div64_any hm Al D m0 m1 (by omega) L0 L1 _).mono ?_); rintro e w' ⟨rfl, hb'⟩; obtain ⟨hc', hf'⟩ := bcell hb'; have hz' := bz2 (n := w.heap.size) hb' (by (try simp) <;> omega); have hs' := hb'.size; (try simp at hs'); (try (have hs2' := Nat.lt_of_succ_le hs')))
      | (go_at_call 119; (with_reducible refine (wide_turned_to (qh * 18446744073709551616 + ql) (wrap64 qh) ql (by unfold wrap64; omega) (by unfold wrap64; omega) l0 l1 (by unfold wrap64; omega) (by have := HB.out; unfold WFit; omega) _).mono ?_); rintro e w' ⟨rfl, hb'⟩; obtain ⟨hc', hf'⟩ := bcell hb'; have hz' := bz2 (n := w.heap.size) hb' (by (try simp) <;> omega); have hs' := hb'.size; (try simp at hs'); (try (have hs2' := Nat.lt_of_succ_le hs'))))
    all_goals
      (go_light; simp [bodyPost, results, Tryd.results113, go_sem, *])
      go_light
      have a5 := A5.out
      have ed := HD.out
      have hB := HB.out
      obtain ⟨f1, f2, f3⟩ := fq_size (a := a) hd
      rw [HQ.out, HR.out] at f1 f2 f3
      rw [HD.out] at f3
      first | rw [if_pos (show d < 0 by omega)] at f1 f3 | rw [if_neg (show ¬ d < 0 by omega)] at f1 f3
      have hR := HR0.out
      unfold wrap64 at *
      refine ⟨fun h => absurd h hd, fun _ h => ?_, fun _ h => ?_, (by repeat' (first | (with_reducible exact Below.refl _ _) | (with_reducible assumption) | (with_reducible refine below_alloc ?_ _ ?_) | (with_reducible refine below_set _ ?_ ?_) | (with_reducible refine Below.drew ?_) | (with_reducible refine below_dN ?_ _) | (apply below_thenA; assumption) | omega | (simp; done) | (simp; omega) | (simp [*]; done)))⟩
      all_goals
        unfold WFit at h
        by_cases hs : (a < 0 ↔ d < 0)
        · obtain ⟨e1, e2⟩ := f1 hs
          rw [e1] at h
          (try rw [e1]); (try rw [e2])
          first | done | (exfalso; omega) | (refine ret_wib ?_ ?_ ?_ <;> omega) | rfl
        · obtain ⟨e1, e2⟩ := f2 hs hR
          rw [e1] at h
          (try rw [e1]); (try rw [e2])
          first | done | (exfalso; omega) | (refine ret_wib ?_ ?_ ?_ <;> omega) | rfl

theorem absI_split (a d : Int) (ha : WFit a) (d1 : -9223372036854775808 ≤ d) (d2 : d ≤ 9223372036854775807) (hd : d ≠ 0) :
    absI a / absI d = absI a / 18446744073709551616 / (absI d % 18446744073709551616) * 18446744073709551616 + (absI a / 18446744073709551616 % (absI d % 18446744073709551616) * 18446744073709551616 + absI a % 18446744073709551616) / (absI d % 18446744073709551616) ∧
    absI a % absI d = (absI a / 18446744073709551616 % (absI d % 18446744073709551616) * 18446744073709551616 + absI a % 18446744073709551616) % (absI d % 18446744073709551616) := by
  have ed : absI d % 18446744073709551616 = absI d := by unfold absI; omega
  have dp : 0 < absI d := by unfold absI; omega
  rw [ed]
  have e := Int.mul_ediv_add_emod (absI a) 18446744073709551616
  have f := Int.mul_ediv_add_emod (absI a / 18446744073709551616) (absI d)
  generalize absI a / 18446744073709551616 = h at *
  generalize absI a % 18446744073709551616 = l at *
  generalize h / absI d = q at *
  generalize h % absI d = m at *
  have e2 : absI a = m * 18446744073709551616 + l + absI d * (q * 18446744073709551616) := by
    rw [← Int.mul_assoc]; omega
  rw [e2, Int.add_mul_ediv_left _ _ (by omega), Int.add_mul_emod_self_left]
  exact ⟨by omega, rfl⟩

theorem wide_div (a d hi lo : Int) (hA : Wd hi lo a) (d1 : -9223372036854775808 ≤ d) (d2 : d ≤ 9223372036854775807) (w : World) :
    Calls Tryd.prog 113 #[.agg #[.int .i64 hi, .int .u64 lo], .int .i64 d] w (DAns a d w.heap.size w) := by
  by_cases hd : d = 0
  · have dz : (d == 0) = true := by simpa using hd
    go_enter Tryd.func113, Tryd.ntmps113
    go_wp2
    simp [bodyPost, results, Tryd.results113, go_sem]
    exact ⟨fun _ => rfl, fun h => absurd hd h, fun h => absurd hd h, (by repeat' (first | (with_reducible exact Below.refl _ _) | (with_reducible assumption) | (with_reducible refine below_alloc ?_ _ ?_) | (with_reducible refine below_set _ ?_ ?_) | (with_reducible refine Below.drew ?_) | (with_reducible refine below_dN ?_ _) | (apply below_thenA; assumption) | omega | (simp; done) | (simp; omega) | (simp [*]; done)))⟩
  · have hf := hA.fit
    have hfa := hf
    unfold WFit at hf
    obtain ⟨s1, s2⟩ := absI_split a d hfa d1 d2 hd
    have da : 1 ≤ absI d := by unfold absI; omega
    have db : absI d ≤ 9223372036854775808 := by unfold absI; omega
    have aa : 0 ≤ absI a := by unfold absI; omega
    have ab : absI a ≤ 170141183460469231731687303715884105728 := by unfold absI; omega
    have ed : absI d % 18446744073709551616 = absI d := by omega
    have kq := Int.ediv_nonneg (show 0 ≤ absI a / 18446744073709551616 by omega) (show 0 ≤ absI d by omega)
    have kq1 : absI a / 18446744073709551616 / absI d ≤ absI a / 18446744073709551616 := Int.ediv_le_self _ (by omega)
    have km := Int.emod_nonneg (absI a / 18446744073709551616) (show absI d ≠ 0 by omega)
    have km1 := Int.emod_lt_of_pos (absI a / 18446744073709551616) (show 0 < absI d by omega)
    have hle : absI a / absI d ≤ absI a := Int.ediv_le_self _ aa
    have hhalf : absI d = 1 ∨ absI a / 18446744073709551616 / absI d ≤ 4611686018427387904 := by
      rcases Int.lt_or_le 1 (absI d) with h | h
      · right
        have : absI a / 18446744073709551616 / absI d * 2 ≤ absI a / 18446744073709551616 / absI d * absI d := Int.mul_le_mul_of_nonneg_left (by omega) kq
        have := Int.ediv_mul_le (absI a / 18446744073709551616) (b := absI d) (by omega)
        omega
      · left; omega
    by_cases hR : 0 < absI a % absI d
    · rw [s2] at hR
      refine wide_div_walkR a d hi lo hA d1 d2 hd _ _ _ _ _ _ _ rfl rfl rfl rfl rfl rfl rfl ?_ ?_ ?_ ?_ ?_ ?_ ?_ ?_ ?_ ?_ ?_ ?_ ?_ ?_ s1 s2 ed.symm ?_ ?_ hR w
      all_goals (try rw [ed])
      · omega
      · omega
      · omega
      · omega
      · omega
      · omega
      · exact kq
      · omega
      · exact km
      · exact km1
      · exact Int.ediv_nonneg (by omega) (by omega)
      · exact Int.le_of_lt_add_one (Int.ediv_lt_of_lt_mul (by omega) (by
          have : absI a / 18446744073709551616 % absI d * 18446744073709551616 + 18446744073709551616 ≤ absI d * 18446744073709551616 := by
            have := Int.mul_le_mul_of_nonneg_right (show absI a / 18446744073709551616 % absI d + 1 ≤ absI d by omega) (show (0 : Int) ≤ 18446744073709551616 by decide)
            omega
          omega))
      · exact Int.emod_nonneg _ (by omega)
      · exact Int.emod_lt_of_pos _ (by omega)
      · show _ ∨ _
        rcases hhalf with h | h
        · left; rw [h]; exact Int.emod_one _
        · right; exact h
      · show _ ≤ _
        rw [ed] at s1
        rw [← s1]
        omega
    · rw [s2] at hR
      refine wide_div_walk0 a d hi lo hA d1 d2 hd _ _ _ _ _ _ _ rfl rfl rfl rfl rfl rfl rfl ?_ ?_ ?_ ?_ ?_ ?_ ?_ ?_ ?_ ?_ ?_ ?_ ?_ ?_ s1 s2 ed.symm ?_ ?_ hR w
      all_goals (try rw [ed])
      · omega
      · omega
      · omega
      · omega
      · omega
      · omega
      · exact kq
      · omega
      · exact km
      · exact km1
      · exact Int.ediv_nonneg (by omega) (by omega)
      · exact Int.le_of_lt_add_one (Int.ediv_lt_of_lt_mul (by omega) (by
          have : absI a / 18446744073709551616 % absI d * 18446744073709551616 + 18446744073709551616 ≤ absI d * 18446744073709551616 := by
            have := Int.mul_le_mul_of_nonneg_right (show absI a / 18446744073709551616 % absI d + 1 ≤ absI d by omega) (show (0 : Int) ≤ 18446744073709551616 by decide)
            omega
          omega))
      · exact Int.emod_nonneg _ (by omega)
      · exact Int.emod_lt_of_pos _ (by omega)
      · show _ ∨ _
        rcases hhalf with h | h
        · left; rw [h]; exact Int.emod_one _
        · right; exact h
      · show _ ≤ _
        rw [ed] at s1
        rw [← s1]
        omega
end Go.Proofs.YtmkblfejoniccaaDoor
namespace Go.Proofs.YtmkblfejoniccaaDoor
open Go.RowKit
set_option linter.unusedSimpArgs false
set_option linter.unusedVariables false

theorem wide_div_some (a d hi lo : Int) (hA : Wd hi lo a) (d1 : -9223372036854775808 ≤ d) (d2 : d ≤ 9223372036854775807) (hd : d ≠ 0) (hf : WFit (fq a d)) (w : World) :
    Calls Tryd.prog 113 #[.agg #[.int .i64 hi, .int .u64 lo], .int .i64 d] w fun e w' => e = .returned (.tuple #[.agg #[.int .i64 ((fq a d) / 18446744073709551616), .int .u64 ((fq a d) % 18446744073709551616)], .int .i64 (fr a d), .bool true]) ∧ Below w.heap.size w w' :=
  (wide_div a d hi lo hA d1 d2 w).mono fun _ _ h => ⟨h.2.1 hd hf, h.2.2.2⟩
theorem wide_div_none (a d hi lo : Int) (hA : Wd hi lo a) (d1 : -9223372036854775808 ≤ d) (d2 : d ≤ 9223372036854775807) (hd : d = 0 ∨ ¬ WFit (fq a d)) (w : World) :
    Calls Tryd.prog 113 #[.agg #[.int .i64 hi, .int .u64 lo], .int .i64 d] w fun e w' => e = .returned (.tuple #[.agg #[.int .i64 0, .int .u64 0], .int .i64 0, .bool false]) ∧ Below w.heap.size w w' :=
  (wide_div a d hi lo hA d1 d2 w).mono fun _ _ h => ⟨by
    by_cases h0 : d = 0
    · exact h.1 h0
    · exact h.2.2.1 h0 (hd.resolve_left h0), h.2.2.2⟩
theorem wide_add_fit (a b h1 l1 h2 l2 : Int) (ha : Wd h1 l1 a) (hb : Wd h2 l2 b) (hf : WFit (a + b)) (w : World) :
    Calls Tryd.prog 99 #[.agg #[.int .i64 h1, .int .u64 l1], .agg #[.int .i64 h2, .int .u64 l2]] w fun e w' => e = .returned (.tuple #[.agg #[.int .i64 ((a + b) / 18446744073709551616), .int .u64 ((a + b) % 18446744073709551616)], .bool true]) ∧ Below w.heap.size w w' :=
  (wide_add a b h1 l1 h2 l2 ha hb w).mono fun _ _ h => ⟨h.1 hf, h.2.2⟩
theorem wide_add_no (a b h1 l1 h2 l2 : Int) (ha : Wd h1 l1 a) (hb : Wd h2 l2 b) (hf : ¬ WFit (a + b)) (w : World) :
    Calls Tryd.prog 99 #[.agg #[.int .i64 h1, .int .u64 l1], .agg #[.int .i64 h2, .int .u64 l2]] w fun e w' => e = .returned (.tuple #[.agg #[.int .i64 0, .int .u64 0], .bool false]) ∧ Below w.heap.size w w' :=
  (wide_add a b h1 l1 h2 l2 ha hb w).mono fun _ _ h => ⟨h.2.1 hf, h.2.2⟩
theorem fq_abs {a d : Int} (hd : d ≠ 0) : (fq a d).natAbs ≤ a.natAbs := by
  have h1 : ∀ x y : Int, 0 < y → (x / y).natAbs ≤ x.natAbs := by
    intro x y hy
    rcases Int.lt_or_le x 0 with hx | hx
    · have := (Int.le_ediv_iff_mul_le hy (a := x) (b := x)).2 (by
        have := Int.mul_le_mul_of_nonpos_left (a := x) (b := y) (c := 1) (by omega) (by omega)
        omega)
      have := Int.ediv_neg_of_neg_of_pos hx hy
      omega
    · have := Int.ediv_le_self y hx
      have := Int.ediv_nonneg hx (show 0 ≤ y by omega)
      omega
  unfold fq
  by_cases h : d < 0
  · rw [if_pos h]
    have := h1 (-a) (-d) (by omega)
    omega
  · rw [if_neg h]
    exact h1 a d (by omega)

/-- What MulDiv answers. -/
def MFit (a b c : Int) : Prop := c ≠ 0 ∧ IFit (fq (a * b) c)
theorem i64_fit {n : Int} (h : IFit n) : WFit n := by unfold IFit at h; unfold WFit; omega
theorem mul_fit {a b : Int} (ha : IFit a) (hb : IFit b) : WFit (a * b) := by
  have := mul_bound a b ha.1 ha.2 hb.1 hb.2
  unfold WFit; omega
theorem fq_fit {a b c : Int} (ha : IFit a) (hb : IFit b) (hc : c ≠ 0) : WFit (fq (a * b) c) := by
  have := mul_bound a b ha.1 ha.2 hb.1 hb.2
  have := fq_abs (a := a * b) hc
  unfold WFit; omega

set_option maxRecDepth 100000 in
set_option maxHeartbeats 400000 in
theorem wide_muldiv_fit (a b c : Int) (ha : IFit a) (hb : IFit b) (hc : IFit c) (h : MFit a b c) (w : World) :
    Calls Tryd.prog 115 #[.int .i64 a, .int .i64 b, .int .i64 c] w fun e w' => e = .returned (.tuple #[.int .i64 (fq (a * b) c), .bool true]) ∧ Below w.heap.size w w' := by
  have h0 := h.1
  have qI := h.2
  have mW := Wd.of (mul_fit ha hb)
  have qW := fq_fit ha hb h0
  have qWd := Wd.of qW
  obtain ⟨a1, a2⟩ := ha
  obtain ⟨b1, b2⟩ := hb
  obtain ⟨c1, c2⟩ := hc
  go_enter Tryd.func115, Tryd.ntmps115
  go_wp2_with (first
    | (go_at_call 96; (with_reducible refine (wide_mul a b a1 a2 b1 b2 _).mono ?_); rintro e w' ⟨rfl, hb'⟩; obtain ⟨hc', hf'⟩ := bcell hb'; have hz' := bz0 (n := w.heap.size) hb' (by (try simp) <;> omega); have hs' := hb'.size; (try simp at hs'); (try (have hs2' := Nat.lt_of_succ_le hs')))
    | (go_at_call 113; (with_reducible refine (wide_div_some (a * b) c _ _ mW c1 c2 h0 qW _).mono ?_); rintro e w' ⟨rfl, hb'⟩; obtain ⟨hc', hf'⟩ := bcell hb'; have hz' := bz0 (n := w.heap.size) hb' (by (try simp) <;> omega); have hs' := hb'.size; (try simp at hs'); (try (have hs2' := Nat.lt_of_succ_le hs')))
    | (go_at_call 97; (with_reducible refine (wide_int_fit (fq (a * b) c) _ _ qWd qI _).mono ?_); rintro e w' ⟨rfl, hb'⟩; obtain ⟨hc', hf'⟩ := bcell hb'; have hz' := bz0 (n := w.heap.size) hb' (by (try simp) <;> omega); have hs' := hb'.size; (try simp at hs'); (try (have hs2' := Nat.lt_of_succ_le hs'))))
  go_ret2
  exact ⟨rfl, (by repeat' (first | (with_reducible exact Below.refl _ _) | (with_reducible assumption) | (with_reducible refine below_alloc ?_ _ ?_) | (with_reducible refine below_set _ ?_ ?_) | (with_reducible refine Below.drew ?_) | (with_reducible refine below_dN ?_ _) | (apply below_thenA; assumption) | omega | (simp; done) | (simp; omega) | (simp [*]; done)))⟩
set_option maxRecDepth 100000 in
set_option maxHeartbeats 400000 in
theorem wide_muldiv_no (a b c : Int) (ha : IFit a) (hb : IFit b) (hc : IFit c) (h : ¬ MFit a b c) (w : World) :
    Calls Tryd.prog 115 #[.int .i64 a, .int .i64 b, .int .i64 c] w fun e w' => e = .returned (.tuple #[.int .i64 0, .bool false]) ∧ Below w.heap.size w w' := by
  have mW := Wd.of (mul_fit ha hb)
  have hx := ha
  have hy := hb
  obtain ⟨a1, a2⟩ := ha
  obtain ⟨b1, b2⟩ := hb
  obtain ⟨c1, c2⟩ := hc
  by_cases h0 : c = 0
  · subst h0
    go_enter Tryd.func115, Tryd.ntmps115
    go_wp2_with (first
      | (go_at_call 96; (with_reducible refine (wide_mul a b a1 a2 b1 b2 _).mono ?_); rintro e w' ⟨rfl, hb'⟩; obtain ⟨hc', hf'⟩ := bcell hb'; have hz' := bz0 (n := w.heap.size) hb' (by (try simp) <;> omega); have hs' := hb'.size; (try simp at hs'); (try (have hs2' := Nat.lt_of_succ_le hs')))
      | (go_at_call 113; (with_reducible refine (wide_div_none (a * b) 0 _ _ mW c1 c2 (.inl rfl) _).mono ?_); rintro e w' ⟨rfl, hb'⟩; obtain ⟨hc', hf'⟩ := bcell hb'; have hz' := bz0 (n := w.heap.size) hb' (by (try simp) <;> omega); have hs' := hb'.size; (try simp at hs'); (try (have hs2' := Nat.lt_of_succ_le hs'))))
    go_ret2
    exact ⟨rfl, (by repeat' (first | (with_reducible exact Below.refl _ _) | (with_reducible assumption) | (with_reducible refine below_alloc ?_ _ ?_) | (with_reducible refine below_set _ ?_ ?_) | (with_reducible refine Below.drew ?_) | (with_reducible refine below_dN ?_ _) | (apply below_thenA; assumption) | omega | (simp; done) | (simp; omega) | (simp [*]; done)))⟩
  · have hn : ¬ IFit (fq (a * b) c) := fun x => h ⟨h0, x⟩
    have h0 : c ≠ 0 := h0
    have qW := fq_fit hx hy h0
    have qWd := Wd.of qW
    go_enter Tryd.func115, Tryd.ntmps115
    go_wp2_with (first
      | (go_at_call 96; (with_reducible refine (wide_mul a b a1 a2 b1 b2 _).mono ?_); rintro e w' ⟨rfl, hb'⟩; obtain ⟨hc', hf'⟩ := bcell hb'; have hz' := bz0 (n := w.heap.size) hb' (by (try simp) <;> omega); have hs' := hb'.size; (try simp at hs'); (try (have hs2' := Nat.lt_of_succ_le hs')))
      | (go_at_call 113; (with_reducible refine (wide_div_some (a * b) c _ _ mW c1 c2 h0 qW _).mono ?_); rintro e w' ⟨rfl, hb'⟩; obtain ⟨hc', hf'⟩ := bcell hb'; have hz' := bz0 (n := w.heap.size) hb' (by (try simp) <;> omega); have hs' := hb'.size; (try simp at hs'); (try (have hs2' := Nat.lt_of_succ_le hs')))
      | (go_at_call 97; (with_reducible refine (wide_int_no (fq (a * b) c) _ _ qWd hn _).mono ?_); rintro e w' ⟨rfl, hb'⟩; obtain ⟨hc', hf'⟩ := bcell hb'; have hz' := bz0 (n := w.heap.size) hb' (by (try simp) <;> omega); have hs' := hb'.size; (try simp at hs'); (try (have hs2' := Nat.lt_of_succ_le hs'))))
    go_ret2
    exact ⟨rfl, (by repeat' (first | (with_reducible exact Below.refl _ _) | (with_reducible assumption) | (with_reducible refine below_alloc ?_ _ ?_) | (with_reducible refine below_set _ ?_ ?_) | (with_reducible refine Below.drew ?_) | (with_reducible refine below_dN ?_ _) | (apply below_thenA; assumption) | omega | (simp; done) | (simp; omega) | (simp [*]; done)))⟩
end Go.Proofs.YtmkblfejoniccaaDoor
namespace Go.Proofs.YtmkblfejoniccaaDoor
open Go Go.RowKit
section
variable {P : Program} {ops : Array Oper} {Q : Exit → Act → World → Prop} {md : Region.Mode}

/-- Whatever an operation waits for stands ahead of it in the text. -/
def earlier (ops : Array Oper) : Bool := (List.range ops.size).all fun i => ((ops[i]?).map fun o => o.after.all fun e => !Region.binds .any e || decide (e.on < i)).getD true
theorem earlier_spec (h : earlier ops = true) {i : Nat} {o : Oper} (ho : ops[i]? = some o) {e : Edge} (he : e ∈ o.after) (hb : Region.binds .any e = true) : e.on < i := by
  have hlt : i < ops.size := (Array.getElem?_eq_some_iff.1 ho).1
  unfold earlier at h
  have h1 := List.all_eq_true.1 h i (List.mem_range.2 hlt)
  rw [ho] at h1
  simp only [Option.map_some, Option.getD_some, Array.all_eq_true_iff_forall_mem, Bool.or_eq_true, decide_eq_true_eq] at h1
  exact (h1 e he).resolve_left (by simp [hb])
/-- Does operation i wait for operation k, through others too? -/
def anc (ops : Array Oper) : Nat → Nat → Nat → Bool
  | 0, _, _ => false
  | f + 1, i, k => ((ops[i]?).map fun o => o.after.toList.any fun e => Region.binds .any e && (e.on == k || anc ops f e.on k)).getD false
/-- Whatever has come up, all for which it waits has come up. -/
def closed (ops : Array Oper) (listed : Array Bool) : Prop :=
  ∀ i o, ops[i]? = some o → listed.getD i false = true → ∀ e ∈ o.after, Region.binds .any e = true → listed.getD e.on false = true
theorem anc_listed {listed : Array Bool} (hc : closed ops listed) : ∀ (f i k : Nat),
    (∀ o, ops[i]? = some o → ∀ e ∈ o.after, Region.binds .any e = true → listed.getD e.on false = true) → anc ops f i k = true → listed.getD k false = true
  | 0, _, _, _, h => by simp [anc] at h
  | f + 1, i, k, hd, h => by
    unfold anc at h
    cases ho : ops[i]? with
    | none => rw [ho] at h; simp at h
    | some o =>
      rw [ho] at h
      simp only [Option.map_some, Option.getD_some, List.any_eq_true, Array.mem_toList_iff, Bool.and_eq_true, Bool.or_eq_true, beq_iff_eq] at h
      obtain ⟨e, he, hb, h⟩ := h
      have hl := hd o ho e he hb
      rcases h with rfl | h
      · exact hl
      · exact anc_listed hc f e.on k (fun o' ho' => hc e.on o' ho' hl) h
theorem all_listed (h : earlier ops = true) {listed : Array Bool} (hs : listed.size = ops.size) (hr : Region.ready .any ops listed = []) :
    ∀ i, i < ops.size → listed.getD i false = true := by
  intro i
  induction i using Nat.strongRecOn with
  | ind i ih =>
    intro hi
    cases hg : listed.getD i false with
    | true => rfl
    | false =>
      have ho : ops[i]? = some ops[i] := Array.getElem?_eq_getElem hi
      have h1 : i ∈ Region.ready .any ops listed := by
        rw [mem_ready]
        refine ⟨?_, ops[i], ho, fun e he hb => ?_⟩
        · have hl : i < listed.size := by omega
          simp [hl] at hg ⊢
          exact hg
        · have := earlier_spec h ho he hb
          exact ih e.on this (by omega)
      rw [hr] at h1
      cases h1
def upd (vs : Nat → Value) (i : Nat) (v : Value) : Nat → Value := fun k => if k = i then v else vs k
theorem upd_self (vs : Nat → Value) (i : Nat) (v : Value) : upd vs i v i = v := by simp [upd]
theorem upd_ne (vs : Nat → Value) (i : Nat) (v : Value) (k : Nat) (h : k ≠ i) : upd vs i v k = vs k := by simp [upd, h]
theorem set_size (listed : Array Bool) (i : Nat) : (listed.setIfInBounds i true).size = listed.size := by simp
theorem getD_self {listed : Array Bool} {i : Nat} (h : i < listed.size) : (listed.setIfInBounds i true).getD i false = true := by simp [h]
theorem wpAny_inv (he : earlier ops = true) (I : Array Bool → Act → World → Prop)
    (step : ∀ listed a w, listed.size = ops.size → closed ops listed → I listed a w → ∀ i, i ∈ Region.ready .any ops listed → wpOp P ops Q i (I (listed.setIfInBounds i true)) a w)
    (fin : ∀ listed a w, (∀ i, i < ops.size → listed.getD i false = true) → I listed a w → Q .normal a w) :
    ∀ (fuel : Nat) (listed : Array Bool) (a : Act) (w : World), listed.size = ops.size → closed ops listed → listed.toList.count false ≤ fuel → I listed a w → wpAny P .any ops Q fuel listed a w
  | 0, listed, a, w, hs, hc, hf, hI => by
    have h0 : ∀ i, i < ops.size → listed.getD i false = true := by
      intro i hi
      have hl : i < listed.size := by omega
      have h1 := List.count_eq_zero.1 (Nat.le_zero.1 hf)
      cases hg : listed[i] with
      | true => simp [hl, hg]
      | false => exact absurd (by rw [← hg, ← Array.getElem_toList]; exact List.getElem_mem _) h1
    refine ⟨?_, fin listed a w h0 hI⟩
    rw [List.eq_nil_iff_forall_not_mem]
    intro i hi
    obtain ⟨h1, o, ho, _⟩ := mem_ready.1 hi
    have hlt : i < ops.size := (Array.getElem?_eq_some_iff.1 ho).1
    have h2 := h0 i hlt
    have hl : i < listed.size := by omega
    simp [hl] at h1 h2
    rw [h1] at h2; cases h2
  | fuel + 1, listed, a, w, hs, hc, hf, hI => by
    refine ⟨fun hr => fin listed a w (all_listed he hs hr) hI, fun i hi => ?_⟩
    obtain ⟨h1, o, ho, hdep⟩ := mem_ready.1 hi
    have hlt : i < ops.size := (Array.getElem?_eq_some_iff.1 ho).1
    have hl : i < listed.size := by omega
    refine wpOp_mono (fun a' w' h => wpAny_inv he I step fin fuel _ a' w' (by rw [set_size]; exact hs) ?_ ?_ h) (step listed a w hs hc hI i hi)
    · intro j oj hj hjl e hej hb
      by_cases hij : j = i
      · subst hij
        rw [ho] at hj
        obtain rfl := Option.some.inj hj
        exact getD_set_true (hdep e hej hb)
      · rw [getD_set_ne false (fun h => hij h.symm)] at hjl
        exact getD_set_true (hc j oj hj hjl e hej hb)
    · have h2 : listed[i] = false := by simpa [hl] using h1
      have h3 : (listed.setIfInBounds i true).toList.count false + 1 = listed.toList.count false := by
        rw [Array.toList_setIfInBounds, List.count_set (by simpa using hl)]
        have h4 : listed.toList[i]'(by simpa using hl) = false := by simpa using h2
        rw [h4]
        have h5 : 0 < listed.toList.count false := List.count_pos_iff.2 (by rw [← h4]; exact List.getElem_mem _)
        simp only [beq_self_eq_true, if_true]
        have h6 : (true == false) = false := rfl
        rw [h6]
        simp only [Bool.false_eq_true, if_false]
        omega
      omega
/-- The state of a region: which temporaries hold what; what stands in memory. -/
theorem wp_region_each {id : Nat} {a : Act} {w : World} (hm : P.follows .mixedOrders = true) (he : earlier ops = true)
    (fr : (Nat → Value) → Act) (B : World → Prop) (V : Nat → (Nat → Value) → World → Prop) (vs0 : Nat → Value) (ha : fr vs0 = a) (hB : B w.drew)
    (step : ∀ i o, ops[i]? = some o → ∀ vs w, B w → (∀ k, anc ops ops.size i k = true → V k vs w) → ∀ K : Act → World → Prop,
      Shut (∀ v w', B w' → V i (upd vs i v) w' → (∀ j, j ≠ i → anc ops ops.size j i = false → V j vs w → V j (upd vs i v) w') → K (fr (upd vs i v)) w') →
      if Region.wanted o (yielded ops (fr vs).tmps) = true then Oper.wp P o (fr vs) w K Q else K ((fr vs).put o.dst undef) w)
    (fin : ∀ vs w, B w → (∀ i, i < ops.size → V i vs w) → Q .normal (fr vs) w) : (Code.region id ops true).wp P Q a w := by
  refine wp_region_any hm ?_
  refine wpAny_inv he (fun listed a w => ∃ vs, a = fr vs ∧ B w ∧ ∀ i, listed.getD i false = true → V i vs w) ?_ ?_ _ _ _ _ (by simp) ?_ (by simp) ⟨vs0, ha.symm, hB, ?_⟩
  · rintro listed a w hs hc ⟨vs, rfl, hB, hV⟩ i hi
    obtain ⟨h1, o, ho, hdep⟩ := mem_ready.1 hi
    have hlt : i < ops.size := (Array.getElem?_eq_some_iff.1 ho).1
    have hl : i < listed.size := by omega
    have h2 : listed.getD i false = false := by simp [hl] at h1 ⊢; exact h1
    refine wpOp_step ho (fun K hK => ?_)
    refine step i o ho vs w hB (fun k hk => hV k (anc_listed hc _ i k (fun o' ho' => ?_) hk)) K (fun v w' hB' hv hrest => hK _ _ ⟨upd vs i v, rfl, hB', fun j hj => ?_⟩)
    · rw [ho] at ho'
      obtain rfl := Option.some.inj ho'
      exact hdep
    · by_cases hji : j = i
      · subst hji; exact hv
      · rw [getD_set_ne false (fun h => hji h.symm)] at hj
        refine hrest j hji ?_ (hV j hj)
        cases ha : anc ops ops.size j i with
        | false => rfl
        | true =>
          have := anc_listed hc _ j i (fun o' ho' => hc j o' ho' hj) ha
          rw [h2] at this; cases this
  · rintro listed a w hall ⟨vs, rfl, hB, hV⟩
    exact fin vs w hB (fun i hi => hV i (hall i hi))
  · intro i o _ h
    rw [Array.getD_eq_getD_getElem?, Array.getElem?_replicate] at h
    split at h <;> simp at h
  · intro i h
    rw [Array.getD_eq_getD_getElem?, Array.getElem?_replicate] at h
    split at h <;> simp at h
/-- The same, where what is known of a value hangs on no other one, and lasts. -/
theorem wp_region_vals {id : Nat} {a : Act} {w : World} (hm : P.follows .mixedOrders = true) (he : earlier ops = true)
    (fr : (Nat → Value) → Act) (E : World → World → Prop) (B : World → Prop) (V : Nat → Value → World → Prop) (vs0 : Nat → Value) (ha : fr vs0 = a) (hB : B w.drew)
    (hBE : ∀ w w', B w → E w w' → B w') (hVE : ∀ k v w w', B w → V k v w → E w w' → V k v w')
    (step : ∀ i o, ops[i]? = some o → ∀ vs w, B w → (∀ k, anc ops ops.size i k = true → V k (vs k) w) → ∀ K : Act → World → Prop,
      Shut (∀ v w', E w w' → V i v w' → K (fr (upd vs i v)) w') →
      if Region.wanted o (yielded ops (fr vs).tmps) = true then Oper.wp P o (fr vs) w K Q else K ((fr vs).put o.dst undef) w)
    (fin : ∀ vs w, B w → (∀ i, i < ops.size → V i (vs i) w) → Q .normal (fr vs) w) : (Code.region id ops true).wp P Q a w :=
  wp_region_each hm he fr B (fun k vs w => V k (vs k) w) vs0 ha hB
    (fun i o ho vs w hB hd K hK => step i o ho vs w hB hd K (fun v w' hE hv => hK v w' (hBE w w' hB hE) (by rw [upd_self]; exact hv)
      (fun j hj _ h => by rw [upd_ne _ _ _ _ hj]; exact hVE j _ w w' hB h hE)))
    fin
/-- A state into whose temporaries the region's values are put. -/
def puts : List Oper → Nat → (Nat → Value) → Act → Act
  | [], _, _, a => a
  | o :: os, i, vs, a => puts os (i + 1) vs (a.put o.dst (vs i))
def dsts (os : List Oper) : List Tmp := os.filterMap (·.dst)
def nodupB : List Nat → Bool
  | [] => true
  | x :: xs => !xs.contains x && nodupB xs
theorem puts_put_ne : ∀ (os : List Oper) (i : Nat) (vs : Nat → Value) (a : Act) (d : Option Tmp) (v : Value), (∀ t, d = some t → t ∉ dsts os) →
    (puts os i vs a).put d v = puts os i vs (a.put d v)
  | [], _, _, _, _, _, _ => rfl
  | o :: os, i, vs, a, d, v, h => by
    unfold puts
    rw [puts_put_ne os (i + 1) vs _ d v (fun t ht hm => h t ht (by
      unfold dsts at *
      rw [List.filterMap_cons]
      split
      · exact hm
      · exact List.mem_cons_of_mem _ hm))]
    congr 1
    refine Act.put_comm a _ _ fun t ht he => ?_
    refine h t (by rw [he]) ?_
    unfold dsts
    rw [List.filterMap_cons, ht]
    exact List.mem_cons_self ..
theorem put_put (a : Act) (d : Option Tmp) (u v : Value) : (a.put d u).put d v = a.put d v := by
  cases d with
  | none => rfl
  | some t => simp [Act.put]
theorem puts_upd : ∀ (os : List Oper) (i j : Nat) (o : Oper) (vs : Nat → Value) (v : Value) (a : Act), nodupB (dsts os) = true → os[j]? = some o →
    (puts os i vs a).put o.dst v = puts os i (upd vs (i + j) v) a
  | [], _, _, _, _, _, _, _, h => by simp at h
  | o' :: os, i, j, o, vs, v, a, hn, h => by
    have hn' : nodupB (dsts os) = true := by
      unfold dsts at hn ⊢
      rw [List.filterMap_cons] at hn
      split at hn
      · exact hn
      · unfold nodupB at hn; rw [Bool.and_eq_true] at hn; exact hn.2
    cases j with
    | zero =>
      simp only [List.getElem?_cons_zero, Option.some.injEq] at h
      subst h
      unfold puts
      have e0 : i + 0 = i := rfl
      rw [e0, upd_self]
      have e : ∀ (a : Act), puts os (i + 1) (upd vs i v) a = puts os (i + 1) vs a := by
        intro a
        have : ∀ (os : List Oper) (k : Nat) (a : Act), i < k → puts os k (upd vs i v) a = puts os k vs a := by
          intro os
          induction os with
          | nil => intros; rfl
          | cons x xs ih =>
            intro k a hk
            unfold puts
            rw [upd_ne vs i v k (by omega)]
            exact ih (k + 1) _ (by omega)
        exact this os (i + 1) a (by omega)
      rw [e]
      rw [puts_put_ne os (i + 1) vs _ o'.dst v (fun t ht hm => by
        unfold dsts at hn hm
        rw [List.filterMap_cons, ht] at hn
        unfold nodupB at hn
        rw [Bool.and_eq_true] at hn
        have := hn.1
        simp at this
        simp at hm
        obtain ⟨x, hx, hxe⟩ := hm
        exact this x hx hxe)]
      rw [put_put]
    | succ j =>
      simp only [List.getElem?_cons_succ] at h
      unfold puts
      rw [puts_upd os (i + 1) j o vs v _ hn' h]
      rw [upd_ne vs (i + (j + 1)) v i (by omega)]
      rw [show i + 1 + j = i + (j + 1) by omega]
/-- What the temporaries hold before the region. -/
def held (os : List Oper) (a : Act) : Nat → Value := fun i => match os[i]? with | some o => (match o.dst with | some d => a.tmps.getD d undef | none => undef) | none => undef
theorem put_same (a : Act) (d : Option Tmp) : a.put d (match d with | some d => a.tmps.getD d undef | none => undef) = a := by
  cases d with
  | none => rfl
  | some t =>
    unfold Act.put
    simp only
    have : a.tmps.setIfInBounds t (a.tmps.getD t undef) = a.tmps := by
      apply Array.ext_getElem?
      intro i
      rw [Array.getElem?_setIfInBounds]
      split
      · rename_i h
        subst h
        split
        · rename_i h; simp [h]
        · rename_i h; simp at h; simp [Array.getElem?_eq_none h]
      · rfl
    rw [this]
theorem puts_held : ∀ (os : List Oper) (i : Nat) (vs : Nat → Value) (a : Act), (∀ j o, os[j]? = some o → vs (i + j) = (match o.dst with | some d => a.tmps.getD d undef | none => undef)) → puts os i vs a = a
  | [], _, _, _, _ => rfl
  | o :: os, i, vs, a, h => by
    unfold puts
    have h0 := h 0 o rfl
    rw [Nat.add_zero] at h0
    rw [h0, put_same]
    refine puts_held os (i + 1) vs a fun j o' ho' => ?_
    have := h (j + 1) o' (by simpa using ho')
    rw [← this]; congr 1; omega
/-- Each of the operations. -/
def Each (ops : Array Oper) (S : Nat → Oper → Prop) : List Oper → Nat → Prop
  | [], _ => True
  | o :: os, i => S i o ∧ Each ops S os (i + 1)
theorem Each.at {S : Nat → Oper → Prop} : ∀ (os : List Oper) (i : Nat), Each ops S os i → ∀ j o, os[j]? = some o → S (i + j) o
  | [], _, _, _, _, h => by simp at h
  | o' :: os, i, h, j, o, ho => by
    cases j with
    | zero =>
      simp only [List.getElem?_cons_zero, Option.some.injEq] at ho
      subst ho; exact h.1
    | succ j =>
      simp only [List.getElem?_cons_succ] at ho
      have := Each.at os (i + 1) h.2 j o ho
      rwa [show i + 1 + j = i + (j + 1) by omega] at this
/-- A claim on a value lasts, whatever is added to memory. -/
def Stays (R : Value → World → Prop) : Prop := ∀ v w w', R v w → Below w.heap.size w w' → R v w'
/-- What an operation leaves: a value of which something holds; or something holds now of another one's value. -/
inductive Cl
  | any
  | own (R : Value → World → Prop) (h : Stays R)
  | at (j : Nat) (R : Value → World → Prop) (h : Stays R)
def Cl.holds (i : Nat) (vs : Nat → Value) (w : World) : Cl → Prop
  | .any => True
  | .own R _ => R (vs i) w
  | .at j R _ => R (vs j) w
def Cl.looks : Cl → Option Nat
  | .at j _ _ => some j
  | _ => none
theorem Cl.below {i : Nat} {vs : Nat → Value} {w w' : World} (hb : Below w.heap.size w w') : ∀ c : Cl, c.holds i vs w → c.holds i vs w'
  | .any, _ => trivial
  | .own _ h, x => h _ _ _ x hb
  | .at _ _ h, x => h _ _ _ x hb
theorem Cl.upd_ne {k i : Nat} {vs : Nat → Value} {v : Value} {w : World} (hk : k ≠ i) : ∀ c : Cl, c.looks ≠ some i → c.holds k vs w → c.holds k (upd vs i v) w
  | .any, _, _ => trivial
  | .own _ _, _, x => by simp only [Cl.holds, Go.Proofs.YtmkblfejoniccaaDoor.upd_ne vs i v k hk] at x ⊢; exact x
  | .at j _ _, h, x => by
    have hj : j ≠ i := fun e => h (by rw [e]; rfl)
    simp only [Cl.holds, Go.Proofs.YtmkblfejoniccaaDoor.upd_ne vs i v j hj] at x ⊢; exact x
def claim (cls : List Cl) (k : Nat) (vs : Nat → Value) (w : World) : Prop := (cls.getD k .any).holds k vs w
/-- What a claim looks at comes ahead of its operation. -/
def looksOk (os : List Oper) (ls : List (Option Nat)) : Bool :=
  (List.range os.length).all fun k => match ls.getD k none with | some j => anc os.toArray os.length k j | none => true
theorem looksOk_spec {os : List Oper} {cls : List Cl} (h : looksOk os (cls.map Cl.looks) = true) {k j : Nat} (hk : k < os.length) (hj : (cls.getD k .any).looks = some j) : anc os.toArray os.length k j = true := by
  unfold looksOk at h
  have := List.all_eq_true.1 h k (List.mem_range.2 hk)
  have e : (cls.map Cl.looks).getD k none = (cls.getD k .any).looks := by
    simp only [List.getD, List.getElem?_map]
    cases cls[k]? <;> rfl
  rw [e, hj] at this
  exact this
def isPtr (v : Value) (b : Nat) : Prop := v = .pointer (some ⟨b, 0, none⟩)
/-- One operation: it leaves a value that is as it should be; whatever is known lasts: since nothing that stood is touched (hK; hA where a new box is made), or for each by itself (hL). B holds all along; B0 till an operation of ST has come up. -/
def StepAt (P : Program) (Q : Exit → Act → World → Prop) (os : List Oper) (a : Act) (B : World → Prop) (ST : List Nat) (B0 : World → Prop) (cls : List Cl) (AL : List Nat) (i : Nat) (o : Oper) : Prop :=
  ∀ vs w, B w → ((ST.all fun s => s == i || anc os.toArray os.length s i) = true → B0 w) → (∀ k, anc os.toArray os.length i k = true → claim cls k vs w) →
    (∀ j k, j ≠ k → (AL.contains j && AL.contains k && anc os.toArray os.length i j && anc os.toArray os.length i k) = true → vs j ≠ vs k) →
    (∀ k, (k == i || anc os.toArray os.length k i) = true → vs k = held os a k) → ∀ K : Act → World → Prop,
    Shut (AL.contains i = false → ∀ v w', Below w.heap.size w w' → claim cls i (upd vs i v) w' → K ((puts os 0 vs a).put o.dst v) w') →
    Shut (∀ b w', Below w.heap.size w w' → w.heap.size ≤ b → claim cls i (upd vs i (.pointer (some ⟨b, 0, none⟩))) w' → K ((puts os 0 vs a).put o.dst (.pointer (some ⟨b, 0, none⟩))) w') →
    Shut (AL.contains i = false → ∀ v w', B w' → (ST.contains i = false → B0 w') → claim cls i (upd vs i v) w' → (∀ j, j ≠ i → anc os.toArray os.length j i = false → claim cls j vs w → claim cls j vs w') → K ((puts os 0 vs a).put o.dst v) w') →
    if Region.wanted o (yielded os.toArray (puts os 0 vs a).tmps) = true then Oper.wp P o (puts os 0 vs a) w K Q else K ((puts os 0 vs a).put o.dst undef) w
theorem wp_region_cl {os : List Oper} {id : Nat} {a : Act} {w : World} (B : World → Prop) (ST : List Nat) (B0 : World → Prop) (cls : List Cl) (AL : List Nat)
    (hm : P.follows .mixedOrders = true) (he : earlier os.toArray = true) (hn : nodupB (dsts os) = true) (hU : looksOk os (cls.map Cl.looks) = true) (hB : B w.drew) (hB0 : B0 w.drew)
    (hBE : ∀ w w', B w → Below w.heap.size w w' → B w') (hBE0 : ∀ w w', B w → B0 w → Below w.heap.size w w' → B0 w')
    (hAL : ∀ k vs w, AL.contains k = true → claim cls k vs w → ∃ b, isPtr (vs k) b ∧ b < w.heap.size)
    (step : Each os.toArray (StepAt P Q os a B ST B0 cls AL) os 0)
    (fin : ∀ vs w, B w → (∀ i, i < os.length → claim cls i vs w) → (∀ j k, j ≠ k → j < os.length → k < os.length → (AL.contains j && AL.contains k) = true → vs j ≠ vs k) → Q .normal (puts os 0 vs a) w) :
    (Code.region id os.toArray true).wp P Q a w := by
  have hsz : os.toArray.size = os.length := by simp
  refine wp_region_any hm ?_
  refine wpAny_inv he (fun listed a' w => ∃ vs, a' = puts os 0 vs a ∧ B w ∧ ((∀ s, ST.contains s = true → listed.getD s false = false) → B0 w) ∧ (∀ i, listed.getD i false = true → claim cls i vs w) ∧ (∀ i, listed.getD i false = false → vs i = held os a i) ∧
    (∀ j k, j ≠ k → (AL.contains j && AL.contains k) = true → listed.getD j false = true → listed.getD k false = true → vs j ≠ vs k)) ?_ ?_ _ _ _ _ (by simp) ?_ (by simp)
    ⟨held os a, ?_, hB, fun _ => hB0, ?_, fun _ _ => rfl, ?_⟩
  · rintro listed a' w hs hc ⟨vs, rfl, hB, hS, hV, hold, hne⟩ i hi
    obtain ⟨h1, o, ho, hdep⟩ := mem_ready.1 hi
    have hlt : i < os.toArray.size := (Array.getElem?_eq_some_iff.1 ho).1
    have hl : i < listed.size := by omega
    have h2 : listed.getD i false = false := by simp [hl] at h1 ⊢; exact h1
    have ho' : os[i]? = some o := by simpa using ho
    have hanc : ∀ k, anc os.toArray os.length i k = true → listed.getD k false = true := fun k hk => anc_listed hc _ i k (fun o' ho'' => by
      rw [ho] at ho''
      obtain rfl := Option.some.inj ho''
      exact hdep) hk
    have hnot : ∀ j, listed.getD j false = true → anc os.toArray os.length j i = false := fun j hj => by
      cases ha : anc os.toArray os.length j i with
      | false => rfl
      | true =>
        have := anc_listed hc _ j i (fun o' ho' => hc j o' ho' hj) ha
        rw [h2] at this; cases this
    have hlooks : ∀ j, listed.getD j false = true → (cls.getD j .any).looks ≠ some i := fun j hj e => by
      have hjl : j < os.length := by
        have hjs : j < listed.size := by
          rcases Nat.lt_or_ge j listed.size with h' | h'
          · exact h'
          · rw [Array.getD_eq_getD_getElem?, Array.getElem?_eq_none h'] at hj; cases hj
        omega
      have := looksOk_spec hU hjl e
      rw [hnot j hj] at this; cases this
    have hji : ∀ j, (listed.setIfInBounds i true).getD j false = true → j ≠ i → listed.getD j false = true := fun j hj h => by
      rwa [getD_set_ne false (fun x => h x.symm)] at hj
    have hneU : ∀ v, (AL.contains i = true → ∃ b, v = .pointer (some ⟨b, 0, none⟩) ∧ w.heap.size ≤ b) →
        ∀ j k, j ≠ k → (AL.contains j && AL.contains k) = true → (listed.setIfInBounds i true).getD j false = true → (listed.setIfInBounds i true).getD k false = true → upd vs i v j ≠ upd vs i v k := by
      intro v hv j k hjk hal hj hk
      rw [Bool.and_eq_true] at hal
      by_cases h1 : j = i
      · subst h1
        have hki : k ≠ j := fun h => hjk h.symm
        rw [upd_self, upd_ne vs j v k hki]
        obtain ⟨b, rfl, hb⟩ := hv hal.1
        obtain ⟨b', e', hb'⟩ := hAL k vs w hal.2 (hV k (hji k hk hki))
        unfold isPtr at e'
        rw [e']
        intro e; simp at e <;> omega
      · by_cases h3 : k = i
        · subst h3
          rw [upd_self, upd_ne vs k v j h1]
          obtain ⟨b, rfl, hb⟩ := hv hal.2
          obtain ⟨b', e', hb'⟩ := hAL j vs w hal.1 (hV j (hji j hj h1))
          unfold isPtr at e'
          rw [e']
          intro e; simp at e <;> omega
        · rw [upd_ne vs i v j h1, upd_ne vs i v k h3]
          exact hne j k hjk (by rw [Bool.and_eq_true]; exact hal) (hji j hj h1) (hji k hk h3)
    refine wpOp_step ho (fun K hK => ?_)
    have hs1 := Each.at os 0 step i o ho'
    rw [Nat.zero_add] at hs1
    have hnst : (ST.all fun s => s == i || anc os.toArray os.length s i) = true → ∀ s, ST.contains s = true → listed.getD s false = false := by
      intro h s hs
      have h1 := List.all_eq_true.1 h s (by simpa using hs)
      rw [Bool.or_eq_true] at h1
      rcases h1 with h1 | h1
      · obtain rfl : s = i := by simpa using h1
        exact h2
      · cases hg : listed.getD s false with
        | false => rfl
        | true => rw [hnot s hg] at h1; cases h1
    have hup : (∀ s, ST.contains s = true → (listed.setIfInBounds i true).getD s false = false) → ST.contains i = false ∧ ∀ s, ST.contains s = true → listed.getD s false = false := by
      intro h
      refine ⟨?_, fun s hs => ?_⟩
      · cases hg : ST.contains i with
        | false => rfl
        | true => have := h i hg; rw [getD_self hl] at this; cases this
      · cases hg : listed.getD s false with
        | false => rfl
        | true => have := h s hs; rw [getD_set_true hg] at this; cases this
    have hholdU : ∀ v j, (listed.setIfInBounds i true).getD j false = false → upd vs i v j = held os a j := by
      intro v j hj
      have hji' : j ≠ i := fun e => by subst e; rw [getD_self hl] at hj; cases hj
      rw [upd_ne vs i v j hji']
      rw [getD_set_ne false (fun x => hji' x.symm)] at hj
      exact hold j hj
    have hholdI : ∀ k, (k == i || anc os.toArray os.length k i) = true → vs k = held os a k := by
      intro k hk
      refine hold k ?_
      rw [Bool.or_eq_true] at hk
      rcases hk with h | h
      · obtain rfl : k = i := by simpa using h
        exact h2
      · cases hg : listed.getD k false with
        | false => rfl
        | true => rw [hnot k hg] at h; cases h
    refine hs1 vs w hB (fun h => hS (hnst h)) (fun k hk => hV k (hanc k hk)) (fun j k hjk h => ?_) hholdI K (fun hal v w' hb hv => ?_) (fun b w' hb hbl hv => ?_) (fun hal v w' hB' hB0' hv hr => ?_)
    · simp only [Bool.and_eq_true] at h
      exact hne j k hjk (by rw [Bool.and_eq_true]; exact ⟨h.1.1.1, h.1.1.2⟩) (hanc j h.1.2) (hanc k h.2)
    · rw [puts_upd os 0 i o vs v a hn ho', Nat.zero_add]
      refine hK _ _ ⟨upd vs i v, rfl, hBE w w' hB hb, fun h => hBE0 w w' hB (hS (hup h).2) hb, fun j hj => ?_, hholdU _, hneU v (fun h => by rw [hal] at h; cases h)⟩
      by_cases h : j = i
      · subst h; exact hv
      · exact Cl.upd_ne h _ (hlooks j (hji j hj h)) (Cl.below hb _ (hV j (hji j hj h)))
    · rw [puts_upd os 0 i o vs _ a hn ho', Nat.zero_add]
      refine hK _ _ ⟨upd vs i _, rfl, hBE w w' hB hb, fun h => hBE0 w w' hB (hS (hup h).2) hb, fun j hj => ?_, hholdU _, hneU _ (fun h => ⟨b, rfl, hbl⟩)⟩
      by_cases h : j = i
      · subst h; exact hv
      · exact Cl.upd_ne h _ (hlooks j (hji j hj h)) (Cl.below hb _ (hV j (hji j hj h)))
    · rw [puts_upd os 0 i o vs v a hn ho', Nat.zero_add]
      refine hK _ _ ⟨upd vs i v, rfl, hB', fun h => hB0' (hup h).1, fun j hj => ?_, hholdU _, hneU v (fun h => by rw [hal] at h; cases h)⟩
      by_cases h : j = i
      · subst h; exact hv
      · exact Cl.upd_ne h _ (hlooks j (hji j hj h)) (hr j h (hnot j (hji j hj h)) (hV j (hji j hj h)))
  · rintro listed a' w hall ⟨vs, rfl, hB, hS, hV, _, hne⟩
    rw [hsz] at hall
    exact fin vs w hB (fun i hi => hV i (hall i hi)) (fun j k hjk hj hk hal => hne j k hjk hal (hall j hj) (hall k hk))
  · intro i o _ h
    rw [Array.getD_eq_getD_getElem?, Array.getElem?_replicate] at h
    split at h <;> simp at h
  · refine (puts_held os 0 _ a fun j o ho => ?_).symm
    rw [Nat.zero_add]
    unfold held
    rw [ho]
  · intro i h
    rw [Array.getD_eq_getD_getElem?, Array.getElem?_replicate] at h
    split at h <;> simp at h
  · intro j k _ _ h
    rw [Array.getD_eq_getD_getElem?, Array.getElem?_replicate] at h
    split at h <;> simp at h
/-- The same, where no operation panics. -/
theorem wp_region_calm {os : List Oper} {id : Nat} {a : Act} {w : World} (B : World → Prop) (ST : List Nat) (B0 : World → Prop) (cls : List Cl) (AL : List Nat)
    (hm : P.follows .mixedOrders = true) (he : earlier os.toArray = true) (hn : nodupB (dsts os) = true) (hU : looksOk os (cls.map Cl.looks) = true) (hB : B w.drew) (hB0 : B0 w.drew)
    (hBE : ∀ w w', B w → Below w.heap.size w w' → B w') (hBE0 : ∀ w w', B w → B0 w → Below w.heap.size w w' → B0 w')
    (hAL : ∀ k vs w, AL.contains k = true → claim cls k vs w → ∃ b, isPtr (vs k) b ∧ b < w.heap.size)
    (step : ∀ Q : Exit → Act → World → Prop, Each os.toArray (StepAt P Q os a B ST B0 cls AL) os 0)
    (fin : ∀ vs w, B w → (∀ i, i < os.length → claim cls i vs w) → (∀ j k, j ≠ k → j < os.length → k < os.length → (AL.contains j && AL.contains k) = true → vs j ≠ vs k) → Q .normal (puts os 0 vs a) w) :
    (Code.region id os.toArray true).wp P Q a w :=
  wp_region_cl B ST B0 cls AL hm he hn hU hB hB0 hBE hBE0 hAL (step Q) fin
/-- Each claim but one lasts from one world to another. -/
def KeepAll (i : Nat) (vs : Nat → Value) (w w' : World) : List Cl → Nat → Prop
  | [], _ => True
  | c :: cs, k => (k = i ∨ (c.holds k vs w → c.holds k vs w')) ∧ KeepAll i vs w w' cs (k + 1)
theorem keep_all {i : Nat} {vs : Nat → Value} {w w' : World} : ∀ {cls : List Cl} {k : Nat}, KeepAll i vs w w' cls k → ∀ j, k + j ≠ i → (cls.getD j .any).holds (k + j) vs w → (cls.getD j .any).holds (k + j) vs w'
  | [], _, _, j, _, h => by simp [Cl.holds]
  | c :: cs, k, hk, j, hj, h => by
    cases j with
    | zero => exact (hk.1.resolve_left hj) h
    | succ j =>
      have := keep_all (cls := cs) (k := k + 1) hk.2 j (by omega)
      rw [show k + 1 + j = k + (j + 1) by omega] at this
      exact this h
theorem claims_keep {i : Nat} {vs : Nat → Value} {w w' : World} {cls : List Cl} {p : Nat → Prop} (h : KeepAll i vs w w' cls 0) : ∀ j, j ≠ i → p j → claim cls j vs w → claim cls j vs w' := fun j hj _ hc => by
  have := keep_all h j (by omega)
  rw [Nat.zero_add] at this
  exact this hc
/-- A value is this one. -/
def Is (v : Value) : Cl := .own (fun u _ => u = v) (fun _ _ _ h _ => h)
theorem is_keep {v : Value} {k : Nat} {vs : Nat → Value} {w w' : World} (h : (Is v).holds k vs w) : (Is v).holds k vs w' := h
end
end Go.Proofs.YtmkblfejoniccaaDoor
