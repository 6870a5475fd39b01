/-
  math/bits.Div64 where the upper word isn't 0: by digits of half a word.
-/
/-
  The functions of package wide, each by its contract: Div and MulDiv.
-/
/-
  The functions of package wide, each by its contract: MulDiv; what the statements of layer 1 ask first.
-/
/-
  The functions of package fixed, each by its contract. First part: pixels, lengths, giving up.
-/
/-
  The functions of package fixed, each by its contract. Second part: Part, Px, Sub, Add, Try.
-/
/-
  A walker by reckoning: hooks: calls that leave no more than a value; maps.Clone; fixed.Try.
-/
import Derived.Test.YtigjjddblijpbaaGreatDoorZ7
import Derived.Test.YtigjjddblijpbaaGreatDoorShelf
import Derived.Deep.DeepCutAuto
import Derived.Deep.CutBlock
import Derived.Deep.CutRange
import Derived.Recover
import Derived.WalkSmall
import Derived.Deep.LoopGhost
import Derived.Shelf.SlMaps.Clone
namespace Go.Proofs.YtigjjddblijpbaaGreatDoor
open Go.RowKit
set_option linter.unusedSimpArgs false
set_option linter.unusedVariables false
def lzN (y : Int) : Nat := 64 - Lib.bitLen y.toNat
theorem lz_any (y : Int) (s : Nat) (h0 : 0 ≤ y) (h1 : y ≤ 18446744073709551615) (hs : lzN y = s) (w : World) :
    Calls Tryz.prog 219 #[.int .u64 y] w fun e w' => e = .returned (.int .i64 ((s : Int))) ∧ w = w' := by
  refine (Tryz.bits_LeadingZeros64 y w h0 h1).mono ?_
  rintro e w' ⟨rfl, rfl⟩
  have h := Lib.bitLen_le y.toNat 64 (by omega) (by omega)
  refine ⟨ret_int ?_, rfl⟩
  subst hs
  unfold lzN
  omega

set_option maxRecDepth 100000 in
set_option maxHeartbeats 1000000 in
theorem div64_walk (hi lo y : Int) (s : Nat) (hs : lzN y = s) (h0 : 0 < hi) (h1 : hi < y) (h2 : y ≤ 18446744073709551615) (l0 : 0 ≤ lo) (l1 : lo ≤ 18446744073709551615) (s63 : s ≤ 63)
    (Y y1 y0 U L d1 d0 Q1 R1 Q0 R0 : Int)
    (E1 : IntKind.u64.wrap (y * 2 ^ s) = Y) (E2 : Y / 4294967296 = y1) (E3 : bits .and .u64 Y 4294967295 = y0)
    (E4 : bits .or .u64 (IntKind.u64.wrap (hi * 2 ^ s)) (lo / 2 ^ (64 - s)) = U) (E5 : IntKind.u64.wrap (lo * 2 ^ s) = L) (E6 : L / 4294967296 = d1) (E7 : bits .and .u64 L 4294967295 = d0)
    (y1a : 2147483648 ≤ y1) (y1b : y1 < 4294967296) (y0a : 0 ≤ y0) (y0b : y0 < 4294967296) (hY : Hid (y1 * 4294967296 + y0 = Y)) (U0 : 0 ≤ U) (hU : U < Y) (Y0 : 0 < Y) (Yb : Y ≤ 18446744073709551615) (L0 : 0 ≤ L) (Lb : L ≤ 18446744073709551615) (d1a : 0 ≤ d1) (d1b : d1 < 4294967296) (d0a : 0 ≤ d0) (d0b : d0 < 4294967296)
    (E9 : U / y1 * y1 ≤ U) (E9' : 0 ≤ U / y1 * y1) (q0a : 0 ≤ U / y1) (q0b : U / y1 ≤ 4294967297)
    (HQ1 : Hid (Q1 = (U * 4294967296 + d1) / Y)) (Q1a : 0 ≤ Q1) (Q1b : Q1 < 4294967296)
    (E10 : IntKind.u64.wrap (IntKind.u64.wrap (IntKind.u64.wrap (U * 4294967296) + d1) - IntKind.u64.wrap (Q1 * Y)) = R1) (R1a : 0 ≤ R1) (R1b : R1 < Y)
    (E12 : R1 / y1 * y1 ≤ R1) (E12' : 0 ≤ R1 / y1 * y1) (p0a : 0 ≤ R1 / y1) (p0b : R1 / y1 ≤ 4294967297)
    (HQ0 : Hid (Q0 = (R1 * 4294967296 + d0) / Y)) (Q0a : 0 ≤ Q0) (Q0b : Q0 < 4294967296)
    (E13 : IntKind.u64.wrap (IntKind.u64.wrap (IntKind.u64.wrap (R1 * 4294967296) + d0) - IntKind.u64.wrap (Q0 * Y)) = R0) (R0a : 0 ≤ R0) (R0b : R0 < Y)
    (w : World) :
    Calls Tryz.prog 191 #[.int .u64 hi, .int .u64 lo, .int .u64 y] w fun e w' => e = .returned (.tuple #[.int .u64 (Q1 * 4294967296 + Q0), .int .u64 (R0 / 2 ^ s)]) ∧ w = w' := by
  have H := Lib.hid hs
  clear hs
  go_enter Tryz.func191, Tryz.ntmps191
  go_upto_block 0 with (go_at_call 219; refine (lz_any y s (by omega) (by omega) H.out _).mono ?_; rintro e w' ⟨rfl, rfl⟩)
  go_cut [15, 16] from 67 to 85 (fun a b wx => a = .int .u64 Q1 ∧ wx = w)
  case first =>
    go_wp2_with fail
    go_loop [15, 16] (fun a b => ∃ q r : Int, a = .int .u64 q ∧ b = .int .u64 r ∧ KD.KInv Y y1 U d1 q r) (fun a _ => (intOf a).toNat)
    case atStart =>
      exact ⟨U / y1, U - U / y1 * y1, rfl, rfl, by exact KD.KInv.start hY.out (by omega) (by omega) (by omega) (by omega) (by omega) (by omega) (by omega) (by omega)⟩
    case round =>
      obtain ⟨q, r, rfl, rfl, hI⟩ := hrel
      obtain ⟨_, hq0, hr0, hr, hq, _⟩ := id hI
      rename_i hx1 hx2
      clear hx1 hx2
      by_cases hq2 : 4294967296 ≤ q
      · have hg := hI.pos (by omega) (by omega) (by omega) (by omega)
        have HG := Lib.hid hg
        clear hg
        by_cases hr2 : 4294967296 ≤ r + y1
        · go_wp2
          go_meet
          have := hI.big hY.out (by omega) (by omega) (by omega) (by omega) (by omega) HG.out (by omega)
          have e := HQ1.out
          exact ⟨by rw [e, ← this], rfl⟩
        · go_wp2
          go_round
          case rel => exact ⟨q - 1, r + y1, rfl, rfl, hI.next (by omega) (by omega) HG.out (by omega)⟩
          case measure => simp [intOf]; omega
      · have hm1 := KD.mul_lt (q := q) (y := y0) (by omega) (by omega) (by omega) (by omega)
        have hm0 : 0 ≤ q * y0 := Int.mul_nonneg (by omega) (by omega)
        by_cases ht : 4294967296 * r + d1 < q * y0
        · obtain ⟨hg, hp⟩ := hI.test hY.out (by omega) (by omega) (by omega) ht
          have HG := Lib.hid hg
          clear hg
          by_cases hr2 : 4294967296 ≤ r + y1
          · go_wp2
            go_meet
            have := hI.big hY.out (by omega) (by omega) (by omega) (by omega) hp HG.out (by omega)
            have e := HQ1.out
            exact ⟨by rw [e, ← this], rfl⟩
          · go_wp2
            go_round
            case rel => exact ⟨q - 1, r + y1, rfl, rfl, hI.next (by omega) hp HG.out (by omega)⟩
            case measure => simp [intOf]; omega
        · have HD := Lib.hid (hI.done hY.out (by omega) (by omega) ht)
          go_wp2
          go_meet
          have e := HQ1.out
          exact ⟨by rw [e, ← HD.out], rfl⟩
  case rest =>
    obtain ⟨rfl, rfl⟩ := hcut
    go_upto_block 2 with (fail)
    go_cut [18, 16] from 102 to 120 (fun a b wx => a = .int .u64 Q0 ∧ wx = wc)
    case first =>
      go_wp2_with fail
      go_loop [18, 16] (fun a b => ∃ q r : Int, a = .int .u64 q ∧ b = .int .u64 r ∧ KD.KInv Y y1 R1 d0 q r) (fun a _ => (intOf a).toNat)
      case atStart =>
        exact ⟨R1 / y1, R1 - R1 / y1 * y1, rfl, rfl, by exact KD.KInv.start hY.out (by omega) (by omega) (by omega) (by omega) (by omega) (by omega) (by omega) (by omega)⟩
      case round =>
        obtain ⟨q, r, rfl, rfl, hI⟩ := hrel
        obtain ⟨_, hq0, hr0, hr, hq, _⟩ := id hI
        rename_i hx1 hx2
        clear hx1 hx2
        by_cases hq2 : 4294967296 ≤ q
        · have hg := hI.pos (by omega) (by omega) (by omega) (by omega)
          have HG := Lib.hid hg
          clear hg
          by_cases hr2 : 4294967296 ≤ r + y1
          · go_wp2
            go_meet
            have := hI.big hY.out (by omega) (by omega) (by omega) (by omega) (by omega) HG.out (by omega)
            have e := HQ0.out
            exact ⟨by rw [e, ← this], rfl⟩
          · go_wp2
            go_round
            case rel => exact ⟨q - 1, r + y1, rfl, rfl, hI.next (by omega) (by omega) HG.out (by omega)⟩
            case measure => simp [intOf]; omega
        · have hm1 := KD.mul_lt (q := q) (y := y0) (by omega) (by omega) (by omega) (by omega)
          have hm0 : 0 ≤ q * y0 := Int.mul_nonneg (by omega) (by omega)
          by_cases ht : 4294967296 * r + d0 < q * y0
          · obtain ⟨hg, hp⟩ := hI.test hY.out (by omega) (by omega) (by omega) ht
            have HG := Lib.hid hg
            clear hg
            by_cases hr2 : 4294967296 ≤ r + y1
            · go_wp2
              go_meet
              have := hI.big hY.out (by omega) (by omega) (by omega) (by omega) hp HG.out (by omega)
              have e := HQ0.out
              exact ⟨by rw [e, ← this], rfl⟩
            · go_wp2
              go_round
              case rel => exact ⟨q - 1, r + y1, rfl, rfl, hI.next (by omega) hp HG.out (by omega)⟩
              case measure => simp [intOf]; omega
          · have HD := Lib.hid (hI.done hY.out (by omega) (by omega) ht)
            go_wp2
            go_meet
            have e := HQ0.out
            exact ⟨by rw [e, ← HD.out], rfl⟩
    case rest =>
      obtain ⟨rfl, rfl⟩ := hcut
      go_wp2_with fail
      go_ret2
      exact ⟨rfl, rfl⟩

theorem bitLen_gt (n : Nat) (h : n < 2 ^ 64) : n < 2 ^ Lib.bitLen n := by
  rcases Nat.lt_or_ge n (2 ^ Lib.bitLen n) with hl | hl
  · exact hl
  · have e := Lib.bitLen_shift _ n hl h
    have hp : 0 < n / 2 ^ Lib.bitLen n := Nat.div_pos hl (Nat.two_pow_pos _)
    have hd : n / 2 ^ Lib.bitLen n ≤ n := Nat.div_le_self ..
    have := Lib.bitLen_half (n / 2 ^ Lib.bitLen n) (by omega) (by omega)
    omega
theorem bitLen_ge (n : Nat) (h0 : n ≠ 0) (h : n < 2 ^ 64) : 2 ^ (Lib.bitLen n - 1) ≤ n := by
  rcases Nat.lt_or_ge n (2 ^ (Lib.bitLen n - 1)) with hl | hl
  · have h1 := Lib.bitLen_le n 64 (by decide) h
    have h2 := Lib.bitLen_half n h0 h
    have := Lib.bitLen_le n (Lib.bitLen n - 1) (by omega) hl
    omega
  · exact hl
theorem lz_spec (y : Int) (s : Nat) (h0 : 0 < y) (h1 : y ≤ 18446744073709551615) (hs : lzN y = s) : s ≤ 63 ∧ 9223372036854775808 ≤ y * 2 ^ s ∧ y * 2 ^ s < 18446744073709551616 := by
  obtain ⟨n, rfl⟩ := Int.eq_ofNat_of_zero_le (show 0 ≤ y by omega)
  unfold lzN at hs
  simp only [Int.toNat_natCast] at hs
  have hn : n < 2 ^ 64 := by omega
  have a := bitLen_gt n hn
  have b := bitLen_ge n (by omega) hn
  have c := Lib.bitLen_half n (by omega) hn
  have d := Lib.bitLen_le n 64 (by decide) hn
  generalize Lib.bitLen n = L at *
  have e1 : n * 2 ^ s < 2 ^ L * 2 ^ s := Nat.mul_lt_mul_of_pos_right a (Nat.two_pow_pos _)
  have e2 : 2 ^ (L - 1) * 2 ^ s ≤ n * 2 ^ s := Nat.mul_le_mul_right _ b
  rw [← Nat.pow_add] at e1 e2
  rw [show L + s = 64 by omega] at e1
  rw [show L - 1 + s = 63 by omega] at e2
  refine ⟨by omega, ?_, ?_⟩
  · have : ((2 ^ 63 : Nat) : Int) ≤ ((n * 2 ^ s : Nat) : Int) := by exact_mod_cast e2
    rw [Int.natCast_mul, Int.natCast_pow] at this
    exact this
  · have : ((n * 2 ^ s : Nat) : Int) < ((2 ^ 64 : Nat) : Int) := by exact_mod_cast e1
    rw [Int.natCast_mul, Int.natCast_pow] at this
    exact this
theorem wraps_u64 (n : Int) (h₀ : 0 ≤ n) (h₁ : n < 2 ^ 64) : IntKind.u64.wrap n = n := by rw [IntKind.wrap_u64]; omega
theorem mask32 (x : Int) (h0 : 0 ≤ x) (h1 : x < 18446744073709551616) : bits .and .u64 x 4294967295 = x % 4294967296 :=
  bits_mask .u64 64 (by decide) wraps_u64 32 (by decide) x h0 h1
/-- A word shifted, and the first bits of the next one. -/
theorem shift_join (hi lo : Int) (s : Nat) (h63 : s ≤ 63) (h0 : 0 ≤ hi) (h1 : hi * 2 ^ s < 18446744073709551616) (l0 : 0 ≤ lo) (l1 : lo < 18446744073709551616) :
    bits .or .u64 (hi * 2 ^ s) (lo / 2 ^ (64 - s)) = (hi * 18446744073709551616 + lo) * 2 ^ s / 18446744073709551616 ∧ lo * 2 ^ s % 18446744073709551616 = (hi * 18446744073709551616 + lo) * 2 ^ s % 18446744073709551616 := by
  have hp : (0 : Int) < 2 ^ s := Int.pow_pos (by decide)
  have hq : (0 : Int) < 2 ^ (64 - s) := Int.pow_pos (by decide)
  have hpq : (2 : Int) ^ (64 - s) * 2 ^ s = 18446744073709551616 := by
    rw [← Int.pow_add, show 64 - s + s = 64 by omega]; rfl
  have hlt : lo / 2 ^ (64 - s) < 2 ^ s := Int.ediv_lt_of_lt_mul hq (by rw [Int.mul_comm, hpq]; exact l1)
  have hnn : 0 ≤ lo / 2 ^ (64 - s) := Int.ediv_nonneg l0 (by omega)
  have hle : (2 : Int) ^ s ≤ 2 ^ 64 := by
    have : (2 : Nat) ^ s ≤ 2 ^ 64 := Nat.pow_le_pow_right (by decide) (by omega)
    exact_mod_cast this
  have hj := bits_join .u64 64 (by decide) wraps_u64 s (hi * 2 ^ s) (lo / 2 ^ (64 - s)) (Int.mul_nonneg h0 (by omega)) (Int.mul_emod_left _ _) h1 hnn hlt (by omega)
  rw [hj]
  have e : (hi * 18446744073709551616 + lo) * 2 ^ s = lo * 2 ^ s + 18446744073709551616 * (hi * 2 ^ s) := by
    rw [Int.add_mul, Int.mul_right_comm]
    omega
  rw [e, Int.add_mul_ediv_left _ _ (by decide), Int.add_mul_emod_self_left]
  refine ⟨?_, rfl⟩
  rw [← hpq, Int.mul_ediv_mul_of_pos_left _ _ hp]
  omega

set_option maxHeartbeats 400000 in
theorem div64_hi (hi lo y : Int) (h0 : 0 < hi) (h1 : hi < y) (h2 : y ≤ 18446744073709551615) (l0 : 0 ≤ lo) (l1 : lo ≤ 18446744073709551615) (w : World) :
    Calls Tryz.prog 191 #[.int .u64 hi, .int .u64 lo, .int .u64 y] w fun e w' => e = .returned (.tuple #[.int .u64 ((hi * 18446744073709551616 + lo) / y), .int .u64 ((hi * 18446744073709551616 + lo) % y)]) ∧ w = w' := by
  obtain ⟨s, hs⟩ : ∃ s, lzN y = s := ⟨_, rfl⟩
  obtain ⟨s63, ya, yb⟩ := lz_spec y s (by omega) h2 hs
  have hp : (0 : Int) < 2 ^ s := Int.pow_pos (by decide)
  have hhi : (hi + 1) * 2 ^ s ≤ y * 2 ^ s := Int.mul_le_mul_of_nonneg_right (by omega) (by omega)
  rw [Int.add_mul] at hhi
  obtain ⟨hU, hL⟩ := shift_join hi lo s s63 (by omega) (by omega) l0 (by omega)
  obtain ⟨u1, u2⟩ := KD.unshift (hi * 18446744073709551616 + lo) y (2 ^ s) hp
  have hlt : (hi * 18446744073709551616 + lo) * 2 ^ s < y * 2 ^ s * 18446744073709551616 := by
    have : (hi * 18446744073709551616 + lo + 1) * 2 ^ s ≤ y * 18446744073709551616 * 2 ^ s := Int.mul_le_mul_of_nonneg_right (by omega) (by omega)
    rw [Int.add_mul, Int.mul_right_comm y] at this
    omega
  have hnn : 0 ≤ (hi * 18446744073709551616 + lo) * 2 ^ s := Int.mul_nonneg (by omega) (by omega)
  have hh0 : 0 ≤ hi * 2 ^ s := Int.mul_nonneg (by omega) (by omega)
  have hl0 : 0 ≤ lo * 2 ^ s := Int.mul_nonneg (by omega) (by omega)
  have hm0 : hi * 2 ^ s < 18446744073709551616 := by omega
  generalize hY : y * 2 ^ s = Y at *
  generalize hX : (hi * 18446744073709551616 + lo) * 2 ^ s = X at *
  rw [← u1, ← u2]
  have hY1 : 2147483648 ≤ Y / 4294967296 := by omega
  have dm := fun x : Int => Int.mul_ediv_add_emod x 4294967296
  have kw := KD.whole (U := X / 18446744073709551616) (a := X % 18446744073709551616 / 4294967296) (b := X % 18446744073709551616 % 4294967296) (Y := Y) (by omega)
  have e : X / 18446744073709551616 * 18446744073709551616 + (X % 18446744073709551616 / 4294967296 * 4294967296 + X % 18446744073709551616 % 4294967296) = X := by omega
  rw [e] at kw
  rw [kw.1, kw.2]
  have hUY : X / 18446744073709551616 < Y := Int.ediv_lt_of_lt_mul (by decide) hlt
  have wr : ∀ U d : Int, 0 ≤ U → U < Y → 0 ≤ d → d < 4294967296 → IntKind.u64.wrap (IntKind.u64.wrap (IntKind.u64.wrap (U * 4294967296) + d) - IntKind.u64.wrap ((U * 4294967296 + d) / Y * Y)) = (U * 4294967296 + d) % Y := by
    intro U d a1 a2 a3 a4
    have h1 := Int.mul_ediv_add_emod (U * 4294967296 + d) Y
    have h2 := Int.emod_lt_of_pos (U * 4294967296 + d) (show 0 < Y by omega)
    have h3 := Int.emod_nonneg (U * 4294967296 + d) (show Y ≠ 0 by omega)
    rw [Int.mul_comm] at h1
    generalize (U * 4294967296 + d) / Y * Y = p at *
    simp only [IntKind.wrap_u64]
    omega
  have nn : ∀ U d : Int, 0 ≤ U → U < Y → 0 ≤ d → 0 ≤ (U * 4294967296 + d) / Y := fun U d a1 a2 a3 => Int.ediv_nonneg (by omega) (by omega)
  have gl : ∀ U : Int, 0 ≤ U → U < Y → U / (Y / 4294967296) * (Y / 4294967296) ≤ U ∧ 0 ≤ U / (Y / 4294967296) * (Y / 4294967296) ∧ 0 ≤ U / (Y / 4294967296) ∧ U / (Y / 4294967296) ≤ 4294967297 := by
    intro U a1 a2
    have hq : 0 ≤ U / (Y / 4294967296) := Int.ediv_nonneg a1 (by omega)
    exact ⟨Int.ediv_mul_le _ (by omega), Int.mul_nonneg hq (by omega), hq, KD.guess_le (y0 := Y % 4294967296) hY1 (by omega) (by omega)⟩
  have U0 : 0 ≤ X / 18446744073709551616 := by omega
  have d10 : 0 ≤ X % 18446744073709551616 / 4294967296 := by omega
  have d11 : X % 18446744073709551616 / 4294967296 < 4294967296 := by omega
  have d00 : 0 ≤ X % 18446744073709551616 % 4294967296 := by omega
  have d01 : X % 18446744073709551616 % 4294967296 < 4294967296 := by omega
  have R0 := Int.emod_nonneg (X / 18446744073709551616 * 4294967296 + X % 18446744073709551616 / 4294967296) (show Y ≠ 0 by omega)
  have R1 := Int.emod_lt_of_pos (X / 18446744073709551616 * 4294967296 + X % 18446744073709551616 / 4294967296) (show 0 < Y by omega)
  have g1 := gl _ U0 hUY
  have g2 := gl _ R0 R1
  exact div64_walk hi lo y s hs h0 h1 h2 l0 l1 s63 Y (Y / 4294967296) (Y % 4294967296) (X / 18446744073709551616) (X % 18446744073709551616) (X % 18446744073709551616 / 4294967296) (X % 18446744073709551616 % 4294967296)
    _ _ _ _
    (by rw [hY, wraps_u64 _ (by omega) (by omega)]) rfl (mask32 _ (by omega) (by omega))
    (by rw [wraps_u64 _ hh0 hm0]; exact hU) (by rw [IntKind.wrap_u64]; exact hL) rfl (mask32 _ (by omega) (by omega))
    hY1 (by omega) (by omega) (by omega) (by show _ = _; omega) U0 hUY (by omega) (by omega) (by omega) (by omega) d10 d11 d00 d01
    g1.1 g1.2.1 g1.2.2.1 g1.2.2.2
    rfl (nn _ _ U0 hUY d10) (KD.digit_lt (by omega) hUY d11)
    (wr _ _ U0 hUY d10 d11) R0 R1
    g2.1 g2.2.1 g2.2.2.1 g2.2.2.2
    rfl (nn _ _ R0 R1 d00) (KD.digit_lt (by omega) R1 d01)
    (wr _ _ R0 R1 d00 d01) (Int.emod_nonneg _ (by omega)) (Int.emod_lt_of_pos _ (by omega)) w

set_option maxRecDepth 100000 in
set_option maxHeartbeats 400000 in
theorem div64_any (hi lo y : Int) (h0 : 0 ≤ hi) (h1 : hi < y) (h2 : y ≤ 18446744073709551615) (l0 : 0 ≤ lo) (l1 : lo ≤ 18446744073709551615) (w : World) :
    Calls Tryz.prog 191 #[.int .u64 hi, .int .u64 lo, .int .u64 y] w fun e w' => e = .returned (.tuple #[.int .u64 ((hi * 18446744073709551616 + lo) / y), .int .u64 ((hi * 18446744073709551616 + lo) % y)]) ∧ Below w.heap.size w w' := by
  by_cases hz : hi = 0
  · subst hz
    have hy : (y == 0) = false := by simp; omega
    go_enter Tryz.func191, Tryz.ntmps191
    go_wp2_with fail
    go_quiet (fail)
    go_wp2
    go_ret2
    exact ⟨ret_uu (by simp) (by simp), (by repeat' (first | (with_reducible exact Below.refl _ _) | (with_reducible assumption) | (with_reducible refine below_alloc ?_ _ ?_) | (with_reducible refine below_set _ ?_ ?_) | (with_reducible refine Below.drew ?_) | (with_reducible refine below_dN ?_ _) | (apply below_thenA; assumption) | omega | (simp; done) | (simp; omega) | (simp [*]; done)))⟩
  · refine (div64_hi hi lo y (by omega) h1 h2 l0 l1 w).mono ?_
    rintro e w' ⟨rfl, rfl⟩
    exact ⟨rfl, Below.refl _ _⟩
end Go.Proofs.YtigjjddblijpbaaGreatDoor
namespace Go.Proofs.YtigjjddblijpbaaGreatDoor
open Go.RowKit
set_option linter.unusedSimpArgs false
set_option linter.unusedVariables false

/-- The quotient rounded down, and the rest. -/
def fq (a d : Int) : Int := if d < 0 then (-a) / (-d) else a / d
def fr (a d : Int) : Int := a - fq a d * d
theorem fr_pos {a d : Int} (h : 0 < d) : fr a d = a % d := by
  have := Int.mul_ediv_add_emod a d
  unfold fr fq
  rw [if_neg (by omega), Int.mul_comm]
  omega
theorem fr_neg {a d : Int} (h : d < 0) : fr a d = -((-a) % (-d)) := by
  have := Int.mul_ediv_add_emod (-a) (-d)
  unfold fr fq
  rw [if_pos h, Int.mul_comm]
  rw [Int.neg_mul] at this
  omega
theorem absI_div {a d : Int} (hd : d ≠ 0) : fq a d * absI d + (absI a / absI d) * absI d = fq a d * absI d + (absI a / absI d) * absI d := rfl
/-- By size: of one sign the quotient of sizes, else it with the other sign, and one less where there is a rest. -/
theorem fq_size {a d : Int} (hd : d ≠ 0) :
    ((a < 0 ↔ d < 0) → fq a d = absI a / absI d ∧ fr a d = if d < 0 then -(absI a % absI d) else absI a % absI d) ∧
    (¬ (a < 0 ↔ d < 0) → absI a % absI d = 0 → fq a d = -(absI a / absI d) ∧ fr a d = 0) ∧
    (¬ (a < 0 ↔ d < 0) → 0 < absI a % absI d → fq a d = -(absI a / absI d + 1) ∧ fr a d = if d < 0 then -(absI d - absI a % absI d) else absI d - absI a % absI d) := by
  have div_of : ∀ x y q : Int, 0 < y → q * y ≤ x → x < q * y + y → x / y = q := by
    intro x y q hy h1 h2
    refine Int.le_antisymm (Int.le_of_lt_add_one (Int.ediv_lt_of_lt_mul hy ?_)) ((Int.le_ediv_iff_mul_le hy).2 h1)
    rw [Int.add_mul]; omega
  have key : ∀ x y : Int, 0 < y → x / y * y + x % y = x ∧ 0 ≤ x % y ∧ x % y < y := fun x y h =>
    ⟨by have := Int.mul_ediv_add_emod x y; rw [Int.mul_comm] at this; exact this, Int.emod_nonneg _ (by omega), Int.emod_lt_of_pos _ h⟩
  rcases Int.lt_or_lt_of_ne hd with hn | hp
  · have ed : absI d = -d := by unfold absI; omega
    unfold fr fq
    rw [if_pos hn, ed]
    rcases Int.lt_or_le a 0 with ha | ha
    · have ea : absI a = -a := by unfold absI; omega
      rw [ea, if_pos hn]
      obtain ⟨k1, k2, k3⟩ := key (-a) (-d) (by omega)
      rw [Int.mul_neg] at k1
      exact ⟨fun _ => ⟨rfl, by omega⟩, fun h => absurd ⟨fun _ => hn, fun _ => ha⟩ h, fun h => absurd ⟨fun _ => hn, fun _ => ha⟩ h⟩
    · have ea : absI a = a := by unfold absI; omega
      rw [ea, if_pos hn]
      obtain ⟨k1, k2, k3⟩ := key a (-d) (by omega)
      rw [Int.mul_neg] at k1
      refine ⟨fun h => absurd (h.2 hn) (by omega), fun _ hz => ?_, fun _ hz => ?_⟩
      · rw [div_of (-a) (-d) (-(a / -d)) (by omega) (by rw [Int.neg_mul_neg]; omega) (by rw [Int.neg_mul_neg]; omega)]
        exact ⟨rfl, by rw [Int.neg_mul]; omega⟩
      · rw [div_of (-a) (-d) (-(a / -d + 1)) (by omega) (by rw [Int.neg_mul_neg, Int.add_mul]; omega) (by rw [Int.neg_mul_neg, Int.add_mul]; omega)]
        exact ⟨rfl, by rw [Int.neg_mul, Int.add_mul]; omega⟩
  · have ed : absI d = d := by unfold absI; omega
    have nn : ¬ d < 0 := by omega
    unfold fr fq
    rw [if_neg nn, if_neg nn, if_neg nn, ed]
    rcases Int.lt_or_le a 0 with ha | ha
    · have ea : absI a = -a := by unfold absI; omega
      rw [ea]
      obtain ⟨k1, k2, k3⟩ := key (-a) d hp
      refine ⟨fun h => absurd (h.1 ha) nn, fun _ hz => ?_, fun _ hz => ?_⟩
      · rw [div_of a d (-(-a / d)) hp (by rw [Int.neg_mul]; omega) (by rw [Int.neg_mul]; omega)]
        exact ⟨rfl, by rw [Int.neg_mul]; omega⟩
      · rw [div_of a d (-(-a / d + 1)) hp (by rw [Int.neg_mul, Int.add_mul]; omega) (by rw [Int.neg_mul, Int.add_mul]; omega)]
        exact ⟨rfl, by rw [Int.neg_mul, Int.add_mul]; omega⟩
    · have ea : absI a = a := by unfold absI; omega
      rw [ea]
      obtain ⟨k1, k2, k3⟩ := key a d hp
      exact ⟨fun _ => ⟨rfl, by omega⟩, fun h => absurd ⟨fun h => absurd h (by omega), fun h => absurd h nn⟩ h, fun h => absurd ⟨fun h => absurd h (by omega), fun h => absurd h nn⟩ h⟩

theorem wide_turned_to (m hi lo : Int) (h1 : -9223372036854775808 ≤ hi) (h2 : hi ≤ 9223372036854775807) (h3 : 0 ≤ lo) (h4 : lo ≤ 18446744073709551615)
    (h : hi * 18446744073709551616 + lo = m ∨ hi * 18446744073709551616 + lo = m - 340282366920938463463374607431768211456) (hf : WFit (-m)) (w : World) :
    Calls Tryz.prog 192 #[.agg #[.int .i64 hi, .int .u64 lo]] w fun e w' => e = .returned (.agg #[.int .i64 ((-m) / 18446744073709551616), .int .u64 ((-m) % 18446744073709551616)]) ∧ Below w.heap.size w w' := by
  refine (wide_turned _ hi lo ⟨h1, h2, h3, h4, rfl⟩ w).mono ?_
  rintro e w' ⟨r1, r2, r3⟩
  unfold WFit at *
  refine ⟨?_, r3⟩
  rcases h with h | h
  · rw [h] at r1
    exact r1 hf
  · rw [r2 (by omega)]
    exact ret_w (by omega) (by omega)

/-- What Div answers. -/
def DZero : Ending := .returned (.tuple #[.agg #[.int .i64 0, .int .u64 0], .int .i64 0, .bool false])
def DAns (a d : Int) (B : Nat) (w : World) (e : Ending) (w' : World) : Prop :=
  (d = 0 → e = DZero) ∧ (d ≠ 0 → WFit (fq a d) → e = .returned (.tuple #[.agg #[.int .i64 ((fq a d) / 18446744073709551616), .int .u64 ((fq a d) % 18446744073709551616)], .int .i64 (fr a d), .bool true])) ∧ (d ≠ 0 → ¬ WFit (fq a d) → e = DZero) ∧ Below B w w'
theorem ret_wib {h l r h' l' r' : Int} {b : Bool} (e1 : h = h') (e2 : l = l') (e3 : r = r') : Ending.returned (.tuple #[.agg #[.int .i64 h, .int .u64 l], .int .i64 r, .bool b]) = .returned (.tuple #[.agg #[.int .i64 (h'), .int .u64 (l')], .int .i64 (r'), .bool b]) := by rw [e1, e2, e3]
-- WALK
set_option maxRecDepth 100000 in
set_option maxHeartbeats 1000000 in
theorem wide_div_walkR (a d hi lo : Int) (hA : Wd hi lo a) (d1 : -9223372036854775808 ≤ d) (d2 : d ≤ 9223372036854775807) (hd : d ≠ 0)
    (Ah Al D qh hm ql R : Int) (EA : absI a / 18446744073709551616 = Ah) (EB : absI a % 18446744073709551616 = Al) (ED : absI d % 18446744073709551616 = D)
    (E1 : Ah / D = qh) (E2 : Ah % D = hm) (E3 : (hm * 18446744073709551616 + Al) / D = ql) (E4 : (hm * 18446744073709551616 + Al) % D = R)
    (A0 : 0 ≤ Ah) (A1 : Ah ≤ 9223372036854775808) (L0 : 0 ≤ Al) (L1 : Al ≤ 18446744073709551615) (D0 : 1 ≤ D) (D1 : D ≤ 9223372036854775808)
    (q0 : 0 ≤ qh) (q1 : qh ≤ 9223372036854775808) (m0 : 0 ≤ hm) (m1 : hm < D) (l0 : 0 ≤ ql) (l1 : ql ≤ 18446744073709551615) (r0 : 0 ≤ R) (r1 : R < D)
    (HQ : Hid (absI a / absI d = qh * 18446744073709551616 + ql)) (HR : Hid (absI a % absI d = R)) (HD : Hid (absI d = D))
    (HS : Hid (R = 0 ∨ qh ≤ 4611686018427387904)) (HB : Hid (qh * 18446744073709551616 + ql ≤ 170141183460469231731687303715884105728)) (h3 : 0 < R) (w : World) :
    Calls Tryz.prog 151 #[.agg #[.int .i64 hi, .int .u64 lo], .int .i64 d] w (DAns a d w.heap.size w) := by
  obtain ⟨a1, a2, a3, a4, a5⟩ := id hA
  have A5 := Lib.hid a5
  clear a5
  have hD : Wd (d / 18446744073709551616) (d % 18446744073709551616) d := Wd.of (by unfold WFit; omega)
  have HA := Lib.hid hA
  have HDd := Lib.hid hD
  clear hA hD
  have dz : (d == 0) = false := by simpa using hd
  have A1 := add64_0 ql 1 l0 (by decide)
  have hq : qh ≤ 4611686018427387904 := by rcases HS.out with h | h <;> omega
  by_cases h1 : hi < 0 <;> by_cases h2 : d < 0
  all_goals
    go_enter Tryz.func151, Tryz.ntmps151
    go_wp2_with (first
      | (go_at_call 190; (with_reducible refine (wide_size a hi lo HA.out _).mono ?_); rintro e w' ⟨rfl, hb'⟩; obtain ⟨hc', hf'⟩ := bcell hb'; have hz' := bz2 (n := w.heap.size) hb' (by (try simp) <;> omega); have hs' := hb'.size; (try simp at hs'); (try (have hs2' := Nat.lt_of_succ_le hs')))
      | (go_at_call 190; (with_reducible refine (wide_size d _ _ HDd.out _).mono ?_); rintro e w' ⟨rfl, hb'⟩; obtain ⟨hc', hf'⟩ := bcell hb'; have hz' := bz2 (n := w.heap.size) hb' (by (try simp) <;> omega); have hs' := hb'.size; (try simp at hs'); (try (have hs2' := Nat.lt_of_succ_le hs')))
      | (go_at_call 114; (with_reducible refine (wide_of d d1 d2 _).mono ?_); rintro e w' ⟨rfl, hb'⟩; obtain ⟨hc', hf'⟩ := bcell hb'; have hz' := bz2 (n := w.heap.size) hb' (by (try simp) <;> omega); have hs' := hb'.size; (try simp at hs'); (try (have hs2' := Nat.lt_of_succ_le hs')))
      | (go_at_call 191; (with_reducible refine (div64_any hm Al D m0 m1 (by omega) L0 L1 _).mono ?_); rintro e w' ⟨rfl, hb'⟩; obtain ⟨hc', hf'⟩ := bcell hb'; have hz' := bz2 (n := w.heap.size) hb' (by (try simp) <;> omega); have hs' := hb'.size; (try simp at hs'); (try (have hs2' := Nat.lt_of_succ_le hs')))
      | (go_at_call 192; (with_reducible refine (wide_turned_to (qh * 18446744073709551616 + ql + 1) (qh + (ql + 1) / 18446744073709551616) ((ql + 1) % 18446744073709551616) (by omega) (by omega) (by omega) (by omega) (by omega) (by unfold WFit; omega) _).mono ?_); rintro e w' ⟨rfl, hb'⟩; obtain ⟨hc', hf'⟩ := bcell hb'; have hz' := bz2 (n := w.heap.size) hb' (by (try simp) <;> omega); have hs' := hb'.size; (try simp at hs'); (try (have hs2' := Nat.lt_of_succ_le hs'))))
    all_goals
      (go_light; simp [bodyPost, results, Tryz.results151, go_sem, *])
      go_light
      have a5 := A5.out
      have ed := HD.out
      have hB := HB.out
      obtain ⟨f1, f2, f3⟩ := fq_size (a := a) hd
      rw [HQ.out, HR.out] at f1 f2 f3
      rw [HD.out] at f3
      first | rw [if_pos (show d < 0 by omega)] at f1 f3 | rw [if_neg (show ¬ d < 0 by omega)] at f1 f3
      refine ⟨fun h => absurd h hd, fun _ h => ?_, fun _ h => ?_, (by repeat' (first | (with_reducible exact Below.refl _ _) | (with_reducible assumption) | (with_reducible refine below_alloc ?_ _ ?_) | (with_reducible refine below_set _ ?_ ?_) | (with_reducible refine Below.drew ?_) | (with_reducible refine below_dN ?_ _) | (apply below_thenA; assumption) | omega | (simp; done) | (simp; omega) | (simp [*]; done)))⟩
      all_goals
        unfold WFit at h
        by_cases hs : (a < 0 ↔ d < 0)
        · obtain ⟨e1, e2⟩ := f1 hs
          rw [e1] at h
          (try rw [e1]); (try rw [e2])
          first | done | (exfalso; omega) | (refine ret_wib ?_ ?_ ?_ <;> omega) | rfl
        · obtain ⟨e1, e2⟩ := f3 hs h3
          rw [e1] at h
          (try rw [e1]); (try rw [e2])
          first | done | (exfalso; omega) | (refine ret_wib ?_ ?_ ?_ <;> omega) | rfl

set_option maxRecDepth 100000 in
set_option maxHeartbeats 1000000 in
theorem wide_div_walk0 (a d hi lo : Int) (hA : Wd hi lo a) (d1 : -9223372036854775808 ≤ d) (d2 : d ≤ 9223372036854775807) (hd : d ≠ 0)
    (Ah Al D qh hm ql R : Int) (EA : absI a / 18446744073709551616 = Ah) (EB : absI a % 18446744073709551616 = Al) (ED : absI d % 18446744073709551616 = D)
    (E1 : Ah / D = qh) (E2 : Ah % D = hm) (E3 : (hm * 18446744073709551616 + Al) / D = ql) (E4 : (hm * 18446744073709551616 + Al) % D = R)
    (A0 : 0 ≤ Ah) (A1 : Ah ≤ 9223372036854775808) (L0 : 0 ≤ Al) (L1 : Al ≤ 18446744073709551615) (D0 : 1 ≤ D) (D1 : D ≤ 9223372036854775808)
    (q0 : 0 ≤ qh) (q1 : qh ≤ 9223372036854775808) (m0 : 0 ≤ hm) (m1 : hm < D) (l0 : 0 ≤ ql) (l1 : ql ≤ 18446744073709551615) (r0 : 0 ≤ R) (r1 : R < D)
    (HQ : Hid (absI a / absI d = qh * 18446744073709551616 + ql)) (HR : Hid (absI a % absI d = R)) (HD : Hid (absI d = D))
    (HS : Hid (R = 0 ∨ qh ≤ 4611686018427387904)) (HB : Hid (qh * 18446744073709551616 + ql ≤ 170141183460469231731687303715884105728)) (h3 : ¬ 0 < R) (w : World) :
    Calls Tryz.prog 151 #[.agg #[.int .i64 hi, .int .u64 lo], .int .i64 d] w (DAns a d w.heap.size w) := by
  obtain ⟨a1, a2, a3, a4, a5⟩ := id hA
  have A5 := Lib.hid a5
  clear a5
  have hD : Wd (d / 18446744073709551616) (d % 18446744073709551616) d := Wd.of (by unfold WFit; omega)
  have HA := Lib.hid hA
  have HDd := Lib.hid hD
  clear hA hD
  have dz : (d == 0) = false := by simpa using hd
  have A1 := add64_0 ql 1 l0 (by decide)
  have hR : R = 0 := by omega
  have HR0 := Lib.hid hR
  clear hR
  by_cases h1 : hi < 0 <;> by_cases h2 : d < 0
  all_goals
    go_enter Tryz.func151, Tryz.ntmps151
    go_wp2_with (first
      | (go_at_call 190; (with_reducible refine (wide_size a hi lo HA.out _).mono ?_); rintro e w' ⟨rfl, hb'⟩; obtain ⟨hc', hf'⟩ := bcell hb'; have hz' := bz2 (n := w.heap.size) hb' (by (try simp) <;> omega); have hs' := hb'.size; (try simp at hs'); (try (have hs2' := Nat.lt_of_succ_le hs')))
      | (go_at_call 190; (with_reducible refine (wide_size d _ _ HDd.out _).mono ?_); rintro e w' ⟨rfl, hb'⟩; obtain ⟨hc', hf'⟩ := bcell hb'; have hz' := bz2 (n := w.heap.size) hb' (by (try simp) <;> omega); have hs' := hb'.size; (try simp at hs'); (try (have hs2' := Nat.lt_of_succ_le hs')))
      | (go_at_call 114; (with_reducible refine (wide_of d d1 d2 _).mono ?_); rintro e w' ⟨rfl, hb'⟩; obtain ⟨hc', hf'⟩ := bcell hb'; have hz' := bz2 (n := w.heap.size) hb' (by (try simp) <;> omega); have hs' := hb'.size; (try simp at hs'); (try (have hs2' := Nat.lt_of_succ_le hs')))
      | (go_at_call 191; (with_reducible refine (div64_any hm Al D m0 m1 (by omega) L0 L1 _).mono ?_); rintro e w' ⟨rfl, hb'⟩; obtain ⟨hc', hf'⟩ := bcell hb'; have hz' := bz2 (n := w.heap.size) hb' (by (try simp) <;> omega); have hs' := hb'.size; (try simp at hs'); (try (have hs2' := Nat.lt_of_succ_le hs')))
      | (go_at_call 192; (with_reducible refine (wide_turned_to (qh * 18446744073709551616 + ql) (wrap64 qh) ql (by unfold wrap64; omega) (by unfold wrap64; omega) l0 l1 (by unfold wrap64; omega) (by have := HB.out; unfold WFit; omega) _).mono ?_); rintro e w' ⟨rfl, hb'⟩; obtain ⟨hc', hf'⟩ := bcell hb'; have hz' := bz2 (n := w.heap.size) hb' (by (try simp) <;> omega); have hs' := hb'.size; (try simp at hs'); (try (have hs2' := Nat.lt_of_succ_le hs'))))
    all_goals
      (go_light; simp [bodyPost, results, Tryz.results151, go_sem, *])
      go_light
      have a5 := A5.out
      have ed := HD.out
      have hB := HB.out
      obtain ⟨f1, f2, f3⟩ := fq_size (a := a) hd
      rw [HQ.out, HR.out] at f1 f2 f3
      rw [HD.out] at f3
      first | rw [if_pos (show d < 0 by omega)] at f1 f3 | rw [if_neg (show ¬ d < 0 by omega)] at f1 f3
      have hR := HR0.out
      unfold wrap64 at *
      refine ⟨fun h => absurd h hd, fun _ h => ?_, fun _ h => ?_, (by repeat' (first | (with_reducible exact Below.refl _ _) | (with_reducible assumption) | (with_reducible refine below_alloc ?_ _ ?_) | (with_reducible refine below_set _ ?_ ?_) | (with_reducible refine Below.drew ?_) | (with_reducible refine below_dN ?_ _) | (apply below_thenA; assumption) | omega | (simp; done) | (simp; omega) | (simp [*]; done)))⟩
      all_goals
        unfold WFit at h
        by_cases hs : (a < 0 ↔ d < 0)
        · obtain ⟨e1, e2⟩ := f1 hs
          rw [e1] at h
          (try rw [e1]); (try rw [e2])
          first | done | (exfalso; omega) | (refine ret_wib ?_ ?_ ?_ <;> omega) | rfl
        · obtain ⟨e1, e2⟩ := f2 hs hR
          rw [e1] at h
          (try rw [e1]); (try rw [e2])
          first | done | (exfalso; omega) | (refine ret_wib ?_ ?_ ?_ <;> omega) | rfl

theorem absI_split (a d : Int) (ha : WFit a) (d1 : -9223372036854775808 ≤ d) (d2 : d ≤ 9223372036854775807) (hd : d ≠ 0) :
    absI a / absI d = absI a / 18446744073709551616 / (absI d % 18446744073709551616) * 18446744073709551616 + (absI a / 18446744073709551616 % (absI d % 18446744073709551616) * 18446744073709551616 + absI a % 18446744073709551616) / (absI d % 18446744073709551616) ∧
    absI a % absI d = (absI a / 18446744073709551616 % (absI d % 18446744073709551616) * 18446744073709551616 + absI a % 18446744073709551616) % (absI d % 18446744073709551616) := by
  have ed : absI d % 18446744073709551616 = absI d := by unfold absI; omega
  have dp : 0 < absI d := by unfold absI; omega
  rw [ed]
  have e := Int.mul_ediv_add_emod (absI a) 18446744073709551616
  have f := Int.mul_ediv_add_emod (absI a / 18446744073709551616) (absI d)
  generalize absI a / 18446744073709551616 = h at *
  generalize absI a % 18446744073709551616 = l at *
  generalize h / absI d = q at *
  generalize h % absI d = m at *
  have e2 : absI a = m * 18446744073709551616 + l + absI d * (q * 18446744073709551616) := by
    rw [← Int.mul_assoc]; omega
  rw [e2, Int.add_mul_ediv_left _ _ (by omega), Int.add_mul_emod_self_left]
  exact ⟨by omega, rfl⟩

theorem wide_div (a d hi lo : Int) (hA : Wd hi lo a) (d1 : -9223372036854775808 ≤ d) (d2 : d ≤ 9223372036854775807) (w : World) :
    Calls Tryz.prog 151 #[.agg #[.int .i64 hi, .int .u64 lo], .int .i64 d] w (DAns a d w.heap.size w) := by
  by_cases hd : d = 0
  · have dz : (d == 0) = true := by simpa using hd
    go_enter Tryz.func151, Tryz.ntmps151
    go_wp2
    simp [bodyPost, results, Tryz.results151, go_sem]
    exact ⟨fun _ => rfl, fun h => absurd hd h, fun h => absurd hd h, (by repeat' (first | (with_reducible exact Below.refl _ _) | (with_reducible assumption) | (with_reducible refine below_alloc ?_ _ ?_) | (with_reducible refine below_set _ ?_ ?_) | (with_reducible refine Below.drew ?_) | (with_reducible refine below_dN ?_ _) | (apply below_thenA; assumption) | omega | (simp; done) | (simp; omega) | (simp [*]; done)))⟩
  · have hf := hA.fit
    have hfa := hf
    unfold WFit at hf
    obtain ⟨s1, s2⟩ := absI_split a d hfa d1 d2 hd
    have da : 1 ≤ absI d := by unfold absI; omega
    have db : absI d ≤ 9223372036854775808 := by unfold absI; omega
    have aa : 0 ≤ absI a := by unfold absI; omega
    have ab : absI a ≤ 170141183460469231731687303715884105728 := by unfold absI; omega
    have ed : absI d % 18446744073709551616 = absI d := by omega
    have kq := Int.ediv_nonneg (show 0 ≤ absI a / 18446744073709551616 by omega) (show 0 ≤ absI d by omega)
    have kq1 : absI a / 18446744073709551616 / absI d ≤ absI a / 18446744073709551616 := Int.ediv_le_self _ (by omega)
    have km := Int.emod_nonneg (absI a / 18446744073709551616) (show absI d ≠ 0 by omega)
    have km1 := Int.emod_lt_of_pos (absI a / 18446744073709551616) (show 0 < absI d by omega)
    have hle : absI a / absI d ≤ absI a := Int.ediv_le_self _ aa
    have hhalf : absI d = 1 ∨ absI a / 18446744073709551616 / absI d ≤ 4611686018427387904 := by
      rcases Int.lt_or_le 1 (absI d) with h | h
      · right
        have : absI a / 18446744073709551616 / absI d * 2 ≤ absI a / 18446744073709551616 / absI d * absI d := Int.mul_le_mul_of_nonneg_left (by omega) kq
        have := Int.ediv_mul_le (absI a / 18446744073709551616) (b := absI d) (by omega)
        omega
      · left; omega
    by_cases hR : 0 < absI a % absI d
    · rw [s2] at hR
      refine wide_div_walkR a d hi lo hA d1 d2 hd _ _ _ _ _ _ _ rfl rfl rfl rfl rfl rfl rfl ?_ ?_ ?_ ?_ ?_ ?_ ?_ ?_ ?_ ?_ ?_ ?_ ?_ ?_ s1 s2 ed.symm ?_ ?_ hR w
      all_goals (try rw [ed])
      · omega
      · omega
      · omega
      · omega
      · omega
      · omega
      · exact kq
      · omega
      · exact km
      · exact km1
      · exact Int.ediv_nonneg (by omega) (by omega)
      · exact Int.le_of_lt_add_one (Int.ediv_lt_of_lt_mul (by omega) (by
          have : absI a / 18446744073709551616 % absI d * 18446744073709551616 + 18446744073709551616 ≤ absI d * 18446744073709551616 := by
            have := Int.mul_le_mul_of_nonneg_right (show absI a / 18446744073709551616 % absI d + 1 ≤ absI d by omega) (show (0 : Int) ≤ 18446744073709551616 by decide)
            omega
          omega))
      · exact Int.emod_nonneg _ (by omega)
      · exact Int.emod_lt_of_pos _ (by omega)
      · show _ ∨ _
        rcases hhalf with h | h
        · left; rw [h]; exact Int.emod_one _
        · right; exact h
      · show _ ≤ _
        rw [ed] at s1
        rw [← s1]
        omega
    · rw [s2] at hR
      refine wide_div_walk0 a d hi lo hA d1 d2 hd _ _ _ _ _ _ _ rfl rfl rfl rfl rfl rfl rfl ?_ ?_ ?_ ?_ ?_ ?_ ?_ ?_ ?_ ?_ ?_ ?_ ?_ ?_ s1 s2 ed.symm ?_ ?_ hR w
      all_goals (try rw [ed])
      · omega
      · omega
      · omega
      · omega
      · omega
      · omega
      · exact kq
      · omega
      · exact km
      · exact km1
      · exact Int.ediv_nonneg (by omega) (by omega)
      · exact Int.le_of_lt_add_one (Int.ediv_lt_of_lt_mul (by omega) (by
          have : absI a / 18446744073709551616 % absI d * 18446744073709551616 + 18446744073709551616 ≤ absI d * 18446744073709551616 := by
            have := Int.mul_le_mul_of_nonneg_right (show absI a / 18446744073709551616 % absI d + 1 ≤ absI d by omega) (show (0 : Int) ≤ 18446744073709551616 by decide)
            omega
          omega))
      · exact Int.emod_nonneg _ (by omega)
      · exact Int.emod_lt_of_pos _ (by omega)
      · show _ ∨ _
        rcases hhalf with h | h
        · left; rw [h]; exact Int.emod_one _
        · right; exact h
      · show _ ≤ _
        rw [ed] at s1
        rw [← s1]
        omega
end Go.Proofs.YtigjjddblijpbaaGreatDoor
namespace Go.Proofs.YtigjjddblijpbaaGreatDoor
open Go.RowKit
set_option linter.unusedSimpArgs false
set_option linter.unusedVariables false

theorem wide_div_some (a d hi lo : Int) (hA : Wd hi lo a) (d1 : -9223372036854775808 ≤ d) (d2 : d ≤ 9223372036854775807) (hd : d ≠ 0) (hf : WFit (fq a d)) (w : World) :
    Calls Tryz.prog 151 #[.agg #[.int .i64 hi, .int .u64 lo], .int .i64 d] w fun e w' => e = .returned (.tuple #[.agg #[.int .i64 ((fq a d) / 18446744073709551616), .int .u64 ((fq a d) % 18446744073709551616)], .int .i64 (fr a d), .bool true]) ∧ Below w.heap.size w w' :=
  (wide_div a d hi lo hA d1 d2 w).mono fun _ _ h => ⟨h.2.1 hd hf, h.2.2.2⟩
theorem wide_div_none (a d hi lo : Int) (hA : Wd hi lo a) (d1 : -9223372036854775808 ≤ d) (d2 : d ≤ 9223372036854775807) (hd : d = 0 ∨ ¬ WFit (fq a d)) (w : World) :
    Calls Tryz.prog 151 #[.agg #[.int .i64 hi, .int .u64 lo], .int .i64 d] w fun e w' => e = .returned (.tuple #[.agg #[.int .i64 0, .int .u64 0], .int .i64 0, .bool false]) ∧ Below w.heap.size w w' :=
  (wide_div a d hi lo hA d1 d2 w).mono fun _ _ h => ⟨by
    by_cases h0 : d = 0
    · exact h.1 h0
    · exact h.2.2.1 h0 (hd.resolve_left h0), h.2.2.2⟩
theorem wide_add_fit (a b h1 l1 h2 l2 : Int) (ha : Wd h1 l1 a) (hb : Wd h2 l2 b) (hf : WFit (a + b)) (w : World) :
    Calls Tryz.prog 113 #[.agg #[.int .i64 h1, .int .u64 l1], .agg #[.int .i64 h2, .int .u64 l2]] w fun e w' => e = .returned (.tuple #[.agg #[.int .i64 ((a + b) / 18446744073709551616), .int .u64 ((a + b) % 18446744073709551616)], .bool true]) ∧ Below w.heap.size w w' :=
  (wide_add a b h1 l1 h2 l2 ha hb w).mono fun _ _ h => ⟨h.1 hf, h.2.2⟩
theorem wide_add_no (a b h1 l1 h2 l2 : Int) (ha : Wd h1 l1 a) (hb : Wd h2 l2 b) (hf : ¬ WFit (a + b)) (w : World) :
    Calls Tryz.prog 113 #[.agg #[.int .i64 h1, .int .u64 l1], .agg #[.int .i64 h2, .int .u64 l2]] w fun e w' => e = .returned (.tuple #[.agg #[.int .i64 0, .int .u64 0], .bool false]) ∧ Below w.heap.size w w' :=
  (wide_add a b h1 l1 h2 l2 ha hb w).mono fun _ _ h => ⟨h.2.1 hf, h.2.2⟩
theorem fq_abs {a d : Int} (hd : d ≠ 0) : (fq a d).natAbs ≤ a.natAbs := by
  have h1 : ∀ x y : Int, 0 < y → (x / y).natAbs ≤ x.natAbs := by
    intro x y hy
    rcases Int.lt_or_le x 0 with hx | hx
    · have := (Int.le_ediv_iff_mul_le hy (a := x) (b := x)).2 (by
        have := Int.mul_le_mul_of_nonpos_left (a := x) (b := y) (c := 1) (by omega) (by omega)
        omega)
      have := Int.ediv_neg_of_neg_of_pos hx hy
      omega
    · have := Int.ediv_le_self y hx
      have := Int.ediv_nonneg hx (show 0 ≤ y by omega)
      omega
  unfold fq
  by_cases h : d < 0
  · rw [if_pos h]
    have := h1 (-a) (-d) (by omega)
    omega
  · rw [if_neg h]
    exact h1 a d (by omega)

/-- What MulDiv answers. -/
def MFit (a b c : Int) : Prop := c ≠ 0 ∧ IFit (fq (a * b) c)
theorem i64_fit {n : Int} (h : IFit n) : WFit n := by unfold IFit at h; unfold WFit; omega
theorem mul_fit {a b : Int} (ha : IFit a) (hb : IFit b) : WFit (a * b) := by
  have := mul_bound a b ha.1 ha.2 hb.1 hb.2
  unfold WFit; omega
theorem fq_fit {a b c : Int} (ha : IFit a) (hb : IFit b) (hc : c ≠ 0) : WFit (fq (a * b) c) := by
  have := mul_bound a b ha.1 ha.2 hb.1 hb.2
  have := fq_abs (a := a * b) hc
  unfold WFit; omega

set_option maxRecDepth 100000 in
set_option maxHeartbeats 400000 in
theorem wide_muldiv_fit (a b c : Int) (ha : IFit a) (hb : IFit b) (hc : IFit c) (h : MFit a b c) (w : World) :
    Calls Tryz.prog 235 #[.int .i64 a, .int .i64 b, .int .i64 c] w fun e w' => e = .returned (.tuple #[.int .i64 (fq (a * b) c), .bool true]) ∧ Below w.heap.size w w' := by
  have h0 := h.1
  have qI := h.2
  have mW := Wd.of (mul_fit ha hb)
  have qW := fq_fit ha hb h0
  have qWd := Wd.of qW
  obtain ⟨a1, a2⟩ := ha
  obtain ⟨b1, b2⟩ := hb
  obtain ⟨c1, c2⟩ := hc
  go_enter Tryz.func235, Tryz.ntmps235
  go_wp2_with (first
    | (go_at_call 110; (with_reducible refine (wide_mul a b a1 a2 b1 b2 _).mono ?_); rintro e w' ⟨rfl, hb'⟩; obtain ⟨hc', hf'⟩ := bcell hb'; have hz' := bz0 (n := w.heap.size) hb' (by (try simp) <;> omega); have hs' := hb'.size; (try simp at hs'); (try (have hs2' := Nat.lt_of_succ_le hs')))
    | (go_at_call 151; (with_reducible refine (wide_div_some (a * b) c _ _ mW c1 c2 h0 qW _).mono ?_); rintro e w' ⟨rfl, hb'⟩; obtain ⟨hc', hf'⟩ := bcell hb'; have hz' := bz0 (n := w.heap.size) hb' (by (try simp) <;> omega); have hs' := hb'.size; (try simp at hs'); (try (have hs2' := Nat.lt_of_succ_le hs')))
    | (go_at_call 111; (with_reducible refine (wide_int_fit (fq (a * b) c) _ _ qWd qI _).mono ?_); rintro e w' ⟨rfl, hb'⟩; obtain ⟨hc', hf'⟩ := bcell hb'; have hz' := bz0 (n := w.heap.size) hb' (by (try simp) <;> omega); have hs' := hb'.size; (try simp at hs'); (try (have hs2' := Nat.lt_of_succ_le hs'))))
  go_ret2
  exact ⟨rfl, (by repeat' (first | (with_reducible exact Below.refl _ _) | (with_reducible assumption) | (with_reducible refine below_alloc ?_ _ ?_) | (with_reducible refine below_set _ ?_ ?_) | (with_reducible refine Below.drew ?_) | (with_reducible refine below_dN ?_ _) | (apply below_thenA; assumption) | omega | (simp; done) | (simp; omega) | (simp [*]; done)))⟩
set_option maxRecDepth 100000 in
set_option maxHeartbeats 400000 in
theorem wide_muldiv_no (a b c : Int) (ha : IFit a) (hb : IFit b) (hc : IFit c) (h : ¬ MFit a b c) (w : World) :
    Calls Tryz.prog 235 #[.int .i64 a, .int .i64 b, .int .i64 c] w fun e w' => e = .returned (.tuple #[.int .i64 0, .bool false]) ∧ Below w.heap.size w w' := by
  have mW := Wd.of (mul_fit ha hb)
  have hx := ha
  have hy := hb
  obtain ⟨a1, a2⟩ := ha
  obtain ⟨b1, b2⟩ := hb
  obtain ⟨c1, c2⟩ := hc
  by_cases h0 : c = 0
  · subst h0
    go_enter Tryz.func235, Tryz.ntmps235
    go_wp2_with (first
      | (go_at_call 110; (with_reducible refine (wide_mul a b a1 a2 b1 b2 _).mono ?_); rintro e w' ⟨rfl, hb'⟩; obtain ⟨hc', hf'⟩ := bcell hb'; have hz' := bz0 (n := w.heap.size) hb' (by (try simp) <;> omega); have hs' := hb'.size; (try simp at hs'); (try (have hs2' := Nat.lt_of_succ_le hs')))
      | (go_at_call 151; (with_reducible refine (wide_div_none (a * b) 0 _ _ mW c1 c2 (.inl rfl) _).mono ?_); rintro e w' ⟨rfl, hb'⟩; obtain ⟨hc', hf'⟩ := bcell hb'; have hz' := bz0 (n := w.heap.size) hb' (by (try simp) <;> omega); have hs' := hb'.size; (try simp at hs'); (try (have hs2' := Nat.lt_of_succ_le hs'))))
    go_ret2
    exact ⟨rfl, (by repeat' (first | (with_reducible exact Below.refl _ _) | (with_reducible assumption) | (with_reducible refine below_alloc ?_ _ ?_) | (with_reducible refine below_set _ ?_ ?_) | (with_reducible refine Below.drew ?_) | (with_reducible refine below_dN ?_ _) | (apply below_thenA; assumption) | omega | (simp; done) | (simp; omega) | (simp [*]; done)))⟩
  · have hn : ¬ IFit (fq (a * b) c) := fun x => h ⟨h0, x⟩
    have h0 : c ≠ 0 := h0
    have qW := fq_fit hx hy h0
    have qWd := Wd.of qW
    go_enter Tryz.func235, Tryz.ntmps235
    go_wp2_with (first
      | (go_at_call 110; (with_reducible refine (wide_mul a b a1 a2 b1 b2 _).mono ?_); rintro e w' ⟨rfl, hb'⟩; obtain ⟨hc', hf'⟩ := bcell hb'; have hz' := bz0 (n := w.heap.size) hb' (by (try simp) <;> omega); have hs' := hb'.size; (try simp at hs'); (try (have hs2' := Nat.lt_of_succ_le hs')))
      | (go_at_call 151; (with_reducible refine (wide_div_some (a * b) c _ _ mW c1 c2 h0 qW _).mono ?_); rintro e w' ⟨rfl, hb'⟩; obtain ⟨hc', hf'⟩ := bcell hb'; have hz' := bz0 (n := w.heap.size) hb' (by (try simp) <;> omega); have hs' := hb'.size; (try simp at hs'); (try (have hs2' := Nat.lt_of_succ_le hs')))
      | (go_at_call 111; (with_reducible refine (wide_int_no (fq (a * b) c) _ _ qWd hn _).mono ?_); rintro e w' ⟨rfl, hb'⟩; obtain ⟨hc', hf'⟩ := bcell hb'; have hz' := bz0 (n := w.heap.size) hb' (by (try simp) <;> omega); have hs' := hb'.size; (try simp at hs'); (try (have hs2' := Nat.lt_of_succ_le hs'))))
    go_ret2
    exact ⟨rfl, (by repeat' (first | (with_reducible exact Below.refl _ _) | (with_reducible assumption) | (with_reducible refine below_alloc ?_ _ ?_) | (with_reducible refine below_set _ ?_ ?_) | (with_reducible refine Below.drew ?_) | (with_reducible refine below_dN ?_ _) | (apply below_thenA; assumption) | omega | (simp; done) | (simp; omega) | (simp [*]; done)))⟩
end Go.Proofs.YtigjjddblijpbaaGreatDoor
namespace Go.Proofs.YtigjjddblijpbaaGreatDoor
open Go.RowKit
set_option linter.unusedSimpArgs false
set_option linter.unusedVariables false

theorem td64 (a : Int) : (a.tmod 64 < 0 → a.tdiv 64 - 1 = a / 64) ∧ (¬ a.tmod 64 < 0 → a.tdiv 64 = a / 64) ∧ (0 < a.tmod 64 → a.tdiv 64 + 1 = -((-a) / 64)) ∧ (¬ 0 < a.tmod 64 → a.tdiv 64 = -((-a) / 64)) := by
  rcases Int.lt_or_le a 0 with h | h
  · obtain ⟨b, rfl⟩ : ∃ b, a = -b := ⟨-a, by omega⟩
    have e1 : (-b).tdiv 64 = -(b / 64) := by rw [Int.neg_tdiv, Int.tdiv_eq_ediv_of_nonneg (by omega)]
    have e2 : (-b).tmod 64 = -(b % 64) := by rw [Int.neg_tmod, Int.tmod_eq_emod_of_nonneg (by omega)]
    rw [e1, e2]; omega
  · have e1 : a.tdiv 64 = a / 64 := Int.tdiv_eq_ediv_of_nonneg h
    have e2 : a.tmod 64 = a % 64 := Int.tmod_eq_emod_of_nonneg h
    rw [e1, e2]; omega
def LenB (n : Int) : Prop := -17592186044416 ≤ n ∧ n ≤ 17592186044416
/-- What a giving up with this error is. -/
def gave (c : Int) : List PanicEntry := [{ v := .iface 235 (.int .i64 c), recovered := false }]

set_option maxRecDepth 100000 in
set_option maxHeartbeats 1600000 in
theorem fix_floor (a : Int) (ha : IFit a) (w : World) :
    Calls Tryz.prog 214 #[.int .i64 a] w fun e w' => e = .returned (.int .i64 (a / 64)) ∧ w' = w := by
  obtain ⟨h1, h2⟩ := ha
  have T := Lib.hid (td64 a)
  obtain ⟨q, eq⟩ : ∃ q, a.tdiv 64 = q := ⟨_, rfl⟩
  obtain ⟨r, er⟩ : ∃ r, a.tmod 64 = r := ⟨_, rfl⟩
  by_cases h : r < 0
  · have E : Hid (q - 1 = a / 64) := Lib.hid (by rw [← eq]; exact T.out.1 (by rw [er]; exact h))
    have h3 : -9223372036854775807 ≤ q ∧ q ≤ 9223372036854775807 := by have := E.out; omega
    obtain ⟨h3, h4⟩ := h3
    go_enter Tryz.func214, Tryz.ntmps214
    go_wp2
    go_ret
    exact ⟨by rw [E.out]; rfl, rfl⟩
  · have E : Hid (q = a / 64) := Lib.hid (by rw [← eq]; exact T.out.2.1 (by rw [er]; exact h))
    have h3 : -9223372036854775807 ≤ q ∧ q ≤ 9223372036854775807 := by have := E.out; omega
    obtain ⟨h3, h4⟩ := h3
    go_enter Tryz.func214, Tryz.ntmps214
    go_wp2
    go_ret
    exact ⟨by rw [E.out]; rfl, rfl⟩
set_option maxRecDepth 100000 in
set_option maxHeartbeats 1600000 in
theorem fix_round (a : Int) (ha : IFit a) (w : World) :
    Calls Tryz.prog 178 #[.int .i64 a] w fun e w' => e = .returned (.int .i64 ((a + 32) / 64)) ∧ w' = w := by
  have hA := ha
  obtain ⟨h1, h2⟩ := ha
  obtain ⟨q, eq⟩ : ∃ q, a / 64 = q := ⟨_, rfl⟩
  have h3 : -144115188075855872 ≤ q ∧ q ≤ 144115188075855871 ∧ 0 ≤ a - q * 64 ∧ a - q * 64 ≤ 63 := by omega
  obtain ⟨h3, h4, h5, h6⟩ := h3
  by_cases h : 32 ≤ a - q * 64
  · have E : Hid (q + 1 = (a + 32) / 64) := Lib.hid (by omega)
    have EQ := Lib.hid eq
    clear eq
    go_enter Tryz.func178, Tryz.ntmps178
    go_wp2_with (go_at_call 214; with_reducible refine (fix_floor a hA _).mono ?_; rintro e w1 ⟨rfl, rfl⟩; rw [EQ.out])
    go_ret
    exact ⟨by rw [E.out]; rfl, rfl⟩
  · have E : Hid (q = (a + 32) / 64) := Lib.hid (by omega)
    have EQ := Lib.hid eq
    clear eq
    go_enter Tryz.func178, Tryz.ntmps178
    go_wp2_with (go_at_call 214; with_reducible refine (fix_floor a hA _).mono ?_; rintro e w1 ⟨rfl, rfl⟩; rw [EQ.out])
    go_ret
    exact ⟨by rw [E.out]; rfl, rfl⟩
theorem fix_fail0 (w : World) : Calls Tryz.prog 174 #[.int .i64 0] w fun e w' => e = .returned (.tuple #[]) ∧ w' = w := by
  go_enter Tryz.func174, Tryz.ntmps174
  go_wp2_with fail
  go_end0
  exact ⟨rfl, rfl⟩
theorem fix_fail (c : Int) (hc : c ≠ 0) (w : World) : Calls Tryz.prog 174 #[.int .i64 c] w fun e w' => e = .panicked (gave c) ∧ w' = w := by
  have h : (c != 0) = true := by simp [hc]
  go_enter Tryz.func174, Tryz.ntmps174
  go_wp2_with fail
  simp [bodyPost, gave]
theorem fix_fail2 (w : World) : Calls Tryz.prog 174 #[.int .i64 2] w fun e w' => e = .panicked (gave 2) ∧ w' = w := fix_fail 2 (by decide) w
theorem fix_fail3 (w : World) : Calls Tryz.prog 174 #[.int .i64 3] w fun e w' => e = .panicked (gave 3) ∧ w' = w := fix_fail 3 (by decide) w
set_option maxRecDepth 100000 in
set_option maxHeartbeats 1600000 in
theorem fix_of (n : Int) (hn : IFit n) (h : LenB n) (w : World) : Calls Tryz.prog 130 #[.int .i64 n] w fun e w' => e = .returned (.int .i64 n) ∧ w' = w := by
  obtain ⟨h1, h2⟩ := h
  have d1 : decide (n < -17592186044416) = false := by simp; omega
  have d2 : decide (17592186044416 < n) = false := by simp; omega
  go_enter Tryz.func130, Tryz.ntmps130
  go_wp2_with fail
  go_ret
  exact ⟨rfl, rfl⟩
set_option maxRecDepth 100000 in
set_option maxHeartbeats 1600000 in
theorem fix_of_no (n : Int) (hn : IFit n) (h : ¬ LenB n) (w : World) : Calls Tryz.prog 130 #[.int .i64 n] w fun e w' => e = .panicked (gave 2) ∧ w' = w := by
  by_cases hlo : n < -17592186044416
  · have d1 : decide (n < -17592186044416) = true := by simp [hlo]
    go_enter Tryz.func130, Tryz.ntmps130
    go_wp2_with (go_at_call 174; with_reducible refine (fix_fail2 _).mono ?_; rintro e w1 ⟨rfl, rfl⟩)
    simp [bodyPost]
  · have d1 : decide (n < -17592186044416) = false := by simp; omega
    have hhi : 17592186044416 < n := by unfold LenB at h; omega
    have d2 : decide (17592186044416 < n) = true := by simp [hhi]
    go_enter Tryz.func130, Tryz.ntmps130
    go_wp2_with (go_at_call 174; with_reducible refine (fix_fail2 _).mono ?_; rintro e w1 ⟨rfl, rfl⟩)
    simp [bodyPost]
def clip (n : Int) : Int := min (max n (-52776558133248)) 52776558133248
theorem clip_lo (n : Int) : -52776558133248 ≤ clip n := by unfold clip; omega
theorem clip_hi (n : Int) : clip n ≤ 52776558133248 := by unfold clip; omega
set_option maxRecDepth 100000 in
set_option maxHeartbeats 1600000 in
theorem fix_clipped (n : Int) (hn : IFit n) (w : World) : Calls Tryz.prog 177 #[.int .i64 n] w fun e w' => e = .returned (.int .i64 (clip n)) ∧ w' = w := by
  obtain ⟨h1, h2⟩ := hn
  go_enter Tryz.func177, Tryz.ntmps177
  go_wp2_with fail
  go_ret
  exact ⟨rfl, rfl⟩
end Go.Proofs.YtigjjddblijpbaaGreatDoor
namespace Go.Proofs.YtigjjddblijpbaaGreatDoor
open Go.RowKit
set_option linter.unusedSimpArgs false
set_option linter.unusedVariables false

theorem assert_gave (c : Int) (w : World) : (Instr.typeAssert (Value.iface 235 (.int .i64 c)) 20 235 true).run Tryz.prog w = .ok (.tuple #[.int .i64 c, .bool true]) w := by kernel_rfl
theorem LenB.fit {n : Int} (h : LenB n) : IFit n := by unfold LenB at h; unfold IFit; omega
set_option maxRecDepth 100000 in
set_option maxHeartbeats 1600000 in
/-- The deferred function of Try, where nothing has given up. -/
theorem fix_try1_idle (p : Addr) (w : World) :
    CallsD Tryz.prog 127 #[.pointer (some p)] .returning w fun e u' w' => e = .returned (.tuple #[]) ∧ u' = .returning ∧ w' = w := by
  refine callsD_of_wpS Tryz.func127 rfl fun c₀ cs hu => ?_
  have e0 : (#[Value.pointer (some p)] ++ Array.replicate (Tryz.f127.ntmps - #[Value.pointer (some p)].size) undef : Array Value) = #[.pointer (some p), undef, undef, undef, undef, undef, undef, undef, undef, undef, undef] := by rw [Tryz.ntmps127]; rfl
  rw [e0]
  apply wpS_seq
  apply wpS_region
  simp [wpOpsS, go_sem, recoverD, hu, Tryz.ntmps127, Exit.thenS]
  refine wpS_of_wp ?_
  go_wp2
  cases c₀
  simp_all [bodyPostS, results, Tryz.results127]
set_option maxRecDepth 100000 in
set_option maxHeartbeats 1600000 in
/-- The deferred function of Try, where something has given up. -/
theorem fix_try1_caught (p : Addr) (c : Int) (older : List PanicEntry) (w : World) (x : Value) (hc : w.cell? p = some x) (hz : w.frozen? p = false) :
    CallsD Tryz.prog 127 #[.pointer (some p)] (.panicking ({ v := .iface 235 (.int .i64 c), recovered := false } :: older)) w fun e u' w' =>
      e = .returned (.tuple #[]) ∧ u' = .panicking ({ v := .iface 235 (.int .i64 c), recovered := true } :: older) ∧ w' = w.setCell p (.int .i64 c) := by
  refine callsD_of_wpS Tryz.func127 rfl fun c₀ cs hu => ?_
  have e0 : (#[Value.pointer (some p)] ++ Array.replicate (Tryz.f127.ntmps - #[Value.pointer (some p)].size) undef : Array Value) = #[.pointer (some p), undef, undef, undef, undef, undef, undef, undef, undef, undef, undef] := by rw [Tryz.ntmps127]; rfl
  rw [e0]
  apply wpS_seq
  apply wpS_region
  simp [wpOpsS, go_sem, recoverD, hu, Tryz.ntmps127, Exit.thenS]
  refine wpS_of_wp ?_
  have ha := assert_gave c
  go_wp2
  cases c₀
  simp_all [bodyPostS, results, Tryz.results127]
set_option maxRecDepth 100000 in
set_option maxHeartbeats 1600000 in
/-- Try: what the function gives up with, or 0. -/
theorem fix_try (F : Nat) (cap : Array Value) (w : World) (R : Int → World → Prop) (hen : ∀ w, (callFunc F cap).run Tryz.prog w = .ok (.enter F cap) w)
    (h : Calls Tryz.prog F cap (w.alloc (.cells #[.int .i64 0] 31)) fun e w1 => w1.cell? ⟨w.heap.size, 0, none⟩ = some (.int .i64 0) ∧ w1.frozen? ⟨w.heap.size, 0, none⟩ = false ∧
      ((e = .returned (.tuple #[]) ∧ R 0 w1) ∨ (∃ c, e = .panicked (gave c) ∧ R c w1))) :
    Calls Tryz.prog 88 #[.func (.func F) #[] cap] w fun e w' => ∃ c w1, R c w1 ∧ e = .returned (.int .i64 c) ∧ w' = w1.setCell ⟨w.heap.size, 0, none⟩ (.int .i64 c) := by
  have hmf : ∀ (fn : Fn) (first cap : Array Value) (w : World), (Instr.makeFunc fn first cap).run Tryz.prog w = .ok (.func fn first cap) w := fun _ _ _ _ => rfl
  have hnn : ∀ w : World, (binOp BinOp.eql 1 (Value.func (Fn.func F) #[] cap) Value.nilFunc).run Tryz.prog w = .ok (.bool false) w := fun _ => by kernel_rfl
  go_enter_defers Tryz.func88, Tryz.ntmps88
  go_wp2_with fail
  refine h.mono ?_
  rintro e w1 ⟨e1, e2, h1⟩
  have e3 : ∀ v, (w1.setCell ⟨w.heap.size, 0, none⟩ v).cell? ⟨w.heap.size, 0, none⟩ = some v := fun v => World.cell?_setCell_same _ _ v e1
  rcases h1 with ⟨rfl, hR⟩ | ⟨c, rfl, hR⟩
  · go_wp2_with fail
    refine leaves_cons (f := 127) (args := #[.pointer (some ⟨w.heap.size, 0, none⟩)]) (by simp) (by simp [go_sem]) ?_
    refine (fix_try1_idle ⟨w.heap.size, 0, none⟩ _).mono ?_
    rintro e u' w'' ⟨rfl, rfl, rfl⟩
    simp only [Leaves, settle, results, Tryz.results88]
    simp [go_sem, e3]
    exact ⟨0, w1, hR, rfl, rfl⟩
  · refine leaves_cons (f := 127) (args := #[.pointer (some ⟨w.heap.size, 0, none⟩)]) (by simp) (by simp [go_sem]) ?_
    refine (fix_try1_caught ⟨w.heap.size, 0, none⟩ c [] w1 _ e1 e2).mono ?_
    rintro e u' w'' ⟨rfl, rfl, rfl⟩
    simp only [Leaves, settle, results, Tryz.results88]
    simp [go_sem, e3]
    simp only [Leaves, results, Tryz.results88]
    simp [go_sem, e3]
    exact ⟨c, w1, hR, rfl, rfl⟩

set_option maxRecDepth 100000 in
set_option maxHeartbeats 1600000 in
theorem fix_part (a n d : Int) (ha : IFit a) (hn : IFit n) (hd : IFit d) (h0 : d ≠ 0) (hL : LenB (fq (a * n) d)) (w : World) :
    Calls Tryz.prog 215 #[.int .i64 a, .int .i64 n, .int .i64 d] w fun e w' => e = .returned (.int .i64 (fq (a * n) d)) ∧ Below w.heap.size w w' := by
  have MD := wide_muldiv_fit a n d ha hn hd ⟨h0, hL.fit⟩
  have hne : (d == 0) = false := by simp [h0]
  obtain ⟨F, eF⟩ : ∃ F, fq (a * n) d = F := ⟨_, rfl⟩
  rw [eF] at MD hL ⊢
  have hF := hL.fit
  clear eF h0
  go_enter Tryz.func215, Tryz.ntmps215
  go_wp2_with (first
    | (go_at_call 235; with_reducible refine (MD _).mono ?_; rintro e w1 ⟨rfl, hb1⟩)
    | (go_at_call 130; with_reducible refine (fix_of F hF hL _).mono ?_; rintro e w2 ⟨rfl, rfl⟩))
  go_ret
  exact ⟨rfl, hb1⟩
set_option maxRecDepth 100000 in
set_option maxHeartbeats 1600000 in
theorem fix_part_zero (a n : Int) (w : World) :
    Calls Tryz.prog 215 #[.int .i64 a, .int .i64 n, .int .i64 0] w fun e w' => e = .panicked (gave 3) ∧ w' = w := by
  go_enter Tryz.func215, Tryz.ntmps215
  go_wp2_with (go_at_call 174; with_reducible refine (fix_fail3 _).mono ?_; rintro e w2 ⟨rfl, rfl⟩)
  simp [bodyPost]
set_option maxRecDepth 100000 in
set_option maxHeartbeats 1600000 in
theorem fix_part_no (a n d : Int) (ha : IFit a) (hn : IFit n) (hd : IFit d) (h0 : d ≠ 0) (hL : ¬ LenB (fq (a * n) d)) (w : World) :
    Calls Tryz.prog 215 #[.int .i64 a, .int .i64 n, .int .i64 d] w fun e w' => e = .panicked (gave 2) ∧ Below w.heap.size w w' := by
  have hne : (d == 0) = false := by simp [h0]
  by_cases hF : IFit (fq (a * n) d)
  · have MD := wide_muldiv_fit a n d ha hn hd ⟨h0, hF⟩
    obtain ⟨F, eF⟩ : ∃ F, fq (a * n) d = F := ⟨_, rfl⟩
    rw [eF] at MD hL hF
    clear eF h0
    go_enter Tryz.func215, Tryz.ntmps215
    go_wp2_with (first
      | (go_at_call 235; with_reducible refine (MD _).mono ?_; rintro e w1 ⟨rfl, hb1⟩)
      | (go_at_call 130; with_reducible refine (fix_of_no F hF hL _).mono ?_; rintro e w2 ⟨rfl, rfl⟩))
    simp [bodyPost]; exact hb1
  · have MD := wide_muldiv_no a n d ha hn hd (fun x => hF x.2)
    clear h0
    go_enter Tryz.func215, Tryz.ntmps215
    go_wp2_with (first
      | (go_at_call 235; with_reducible refine (MD _).mono ?_; rintro e w1 ⟨rfl, hb1⟩)
      | (go_at_call 174; with_reducible refine (fix_fail2 _).mono ?_; rintro e w2 ⟨rfl, rfl⟩))
    simp [bodyPost]; exact hb1
theorem fq_one (a : Int) : fq a 1 = a := by unfold fq; rw [if_neg (by decide), Int.ediv_one]
set_option maxRecDepth 100000 in
set_option maxHeartbeats 1600000 in
theorem fix_px (a : Int) (ha : IFit a) (hL : LenB (a * 64)) (w : World) :
    Calls Tryz.prog 179 #[.int .i64 a] w fun e w' => e = .returned (.int .i64 (a * 64)) ∧ Below w.heap.size w w' := by
  have PT := fix_part a 64 1 ha (by unfold IFit; omega) (by unfold IFit; omega) (by decide) (by rw [fq_one]; exact hL)
  rw [fq_one] at PT
  obtain ⟨F, eF⟩ : ∃ F, a * 64 = F := ⟨_, rfl⟩
  rw [eF] at PT ⊢
  clear eF hL
  go_enter Tryz.func179, Tryz.ntmps179
  go_wp2_with (go_at_call 215; with_reducible refine (PT _).mono ?_; rintro e w1 ⟨rfl, hb1⟩)
  go_ret
  exact ⟨rfl, hb1⟩

/-- A slice's numbers. -/
def IntsAt (w : World) (g off k : Nat) (xs : List Int) : Prop := xs.length = k ∧ (∀ i, i < k → IFit (xs.getD i 0)) ∧ ∀ i, i < k → w.cell? ⟨g, off + i, none⟩ = some (.int .i64 (xs.getD i 0))
/-- The sum, each sum on the way a length. -/
def addS : Int → List Int → Option Int
  | s, [] => some s
  | s, x :: xs => if -17592186044416 ≤ s + clip x ∧ s + clip x ≤ 17592186044416 then addS (s + clip x) xs else none
def AddAns (r : Option Int) (w : World) (e : Ending) (w' : World) : Prop := (match r with | some t => e = .returned (.int .i64 t) | none => e = .panicked (gave 2)) ∧ w' = w
theorem addS_cons_yes {s x : Int} {xs : List Int} (h : LenB (s + clip x)) : addS s (x :: xs) = addS (s + clip x) xs := by rw [addS]; exact if_pos ⟨h.1, h.2⟩
theorem addS_cons_no {s x : Int} {xs : List Int} (h : ¬ LenB (s + clip x)) : addS s (x :: xs) = none := by rw [addS]; exact if_neg (fun x => h ⟨x.1, x.2⟩)
set_option maxRecDepth 100000 in
set_option maxHeartbeats 1600000 in
theorem fix_add (g off k cap : Nat) (xs : List Int) (r : Option Int) (hk : k ≤ 1000000) (hr : addS 0 xs = r) (w : World) (hx : IntsAt w g off k xs) :
    Calls Tryz.prog 135 #[.slice (some ⟨g, off, none⟩) k cap] w (AddAns r w) := by
  obtain ⟨hl, hf, hc⟩ := hx
  have HL := Lib.hid hl
  have HF := Lib.hid hf
  have HC := Lib.hid hc
  have HR := Lib.hid hr
  clear hl hf hc hr
  go_enter Tryz.func135, Tryz.ntmps135
  go_wp2_with fail
  go_loopg [3, 8] k (fun gk s3 s8 wr => ∃ (j : Nat) (s : Int), j ≤ k ∧ gk = k - j ∧ s3 = .int .i64 s ∧ s8 = .int .i64 ((j : Int)) ∧ LenB s ∧ addS s (xs.drop j) = r ∧ w = wr)
  case atStart => exact ⟨0, 0, by omega, by omega, rfl, rfl, by unfold LenB; omega, HR.out, rfl⟩
  case round =>
    obtain ⟨j, s, hj, rfl, rfl, rfl, hs, hd, rfl⟩ := hrel
    have HD := Lib.hid hd
    clear hd
    by_cases hjk : j < k
    · have ix : (j : Int) < (k : Int) := by omega
      have hcx := HC.out j hjk
      have hfx := HF.out j hjk
      obtain ⟨x, ex⟩ : ∃ x, xs.getD j 0 = x := ⟨_, rfl⟩
      have ed : xs.drop j = x :: xs.drop (j + 1) := by
        have : j < xs.length := by rw [HL.out]; exact hjk
        rw [List.drop_eq_getElem_cons this, ← ex]; simp [List.getD, this]
      rw [ex] at hcx hfx
      have HE := Lib.hid ed
      have CL := fix_clipped x hfx
      obtain ⟨y, ey⟩ : ∃ y, clip x = y := ⟨_, rfl⟩
      have y1 := clip_lo x
      have y2 := clip_hi x
      rw [ey] at CL y1 y2
      have hs1 := hs.1
      have hs2 := hs.2
      have EY := Lib.hid ey
      clear ex ed ey
      have ht : IFit (s + y) := by unfold IFit; omega
      by_cases hL : LenB (s + y)
      · go_wp2_with (first
          | (go_at_call 177; with_reducible refine (CL _).mono ?_; rintro e w1 ⟨rfl, rfl⟩)
          | (go_at_call 130; with_reducible refine (fix_of (s + y) ht hL _).mono ?_; rintro e w2 ⟨rfl, rfl⟩))
        go_roundg (k - (j + 1))
        case measure => omega
        case rel => exact ⟨j + 1, s + y, by omega, rfl, rfl, by go_num, hL, by have := HD.out; rw [HE.out, addS_cons_yes (by rw [EY.out]; exact hL), EY.out] at this; exact this, rfl⟩
      · have hr : r = none := by have := HD.out; rw [HE.out, addS_cons_no (by rw [EY.out]; exact hL)] at this; exact this.symm
        have HRN := Lib.hid hr
        clear hr
        go_wp2_with (first
          | (go_at_call 177; with_reducible refine (CL _).mono ?_; rintro e w1 ⟨rfl, rfl⟩)
          | (go_at_call 130; with_reducible refine (fix_of_no (s + y) ht hL _).mono ?_; rintro e w2 ⟨rfl, rfl⟩))
        simp [bodyPost, AddAns, HRN.out]
    · obtain rfl : j = k := by omega
      have ix : ¬ (j : Int) < (j : Int) := by omega
      have hr : r = some s := by have := HD.out; rw [List.drop_eq_nil_of_le (by rw [HL.out]; omega)] at this; exact this.symm
      have HRN := Lib.hid hr
      clear hr
      go_wp2_with fail
      go_ret
      exact ⟨by rw [HRN.out]; rfl, rfl⟩
end Go.Proofs.YtigjjddblijpbaaGreatDoor
namespace Go.Proofs.YtigjjddblijpbaaGreatDoor.Ex
open Go Go.RowKit
set_option linter.unusedSimpArgs false
set_option linter.unusedVariables false

abbrev Hk := Cl → Nat → List Value → Hp → Nat → Option (Option Res)
/-- What is to be shown of a call. -/
def CallOK (V : Ev) (P : Program) (f : Nat) (args : List Value) (H : Hp) (nx : Nat) (v : Value) (H' : Hp) (nx' : Nat) (wr : List Nat) : Prop :=
  nx ≤ nx' ∧ (∀ args' w, (callFunc f args').run P w = .ok (.enter f args') w) ∧
  ∀ E w args', HR V E H w → (∀ l, nx ≤ l → E l = none) → concL V.Y E args = some args' →
    Calls P f ⟨args'⟩ w fun e w' => ∃ v' E', e = .returned v' ∧ conc V.Y E' v = some v' ∧ Step V E H nx w E' H' nx' wr w'
def HkG (V : Ev) (P : Program) (hk : Hk) : Prop := ∀ cl, ClS cl → ClOK V P cl → ∀ f args H nx v H' nx' wr, hk cl f args H nx = some (some (v, H', nx', wr)) → CallOK V P f args H nx v H' nx' wr
theorem HkG.ok {V : Ev} {P : Program} {hk : Hk} (h : HkG V P hk) : HkOK V P hk := fun cl hcs hcl f args H nx v H' nx' wr hr => by
  have hr : (hk cl f args H nx).getD none = some (v, H', nx', wr) := hr
  cases hc : hk cl f args H nx with
  | none => rw [hc] at hr; cases hr
  | some r =>
    rw [hc] at hr
    have hr : r = some (v, H', nx', wr) := hr
    exact h cl hcs hcl f args H nx v H' nx' wr (by rw [hc, hr])
noncomputable section
def hkOr (h1 h2 : Hk) : Hk := fun cl f args H nx => match h1 cl f args H nx with
  | some r => some r
  | none => h2 cl f args H nx
def hkPure (g : Nat → List Value → Option Value) : Hk := fun _ f args H nx => match g f args with
  | some v => some (some (v, H, nx, []))
  | none => none
end
theorem hkOr_s {h1 h2 : Hk} (a : HkS h1) (b : HkS h2) : HkS (hkOr h1 h2) := fun cl hcs f args H nx v H' nx' wr h => by
  unfold hkOr at h
  split at h
  · rename_i r hr; cases h; exact a cl hcs _ _ _ _ _ _ _ _ hr
  · exact b cl hcs _ _ _ _ _ _ _ _ h
theorem hkOr_g {V : Ev} {P : Program} {h1 h2 : Hk} (a : HkG V P h1) (b : HkG V P h2) : HkG V P (hkOr h1 h2) := fun cl hcs hcl f args H nx v H' nx' wr h => by
  unfold hkOr at h
  split at h
  · rename_i r hr; cases h; exact a cl hcs hcl _ _ _ _ _ _ _ _ hr
  · exact b cl hcs hcl _ _ _ _ _ _ _ _ h
/-- What is to be shown of calls that leave no more than a value. -/
def PureOK (V : Ev) (P : Program) (g : Nat → List Value → Option Value) : Prop := ∀ f args v, g f args = some v →
  (∀ args' w, (callFunc f args').run P w = .ok (.enter f args') w) ∧
  ∀ E args', concL V.Y E args = some args' → ∃ v', conc V.Y E v = some v' ∧ ∀ w, V.K w → Calls P f ⟨args'⟩ w fun e w' => e = .returned v' ∧ Below w.heap.size w w'
theorem Step.below {V : Ev} {E : Lb} {H : Hp} {nx : Nat} {w w' : World} (hH : HR V E H w) (hb : Below w.heap.size w w') : Step V E H nx w E H nx [] w' := by
  refine ⟨Ext.refl E, fun _ _ => rfl, Nat.le_refl _, ⟨fun l o hl => ?_, hH.inj, hH.low, Nat.le_trans hH.sz hb.size, V.hK _ _ hH.k (fun b hlt => hb.block b (Nat.lt_of_lt_of_le hlt hH.sz))⟩, fun l hl => (by cases hl), fun b hlt _ => hb.block b hlt, fun l p h1 h2 => (by omega), fun _ _ h _ _ => h, hb.os, hb.tape, hb.output, hb.size⟩
  obtain ⟨p, h1, h2⟩ := hH.has l o hl
  exact ⟨p, h1, h2.of_block (hb.block _ h2.lt)⟩
theorem hkPure_s (g : Nat → List Value → Option Value) : HkS (hkPure g) := fun cl _ f args H nx v H' nx' wr h => by
  unfold hkPure at h
  split at h
  · cases h; exact ⟨Nat.le_refl _, Syn.refl _ _ _ _⟩
  · cases h
theorem hkPure_g {V : Ev} {P : Program} {g : Nat → List Value → Option Value} (hg : PureOK V P g) : HkG V P (hkPure g) := fun cl _ _ f args H nx v H' nx' wr h => by
  unfold hkPure at h
  split at h
  · rename_i v0 hv
    cases h
    obtain ⟨h1, h2⟩ := hg _ _ _ hv
    refine ⟨Nat.le_refl _, h1, fun E w args' hH hn ha => ?_⟩
    obtain ⟨v', h3, h4⟩ := h2 E args' ha
    refine (h4 w hH.k).mono fun e w' ⟨he, hb⟩ => ⟨v', E, he, h3, Step.below hH hb⟩
  · cases h
noncomputable section
/-- A map's copy: the entries with their stamps. -/
def cloneV (args : List Value) (H : Hp) (nx : Nat) : Option Res :=
  match args with
  | [.map none] => some (.map none, H, nx, [])
  | [.map (some l)] => match H.get l with
    | some (.m es) => some (.map (some nx), Tr.set D H nx (some (.m es)), nx + 1, [])
    | _ => none
  | _ => none
def hkClone (fs : List Nat) : Hk := fun _ f args H nx => match fs.any (Nat.beq f) with
  | true => some (cloneV args H nx)
  | false => none
/-- What fixed.Try leaves of a call that does not give up. -/
def tryV (cl : Cl) (args : List Value) (H : Hp) (nx : Nat) : Option Res :=
  match args with
  | [.func (.func g) ⟨[]⟩ ⟨cap⟩] => match cl g cap H nx with
    | some (.tuple ⟨[]⟩, H', nx', wr) => some (.int .i64 0, H', nx', wr)
    | _ => none
  | _ => none
def hkTry : Hk := fun cl f args H nx => match Nat.beq f 88 with
  | true => some (tryV cl args H nx)
  | false => none
end
theorem hkClone_s (fs : List Nat) : HkS (hkClone fs) := fun cl _ f args H nx v H' nx' wr h => by
  unfold hkClone at h
  split at h
  · have h := Option.some.inj h
    unfold cloneV at h
    repeat' split at h
    all_goals first
      | (cases h; done)
      | (cases h; exact ⟨Nat.le_refl _, Syn.refl _ _ _ _⟩)
      | (cases h; exact ⟨Nat.le_succ _, syn_set (fun _ _ h => h) (.inr (by omega))⟩)
  · cases h
theorem hkClone_g {V : Ev} {P : Program} (fs : List Nat) (hent : ∀ f, f ∈ fs → ∀ args' w, (callFunc f args').run P w = .ok (.enter f args') w)
    (hc : ∀ f, f ∈ fs → ∀ b es c w, w.heap[b]? = some (.map es c) → Calls P f #[.map (some b)] w fun e w' => e = .returned (.map (some w.heap.size)) ∧ w' = w.alloc (.map es c))
    (hn : ∀ f, f ∈ fs → ∀ w, Calls P f #[.map none] w fun e w' => e = .returned (.map none) ∧ w' = w) : HkG V P (hkClone fs) := fun cl _ _ f args H nx v H' nx' wr h => by
  unfold hkClone at h
  split at h
  · rename_i hf
    rw [List.any_eq_true] at hf
    obtain ⟨f', hf, he⟩ := hf
    have := Nat.eq_of_beq_eq_true he
    subst this
    have h := Option.some.inj h
    unfold cloneV at h
    split at h
    · cases h
      refine ⟨Nat.le_refl _, hent f hf, fun E w args' hH hn' ha => ?_⟩
      obtain ⟨a, t, h1, h2, rfl⟩ := concL_cons ha
      cases h1; cases h2
      exact (hn f hf w).mono fun e w' ⟨h3, h4⟩ => ⟨_, E, h3, rfl, by subst h4; exact Step.refl hH _⟩
    · rename_i l
      split at h
      · rename_i es hl
        cases h
        refine ⟨Nat.le_succ _, hent f hf, fun E w args' hH hn' ha => ?_⟩
        obtain ⟨a, t, h1, h2, rfl⟩ := concL_cons ha
        obtain ⟨p, hp, rfl⟩ := conc_map_inv h1
        cases h2
        obtain ⟨p2, hp2, es', ces, c, hb, h3⟩ := hH.has _ _ hl
        rw [hp] at hp2; cases hp2
        refine (hc f hf p.1 ⟨es'⟩ c w hb).mono fun e w' ⟨h4, h5⟩ => ?_
        subst h5
        have hne := hn' nx (Nat.le_refl _)
        refine ⟨_, upd E nx (w.heap.size, 0), h4, conc_map (upd_self _ _ _), Step.alloc hH hne 0 _ _ ?_⟩
        exact ⟨es', ces, c, heap_alloc_new w _, concM_ext (upd_ext _ hne) h3.1, h3.2⟩
      · cases h
    · cases h
  · cases h
theorem hkTry_s : HkS hkTry := fun cl hcs f args H nx v H' nx' wr h => by
  unfold hkTry at h
  split at h
  · have h := Option.some.inj h
    unfold tryV at h
    split at h
    · split at h
      · rename_i hr; cases h
        exact hcs _ _ _ _ _ _ _ _ hr
      · cases h
    · cases h
  · cases h
theorem hkTry_g {V : Ev} : HkG V Tryz.prog hkTry := fun cl hcs hcl f args H nx v H' nx' wr h => by
  unfold hkTry at h
  split at h
  · rename_i hf
    have := Nat.eq_of_beq_eq_true hf
    subst this
    have h := Option.some.inj h
    unfold tryV at h
    split at h
    · rename_i g cap _
      split at h
      · rename_i hr
        cases h
        obtain ⟨c1, c2, c3⟩ := hcl _ _ _ _ _ _ _ _ hr
        refine ⟨c1, enters _ _ _ Tryz.func88 rfl, fun E w args' hH hn ha => ?_⟩
        obtain ⟨a, t, h1, h2, rfl⟩ := concL_cons ha
        obtain ⟨cap', h3, rfl⟩ := conc_func_inv h1
        cases h2
        have hHa : HR V E H (w.alloc (.cells #[.int .i64 0] 31)) := by
          have old : ∀ b, b < w.heap.size → (w.alloc (.cells #[.int .i64 0] 31)).heap[b]? = w.heap[b]? := fun b hb => alloc_old w _ b hb
          refine ⟨fun l o hl => ?_, hH.inj, hH.low, by have := hH.sz; simp; omega, V.hK _ _ hH.k (fun b hlt => old b (Nat.lt_of_lt_of_le hlt hH.sz))⟩
          obtain ⟨p, g1, g2⟩ := hH.has l o hl
          exact ⟨p, g1, g2.of_block (old _ g2.lt)⟩
        have hlt : ∀ l o p, H.get l = some o → E l = some p → p.1 < w.heap.size := fun l o p g1 g2 => by
          obtain ⟨q, g3, g4⟩ := hH.has l o g1
          rw [g2] at g3; cases g3
          exact g4.lt
        let R : Int → World → Prop := fun c w1 => c = 0 ∧ ∃ E', Step V E H nx (w.alloc (.cells #[.int .i64 0] 31)) E' H' nx' wr w1
        refine (fix_try g ⟨cap'⟩ w R (c2 ⟨cap'⟩) ((c3 E _ cap' hHa hn h3).mono fun e w1 he => ?_)).mono fun e w' he => ?_
        · obtain ⟨v', E', rfl, hv', hst⟩ := he
          cases hv'
          have hbox : w1.heap[w.heap.size]? = some (.cells #[.int .i64 0] 31 (0, 0)) := by
            rw [hst.fr _ (by simp) (fun l p hl hln hp e => ?_)]
            · exact heap_alloc_new w _
            · obtain ⟨o, ho⟩ := hst.wl l hl hln
              have := hlt l o p ho hp
              omega
          exact ⟨by simp [World.cell?, hbox], by simp [World.frozen?, hbox], .inl ⟨rfl, rfl, E', hst⟩⟩
        · obtain ⟨c, w1, ⟨rfl, E', hst⟩, rfl, rfl⟩ := he
          refine ⟨_, E', rfl, rfl, ?_⟩
          have hset : ∀ b, b ≠ w.heap.size → (w1.setCell ⟨w.heap.size, 0, none⟩ (.int .i64 0)).heap[b]? = w1.heap[b]? := fun b hb => by
            simp only [World.setCell, Array.getElem?_modify]
            rw [if_neg (fun e => hb e.symm)]
          have hsz : (w1.setCell ⟨w.heap.size, 0, none⟩ (.int .i64 0)).heap.size = w1.heap.size := by simp
          have hne : ∀ l o p, H'.get l = some o → E' l = some p → p.1 ≠ w.heap.size := fun l o p g1 g2 e => by
            by_cases hr : nx ≤ l ∧ l < nx'
            · rcases hst.nw l p hr.1 hr.2 g2 with g3 | ⟨m, q, g3, g4, g5, g6⟩
              · simp at g3; omega
              · obtain ⟨o2, g7⟩ := hst.wl m g3 g4
                have := hlt m o2 q g7 g5
                omega
            · have hout := hst.out l (by omega)
              rw [hout] at g2
              have hl : l < nx := by
                by_cases hl : l < nx
                · exact hl
                · rw [hn l (by omega)] at g2; cases g2
              by_cases hm : l ∈ wr
              · obtain ⟨o2, g7⟩ := hst.wl l hm hl
                have := hlt l o2 p g7 g2
                omega
              · have := hlt l o p (hst.syn l o g1 hm (.inl hl)) g2
                omega
          refine ⟨hst.ext, hst.out, hst.le, ⟨fun l o hl => ?_, hst.hr.inj, hst.hr.low, by rw [hsz]; exact hst.hr.sz, V.hK _ _ hst.hr.k (fun b hlt2 => hset b (fun e => by have := hH.sz; omega))⟩, hst.wl, fun b hb hno => ?_, fun l p g1 g2 g3 => ?_, hst.syn, ?_, ?_, ?_, ?_⟩
          · obtain ⟨p, g1, g2⟩ := hst.hr.has l o hl
            exact ⟨p, g1, g2.of_block (hset _ (hne l o p hl g1))⟩
          · rw [hset b (by omega), hst.fr b (by simp; omega) hno]
            exact alloc_old w _ b hb
          · refine (hst.nw l p g1 g2 g3).imp (fun h => ?_) id
            simp at h; omega
          · exact hst.os
          · exact hst.tape
          · exact hst.output
          · rw [hsz]; have := hst.size; simp at this; omega
      · cases h
    · cases h
  · cases h
end Go.Proofs.YtigjjddblijpbaaGreatDoor.Ex
