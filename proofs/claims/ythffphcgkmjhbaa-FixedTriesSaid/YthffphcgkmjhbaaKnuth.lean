/-
  Plain facts on the division of a number of two words by one of one word, by digits of half a word.
-/
set_option linter.unusedVariables false
namespace Go.Proofs.Ythffphcgkmjhbaa.KD
/-- Where a guessed digit stands: too great just where the test says so. -/
theorem test_iff {q r U d y1 y0 : Int} (hi : q * y1 + r = U) :
    q * (y1 * 4294967296 + y0) ≤ U * 4294967296 + d ↔ q * y0 ≤ r * 4294967296 + d := by
  subst hi
  rw [Int.mul_add, ← Int.mul_assoc, Int.add_mul]
  omega
theorem dl (U y k : Int) (hy : 0 < y) (h : U < k * y) : U / y < k := Int.ediv_lt_of_lt_mul hy h
theorem guess_le {U y1 y0 : Int} (h1 : 2147483648 ≤ y1) (h0 : y0 < 4294967296) (hU : U < y1 * 4294967296 + y0) : U / y1 ≤ 4294967297 := by
  have h0 : U < 4294967298 * y1 := by omega
  have h := dl U y1 4294967298 (by omega) h0
  exact Int.le_of_lt_add_one h
theorem guess_ge {U d y1 y0 : Int} (h1 : 0 < y1) (h0 : 0 ≤ y0) (hU : 0 ≤ U) (hd0 : 0 ≤ d) (hd : d < 4294967296) : (U * 4294967296 + d) / (y1 * 4294967296 + y0) ≤ U / y1 := by
  have hQ := Int.ediv_mul_le (U * 4294967296 + d) (b := y1 * 4294967296 + y0) (by omega)
  have hQ0 : 0 ≤ (U * 4294967296 + d) / (y1 * 4294967296 + y0) := Int.ediv_nonneg (by omega) (by omega)
  generalize (U * 4294967296 + d) / (y1 * 4294967296 + y0) = Q at *
  rw [Int.mul_add, ← Int.mul_assoc] at hQ
  have := Int.mul_nonneg hQ0 h0
  exact (Int.le_ediv_iff_mul_le h1).2 (by omega)
theorem digit_lt {U d Y : Int} (hY : 0 < Y) (hU : U < Y) (hd : d < 4294967296) : (U * 4294967296 + d) / Y < 4294967296 :=
  dl _ _ _ hY (by omega)
theorem digit_of {q r U d y1 y0 : Int} (hY : 0 < y1 * 4294967296 + y0) (hi : q * y1 + r = U) (hge : (U * 4294967296 + d) / (y1 * 4294967296 + y0) ≤ q) (ht : q * y0 ≤ r * 4294967296 + d) :
    q = (U * 4294967296 + d) / (y1 * 4294967296 + y0) :=
  Int.le_antisymm ((Int.le_ediv_iff_mul_le hY).2 ((test_iff (d := d) (y0 := y0) hi).2 ht)) hge
theorem digit_step {q r U d y1 y0 : Int} (hY : 0 < y1 * 4294967296 + y0) (hi : q * y1 + r = U) (ht : r * 4294967296 + d < q * y0) :
    (U * 4294967296 + d) / (y1 * 4294967296 + y0) ≤ q - 1 := by
  have h : ¬ q * (y1 * 4294967296 + y0) ≤ U * 4294967296 + d := fun h => by
    have := (test_iff (d := d) (y0 := y0) hi).1 h
    omega
  exact Int.le_sub_one_of_lt (Int.ediv_lt_of_lt_mul hY (Int.lt_of_not_ge h))
theorem digit_big {q r U d y1 y0 : Int} (hY : 0 < y1 * 4294967296 + y0) (h00 : 0 ≤ y0) (h0 : y0 < 4294967296) (hi : q * y1 + r = U) (hd : 0 ≤ d) (hq : q ≤ 4294967296) (hr : 4294967296 ≤ r) (hge : (U * 4294967296 + d) / (y1 * 4294967296 + y0) ≤ q) :
    q = (U * 4294967296 + d) / (y1 * 4294967296 + y0) := by
  refine digit_of hY hi hge ?_
  have h1 : q * y0 ≤ 4294967296 * y0 := Int.mul_le_mul_of_nonneg_right hq h00
  omega
theorem step_inv {q r U y1 : Int} (hi : q * y1 + r = U) : (q - 1) * y1 + (r + y1) = U := by
  rw [Int.sub_mul]; omega
/-- The words put together. -/
theorem whole_aux {U a b Y Q R : Int} (hY : 0 < Y) (h : Y * Q + R = U * 4294967296 + a) :
    (U * 18446744073709551616 + (a * 4294967296 + b)) / Y = Q * 4294967296 + (R * 4294967296 + b) / Y ∧
    (U * 18446744073709551616 + (a * 4294967296 + b)) % Y = (R * 4294967296 + b) % Y := by
  have e : U * 18446744073709551616 + (a * 4294967296 + b) = R * 4294967296 + b + Y * (Q * 4294967296) := by
    have : Y * (Q * 4294967296) = (Y * Q) * 4294967296 := (Int.mul_assoc _ _ _).symm
    omega
  rw [e, Int.add_mul_ediv_left _ _ (by omega), Int.add_mul_emod_self_left]
  exact ⟨Int.add_comm _ _, rfl⟩
theorem whole {U a b Y : Int} (hY : 0 < Y) :
    (U * 18446744073709551616 + (a * 4294967296 + b)) / Y = (U * 4294967296 + a) / Y * 4294967296 + ((U * 4294967296 + a) % Y * 4294967296 + b) / Y ∧
    (U * 18446744073709551616 + (a * 4294967296 + b)) % Y = ((U * 4294967296 + a) % Y * 4294967296 + b) % Y :=
  whole_aux hY (Int.mul_ediv_add_emod _ Y)
/-- Both shifted alike. -/
theorem unshift (x y : Int) (p : Int) (hp : 0 < p) : x * p / (y * p) = x / y ∧ x * p % (y * p) / p = x % y := by
  refine ⟨Int.mul_ediv_mul_of_pos_left _ _ hp, ?_⟩
  rw [Int.mul_comm x, Int.mul_comm y, Int.mul_emod_mul_of_pos _ _ hp, Int.mul_comm, Int.mul_ediv_cancel _ (by omega)]
/-- A guess on its way down to the digit. -/
def KInv (Y y1 U d q r : Int) : Prop := q * y1 + r = U ∧ 0 ≤ q ∧ 0 ≤ r ∧ r < 4294967296 ∧ q ≤ 4294967297 ∧ (U * 4294967296 + d) / Y ≤ q
theorem KInv.start {Y y1 y0 U d : Int} (hY : y1 * 4294967296 + y0 = Y) (h1 : 2147483648 ≤ y1) (h1b : y1 < 4294967296) (h00 : 0 ≤ y0) (h0 : y0 < 4294967296) (hU0 : 0 ≤ U) (hU : U < Y) (hd0 : 0 ≤ d) (hd : d < 4294967296) : KInv Y y1 U d (U / y1) (U - U / y1 * y1) := by
  subst hY
  have e := Int.mul_ediv_add_emod U y1
  have l := Int.emod_lt_of_pos U (show 0 < y1 by omega)
  have l0 := Int.emod_nonneg U (show y1 ≠ 0 by omega)
  rw [Int.mul_comm] at e
  exact ⟨by omega, Int.ediv_nonneg hU0 (by omega), by omega, by omega, guess_le h1 h0 hU, guess_ge (by omega) h00 hU0 hd0 hd⟩
theorem KInv.pos {Y y1 U d q r : Int} (h : KInv Y y1 U d q r) (hq : 4294967296 ≤ q) (hY : 0 < Y) (hU : U < Y) (hd : d < 4294967296) : (U * 4294967296 + d) / Y ≤ q - 1 := by
  have := digit_lt hY hU hd
  omega
theorem KInv.test {Y y1 y0 U d q r : Int} (h : KInv Y y1 U d q r) (hY : y1 * 4294967296 + y0 = Y) (h1 : 0 < y1) (h0 : 0 ≤ y0) (hd : 0 ≤ d) (ht : 4294967296 * r + d < q * y0) : (U * 4294967296 + d) / Y ≤ q - 1 ∧ 1 ≤ q := by
  subst hY
  refine ⟨digit_step (by omega) h.1 (by omega), ?_⟩
  obtain ⟨_, hq0, hr0, _, _, _⟩ := h
  rcases Int.lt_or_le 0 q with hp | hp
  · exact hp
  · have : q = 0 := by omega
    subst this
    simp at ht
    omega
theorem KInv.done {Y y1 y0 U d q r : Int} (h : KInv Y y1 U d q r) (hY : y1 * 4294967296 + y0 = Y) (h1 : 0 < y1) (h0 : 0 ≤ y0) (ht : ¬ 4294967296 * r + d < q * y0) : q = (U * 4294967296 + d) / Y := by
  subst hY
  exact digit_of (by omega) h.1 h.2.2.2.2.2 (by omega)
theorem KInv.next {Y y1 U d q r : Int} (h : KInv Y y1 U d q r) (h1 : 0 ≤ y1) (hp : 1 ≤ q) (hq : (U * 4294967296 + d) / Y ≤ q - 1) (hr : r + y1 < 4294967296) : KInv Y y1 U d (q - 1) (r + y1) := by
  obtain ⟨hi, hq0, hr0, _, hq1, _⟩ := h
  exact ⟨step_inv hi, by omega, by omega, hr, by omega, hq⟩
theorem KInv.big {Y y1 y0 U d q r : Int} (h : KInv Y y1 U d q r) (hY : y1 * 4294967296 + y0 = Y) (h1 : 0 < y1) (h00 : 0 ≤ y0) (h0 : y0 < 4294967296) (hd : 0 ≤ d) (hp : 1 ≤ q) (hq : (U * 4294967296 + d) / Y ≤ q - 1) (hr : 4294967296 ≤ r + y1) : q - 1 = (U * 4294967296 + d) / Y := by
  subst hY
  obtain ⟨hi, hq0, hr0, _, hq1, _⟩ := h
  exact digit_big (by omega) h00 h0 (step_inv hi) hd (by omega) hr hq
theorem mul_lt {q y : Int} (hq0 : 0 ≤ q) (hq : q < 4294967296) (hy0 : 0 ≤ y) (hy : y < 4294967296) : q * y ≤ 18446744065119617025 :=
  Int.mul_le_mul (show q ≤ 4294967295 by omega) (show y ≤ 4294967295 by omega) hy0 (by decide)
end Go.Proofs.Ythffphcgkmjhbaa.KD
