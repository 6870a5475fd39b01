/-
  Plain facts on a long division bit by bit, and on quotients that are rounded down.
-/
import Derived.Test.YthffphcgkmjhbaaBigMath
import Derived.Test.YthffphcgkmjhbaaBigA
import Derived.Test.YthffphcgkmjhbaaWideD
namespace Go.Proofs.Ythffphcgkmjhbaa.BM
/-- One bit more: the divisor goes in once more, or not. -/
theorem div_step {N q r B b : Nat} (h : q * B + r = N) (hr : r < B) (hb : b < 2) :
    (B ≤ 2 * r + b → (2 * q + 1) * B + (2 * r + b - B) = 2 * N + b ∧ 2 * r + b - B < B) ∧ (2 * r + b < B → (2 * q) * B + (2 * r + b) = 2 * N + b) := by
  have e1 : (2 * q + 1) * B = 2 * (q * B) + B := by rw [Nat.add_mul, Nat.mul_assoc]; omega
  have e2 : (2 * q) * B = 2 * (q * B) := Nat.mul_assoc 2 q B
  rw [e1, e2]
  omega
theorem bit_lt (d m : Nat) : d / m % 2 < 2 := Nat.mod_lt _ (by decide)
theorem bit_split (d s : Nat) : d / 2 ^ s = 2 * (d / 2 ^ (s + 1)) + d / 2 ^ s % 2 := by
  rw [Nat.pow_succ, ← Nat.div_div_eq_div_mul]
  omega
/-- What has been taken of the number, with so many bits of its next piece to come. -/
def seen (H d s : Nat) : Nat := H * 2 ^ (16 - s) + d / 2 ^ s
theorem seen_top (H d : Nat) (hd : d < 65536) : seen H d 16 = H := by
  unfold seen
  rw [Nat.div_eq_of_lt (by simpa using hd)]; simp
theorem seen_end (H d : Nat) : seen H d 0 = d + 65536 * H := by
  unfold seen; simp; omega
theorem seen_step (H d s : Nat) (hs : s < 16) : seen H d s = 2 * seen H d (s + 1) + d / 2 ^ s % 2 := by
  unfold seen
  have e : 16 - s = 16 - (s + 1) + 1 := by omega
  rw [e, Nat.pow_succ, ← Nat.mul_assoc]
  have := bit_split d s
  omega
theorem half_pow (s : Nat) : 2 ^ (s + 1) / 2 = 2 ^ s := by rw [Nat.pow_succ]; omega
theorem div_end {q r A B : Nat} (h : q * B + r = A) (hr : r < B) : q = A / B ∧ r = A % B := by
  have hB : 0 < B := by omega
  constructor
  · rw [← h, Nat.mul_comm, Nat.mul_add_div hB, Nat.div_eq_of_lt hr]; rfl
  · rw [← h, Nat.mul_comm, Nat.mul_add_mod, Nat.mod_eq_of_lt hr]
end Go.Proofs.Ythffphcgkmjhbaa.BM
namespace Go.Proofs.Ythffphcgkmjhbaa
theorem absI_sgn (neg : Bool) (n : Nat) : absI (sgn neg n) = (n : Int) := by unfold absI; cases neg <;> simp [sgn] <;> omega
theorem sgn_lt {neg : Bool} {n : Nat} (h : neg = true → n ≠ 0) : sgn neg n < 0 ↔ neg = true := by
  cases neg
  · simp [sgn]
  · have := h rfl; simp [sgn]; omega
/-- Down by the quotient of sizes. -/
theorem down_q {na nb : Bool} {x y : Nat} (ha : na = true → x ≠ 0) (hb : nb = true → y ≠ 0) (hy : 0 < y) :
    (na = nb → fq (sgn na x) (sgn nb y) = ((x / y : Nat) : Int)) ∧
    (na ≠ nb → x % y = 0 → fq (sgn na x) (sgn nb y) = -((x / y : Nat) : Int)) ∧
    (na ≠ nb → 0 < x % y → fq (sgn na x) (sgn nb y) = -((x / y : Nat) : Int) + -1) := by
  have hd : sgn nb y ≠ 0 := by cases nb <;> simp [sgn] <;> omega
  obtain ⟨f1, f2, f3⟩ := fq_size (a := sgn na x) hd
  rw [absI_sgn, absI_sgn] at f1 f2 f3
  have s1 := sgn_lt ha
  have s2 := sgn_lt hb
  refine ⟨fun e => ?_, fun e hz => ?_, fun e hz => ?_⟩
  · rw [(f1 (by rw [s1, s2, e])).1]; rfl
  · rw [(f2 (by rw [s1, s2]; intro h; exact e (Bool.eq_iff_iff.2 h)) (by rw [← Int.natCast_emod, hz]; rfl)).1]; rfl
  · rw [(f3 (by rw [s1, s2]; intro h; exact e (Bool.eq_iff_iff.2 h)) (by rw [← Int.natCast_emod]; omega)).1, ← Int.natCast_ediv]; omega
end Go.Proofs.Ythffphcgkmjhbaa
