/-
  Plain facts on whole numbers that are kept as lists of pieces of 16 bits.
-/
namespace Go.Proofs.Ythffphcgkmjhbaa.BM
/-- The value of a list of pieces, the lowest first. -/
def bval : List Nat → Nat
  | [] => 0
  | d :: ds => d + 65536 * bval ds
def Dig (ds : List Nat) : Prop := ∀ d ∈ ds, d < 65536
/-- No nought at the end. -/
def Trim (ds : List Nat) : Prop := ∀ h : ds ≠ [], ds.getLast h ≠ 0
/-- At most so many pieces. -/
def Sz (n : Int) (k : Nat) : Prop := n.natAbs < 65536 ^ k

theorem Dig.nil : Dig [] := fun _ h => by cases h
theorem Dig.cons {d : Nat} {ds : List Nat} (h : d < 65536) (hs : Dig ds) : Dig (d :: ds) := by
  intro x hx
  rcases List.mem_cons.1 hx with rfl | hx
  · exact h
  · exact hs x hx
theorem Dig.tail {d : Nat} {ds : List Nat} (h : Dig (d :: ds)) : Dig ds := fun x hx => h x (List.mem_cons_of_mem _ hx)
theorem Dig.head {d : Nat} {ds : List Nat} (h : Dig (d :: ds)) : d < 65536 := h d (List.mem_cons_self ..)
theorem Dig.append {a b : List Nat} (ha : Dig a) (hb : Dig b) : Dig (a ++ b) := by
  intro x hx
  rcases List.mem_append.1 hx with h | h
  · exact ha x h
  · exact hb x h
theorem Dig.snoc {a : List Nat} {d : Nat} (ha : Dig a) (hd : d < 65536) : Dig (a ++ [d]) :=
  ha.append (Dig.cons hd Dig.nil)
theorem Dig.take {a : List Nat} (ha : Dig a) (k : Nat) : Dig (a.take k) := fun x hx => ha x (List.mem_of_mem_take hx)
theorem Dig.drop {a : List Nat} (ha : Dig a) (k : Nat) : Dig (a.drop k) := fun x hx => ha x (List.mem_of_mem_drop hx)
theorem Dig.get {a : List Nat} (ha : Dig a) (k : Nat) (h : k < a.length) : a[k] < 65536 := ha _ (List.getElem_mem h)
theorem Dig.getD {a : List Nat} (ha : Dig a) (k : Nat) : a.getD k 0 < 65536 := by
  by_cases h : k < a.length
  · simpa [List.getD, h] using ha.get k h
  · simp [List.getD, List.getElem?_eq_none (Nat.le_of_not_lt h)]
theorem Dig.set {a : List Nat} (ha : Dig a) (k v : Nat) (hv : v < 65536) : Dig (a.set k v) := by
  intro x hx
  rcases List.mem_or_eq_of_mem_set hx with h | rfl
  · exact ha x h
  · exact hv
theorem Dig.replicate (n : Nat) : Dig (List.replicate n 0) := by
  intro x hx
  have := List.eq_of_mem_replicate hx
  omega

theorem bval_append (a b : List Nat) : bval (a ++ b) = bval a + 65536 ^ a.length * bval b := by
  induction a with
  | nil => simp [bval]
  | cons d ds ih =>
    simp only [List.cons_append, bval, ih, List.length_cons, Nat.pow_succ, Nat.mul_add]
    rw [Nat.mul_comm (65536 ^ ds.length) 65536, Nat.mul_assoc]
    omega
theorem bval_snoc (a : List Nat) (d : Nat) : bval (a ++ [d]) = bval a + 65536 ^ a.length * d := by
  rw [bval_append]; simp [bval]
theorem bval_take_succ (a : List Nat) (k : Nat) (h : k < a.length) : bval (a.take (k + 1)) = bval (a.take k) + 65536 ^ k * a[k] := by
  rw [List.take_succ_eq_append_getElem h, bval_snoc, List.length_take, Nat.min_eq_left (by omega)]
theorem bval_replicate (n : Nat) : bval (List.replicate n 0) = 0 := by
  induction n with
  | zero => rfl
  | succ n ih => simp [List.replicate_succ, bval, ih]
theorem bval_lt {a : List Nat} (h : Dig a) : bval a < 65536 ^ a.length := by
  induction a with
  | nil => simp [bval]
  | cons d ds ih =>
    have := ih h.tail
    have := h.head
    simp only [bval, List.length_cons, Nat.pow_succ]
    omega
theorem bval_take_lt {a : List Nat} (h : Dig a) (k : Nat) : bval (a.take k) < 65536 ^ k := by
  have h1 := bval_lt (h.take k)
  have h2 : (a.take k).length ≤ k := List.length_take_le ..
  exact Nat.lt_of_lt_of_le h1 (Nat.pow_le_pow_right (by decide) h2)
theorem bval_split (a : List Nat) (k : Nat) (h : k ≤ a.length) : bval a = bval (a.take k) + 65536 ^ k * bval (a.drop k) := by
  have := bval_append (a.take k) (a.drop k)
  rw [List.take_append_drop, List.length_take, Nat.min_eq_left h] at this
  exact this
theorem bval_drop (a : List Nat) (k : Nat) (h : k < a.length) : bval (a.drop k) = a[k] + 65536 * bval (a.drop (k + 1)) := by
  rw [List.drop_eq_getElem_cons h]; rfl
/-- A piece is replaced. -/
theorem bval_set (a : List Nat) (k v : Nat) (h : k < a.length) : bval (a.set k v) + 65536 ^ k * a[k] = bval a + 65536 ^ k * v := by
  induction a generalizing k with
  | nil => simp at h
  | cons d ds ih =>
    cases k with
    | zero => simp [bval]; omega
    | succ k =>
      have h' : k < ds.length := by simpa using h
      have := ih k h'
      simp only [List.set_cons_succ, bval, List.getElem_cons_succ, Nat.pow_succ]
      rw [Nat.mul_comm (65536 ^ k) 65536, Nat.mul_assoc, Nat.mul_assoc]
      omega

theorem Trim.nil : Trim [] := fun h => absurd rfl h
/-- A trimmed list that isn't empty is at least so great. -/
theorem Trim.ge {a : List Nat} (h : Trim a) (hne : a ≠ []) : 65536 ^ (a.length - 1) ≤ bval a := by
  have h1 := List.dropLast_concat_getLast hne
  have h2 := h hne
  rw [← h1, bval_snoc]
  simp only [List.length_append, List.length_dropLast, List.length_singleton]
  have h3 : 1 ≤ a.getLast hne := by omega
  have h4 : a.length - 1 + 1 - 1 = a.length - 1 := by omega
  rw [h4]
  calc 65536 ^ (a.length - 1) = 65536 ^ (a.length - 1) * 1 := by omega
    _ ≤ 65536 ^ (a.length - 1) * a.getLast hne := Nat.mul_le_mul_left _ h3
    _ ≤ _ := by omega
theorem Trim.eq_nil {a : List Nat} (h : Trim a) (h0 : bval a = 0) : a = [] := by
  by_cases hne : a = []
  · exact hne
  · have := h.ge hne
    have : 0 < 65536 ^ (a.length - 1) := Nat.pow_pos (by decide)
    omega
theorem Trim.len {a : List Nat} (h : Trim a) {k : Nat} (hk : bval a < 65536 ^ k) : a.length ≤ k := by
  by_cases hne : a = []
  · simp [hne]
  · have h1 := h.ge hne
    have h2 : 65536 ^ (a.length - 1) < 65536 ^ k := Nat.lt_of_le_of_lt h1 hk
    have := (Nat.pow_lt_pow_iff_right (a := 65536) (by decide)).1 h2
    omega
theorem len_lt_bval {a b : List Nat} (ha : Dig a) (hb : Trim b) (h : a.length < b.length) : bval a < bval b := by
  have h1 := bval_lt ha
  have hne : b ≠ [] := by intro e; simp [e] at h
  have h2 := hb.ge hne
  have h3 : 65536 ^ a.length ≤ 65536 ^ (b.length - 1) := Nat.pow_le_pow_right (by decide) (by omega)
  omega
/-- Of one length, and from a place on the same: the place decides. -/
theorem bval_cmp_at {a b : List Nat} (ha : Dig a) (k : Nat) (hka : k < a.length) (hkb : k < b.length)
    (hs : a.drop (k + 1) = b.drop (k + 1)) (hl : a[k] < b[k]) : bval a < bval b := by
  rw [bval_split a k (by omega), bval_split b k (by omega), bval_drop a k hka, bval_drop b k hkb, hs]
  have h1 := bval_take_lt ha k
  generalize bval (b.drop (k + 1)) = t
  generalize hp : 65536 ^ k = p at *
  have h2 : p * (a[k] + 65536 * t) + p ≤ p * (b[k] + 65536 * t) := by
    rw [← Nat.mul_succ]
    exact Nat.mul_le_mul_left _ (by omega)
  omega

theorem Sz.mono {n : Int} {j k : Nat} (h : Sz n j) (hk : j ≤ k) : Sz n k :=
  Nat.lt_of_lt_of_le h (Nat.pow_le_pow_right (by decide) hk)
theorem Sz.neg {n : Int} {k : Nat} (h : Sz n k) : Sz (-n) k := by simpa [Sz] using h
theorem Sz.abs {n : Int} {k : Nat} (h : Sz n k) : Sz (n.natAbs : Int) k := by simpa [Sz] using h
theorem Sz.add {a b : Int} {k : Nat} (ha : Sz a k) (hb : Sz b k) : Sz (a + b) (k + 1) := by
  unfold Sz at *
  have := Int.natAbs_add_le a b
  rw [Nat.pow_succ]
  omega
theorem Sz.sub {a b : Int} {k : Nat} (ha : Sz a k) (hb : Sz b k) : Sz (a - b) (k + 1) := by
  rw [Int.sub_eq_add_neg]; exact ha.add hb.neg
theorem Sz.mul {a b : Int} {j k : Nat} (ha : Sz a j) (hb : Sz b k) : Sz (a * b) (j + k) := by
  unfold Sz at *
  rw [Int.natAbs_mul, Nat.pow_add]
  exact Nat.mul_lt_mul'' ha hb
theorem Sz.of_lt {n : Int} {k : Nat} (h : n.natAbs < 65536 ^ k) : Sz n k := h
theorem Sz.le {a b : Int} {k : Nat} (h : Sz b k) (hab : a.natAbs ≤ b.natAbs) : Sz a k := Nat.lt_of_le_of_lt hab h
theorem Sz.i64 {n : Int} (h1 : -9223372036854775808 ≤ n) (h2 : n ≤ 9223372036854775807) : Sz n 4 := by
  unfold Sz; have : (65536 : Nat) ^ 4 = 18446744073709551616 := by decide
  omega
theorem Sz.u64 {n : Int} (h1 : 0 ≤ n) (h2 : n ≤ 18446744073709551615) : Sz n 4 := by
  unfold Sz; have : (65536 : Nat) ^ 4 = 18446744073709551616 := by decide
  omega
end Go.Proofs.Ythffphcgkmjhbaa.BM
