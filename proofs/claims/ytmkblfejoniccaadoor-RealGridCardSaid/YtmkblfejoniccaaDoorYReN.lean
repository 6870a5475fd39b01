/-
  The laws RealKinds, RealOrders.
-/
import Derived.Test.YtmkblfejoniccaaDoorYReL
namespace Go.Proofs.YtmkblfejoniccaaDoor
open Go.RowKit
set_option linter.unusedSimpArgs false
set_option linter.unusedVariables false

set_option maxRecDepth 100000 in
set_option maxHeartbeats 3200000 in
theorem law_kinds (a b : Nat) (ha : a < 18446744073709551616) (hb : b < 18446744073709551616) (w : World) (hT : TabW w) : Calls Tryd.prog 12 #[.int .u64 (a : Int), .int .u64 (b : Int)] w fun e w' => e = .returned (.bool true) ∧ Below w.heap.size w w' := by
  have SP := fun W hW => speaks03 W hW
  have KA := real_kind a ha
  have KR := ref3_kind a ha
  have CA := real_cmp a b ha hb
  have CR := ref3_cmp a b ha hb
  have FF1 : ∀ w, (callFunc 16 #[.int .u64 (a : Int)]).run Tryd.prog w = .ok (.value (.float .f64 a)) w := flo_from2 a
  have FF2 : ∀ w, (callFunc 16 #[.int .u64 (b : Int)]).run Tryd.prog w = .ok (.value (.float .f64 b)) w := flo_from2 b
  obtain ⟨k, ek⟩ : ∃ x, fKi a = x := ⟨_, rfl⟩
  obtain ⟨d, ed⟩ : ∃ x, fDn a = x := ⟨_, rfl⟩
  obtain ⟨c, ec⟩ : ∃ x, cmU (plF a) (plF b) = x := ⟨_, rfl⟩
  rw [ek, ed] at KA KR
  rw [ec] at CA CR
  have HT := Lib.hid hT
  clear ek ed ec hT
  go_enter Tryd.func12, Tryd.ntmps12
  go_wp2_with (first
    | (go_at_call 14; with_reducible refine (SP _ HT.out).mono ?_; rintro e w1 ⟨rfl, hb1⟩)
    | (go_at_call 39; with_reducible refine (KA _).mono ?_; rintro e w2 ⟨rfl, rfl⟩)
    | (go_at_call 22; with_reducible refine (KR _).mono ?_; rintro e w2 ⟨rfl, rfl⟩)
    | (go_at_call 40; with_reducible refine (CA _).mono ?_; rintro e w2 ⟨rfl, rfl⟩)
    | (go_at_call 41; with_reducible refine (CR _).mono ?_; rintro e w2 ⟨rfl, rfl⟩))
  (go_light; simp [bodyPost, results, Tryd.results12, go_sem, *])
set_option maxRecDepth 100000 in
set_option maxHeartbeats 6400000 in
theorem law_orders (a b c : Nat) (ha : a < 18446744073709551616) (hb : b < 18446744073709551616) (hc : c < 18446744073709551616) (w : World) (hT : TabW w) : Calls Tryd.prog 13 #[.int .u64 (a : Int), .int .u64 (b : Int), .int .u64 (c : Int)] w fun e w' => e = .returned (.bool true) ∧ Below w.heap.size w w' := by
  have SP := fun W hW => speaks03 W hW
  have FF1 : ∀ w, (callFunc 16 #[.int .u64 (a : Int)]).run Tryd.prog w = .ok (.value (.float .f64 a)) w := flo_from2 a
  have FF2 : ∀ w, (callFunc 16 #[.int .u64 (b : Int)]).run Tryd.prog w = .ok (.value (.float .f64 b)) w := flo_from2 b
  have FF3 : ∀ w, (callFunc 16 #[.int .u64 (c : Int)]).run Tryd.prog w = .ok (.value (.float .f64 c)) w := flo_from2 c
  have C1 := real_cmp a b ha hb
  have C2 := real_cmp b c hb hc
  have C3 := real_cmp b a hb ha
  have C4 := real_cmp a a ha ha
  have C5 := real_cmp a c ha hc
  have n4 : cmU (plF a) (plF a) = 0 := (cmU_eq _ _).2 rfl
  have n3 := cmU_neg (plF b) (plF a)
  rw [n4] at C4
  have l1 := cmU_lt (plF a) (plF b)
  have l2 := cmU_gt (plF a) (plF b)
  have l3 := cmU_gt (plF b) (plF c)
  have l4 := cmU_gt (plF a) (plF c)
  have z := cmU_zero ha hb
  have b1 := cmU_bnd (plF a) (plF b)
  have b2 := cmU_bnd (plF b) (plF c)
  have b3 := cmU_bnd (plF a) (plF c)
  have f1 : (FloatKind.f64.format.order a a != some .eq) = decide (fKi a = 1) := by
    rw [bne, show FloatKind.f64.format = Ieee.double from rfl, fl_eq_is a a ha ha]
    by_cases h : fKi a = 1 <;> simp [h]
  have f2 : (FloatKind.f64.format.order b b != some .eq) = decide (fKi b = 1) := by
    rw [bne, show FloatKind.f64.format = Ieee.double from rfl, fl_eq_is b b hb hb]
    by_cases h : fKi b = 1 <;> simp [h]
  have f3 : (FloatKind.f64.format.order a b == some .eq) = (fKi a != 1 && fKi b != 1 && decide (fK a = fK b)) := fl_eq_is a b ha hb
  have f4 : (FloatKind.f64.format.order a b == some .lt) = (fKi a != 1 && fKi b != 1 && decide (fK a < fK b)) := fl_lt_is a b ha hb
  have po := fun h1 h2 h3 => plF_order ha hb h1 h2 h3
  obtain ⟨p, ep⟩ : ∃ x, cmU (plF a) (plF b) = x := ⟨_, rfl⟩
  obtain ⟨q, eq⟩ : ∃ x, cmU (plF b) (plF c) = x := ⟨_, rfl⟩
  obtain ⟨r, er⟩ : ∃ x, cmU (plF a) (plF c) = x := ⟨_, rfl⟩
  rw [ep] at C1 n3 l1 l2 z b1
  rw [eq] at C2 l3 b2
  rw [er] at C5 l4 b3
  rw [n3] at C3
  -- the order goes on
  have t1 : ¬ (p ≤ 0 ∧ q ≤ 0 ∧ 0 < r) := by
    rintro ⟨h1, h2, h3⟩
    have := l4.1 h3
    omega
  -- a pair that is the same
  obtain ⟨s, es⟩ : ∃ x : Bool, (decide (a = b) || (decide (fKi a = 1) && decide (fKi b = 1))) = x := ⟨_, rfl⟩
  rw [es] at z
  -- floats that differ
  have t2 : decide (fKi a = 1) = false → decide (fKi b = 1) = false → (fKi a != 1 && fKi b != 1 && decide (fK a = fK b)) = false → decide (p < 0) = (fKi a != 1 && fKi b != 1 && decide (fK a < fK b)) := by
    intro h1 h2 h3
    have h1' := of_decide_eq_false h1
    have h2' := of_decide_eq_false h2
    have e1 : (fKi a != 1) = true := by simp [h1']
    have e2 : (fKi b != 1) = true := by simp [h2']
    rw [e1, e2] at h3 ⊢
    simp only [Bool.true_and, Bool.and_self] at h3 ⊢
    have h3' := of_decide_eq_false h3
    rw [decide_eq_decide, l1]
    exact po h1' h2' h3'
  obtain ⟨na, ena⟩ : ∃ x : Bool, decide (fKi a = 1) = x := ⟨_, rfl⟩
  obtain ⟨nb, enb⟩ : ∃ x : Bool, decide (fKi b = 1) = x := ⟨_, rfl⟩
  obtain ⟨sm, esm⟩ : ∃ x : Bool, (fKi a != 1 && fKi b != 1 && decide (fK a = fK b)) = x := ⟨_, rfl⟩
  obtain ⟨lt, elt⟩ : ∃ x : Bool, (fKi a != 1 && fKi b != 1 && decide (fK a < fK b)) = x := ⟨_, rfl⟩
  rw [ena] at f1 es t2
  rw [enb] at f2 es t2
  rw [esm] at f3 t2
  rw [elt] at f4 t2
  have hab : ((a : Int) == (b : Int)) = decide (a = b) := by
    by_cases h : a = b
    · subst h; simp
    · rw [decide_eq_false h]; simp; omega
  obtain ⟨ab, eab⟩ : ∃ x : Bool, decide (a = b) = x := ⟨_, rfl⟩
  rw [eab] at es hab
  have HT := Lib.hid hT
  have z' : (p == 0) = s := by
    rw [← z]
    by_cases h : p = 0
    · subst h; rfl
    · rw [decide_eq_false h]; simpa using h
  have hlp : (p < 0) = (p < 0) := rfl
  obtain ⟨g, eg⟩ : ∃ x : Bool, decide (p < 0) = x := ⟨_, rfl⟩
  rw [eg] at t2
  obtain ⟨e1, ee1⟩ : ∃ x : Bool, decide (p ≤ 0) = x := ⟨_, rfl⟩
  obtain ⟨e2, ee2⟩ : ∃ x : Bool, decide (q ≤ 0) = x := ⟨_, rfl⟩
  obtain ⟨e3, ee3⟩ : ∃ x : Bool, decide (0 < r) = x := ⟨_, rfl⟩
  have t3 : e1 = true → e2 = true → e3 = false := by
    intro h1 h2
    rw [← ee1, decide_eq_true_eq] at h1
    rw [← ee2, decide_eq_true_eq] at h2
    rw [← ee3]
    exact decide_eq_false fun h3 => t1 ⟨h1, h2, h3⟩
  have hpp : (p != p) = false := by simp
  clear ep eq er l1 l2 l3 l4 po n3 n4 ena enb esm elt eab ha hb hc hT t1 z hlp
  have key : (e1 = false) ∨ (e1 = true ∧ e2 = false) ∨ (e1 = true ∧ e2 = true ∧ e3 = false) := by
    cases e1
    · exact .inl rfl
    · cases e2
      · exact .inr (.inl ⟨rfl, rfl⟩)
      · exact .inr (.inr ⟨rfl, rfl, t3 rfl rfl⟩)
  clear t3
  have key2 : (ab = true ∧ s = true) ∨ (ab = false ∧ na = false ∧ s = false) ∨ (ab = false ∧ na = true ∧ nb = s) := by
    cases ab <;> cases na <;> cases nb <;> simp_all
  have key3 : (na = true) ∨ (na = false ∧ nb = true) ∨ (na = false ∧ nb = false ∧ sm = true) ∨ (na = false ∧ nb = false ∧ sm = false ∧ g = lt) := by
    cases na
    · cases nb
      · cases sm
        · exact .inr (.inr (.inr ⟨rfl, rfl, rfl, t2 rfl rfl rfl⟩))
        · exact .inr (.inr (.inl ⟨rfl, rfl, rfl⟩))
      · exact .inr (.inl ⟨rfl, rfl⟩)
    · exact .inl rfl
  clear es t2
  rcases key with rfl | ⟨rfl, rfl⟩ | ⟨rfl, rfl, rfl⟩
  all_goals
    go_enter Tryd.func13, Tryd.ntmps13
    go_upto_region 7 with (first
      | (go_at_call 14; with_reducible refine (SP _ HT.out).mono ?_; rintro e w1 ⟨rfl, hb1⟩)
      | (go_at_call 40; with_reducible refine (C1 _).mono ?_; rintro e w2 ⟨rfl, rfl⟩)
      | (go_at_call 40; with_reducible refine (C2 _).mono ?_; rintro e w2 ⟨rfl, rfl⟩)
      | (go_at_call 40; with_reducible refine (C3 _).mono ?_; rintro e w2 ⟨rfl, rfl⟩)
      | (go_at_call 40; with_reducible refine (C4 _).mono ?_; rintro e w2 ⟨rfl, rfl⟩)
      | (go_at_call 40; with_reducible refine (C5 _).mono ?_; rintro e w2 ⟨rfl, rfl⟩))
    clear C1 C2 C3 C4 C5 SP ee1 ee2 ee3 hpp
    rcases key2 with ⟨rfl, rfl⟩ | ⟨rfl, rfl, rfl⟩ | ⟨rfl, rfl, rfl⟩
    all_goals rcases key3 with h | ⟨h, h'⟩ | ⟨h, h', h''⟩ | ⟨h, h', h'', h'''⟩
    all_goals try (exact absurd h (by decide))
    all_goals try subst h
    all_goals try subst h'
    all_goals try subst h''
    all_goals try subst h'''
    all_goals go_wp2_with fail
    all_goals try (go_ret; exact ⟨by first | rfl | simp, hb1⟩)
end Go.Proofs.YtmkblfejoniccaaDoor
