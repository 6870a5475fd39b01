/-
  The statements of layer 1 that name the reference. First part: same, WideMuls.
-/
import Derived.Test.YthffphcgkmjhbaaLawB
import Derived.Test.YthffphcgkmjhbaaBigO
namespace Go.Proofs.Ythffphcgkmjhbaa
open Go.RowKit
set_option linter.unusedSimpArgs false
set_option linter.unusedVariables false

theorem Bx.ty {w : World} {b : Nat} {T : TypeId} {x y : Value} (h : Bx w b T x y) : TyAt w b T := ⟨_, _, h⟩
theorem big_ofwide_at (n h l : Int) (hW : Wd h l n) (w : World) : Calls Try.prog 34 #[.int .i64 h, .int .u64 l] w (BigRet n w) := by
  obtain ⟨a1, a2, a3, a4, a5⟩ := hW
  rw [a5]; exact big_ofwide h l a1 a2 a3 (by omega) w
theorem cmpI_self (n : Int) : cmpI n n = 0 := by unfold cmpI; rw [if_neg (by omega), if_neg (by omega)]
theorem big_cmp_eq (na nb : Bool) (ax bx : Option Addr) (k m ca cb : Nat) (a : Int) (w : World) (ha : IsBig w na ax k ca a) (hb : IsBig w nb bx m cb a) (hk : k ≤ 1000000) (hm : m ≤ 1000000) :
    Calls Try.prog 42 #[.agg #[.bool na, .slice ax k ca], .agg #[.bool nb, .slice bx m cb]] w fun e w' => e = .returned (.int .i64 0) ∧ Below w.heap.size w w' := by
  have := big_cmp na nb ax bx k m ca cb a a w ha hb hk hm
  rwa [cmpI_self] at this
theorem Wd.sz {h l n : Int} (hW : Wd h l n) : BM.Sz n 9 := by
  have : (65536 : Nat) ^ 9 = 22300745198530623141535718272648361505980416 := by decide
  unfold Wd at hW; unfold BM.Sz; omega
theorem wide_mul_at (a b p ph pl : Int) (ha : IFit a) (hb : IFit b) (hp : a * b = p) (e1 : p / 18446744073709551616 = ph) (e2 : p % 18446744073709551616 = pl) (w : World) :
    Calls Try.prog 25 #[.int .i64 a, .int .i64 b] w fun e w' => e = .returned (.agg #[.int .i64 ph, .int .u64 pl]) ∧ Below w.heap.size w w' := by
  subst hp; subst e1; subst e2; exact wide_mul a b ha.1 ha.2 hb.1 hb.2 w
theorem wide_of_at (a h l : Int) (ha : IFit a) (e1 : a / 18446744073709551616 = h) (e2 : a % 18446744073709551616 = l) (w : World) :
    Calls Try.prog 31 #[.int .i64 a] w fun e w' => e = .returned (.agg #[.int .i64 h, .int .u64 l]) ∧ Below w.heap.size w w' := by
  subst e1; subst e2; exact wide_of a ha.1 ha.2 w
theorem intB_iff (p : Int) : intB p = true ↔ IFit p := by unfold intB IFit; simp; omega
theorem wide_int_any (p h l : Int) (hW : Wd h l p) (w : World) :
    Calls Try.prog 28 #[.agg #[.int .i64 h, .int .u64 l]] w fun e w' => e = .returned (.tuple #[.int .i64 (intV p), .bool (intB p)]) ∧ Below w.heap.size w w' := by
  by_cases h : IFit p
  · have e : intB p = true := (intB_iff p).2 h
    unfold intV
    rw [e]; exact wide_int_fit p _ _ hW h w
  · have e : intB p = false := by rw [Bool.eq_false_iff]; exact fun x => h ((intB_iff p).1 x)
    unfold intV
    rw [e]; exact wide_int_no p _ _ hW h w

set_option maxRecDepth 100000 in
set_option maxHeartbeats 1600000 in
/-- A wide number and a whole number that are the same. -/
theorem law_same (n h l : Int) (neg : Bool) (ao : Option Addr) (k cap : Nat) (w : World) (hW : Wd h l n) (hI : IsBig w neg ao k cap n) :
    Calls Try.prog 30 #[.agg #[.int .i64 h, .int .u64 l], .agg #[.bool neg, .slice ao k cap]] w fun e w' => e = .returned (.bool true) ∧ Below w.heap.size w w' := by
  have hs := hW.sz
  have hk := hI.le hs
  have tx : Bx ((w.alloc (.cells #[.int .i64 h, .int .u64 l] 25)).alloc (.cells #[.bool neg, .slice ao k cap] 29)) w.heap.size 25 (.int .i64 h) (.int .u64 l) := (Bx.new w _ _ _ _ rfl).alloc _
  have tw : Two ((w.alloc (.cells #[.int .i64 h, .int .u64 l] 25)).alloc (.cells #[.bool neg, .slice ao k cap] 29)) (w.heap.size + 1) (.bool neg) (.slice ao k cap) := Two.new _ _ _ _ (by simp)
  have hI' : IsBig ((w.alloc (.cells #[.int .i64 h, .int .u64 l] 25)).alloc (.cells #[.bool neg, .slice ao k cap] 29)) neg ao k cap n := hI.keep (by repeat' (first | (with_reducible exact Below.refl _ _) | (with_reducible assumption) | (with_reducible refine below_alloc ?_ _ ?_) | (with_reducible refine below_set _ ?_ ?_) | (with_reducible refine Below.drew ?_) | (with_reducible refine below_dN ?_ _) | (apply below_thenA; assumption) | omega | (simp; done) | (simp; omega) | (simp [*]; done)))
  have hB : Below w.heap.size w ((w.alloc (.cells #[.int .i64 h, .int .u64 l] 25)).alloc (.cells #[.bool neg, .slice ao k cap] 29)) := (by repeat' (first | (with_reducible exact Below.refl _ _) | (with_reducible assumption) | (with_reducible refine below_alloc ?_ _ ?_) | (with_reducible refine below_set _ ?_ ?_) | (with_reducible refine Below.drew ?_) | (with_reducible refine below_dN ?_ _) | (apply below_thenA; assumption) | omega | (simp; done) | (simp; omega) | (simp [*]; done)))
  obtain ⟨p1, p2, p3, p4⟩ := tx.cells
  obtain ⟨p5, p6, p7, p8⟩ := tw.cells
  clear hI
  go_enter Try.func30, Try.ntmps30
  go_wp2_with fail
  go_region_held3 (fun w' => w'.cell? ⟨w.heap.size, 0, none⟩ = some (.int .i64 h) ∧ w'.cell? ⟨w.heap.size, 1, none⟩ = some (.int .u64 l) ∧ w'.cell? ⟨w.heap.size + 1, 0, none⟩ = some (.bool neg) ∧ w'.cell? ⟨w.heap.size + 1, 1, none⟩ = some (.slice ao k cap))
    (first | exact ⟨p1, p2, p5, p6⟩ | go_keep)
    (first
    | (go_at_call 34; with_reducible refine (big_ofwide_at n h l hW _).mono ?_; rintro e w2 hB2; obtain ⟨n2, a2, k2, c2, rfl, hI2, hb2⟩ := hB2.out; replace hb2 := below_undrew hb2; replace tx := tx.below hb2; replace tw := tw.below hb2; replace hI' := hI'.keep hb2; replace hB := hB.trans (hb2.mono hB.size); obtain ⟨p1, p2, p3, p4⟩ := tx.cells; obtain ⟨p5, p6, p7, p8⟩ := tw.cells)
    | (go_at_call 42; with_reducible refine (big_cmp_eq n2 neg a2 ao k2 k c2 cap n _ hI2 hI' ?_ ?_).mono ?_; (have := hI2.le hs; omega); omega; rintro e w3 ⟨rfl, hb3⟩; replace tx := tx.below hb3; replace tw := tw.below hb3; replace hB := hB.trans (hb3.mono hB.size); obtain ⟨p1, p2, p3, p4⟩ := tx.cells; obtain ⟨p5, p6, p7, p8⟩ := tw.cells))
  go_wp2_with fail
  go_ret
  exact ⟨rfl, hB⟩

set_option maxRecDepth 100000 in
set_option maxHeartbeats 3200000 in
theorem law_muls (a b : Int) (ha : IFit a) (hb : IFit b) (w : World) :
    Calls Try.prog 3 #[.int .i64 a, .int .i64 b] w fun e w' => e = .returned (.bool true) ∧ Below w.heap.size w w' := by
  obtain ⟨p, hp⟩ : ∃ p, a * b = p := ⟨_, rfl⟩
  have hp2 : b * a = p := by rw [Int.mul_comm]; exact hp
  have hf : WFit p := by rw [← hp]; exact mul_fit ha hb
  obtain ⟨ph, e1⟩ : ∃ ph, p / 18446744073709551616 = ph := ⟨_, rfl⟩
  obtain ⟨pl, e2⟩ : ∃ pl, p % 18446744073709551616 = pl := ⟨_, rfl⟩
  obtain ⟨ah, e3⟩ : ∃ ah, a / 18446744073709551616 = ah := ⟨_, rfl⟩
  obtain ⟨al, e4⟩ : ∃ al, a % 18446744073709551616 = al := ⟨_, rfl⟩
  have hP : Wd ph pl p := by rw [← e1, ← e2]; exact Wd.of hf
  have hAW : Wd ah al a := by rw [← e3, ← e4]; exact Wd.of (i64_fit ha)
  have M1 := wide_mul_at a b p ph pl ha hb hp e1 e2
  have M2 := wide_mul_at b a p ph pl hb ha hp2 e1 e2
  have O1 := wide_of_at a ah al ha e3 e4
  obtain ⟨a1, a2⟩ := ha
  obtain ⟨b1, b2⟩ := hb
  have sa := BM.Sz.i64 a1 a2
  have sb := BM.Sz.i64 b1 b2
  have sp := hP.sz
  have N1 := wide_int_any p ph pl hP
  have N2 := fun neg ao k cap W => big_int neg ao k cap p W
  obtain ⟨V, eV⟩ : ∃ V, intV p = V := ⟨_, rfl⟩
  obtain ⟨Y, eY⟩ : ∃ Y, intB p = Y := ⟨_, rfl⟩
  rw [eV, eY] at N1
  have N2' : ∀ neg ao k cap W, IsBig W neg ao k cap p → k ≤ 100000 → Calls Try.prog 29 #[.agg #[.bool neg, .slice ao k cap]] W fun e w' => e = .returned (.tuple #[.int .i64 V, .bool Y]) ∧ Below W.heap.size W w' := by rw [← eV, ← eY]; exact N2
  clear N2 eV eY e1 e2 e3 e4 hf hp2
  go_enter Try.func3, Try.ntmps3
  go_wp2_with fail
  refine (speaks01 _).mono ?_
  rintro e w1 ⟨rfl, hb1⟩
  go_wp2_with fail
  refine (M1 _).mono ?_
  rintro e w2 ⟨rfl, hb2⟩
  have h2 : Below w.heap.size w w2 := hb1.trans (hb2.mono hb1.size)
  have h2a : Below w.heap.size w (w2.alloc (.cells #[.int .i64 ph, .int .u64 pl] 25)) := h2.alloc h2.size _
  have tx := Bx.new w2 25 (.int .i64 ph) (.int .u64 pl) _ rfl
  clear M1 hb1 hb2
  go_wp2_with fail
  refine (big_of a a1 a2 _).mono ?_
  rintro e w3 ⟨n3, x3, k3, c3, rfl, hI3, hb3⟩
  replace tx := tx.below hb3
  have h3 : Below w.heap.size w w3 := h2a.trans (hb3.mono h2a.size)
  go_wp2_with fail
  refine (big_of b b1 b2 _).mono ?_
  rintro e w4 ⟨n4, x4, k4, c4, rfl, hI4, hb4⟩
  replace tx := tx.below hb4
  have h4 : Below w.heap.size w w4 := h3.trans (hb4.mono h3.size)
  go_wp2_with fail
  have k3l := hI3.le sa
  have k4l := hI4.le sb
  have T1 := big_times n3 n4 x3 x4 k3 k4 c3 c4 a b w4 (hI3.keep hb4) hI4 (by omega) (by omega)
  rw [hp] at T1
  refine T1.mono ?_
  rintro e w5 ⟨n5, x5, k5, c5, rfl, hI5, hb5⟩
  have tx := (tx.below hb5).alloc (.cells #[.bool n5, .slice x5 k5 c5] 29)
  have tw := Two.new w5 (.bool n5) (.slice x5 k5 c5) _ rfl
  have h5 : Below w.heap.size w w5 := h4.trans (hb5.mono h4.size)
  have h5a : Below w.heap.size w (w5.alloc (.cells #[.bool n5, .slice x5 k5 c5] 29)) := h5.alloc h5.size _
  have hI := hI5.keep (w' := w5.alloc (.cells #[.bool n5, .slice x5 k5 c5] 29)) (by repeat' (first | (with_reducible exact Below.refl _ _) | (with_reducible assumption) | (with_reducible refine below_alloc ?_ _ ?_) | (with_reducible refine below_set _ ?_ ?_) | (with_reducible refine Below.drew ?_) | (with_reducible refine below_dN ?_ _) | (apply below_thenA; assumption) | omega | (simp; done) | (simp; omega) | (simp [*]; done)))
  have k5l := hI5.le sp
  clear T1 hI3 hI4 hI5 hb3 hb4 hb5 h2 h2a h3 h4 h5
  obtain ⟨p1, p2, p3, p4⟩ := tx.cells
  obtain ⟨p5, p6, p7, p8⟩ := tw.cells
  go_wp2_with fail
  refine (N1 _).mono ?_
  rintro e w6 ⟨rfl, hb6⟩
  replace tx := tx.below hb6
  replace tw := tw.below hb6
  replace hI := hI.keep hb6
  have h6 := h5a.trans (hb6.mono h5a.size)
  clear N1 hb6 h5a p1 p2 p3 p4 p5 p6 p7 p8
  obtain ⟨p1, p2, p3, p4⟩ := tx.cells
  obtain ⟨p5, p6, p7, p8⟩ := tw.cells
  go_wp2_with fail
  refine (N2' _ _ _ _ _ hI (by omega)).mono ?_
  rintro e w7 ⟨rfl, hb7⟩
  replace tx := tx.below hb7
  replace tw := tw.below hb7
  replace hI := hI.keep hb7
  have hB := h6.trans (hb7.mono h6.size)
  clear N2' hb7 h6 p1 p2 p3 p4 p5 p6 p7 p8
  obtain ⟨p1, p2, p3, p4⟩ := tx.cells
  obtain ⟨p5, p6, p7, p8⟩ := tw.cells
  go_wp2_with fail
  go_region_held3 (fun w' => w'.cell? ⟨w2.heap.size, 0, none⟩ = some (.int .i64 ph) ∧ w'.cell? ⟨w2.heap.size, 1, none⟩ = some (.int .u64 pl) ∧ w'.cell? ⟨w5.heap.size, 0, none⟩ = some (.bool n5) ∧ w'.cell? ⟨w5.heap.size, 1, none⟩ = some (.slice x5 k5 c5))
    (first | exact ⟨p1, p2, p5, p6⟩ | go_keep)
    (first
    | (go_at_call 30; with_reducible refine (law_same p ph pl n5 x5 k5 c5 _ hP (hI.keep (Below.drew (Below.refl _ _)))).mono ?_; rintro e w8 ⟨rfl, hb8⟩; replace hb8 := below_undrew hb8; replace tx := tx.below hb8; replace tw := tw.below hb8; replace hB := hB.trans (hb8.mono hB.size); obtain ⟨p1, p2, p3, p4⟩ := tx.cells; obtain ⟨p5, p6, p7, p8⟩ := tw.cells)
    | (go_at_call 31; with_reducible refine (O1 _).mono ?_; rintro e wA ⟨rfl, hbA⟩; replace tx := tx.below hbA; replace tw := tw.below hbA; replace hB := hB.trans (hbA.mono hB.size); obtain ⟨p1, p2, p3, p4⟩ := tx.cells; obtain ⟨p5, p6, p7, p8⟩ := tw.cells)
    | (go_at_call 27; with_reducible refine (big_of a a1 a2 _).mono ?_; rintro e wB hRB; obtain ⟨nB, xB, kB, cB, rfl, hIB, hbB⟩ := hRB.out; replace tx := tx.below hbB; replace tw := tw.below hbB; replace hB := hB.trans (hbB.mono hB.size); obtain ⟨p1, p2, p3, p4⟩ := tx.cells; obtain ⟨p5, p6, p7, p8⟩ := tw.cells)
    | (go_at_call 30; with_reducible refine (law_same a ah al nB xB kB cB _ hAW (by with_reducible first | exact hIB | exact hIB.keep hbA)).mono ?_; rintro e w9 ⟨rfl, hb9⟩; replace tx := tx.below hb9; replace tw := tw.below hb9; replace hB := hB.trans (hb9.mono hB.size); obtain ⟨p1, p2, p3, p4⟩ := tx.cells; obtain ⟨p5, p6, p7, p8⟩ := tw.cells)
    | (go_at_call 25; with_reducible refine (M2 _).mono ?_; rintro e wM ⟨rfl, hbM⟩; replace tx := tx.below hbM; replace tw := tw.below hbM; replace hB := hB.trans (hbM.mono hB.size); obtain ⟨p1, p2, p3, p4⟩ := tx.cells; obtain ⟨p5, p6, p7, p8⟩ := tw.cells))
  all_goals
    go_wp2_with fail
    go_ret
    exact ⟨rfl, hB⟩
end Go.Proofs.Ythffphcgkmjhbaa
