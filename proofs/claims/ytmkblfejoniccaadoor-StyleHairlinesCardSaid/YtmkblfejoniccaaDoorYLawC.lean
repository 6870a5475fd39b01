/-
  The statements of layer 1 that name the reference. First part: same, WideMuls.
-/
import Derived.Test.YtmkblfejoniccaaDoorYLawB
import Derived.Test.YtmkblfejoniccaaDoorZ6
namespace Go.Proofs.YtmkblfejoniccaaDoor
open Go.RowKit
set_option linter.unusedSimpArgs false
set_option linter.unusedVariables false

theorem Bx.ty {w : World} {b : Nat} {T : TypeId} {x y : Value} (h : Bx w b T x y) : TyAt w b T := ⟨_, _, h⟩
theorem cmpI_self (n : Int) : cmpI n n = 0 := by unfold cmpI; rw [if_neg (by omega), if_neg (by omega)]
theorem big_cmp_eq (na nb : Bool) (ax bx : Option Addr) (k m ca cb : Nat) (a : Int) (w : World) (ha : IsBig w na ax k ca a) (hb : IsBig w nb bx m cb a) (hk : k ≤ 1000000) (hm : m ≤ 1000000) :
    Calls Tryd.prog 24 #[.agg #[.bool na, .slice ax k ca], .agg #[.bool nb, .slice bx m cb]] w fun e w' => e = .returned (.int .i64 0) ∧ Below w.heap.size w w' := by
  have := big_cmp na nb ax bx k m ca cb a a w ha hb hk hm
  rwa [cmpI_self] at this
theorem Wd.sz {h l n : Int} (hW : Wd h l n) : BM.Sz n 9 := by
  have : (65536 : Nat) ^ 9 = 22300745198530623141535718272648361505980416 := by decide
  unfold Wd at hW; unfold BM.Sz; omega
theorem wide_mul_at (a b p ph pl : Int) (ha : IFit a) (hb : IFit b) (hp : a * b = p) (e1 : p / 18446744073709551616 = ph) (e2 : p % 18446744073709551616 = pl) (w : World) :
    Calls Tryd.prog 96 #[.int .i64 a, .int .i64 b] w fun e w' => e = .returned (.agg #[.int .i64 ph, .int .u64 pl]) ∧ Below w.heap.size w w' := by
  subst hp; subst e1; subst e2; exact wide_mul a b ha.1 ha.2 hb.1 hb.2 w
theorem wide_of_at (a h l : Int) (ha : IFit a) (e1 : a / 18446744073709551616 = h) (e2 : a % 18446744073709551616 = l) (w : World) :
    Calls Tryd.prog 100 #[.int .i64 a] w fun e w' => e = .returned (.agg #[.int .i64 h, .int .u64 l]) ∧ Below w.heap.size w w' := by
  subst e1; subst e2; exact wide_of a ha.1 ha.2 w
theorem intB_iff (p : Int) : intB p = true ↔ IFit p := by unfold intB IFit; simp; omega
theorem wide_int_any (p h l : Int) (hW : Wd h l p) (w : World) :
    Calls Tryd.prog 97 #[.agg #[.int .i64 h, .int .u64 l]] w fun e w' => e = .returned (.tuple #[.int .i64 (intV p), .bool (intB p)]) ∧ Below w.heap.size w w' := by
  by_cases h : IFit p
  · have e : intB p = true := (intB_iff p).2 h
    unfold intV
    rw [e]; exact wide_int_fit p _ _ hW h w
  · have e : intB p = false := by rw [Bool.eq_false_iff]; exact fun x => h ((intB_iff p).1 x)
    unfold intV
    rw [e]; exact wide_int_no p _ _ hW h w

end Go.Proofs.YtmkblfejoniccaaDoor
