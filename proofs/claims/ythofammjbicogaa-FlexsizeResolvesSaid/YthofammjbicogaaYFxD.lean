/-
  Package flexsize, each function by its contract. Fourth part: weight.
-/
import Derived.Test.YthofammjbicogaaYFxC
namespace Go.Proofs.Ythofammjbicogaa
open Go.RowKit
set_option linter.unusedSimpArgs false
set_option linter.unusedVariables false

def inB (n : Int) : Bool := decide (-9223372036854775808 ≤ n) && decide (n ≤ 9223372036854775807)
theorem inB_yes {n : Int} (h : inB n = true) : IFit n := by
  unfold inB at h
  simp only [Bool.and_eq_true, decide_eq_true_eq] at h
  exact h
theorem inB_no {n : Int} (h : inB n = false) : ¬ IFit n := fun q => by
  unfold inB at h
  unfold IFit at q
  rw [decide_eq_true q.1, decide_eq_true q.2] at h
  cases h
/-- An item's weight. -/
def wgtO (grows : Bool) (x : Fl) : Option Int := if x.fi then some 0 else if grows then some x.fa else if inB (x.fa * x.it.base) then some (x.fa * x.it.base) else none
set_option maxRecDepth 100000 in
set_option maxHeartbeats 1600000 in
theorem fx_weight (b : Nat) (grows : Bool) (x : Fl) (v0 v2 v3 : Value) (hf : FlFit x) (w : World) (tb : Blk w b #[v0, .bool grows, v2, v3] 145) :
    Calls Try.prog 118 #[.pointer (some ⟨b, 0, none⟩), x.val] w (GivO (wgtO grows x) w) := by
  have c1 := tb.cell 1 _ rfl
  have lb := tb.lt
  have hq1 := hf.2.2
  have hq2 := hf.1.1.1
  have MU := fun W => wide_mul x.fa x.it.base hq1.1 hq1.2 hq2.1 hq2.2 W
  have mW := Wd.of (mul_fit hq1 hq2)
  unfold Fl.val
  clear tb hf hq1 hq2
  have hw : wgtO grows x = if x.fi then some 0 else if grows then some x.fa else if inB (x.fa * x.it.base) then some (x.fa * x.it.base) else none := rfl
  cases hx : x.fi
  · cases hg : grows
    · subst hg
      rw [hx, if_neg (by simp), if_neg (by simp)] at hw
      rw [hw]
      cases hi : inB (x.fa * x.it.base)
      · have hn := inB_no hi
        rw [if_neg (by simp)]
        clear hw hx hi
        go_enter Try.func118, Try.ntmps118
        go_wp2_with (first
          | (go_at_call 121; with_reducible refine (MU _).mono ?_; rintro e w1 ⟨rfl, hb1⟩)
          | (go_at_call 122; with_reducible refine (wide_int_no _ _ _ mW hn _).mono ?_; rintro e w2 ⟨rfl, hb2⟩)
          | (go_at_call 86; with_reducible refine (fix_fail2 _).mono ?_; rintro e w3 ⟨rfl, rfl⟩))
        simp only [bodyPost, GivO]
        refine ⟨trivial, trivial, ?_⟩
        have hb0 : Below w.heap.size w (w.alloc (Obj.cells #[.int .i64 x.it.base, .int .i64 x.it.least, .int .i64 x.it.most, .bool x.it.bound, .int .i64 x.it.extra, .int .i64 x.it.grow, .int .i64 x.it.shrink, .int .i64 x.tg, .int .i64 x.fa, .bool false] 147)) := (by repeat' (first | (with_reducible exact Below.refl _ _) | (with_reducible assumption) | (with_reducible refine below_alloc ?_ _ ?_) | (with_reducible refine below_set _ ?_ ?_) | (with_reducible refine Below.drew ?_) | (with_reducible refine below_dN ?_ _) | (apply below_thenA; assumption) | omega | (simp; done) | (simp; omega) | (simp [*]; done)))
        exact (hb0.trans (hb1.mono hb0.size)).trans (hb2.mono (hb0.trans (hb1.mono hb0.size)).size)
      · have hn := inB_yes hi
        rw [if_pos rfl]
        clear hw hx hi
        go_enter Try.func118, Try.ntmps118
        go_wp2_with (first
          | (go_at_call 121; with_reducible refine (MU _).mono ?_; rintro e w1 ⟨rfl, hb1⟩)
          | (go_at_call 122; with_reducible refine (wide_int_fit _ _ _ mW hn _).mono ?_; rintro e w2 ⟨rfl, hb2⟩))
        go_ret
        refine ⟨rfl, ?_⟩
        have hb0 : Below w.heap.size w (w.alloc (Obj.cells #[.int .i64 x.it.base, .int .i64 x.it.least, .int .i64 x.it.most, .bool x.it.bound, .int .i64 x.it.extra, .int .i64 x.it.grow, .int .i64 x.it.shrink, .int .i64 x.tg, .int .i64 x.fa, .bool false] 147)) := (by repeat' (first | (with_reducible exact Below.refl _ _) | (with_reducible assumption) | (with_reducible refine below_alloc ?_ _ ?_) | (with_reducible refine below_set _ ?_ ?_) | (with_reducible refine Below.drew ?_) | (with_reducible refine below_dN ?_ _) | (apply below_thenA; assumption) | omega | (simp; done) | (simp; omega) | (simp [*]; done)))
        exact (hb0.trans (hb1.mono hb0.size)).trans (hb2.mono (hb0.trans (hb1.mono hb0.size)).size)
    · subst hg
      rw [hx, if_neg (by simp), if_pos rfl] at hw
      rw [hw]
      clear hw hx MU mW
      go_enter Try.func118, Try.ntmps118
      go_wp2_with fail
      go_ret
      exact ⟨rfl, (by repeat' (first | (with_reducible exact Below.refl _ _) | (with_reducible assumption) | (with_reducible refine below_alloc ?_ _ ?_) | (with_reducible refine below_set _ ?_ ?_) | (with_reducible refine Below.drew ?_) | (with_reducible refine below_dN ?_ _) | (apply below_thenA; assumption) | omega | (simp; done) | (simp; omega) | (simp [*]; done)))⟩
  · rw [hx, if_pos rfl] at hw
    rw [hw]
    clear hw hx MU mW
    go_enter Try.func118, Try.ntmps118
    go_wp2_with fail
    go_ret
    exact ⟨rfl, (by repeat' (first | (with_reducible exact Below.refl _ _) | (with_reducible assumption) | (with_reducible refine below_alloc ?_ _ ?_) | (with_reducible refine below_set _ ?_ ?_) | (with_reducible refine Below.drew ?_) | (with_reducible refine below_dN ?_ _) | (apply below_thenA; assumption) | omega | (simp; done) | (simp; omega) | (simp [*]; done)))⟩
end Go.Proofs.Ythofammjbicogaa
