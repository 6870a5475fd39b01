/-
  The statements of layer 1 that name the reference. Second part: WideDivides.
-/
import Derived.Test.YthffphcgkmjhbaaLawC
namespace Go.Proofs.Ythffphcgkmjhbaa
open Go.RowKit
set_option linter.unusedSimpArgs false
set_option linter.unusedVariables false

theorem fitsB_iff (X : Int) : fitsB X = true ↔ WFit X := by unfold fitsB WFit; simp
theorem wide_div_any (n d h l : Int) (hW : Wd h l n) (hd : IFit d) (h0 : d ≠ 0) (w : World) :
    Calls Try.prog 32 #[.agg #[.int .i64 h, .int .u64 l], .int .i64 d] w fun e w' => ∃ qh ql r ok, e = .returned (.tuple #[.agg #[.int .i64 qh, .int .u64 ql], .int .i64 r, .bool ok]) ∧
      ((WFit (fq n d) ∧ Wd qh ql (fq n d) ∧ r = fr n d ∧ ok = true) ∨ (¬ WFit (fq n d) ∧ qh = 0 ∧ ql = 0 ∧ r = 0 ∧ ok = false)) ∧ Below w.heap.size w w' := by
  by_cases hf : WFit (fq n d)
  · exact (wide_div_some n d h l hW hd.1 hd.2 h0 hf w).mono fun _ _ x => ⟨_, _, _, _, x.1, .inl ⟨hf, Wd.of hf, rfl, rfl⟩, x.2⟩
  · exact (wide_div_none n d h l hW hd.1 hd.2 (.inr hf) w).mono fun _ _ x => ⟨_, _, _, _, x.1, .inr ⟨hf, rfl, rfl, rfl, rfl⟩, x.2⟩

set_option maxRecDepth 100000 in
set_option maxHeartbeats 1600000 in
theorem law_divides0 (n h l : Int) (hW : Wd h l n) (w : World) :
    Calls Try.prog 4 #[.agg #[.int .i64 h, .int .u64 l], .int .i64 0] w fun e w' => e = .returned (.bool true) ∧ Below w.heap.size w w' := by
  have t0 := Bx.new w 38 (.int .i64 h) (.int .u64 l) _ rfl
  have hB0 : Below w.heap.size w (w.alloc (.cells #[.int .i64 h, .int .u64 l] 38)) := (by repeat' (first | (with_reducible exact Below.refl _ _) | (with_reducible assumption) | (with_reducible refine below_alloc ?_ _ ?_) | (with_reducible refine below_set _ ?_ ?_) | (with_reducible refine Below.drew ?_) | (with_reducible refine below_dN ?_ _) | (apply below_thenA; assumption) | omega | (simp; done) | (simp; omega) | (simp [*]; done)))
  go_enter Try.func4, Try.ntmps4
  go_wp2_with fail
  refine (speaks01 _).mono ?_
  rintro e w1 ⟨rfl, hb1⟩
  replace t0 := t0.below hb1
  have hB1 := hB0.trans (hb1.mono hB0.size)
  have tx := Bx.new w1 25 (.int .i64 h) (.int .u64 l) _ rfl
  have hB1a : Below w.heap.size w (w1.alloc (.cells #[.int .i64 h, .int .u64 l] 25)) := hB1.alloc hB1.size _
  obtain ⟨p1, p2, p3, p4⟩ := t0.cells
  obtain ⟨p5, p6, p7, p8⟩ := tx.cells
  clear hb1 hB0
  go_wp2_with fail
  refine (wide_div_none n 0 h l hW (by omega) (by omega) (.inl rfl) _).mono ?_
  rintro e w2 ⟨rfl, hb2⟩
  have hB2 := hB1a.trans (hb2.mono hB1a.size)
  have tq := Bx.new w2 25 (.int .i64 0) (.int .u64 0) _ rfl
  have hB3 : Below w.heap.size w (w2.alloc (.cells #[.int .i64 0, .int .u64 0] 25)) := hB2.alloc hB2.size _
  clear p1 p2 p3 p4 p5 p6 p7 p8
  obtain ⟨p1, p2, p3, p4⟩ := tq.cells
  go_wp2_with fail
  go_ret
  exact ⟨rfl, hB3⟩

set_option maxRecDepth 100000 in
set_option maxHeartbeats 3200000 in
theorem law_divides1 (n h l d : Int) (hW : Wd h l n) (hd : IFit d) (h0 : d ≠ 0) (w : World) :
    Calls Try.prog 4 #[.agg #[.int .i64 h, .int .u64 l], .int .i64 d] w fun e w' => e = .returned (.bool true) ∧ Below w.heap.size w w' := by
  have t0 := Bx.new w 38 (.int .i64 h) (.int .u64 l) _ rfl
  have hB0 : Below w.heap.size w (w.alloc (.cells #[.int .i64 h, .int .u64 l] 38)) := (by repeat' (first | (with_reducible exact Below.refl _ _) | (with_reducible assumption) | (with_reducible refine below_alloc ?_ _ ?_) | (with_reducible refine below_set _ ?_ ?_) | (with_reducible refine Below.drew ?_) | (with_reducible refine below_dN ?_ _) | (apply below_thenA; assumption) | omega | (simp; done) | (simp; omega) | (simp [*]; done)))
  have hRf := fr_fit (a := n) hd h0
  have sn := hW.sz
  have sd := BM.Sz.i64 hd.1 hd.2
  have sF := sn.le (fq_abs (a := n) h0)
  have sR := BM.Sz.i64 hRf.1 hRf.2
  have hDV := wide_div_any n d h l hW hd h0
  have eI := (intB_iff (fr n d)).2 hRf
  have eV : intV (fr n d) = fr n d := by unfold intV; rw [eI]; rfl
  have hDN := fun na nb ax bx k m ca cb W (ha : IsBig W na ax k ca n) (hb : IsBig W nb bx m cb d) hk hm => big_down na nb ax bx k m ca cb n d W ha hb hk hm h0
  have hFB := fitsB_iff (fq n d)
  have hIN := fun neg ao k cap W => big_int neg ao k cap (fr n d) W
  rw [eI, eV] at hIN
  obtain ⟨F, eF⟩ : ∃ F, fq n d = F := ⟨_, rfl⟩
  obtain ⟨R, eR⟩ : ∃ R, fr n d = R := ⟨_, rfl⟩
  rw [eF] at sF hDV hFB
  rw [eR] at sR hDV hIN
  have EF := Lib.hid eF
  have ER := Lib.hid eR
  have hne : (d == 0) = false := by simp [h0]
  obtain ⟨d1, d2⟩ := hd
  have HFB := Lib.hid hFB
  clear eI eV eF eR hRf hFB
  go_enter Try.func4, Try.ntmps4
  go_wp2_with fail
  refine (speaks01 _).mono ?_
  rintro e w1 ⟨rfl, hb1⟩
  replace t0 := t0.below hb1
  have hB1 := hB0.trans (hb1.mono hB0.size)
  have tx := Bx.new w1 25 (.int .i64 h) (.int .u64 l) _ rfl
  have hB1a : Below w.heap.size w (w1.alloc (.cells #[.int .i64 h, .int .u64 l] 25)) := hB1.alloc hB1.size _
  obtain ⟨p1, p2, p3, p4⟩ := t0.cells
  obtain ⟨p5, p6, p7, p8⟩ := tx.cells
  clear hb1 hB0
  go_wp2_with fail
  refine (hDV _).mono ?_
  rintro e w2 ⟨qh, ql, r, ok, rfl, hq, hb2⟩
  have HQ := Lib.hid hq
  have hB2 := hB1a.trans (hb2.mono hB1a.size)
  have tq := Bx.new w2 25 (.int .i64 qh) (.int .u64 ql) _ rfl
  have tx := (tx.below hb2).alloc (.cells #[.int .i64 qh, .int .u64 ql] 25)
  have hB3 : Below w.heap.size w (w2.alloc (.cells #[.int .i64 qh, .int .u64 ql] 25)) := hB2.alloc hB2.size _
  clear p1 p2 p3 p4 p5 p6 p7 p8 hDV hq hb2 hB2 hB1a t0
  obtain ⟨p1, p2, p3, p4⟩ := tx.cells
  go_wp2_with fail
  refine (big_ofwide_at n h l hW _).mono ?_
  rintro e w3 ⟨n3, x3, k3, c3, rfl, hI3, hb3⟩
  replace tq := tq.below hb3
  have hB4 := hB3.trans (hb3.mono hB3.size)
  clear p1 p2 p3 p4 tx
  go_wp2_with fail
  refine (big_of d d1 d2 _).mono ?_
  rintro e w4 ⟨n4, x4, k4, c4, rfl, hI4, hb4⟩
  replace tq := tq.below hb4
  have hB5 := hB4.trans (hb4.mono hB4.size)
  have k3l := hI3.le sn
  have k4l := hI4.le sd
  go_wp2_with fail
  refine (hDN n3 n4 x3 x4 k3 k4 c3 c4 w4 (hI3.keep hb4) hI4 (by omega) (by omega)).mono ?_
  rintro e w5 hRet
  obtain ⟨qn, qa, qk, qc, rn, ra, rk, rc, rfl, hQ, hR, hb5⟩ := hRet.out
  try rw [EF.out] at hQ
  try rw [ER.out] at hR
  have tq := ((tq.below hb5).alloc (.cells #[.bool qn, .slice qa qk qc] 29)).alloc (.cells #[.bool rn, .slice ra rk rc] 29)
  have ta := (Two.new w5 (.bool qn) (.slice qa qk qc) _ rfl).alloc (.cells #[.bool rn, .slice ra rk rc] 29)
  have tb := Two.new (w5.alloc (.cells #[.bool qn, .slice qa qk qc] 29)) (.bool rn) (.slice ra rk rc) (w5.heap.size + 1) (by simp)
  have hB6 := hB5.trans (hb5.mono hB5.size)
  have hB7 : Below w.heap.size w ((w5.alloc (.cells #[.bool qn, .slice qa qk qc] 29)).alloc (.cells #[.bool rn, .slice ra rk rc] 29)) := (hB6.alloc hB6.size _).alloc (by simp; have := hB6.size; omega) _
  replace hQ := hQ.keep (w' := (w5.alloc (.cells #[.bool qn, .slice qa qk qc] 29)).alloc (.cells #[.bool rn, .slice ra rk rc] 29)) (by repeat' (first | (with_reducible exact Below.refl _ _) | (with_reducible assumption) | (with_reducible refine below_alloc ?_ _ ?_) | (with_reducible refine below_set _ ?_ ?_) | (with_reducible refine Below.drew ?_) | (with_reducible refine below_dN ?_ _) | (apply below_thenA; assumption) | omega | (simp; done) | (simp; omega) | (simp [*]; done)))
  replace hR := hR.keep (w' := (w5.alloc (.cells #[.bool qn, .slice qa qk qc] 29)).alloc (.cells #[.bool rn, .slice ra rk rc] 29)) (by repeat' (first | (with_reducible exact Below.refl _ _) | (with_reducible assumption) | (with_reducible refine below_alloc ?_ _ ?_) | (with_reducible refine below_set _ ?_ ?_) | (with_reducible refine Below.drew ?_) | (with_reducible refine below_dN ?_ _) | (apply below_thenA; assumption) | omega | (simp; done) | (simp; omega) | (simp [*]; done)))
  have qkl := hQ.le sF
  have rkl := hR.le sR
  clear hDN hRet hb3 hb4 hb5 hB1 hB3 hB4 hB5 hB6 hI3 hI4 k3l k4l
  obtain ⟨p1, p2, p3, p4⟩ := ta.cells
  go_wp2_with fail
  refine (big_fits qn qa qk qc F _ hQ (by omega)).mono ?_
  rintro e w6 ⟨rfl, hb6⟩
  replace ta := ta.below hb6
  replace tb := tb.below hb6
  replace tq := tq.below hb6
  replace hQ := hQ.keep hb6
  replace hR := hR.keep hb6
  have hB8 := hB7.trans (hb6.mono hB7.size)
  clear p1 p2 p3 p4 hB7 hb6
  rcases HQ.out with ⟨hf, hqw, rfl, rfl⟩ | ⟨hf, rfl, rfl, rfl, rfl⟩
  · have ef := HFB.out.2 hf
    rw [ef]
    clear ef
    obtain ⟨p1, p2, p3, p4⟩ := tb.cells
    go_wp2_with fail
    refine (hIN rn ra rk rc _ hR (by omega)).mono ?_
    rintro e w7 ⟨rfl, hb7⟩
    replace ta := ta.below hb7
    replace tq := tq.below hb7
    replace hQ := hQ.keep hb7
    have hB9 := hB8.trans (hb7.mono hB8.size)
    clear p1 p2 p3 p4 hB8 hb7 hR tb
    obtain ⟨p1, p2, p3, p4⟩ := ta.cells
    obtain ⟨p5, p6, p7, p8⟩ := tq.cells
    go_wp2_with fail
    refine (law_same F qh ql qn qa qk qc _ hqw hQ).mono ?_
    rintro e w8 ⟨rfl, hb8⟩
    have hB10 := hB9.trans (hb8.mono hB9.size)
    go_wp2_with fail
    go_ret
    exact ⟨rfl, hB10⟩
  · have ef : fitsB F = false := by rw [Bool.eq_false_iff]; exact fun x => hf (HFB.out.1 x)
    rw [ef]
    clear ef
    obtain ⟨p5, p6, p7, p8⟩ := tq.cells
    go_wp2_with fail
    go_ret
    exact ⟨rfl, hB8⟩
theorem law_divides (n h l d : Int) (hW : Wd h l n) (hd : IFit d) (w : World) :
    Calls Try.prog 4 #[.agg #[.int .i64 h, .int .u64 l], .int .i64 d] w fun e w' => e = .returned (.bool true) ∧ Below w.heap.size w w' := by
  by_cases h0 : d = 0
  · subst h0; exact law_divides0 n h l hW w
  · exact law_divides1 n h l d hW hd h0 w
end Go.Proofs.Ythffphcgkmjhbaa
