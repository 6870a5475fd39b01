/-
  The law ValueScales.
-/
import Derived.Test.YtgmnboacehopfaaYVsA
namespace Go.Proofs.Ytgmnboacehopfaa
open Go.RowKit
set_option linter.unusedSimpArgs false
set_option linter.unusedVariables false

set_option maxRecDepth 100000 in
set_option maxHeartbeats 3200000 in
theorem law_vscales (a b : Nat) (s0 s1 : Int) (ha : a < 18446744073709551616) (hb : b < 18446744073709551616) (u0 : 0 ≤ s0) (u0' : s0 ≤ 65535) (u1 : 0 ≤ s1) (u1' : s1 ≤ 65535) (w : World) :
    Calls Try.prog 7 #[.int .u64 (a : Int), .int .u64 (b : Int), .agg #[.int .u16 s0, .int .u16 s1]] w fun e w' => e = .returned (.bool true) ∧ Below w.heap.size w w' := by
  have hmf : ∀ (fn : Fn) (first cap : Array Value) (w : World), (Instr.makeFunc fn first cap).run Try.prog w = .ok (.func fn first cap) w := fun _ _ _ _ => rfl
  have FF := flo_from
  have DA := fun W => val_decode a ha false false false false true 8 (by kernel_rfl) (by kernel_rfl) (by kernel_rfl) (by kernel_rfl) W
  have DB := fun W => val_decode b hb false false false false true 8 (by kernel_rfl) (by kernel_rfl) (by kernel_rfl) (by kernel_rfl) W
  have OA := vd_ok ha
  have OB := vd_ok hb
  obtain ⟨ra, era⟩ : ∃ r, vD a false false false false true = r := ⟨_, rfl⟩
  obtain ⟨rb, erb⟩ : ∃ r, vD b false false false false true = r := ⟨_, rfl⟩
  rw [era] at DA OA
  rw [erb] at DB OB
  obtain ⟨k1, n1, e1⟩ := ra
  obtain ⟨k2, n2, e2⟩ := rb
  dsimp only at DA DB OA OB
  have HOA := Lib.hid OA
  have HOB := Lib.hid OB
  obtain ⟨p, ep⟩ : ∃ p, 1 + s0 % 4096 = p := ⟨_, rfl⟩
  obtain ⟨q, eq⟩ : ∃ q, 1 + s1 % 4096 = q := ⟨_, rfl⟩
  have p1 : 1 ≤ p ∧ p ≤ 4096 := by omega
  have q1 : 1 ≤ q ∧ q ≤ 4096 := by omega
  obtain ⟨N, D, N1, N2, D1, D2, hg, OF⟩ := rat_of_small p q p1.1 p1.2 q1.1 q1.2
  have HGB := Lib.hid hg
  clear era erb OA OB hg p1 q1
  go_enter Try.func7, Try.ntmps7
  go_upto_region 1 with (fail)
  refine wp_world (fun W => Blk W w.heap.size #[.int .u16 s0, .int .u16 s1] 71 ∧ Below w.heap.size w W) ⟨Blk.new w _ _ _ rfl, by exact (by repeat' (first | (with_reducible exact Below.refl _ _) | (with_reducible assumption) | (with_reducible refine below_alloc ?_ _ ?_) | (with_reducible refine below_set _ ?_ ?_) | (with_reducible refine Below.drew ?_) | (with_reducible refine below_dN ?_ _) | (apply below_thenA; assumption) | omega | (simp; done) | (simp; omega) | (simp [*]; done)))⟩ ?_
  rintro W0 ⟨t5, hB⟩
  go_wp2_with fail
  refine (speaks09 _).mono ?_
  rintro e w1 ⟨rfl, hb1⟩
  replace t5 := t5.below hb1
  replace hB := hB.trans (hb1.mono hB.size)
  clear hb1
  go_upto_region 5 with (go_at_call 17; with_reducible refine (DA _).mono ?_; rintro e w2 ⟨rfl, hb2⟩)
  replace t5 := t5.below hb2
  replace hB := hB.trans (hb2.mono hB.size)
  refine wp_world (fun W => Blk W w.heap.size #[.int .u16 s0, .int .u16 s1] 71 ∧ Blk W w2.heap.size #[.int .i64 k1, .int .i64 n1] 55 ∧ Below w.heap.size w W) ⟨t5.alloc _, Blk.new w2 _ _ _ rfl, by have hs := hB.size; exact (by repeat' (first | (with_reducible exact Below.refl _ _) | (with_reducible assumption) | (with_reducible refine below_alloc ?_ _ ?_) | (with_reducible refine below_set _ ?_ ?_) | (with_reducible refine Below.drew ?_) | (with_reducible refine below_dN ?_ _) | (apply below_thenA; assumption) | omega | (simp; done) | (simp; omega) | (simp [*]; done)))⟩ ?_
  clear hb2 t5 hB
  rintro W2 ⟨t5, t9, hB⟩
  go_upto_region 6 with (go_at_call 17; with_reducible refine (DB _).mono ?_; rintro e w3 ⟨rfl, hb3⟩)
  have hlt9 := t9.lt
  have hsz3 := hb3.size
  replace t5 := t5.below hb3
  replace t9 := t9.below hb3
  replace hB := hB.trans (hb3.mono hB.size)
  refine wp_world (fun W => Blk W w.heap.size #[.int .u16 s0, .int .u16 s1] 71 ∧ Blk W w2.heap.size #[.int .i64 k1, .int .i64 n1] 55 ∧ Blk W w3.heap.size #[.int .i64 k2, .int .i64 n2] 55 ∧ Below w.heap.size w W) ⟨t5.alloc _, t9.alloc _, Blk.new w3 _ _ _ rfl, by have hs := hB.size; exact (by repeat' (first | (with_reducible exact Below.refl _ _) | (with_reducible assumption) | (with_reducible refine below_alloc ?_ _ ?_) | (with_reducible refine below_set _ ?_ ?_) | (with_reducible refine Below.drew ?_) | (with_reducible refine below_dN ?_ _) | (apply below_thenA; assumption) | omega | (simp; done) | (simp; omega) | (simp [*]; done)))⟩ ?_
  have h23 : w2.heap.size < w3.heap.size := by omega
  clear hb3 t5 hB t9 hlt9 hsz3
  rintro W3 ⟨t5, t9, t11, hB⟩
  have d0 := t5.cell 0 _ rfl
  have d1 := t5.cell 1 _ rfl
  go_upto_region 7 with (go_at_call 22; with_reducible refine (OF _).mono ?_; rintro e w4 ⟨rfl, hb4⟩)
  have hlt11 := t11.lt
  have hsz4 := hb4.size
  replace t9 := t9.below hb4
  replace t11 := t11.below hb4
  replace hB := hB.trans (hb4.mono hB.size)
  refine wp_world (fun W => Blk W w2.heap.size #[.int .i64 k1, .int .i64 n1] 55 ∧ Blk W w3.heap.size #[.int .i64 k2, .int .i64 n2] 55 ∧ Blk W w4.heap.size #[.int .i64 N, .int .i64 D] 51 ∧ Below w.heap.size w W) ⟨t9.alloc _, t11.alloc _, Blk.new w4 _ _ _ rfl, by have hs := hB.size; exact (by repeat' (first | (with_reducible exact Below.refl _ _) | (with_reducible assumption) | (with_reducible refine below_alloc ?_ _ ?_) | (with_reducible refine below_set _ ?_ ?_) | (with_reducible refine Below.drew ?_) | (with_reducible refine below_dN ?_ _) | (apply below_thenA; assumption) | omega | (simp; done) | (simp; omega) | (simp [*]; done)))⟩ ?_
  have h34 : w3.heap.size < w4.heap.size := by omega
  clear hb4 t5 hB t9 t11 hlt11 hsz4 d0 d1
  rintro W4 ⟨t9, t11, t13, hB⟩
  by_cases he1 : e1 = 0
  · by_cases he2 : e2 = 0
    · subst he1 he2
      obtain ⟨fa, rfl, rfl, na1, na2⟩ := HOA.out rfl
      obtain ⟨fb, rfl, rfl, nb1, nb2⟩ := HOB.out rfl
      obtain ⟨r1, r2, r3, m1, m2, m3, m4, m5⟩ := fl_tail fa na1 na2
      have hgt := fl_gt fa fb
      have hmo := fun h => @gN_mono a b 64 (by omega) h
      obtain ⟨n, en⟩ : ∃ n, gN a 64 = n := ⟨_, rfl⟩
      obtain ⟨m, em⟩ : ∃ n, gN b 64 = n := ⟨_, rfl⟩
      rw [en] at na1 na2 m2 hmo t9
      rw [em] at nb1 nb2 hmo t11
      obtain ⟨sa, sa'⟩ := sc_ok n N D na1 na2 N1 N2 D1 D2 HGB.out
      obtain ⟨sb, sb'⟩ := sc_ok m N D nb1 nb2 N1 N2 D1 D2 HGB.out
      obtain ⟨so, so'⟩ := sc_one n na1 na2
      obtain ⟨sw, sw'⟩ := pt_whole n na1 na2
      have hf : ∀ x : Int, -1073741824 ≤ x → x ≤ 1073741824 → IFit x := fun x _ _ => by unfold IFit; omega
      have V1 := fun W => val_in 3 n 0 N D (hf _ na1 na2) (hf _ (by omega) (by omega)) (hf _ (by omega) (by omega)) (hf _ (by omega) (by omega)) W
      have V2 := fun W => val_in 3 m 0 N D (hf _ nb1 nb2) (hf _ (by omega) (by omega)) (hf _ (by omega) (by omega)) (hf _ (by omega) (by omega)) W
      have V3 := fun W => val_in 3 n 0 1 1 (hf _ na1 na2) (hf _ (by omega) (by omega)) (hf _ (by omega) (by omega)) (hf _ (by omega) (by omega)) W
      have V4 := fun W => val_in 4 6400 n N D (hf _ (by omega) (by omega)) (hf _ na1 na2) (hf _ (by omega) (by omega)) (hf _ (by omega) (by omega)) W
      have w1 : vI 3 n 0 N D = (fq (n * N) D, true, 0) := by unfold vI; rw [if_pos rfl, sa, sa']; rfl
      have w2' : vI 3 m 0 N D = (fq (m * N) D, true, 0) := by unfold vI; rw [if_pos rfl, sb, sb']; rfl
      have w3' : vI 3 n 0 1 1 = (n, true, 0) := by unfold vI; rw [if_pos rfl, so, so']; rfl
      have w4' : vI 4 6400 n N D = (n, true, 0) := by unfold vI; rw [if_neg (by decide), if_pos rfl, sw, sw']; rfl
      rw [w1] at V1
      rw [w2'] at V2
      rw [w3'] at V3
      rw [w4'] at V4
      have hAB : n ≤ m → fq (n * N) D ≤ fq (m * N) D := fun h => fq_mono D1 (Int.mul_le_mul_of_nonneg_right h (by omega))
      obtain ⟨A, eA⟩ : ∃ A, fq (n * N) D = A := ⟨_, rfl⟩
      obtain ⟨B, eB⟩ : ∃ B, fq (m * N) D = B := ⟨_, rfl⟩
      rw [eA] at V1 hAB
      rw [eB] at V2 hAB
      have T1 := fun H (l0 : w2.heap.size < H) (l1 : w4.heap.size < H) (l3 : w3.heap.size < H) W (hS : StV w2.heap.size w4.heap.size w3.heap.size H n m N D W 0 0 0 0 W) =>
        try_blks 23 #[.pointer (some ⟨w2.heap.size, 0, none⟩), .pointer (some ⟨w4.heap.size, 0, none⟩), .pointer (some ⟨H, 0, none⟩), .pointer (some ⟨w3.heap.size, 0, none⟩), .pointer (some ⟨H + 1, 0, none⟩), .pointer (some ⟨H + 2, 0, none⟩), .pointer (some ⟨H + 3, 0, none⟩)] 0 [(H, #[.int .i64 A], 2), (H + 1, #[.int .i64 B], 2), (H + 2, #[.int .i64 n], 2), (H + 3, #[.int .i64 n], 2)] W
          (by intro e he; simp at he; rcases he with rfl | rfl | rfl | rfl; exact hS.2.2.2.1.lt; exact hS.2.2.2.2.1.lt; exact hS.2.2.2.2.2.1.lt; exact hS.2.2.2.2.2.2.1.lt) (fun w => enters_of Try.func23 (by kernel_rfl) rfl _ w)
          (fun W' hb => (valsc1 w2.heap.size w4.heap.size w3.heap.size H n m N D A B l0 l1 l3 W' (fun W => (V1 W).mono fun _ _ h => ⟨h.1 rfl, h.2.2⟩) (fun W => (V2 W).mono fun _ _ h => ⟨h.1 rfl, h.2.2⟩) (fun W => (V3 W).mono fun _ _ h => ⟨h.1 rfl, h.2.2⟩) (fun W => (V4 W).mono fun _ _ h => ⟨h.1 rfl, h.2.2⟩) (by
              obtain ⟨h0, h1, h2, h3, h4, h5, h6, -⟩ := hS
              exact ⟨h0.below hb, h1.below hb, h2.below hb, h3.below hb, h4.below hb, h5.below hb, h6.below hb, ButL.of (Below.refl _ _)⟩)).mono fun e W2 h => ⟨fun _ => h.1, fun h => absurd rfl h, by
              obtain ⟨_, _, _, _, h3, h4, h5, h6, _⟩ := h
              intro e he
              simp at he
              rcases he with rfl | rfl | rfl | rfl
              · exact h3
              · exact h4
              · exact h5
              · exact h6, h.2.2.2.2.2.2.2.2⟩)
      have FM : ∀ t w, (binOp .mul t (.float .f64 4634204016564240384) (.float .f64 a)).run Try.prog w = .ok (.float .f64 r1) w := fun t w => run_float_arith w .mul t .f64 _ _ _ m1
      have FS : ∀ t w, (binOp .sub t (.float .f64 r1) (.float .f64 r2)).run Try.prog w = .ok (.float .f64 r3) w := fun t w => run_float_arith w .sub t .f64 _ _ _ m3
      have MA := fun W => math_abs r3 m4 W
      obtain ⟨r4, er4⟩ : ∃ r, r3 % 9223372036854775808 = r := ⟨_, rfl⟩
      rw [er4] at MA m5
      obtain ⟨G, eG⟩ : ∃ G : Bool, (FloatKind.f64.format.order a b == some .gt) = G := ⟨_, rfl⟩
      have hle : G = false → A ≤ B := fun h => hAB (hmo (by
        have h2 : decide (fV b < fV a) = false := by rw [← hgt, ← h, ← eG]; rfl
        have := of_decide_eq_false h2
        omega))
      have m5' : (FloatKind.f64.format.order r4 4602678819172646912 == some .lt || FloatKind.f64.format.order r4 4602678819172646912 == some .eq) = true := m5
      clear hmo hAB hgt m1 m3 m5 er4 V1 V2 V3 V4 w1 w2' w3' w4' sa sa' sb sb' so so' sw sw' fa fb eA eB en em HOA HOB DA DB OF hf
      have hl9 := t9.lt
      have hl11 := t11.lt
      have hl13 := t13.lt
      have hw4 : w.heap.size ≤ W4.heap.size := hB.size
      have HT9 := Lib.hid t9
      have HT11 := Lib.hid t11
      have HT13 := Lib.hid t13
      have HB := Lib.hid hB
      have M2 := m2
      clear t9 t11 t13 hB
      go_upto_region 10 with (fail)
      refine wp_world (fun W => StV w2.heap.size w4.heap.size w3.heap.size W4.heap.size n m N D W 0 0 0 0 W ∧ Below w.heap.size w W ∧ W4.heap.size ≤ W.heap.size)
        ⟨⟨(((HT9.out.alloc _).alloc _).alloc _).alloc _, (((HT13.out.alloc _).alloc _).alloc _).alloc _, (((HT11.out.alloc _).alloc _).alloc _).alloc _, (((Blk.new W4 _ _ _ rfl).alloc _).alloc _).alloc _, ((Blk.new (W4.alloc _) _ _ _ (by simp)).alloc _).alloc _, (Blk.new ((W4.alloc _).alloc _) _ _ _ (by simp)).alloc _, Blk.new (((W4.alloc _).alloc _).alloc _) _ _ _ (by simp), ButL.of (Below.refl _ _)⟩, by have hB := HB.out; have hs := hB.size; exact (by repeat' (first | (with_reducible exact Below.refl _ _) | (with_reducible assumption) | (with_reducible refine below_alloc ?_ _ ?_) | (with_reducible refine below_set _ ?_ ?_) | (with_reducible refine Below.drew ?_) | (with_reducible refine below_dN ?_ _) | (apply below_thenA; assumption) | omega | (simp; done) | (simp; omega) | (simp [*]; done))), by simp; omega⟩ ?_
      clear HT9 HT11 HT13 HB
      rintro W5 ⟨hS, hB, hsz5⟩
      have T2 := T1 W4.heap.size hl9 hl13 hl11 W5 hS
      have k9 := hS.1
      have HK9 := Lib.hid k9
      have HB := Lib.hid hB
      clear hS hB T1 k9
      go_wp2_with fail
      refine T2.mono ?_
      rintro e w6 ⟨rfl, hl, hbut⟩
      have g0 : Blk w6 W4.heap.size #[.int .i64 A] 2 := hl (W4.heap.size, #[.int .i64 A], 2) (by simp)
      have g1 : Blk w6 (W4.heap.size + 1) #[.int .i64 B] 2 := hl (W4.heap.size + 1, #[.int .i64 B], 2) (by simp)
      have g2 : Blk w6 (W4.heap.size + 2) #[.int .i64 n] 2 := hl (W4.heap.size + 2, #[.int .i64 n], 2) (by simp)
      have g3 : Blk w6 (W4.heap.size + 3) #[.int .i64 n] 2 := hl (W4.heap.size + 3, #[.int .i64 n], 2) (by simp)
      have g9 := HK9.out.butl hbut (by simp; omega)
      have hBS := HB.out.size
      have hB6 := hbut.to HB.out (by intro b hb; simp at hb; rcases hb with rfl | rfl | rfl | rfl <;> omega) hBS
      have HB6 := Lib.hid hB6
      have c0 := g0.cell 0 _ rfl
      have c1 := g1.cell 0 _ rfl
      have c2 := g2.cell 0 _ rfl
      have c3 := g3.cell 0 _ rfl
      have c9 := g9.cell 1 _ rfl
      clear hl hbut g0 g1 g2 g3 g9 hB6 T2 HK9 HB
      have hnn : (n == n) = true := by simp
      cases G
      · have hAB := hle rfl
        have hab : decide (A ≤ B) = true := decide_eq_true hAB
        clear hle
        go_wp2_with (go_at_call 24; with_reducible refine (MA _).mono ?_; rintro e w7 ⟨rfl, rfl⟩)
        go_ret
        exact ⟨by simp, HB6.out⟩
      · clear hle
        go_wp2_with (go_at_call 24; with_reducible refine (MA _).mono ?_; rintro e w7 ⟨rfl, rfl⟩)
        go_ret
        exact ⟨by simp, HB6.out⟩
    · subst he1
      have hn2 : (e2 != 0) = true := by simp [he2]
      have HB := Lib.hid hB
      clear hB t9 t11 t13 HOA HOB DA DB OF he2
      go_wp2_with fail
      go_ret
      exact ⟨by simp, HB.out⟩
  · have hn1 : (e1 != 0) = true := by simp [he1]
    have HB := Lib.hid hB
    clear hB t9 t11 t13 HOA HOB DA DB OF he1
    go_wp2_with fail
    go_ret
    exact ⟨by simp, HB.out⟩
end Go.Proofs.Ytgmnboacehopfaa
