/-
  The law FlexboxAligns.
-/
import Derived.Test.YthofammjbicogaaYFlJ
import Derived.Test.YthofammjbicogaaZ9
namespace Go.Proofs.Ythofammjbicogaa
open Go.RowKit
set_option linter.unusedSimpArgs false
set_option linter.unusedVariables false

set_option maxRecDepth 100000 in
set_option maxHeartbeats 3200000 in
theorem law_aligns (s r h : Int) (hs : IFit s) (hr : IFit r) (h0 : 0 ≤ h) (h255 : h ≤ 255) (w : World) :
    Calls Try.prog 12 #[.int .i64 s, .int .i64 r, .int .u8 h] w fun e w' => e = .returned (.bool true) ∧ Below w.heap.size w w' := by
  have hmf : ∀ (fn : Fn) (first cap : Array Value) (w : World), (Instr.makeFunc fn first cap).run Try.prog w = .ok (.func fn first cap) w := fun _ _ _ _ => rfl
  have eqA := eq_arr2
  have p0 : Blk ((w.alloc (.cells #[.int .i64 s] 2)).alloc (.cells #[.int .i64 r] 2)) w.heap.size #[.int .i64 s] 2 := (Blk.new w _ _ _ rfl).alloc _
  have p1 : Blk ((w.alloc (.cells #[.int .i64 s] 2)).alloc (.cells #[.int .i64 r] 2)) (w.heap.size + 1) #[.int .i64 r] 2 := Blk.new _ _ _ _ (by simp)
  have pB : Below w.heap.size w ((w.alloc (.cells #[.int .i64 s] 2)).alloc (.cells #[.int .i64 r] 2)) := (by repeat' (first | (with_reducible exact Below.refl _ _) | (with_reducible assumption) | (with_reducible refine below_alloc ?_ _ ?_) | (with_reducible refine below_set _ ?_ ?_) | (with_reducible refine Below.drew ?_) | (with_reducible refine below_dN ?_ _) | (apply below_thenA; assumption) | omega | (simp; done) | (simp; omega) | (simp [*]; done)))
  have pz : ((w.alloc (.cells #[.int .i64 s] 2)).alloc (.cells #[.int .i64 r] 2)).heap.size = w.heap.size + 2 := by simp
  obtain ⟨a, ea⟩ : ∃ a, (bits BinOp.and IntKind.u8 h 1 == 1) = a := ⟨_, rfl⟩
  obtain ⟨b, eb⟩ : ∃ a, (bits BinOp.and IntKind.u8 h 2 == 2) = a := ⟨_, rfl⟩
  obtain ⟨al, eal⟩ : ∃ a, h / 4 % 8 = a := ⟨_, rfl⟩
  go_enter Try.func12, Try.ntmps12
  go_wp2_with fail
  refine (speaks20 _).mono ?_
  rintro e w1 ⟨rfl, hb⟩
  have hs1 := hb.size
  rw [pz] at hs1
  have q0 := p0.below hb
  have q1 := p1.below hb
  have hB := pB.trans (hb.mono pB.size)
  obtain ⟨W0, eW⟩ : ∃ W, (((w1.alloc (.cells #[.int .i64 0] 2)).alloc (.cells #[.int .i64 0, .int .i64 0] 66)).alloc (.cells #[.bool a, .bool b] 71)).alloc (.cells #[.int .i64 al] 3) = W := ⟨_, rfl⟩
  have q4 : Blk W0 w1.heap.size #[.int .i64 0] 2 := by rw [← eW]; exact (((Blk.new w1 _ _ _ rfl).alloc _).alloc _).alloc _
  have q5 : Blk W0 (w1.heap.size + 1) #[.int .i64 0, .int .i64 0] 66 := by rw [← eW]; exact ((Blk.new _ _ _ _ (by simp)).alloc _).alloc _
  have q2 : Blk W0 (w1.heap.size + 1 + 1) #[.bool a, .bool b] 71 := by rw [← eW]; exact (Blk.new _ _ _ _ (by simp)).alloc _
  have q3 : Blk W0 (w1.heap.size + 1 + 1 + 1) #[.int .i64 al] 3 := by rw [← eW]; exact Blk.new _ _ _ _ (by simp)
  have hB0 : Below w1.heap.size w1 W0 := by rw [← eW]; exact (by repeat' (first | (with_reducible exact Below.refl _ _) | (with_reducible assumption) | (with_reducible refine below_alloc ?_ _ ?_) | (with_reducible refine below_set _ ?_ ?_) | (with_reducible refine Below.drew ?_) | (with_reducible refine below_dN ?_ _) | (apply below_thenA; assumption) | omega | (simp; done) | (simp; omega) | (simp [*]; done)))
  replace q0 := q0.below hB0
  replace q1 := q1.below hB0
  replace hB := hB.trans (hB0.mono (by omega))
  have hz0 : W0.heap.size = w1.heap.size + 4 := by rw [← eW]; simp
  have TR := try_blks 47 #[.pointer (some ⟨w.heap.size, 0, none⟩), .pointer (some ⟨w.heap.size + 1, 0, none⟩), .pointer (some ⟨w1.heap.size + 1 + 1, 0, none⟩), .pointer (some ⟨w1.heap.size + 1 + 1 + 1, 0, none⟩), .pointer (some ⟨w1.heap.size, 0, none⟩), .pointer (some ⟨w1.heap.size + 1, 0, none⟩)] (lenE (r - s))
    [(w1.heap.size, #[if lenE (r - s) = 0 then .int .i64 (alN (r - s) a b al) else .int .i64 0], 2), (w1.heap.size + 1, if lenE (r - s) = 0 then #[.int .i64 ((alM (r - s) a b).1), .int .i64 ((alM (r - s) a b).2)] else #[.int .i64 0, .int .i64 0], 66)] W0
    (fun e he => by simp at he; rcases he with rfl | rfl <;> simp <;> omega) (fun w => enters_of Try.func47 (by kernel_rfl) rfl _ w)
    (fun W hb => aligns1 s r al a b _ _ _ _ _ _ _ _ _ W hs hr (by omega) (q0.below hb) (q1.below hb) (q2.below hb) (q3.below hb) (q4.below hb) (q5.below hb))
  clear hb p0 p1 pB pz hB0
  go_wp2_with fail
  refine TR.mono ?_
  rintro e w2 ⟨rfl, hblk, hbt⟩
  have r0 := q0.butl hbt (by simp; omega)
  have r1 := q1.butl hbt (by simp; omega)
  have r2 := q2.butl hbt (by simp; omega)
  have r3 := q3.butl hbt (by simp; omega)
  have r4 := hblk _ (List.mem_cons_self ..)
  have r5 := hblk _ (List.mem_cons_of_mem _ (List.mem_cons_self ..))
  have hB2 : Below w.heap.size w w2 := hbt.to hB (by simp; omega) hB.size
  have c0 := r0.cell 0 _ rfl
  have c1 := r1.cell 0 _ rfl
  have c2 := r2.cell 0 _ rfl
  have c2b := r2.cell 1 _ rfl
  have c3 := r3.cell 0 _ rfl
  have EA := Lib.hid eal
  clear TR hblk hbt q0 q1 q2 q3 q4 q5 hB eal
  by_cases hn : (-8796093022208 ≤ s ∧ s ≤ 8796093022208) ∧ (-8796093022208 ≤ r ∧ r ≤ 8796093022208)
  · have hL : LenB (r - s) := by unfold LenB; omega
    have hE : lenE (r - s) = 0 := by unfold lenE; rw [(lenB_iff _).2 hL]; rfl
    rw [hE, if_pos rfl] at r4
    rw [if_pos hE] at r5
    have RA := fun W => ref20_align s r al (r - s) a b rfl hL W
    obtain ⟨N, eN⟩ : ∃ N, alN (r - s) a b al = N := ⟨_, rfl⟩
    obtain ⟨M1, eM1⟩ : ∃ N, (alM (r - s) a b).1 = N := ⟨_, rfl⟩
    obtain ⟨M2, eM2⟩ : ∃ N, (alM (r - s) a b).2 = N := ⟨_, rfl⟩
    rw [eN, eM1, eM2] at RA
    rw [eN] at r4
    rw [eM1, eM2] at r5
    have c4 := r4.cell 0 _ rfl
    have c5 := r5.cell 0 _ rfl
    have c6 := r5.cell 1 _ rfl
    have x1 : ¬ s < -8796093022208 := by omega
    have x2 : ¬ 8796093022208 < s := by omega
    have x3 : ¬ r < -8796093022208 := by omega
    have x4 : ¬ 8796093022208 < r := by omega
    rw [hE]
    clear hE hL eN eM1 eM2 r0 r1 r2 r3 r4 r5 hn
    go_wp2_with fail
    refine (RA _).mono ?_
    rintro e w3 ⟨rfl, rfl⟩
    go_wp2_with fail
    go_ret
    exact ⟨rfl, hB2⟩
  · by_cases hE : lenE (r - s) = 0
    · rw [hE]
      clear r2 r3 r4 r5 hE
      have hc : s < -8796093022208 ∨ (¬ s < -8796093022208 ∧ 8796093022208 < s) ∨ (¬ s < -8796093022208 ∧ ¬ 8796093022208 < s ∧ r < -8796093022208) ∨ (¬ s < -8796093022208 ∧ ¬ 8796093022208 < s ∧ ¬ r < -8796093022208 ∧ 8796093022208 < r) := by omega
      clear hn
      rcases hc with x1 | ⟨x1, x2⟩ | ⟨x1, x2, x3⟩ | ⟨x1, x2, x3, x4⟩
      all_goals
        go_wp2_with fail
        go_ret
        exact ⟨rfl, hB2⟩
    · rw [if_neg hE] at r4
      have h2 : lenE (r - s) = 2 := by unfold lenE at hE ⊢; split at hE <;> simp_all
      rw [h2]
      have c4 := r4.cell 0 _ rfl
      clear r2 r3 r4 r5 hE h2
      have hc : s < -8796093022208 ∨ (¬ s < -8796093022208 ∧ 8796093022208 < s) ∨ (¬ s < -8796093022208 ∧ ¬ 8796093022208 < s ∧ r < -8796093022208) ∨ (¬ s < -8796093022208 ∧ ¬ 8796093022208 < s ∧ ¬ r < -8796093022208 ∧ 8796093022208 < r) := by omega
      clear hn
      rcases hc with x1 | ⟨x1, x2⟩ | ⟨x1, x2, x3⟩ | ⟨x1, x2, x3, x4⟩
      all_goals
        go_wp2_with fail
        go_ret
        exact ⟨rfl, hB2⟩
end Go.Proofs.Ythofammjbicogaa
