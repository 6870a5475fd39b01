/-
  The law WordsDecode.
-/
import Derived.Test.YtgmnboacehopfaaYWdA
namespace Go.Proofs.Ytgmnboacehopfaa
open Go.RowKit
namespace EB
set_option linter.unusedSimpArgs false
set_option linter.unusedVariables false

def ownA (H : Nat) (T : TypeId) (n : Nat) (xs : List Value) (z : Value) : Cl := .own (OwnA H T n xs z) (fun _ _ _ h hb => by obtain ⟨a, c, e, h, h2⟩ := h; exact ⟨a, c, e, h.below hb, h2⟩)
def ownB (j H : Nat) (T : TypeId) (n : Nat) (xs : List Value) : Cl := .both j (fun v u => OwnA H T n xs u v) (fun _ _ _ _ h hb => by obtain ⟨a, c, e, h, h2⟩ := h; exact ⟨a, c, e, h.below hb, h2⟩)
def sameC (j : Nat) : Cl := .both j (fun v u _ => v = u) (fun _ _ _ _ h _ => h)
set_option maxRecDepth 100000 in
set_option maxHeartbeats 12800000 in
theorem law_decode12 (v : Value) (t : Int) (ht : 0 ≤ t) (ht2 : t ≤ 65535) (w : World) (hv : RwIn w v) :
    Calls Try.prog 3 #[v, .int .u16 t] w fun e w' => e = .returned (.bool true) ∧ Below w.heap.size w w' := by
  obtain ⟨ao, n, cap, l, rfl, hn, hl, hr, hf⟩ := hv
  obtain ⟨i0, hi, hz0, hz1, hz2⟩ := info_parts (show (Try.prog.info? 34).map (fun i => (i.zero, i.size, i.bytes)) = some (some (.agg #[.float .f64 0, .float .f64 0, .bool false]), 3, 24) by kernel_rfl)
  obtain ⟨j0, ji, jz0, jz1, jz2⟩ := info_parts (show (Try.prog.info? 30).map (fun i => (i.zero, i.size, i.bytes)) = some (some (.int .u64 0), 1, 8) by kernel_rfl)
  obtain ⟨k0, ki, kz0, kz1, kz2⟩ := info_parts (show (Try.prog.info? 4).map (fun i => (i.zero, i.size, i.bytes)) = some (some (.bool false), 1, 1) by kernel_rfl)
  obtain ⟨k, ek⟩ : ∃ k, k = min n 20 := ⟨_, rfl⟩
  have hk20 : k ≤ 20 := by omega
  obtain ⟨Q, eQ⟩ : ∃ Q : Ending → World → Prop, Q = fun e w' => e = .returned (.bool true) ∧ Below w.heap.size w w' := ⟨_, rfl⟩
  rw [← eQ]
  have EQ := Lib.hid eQ
  have EK := Lib.hid ek
  have HL := Lib.hid hl
  have HR := Lib.hid hr
  have HF := Lib.hid hf
  have hr0 : 0 ≤ t.tmod 260 := Int.tmod_nonneg _ ht
  have hr1 : t.tmod 260 < 260 := Int.tmod_lt_of_pos _ (by omega)
  obtain ⟨r, er⟩ : ∃ r, t.tmod 260 = r := ⟨_, rfl⟩
  rw [er] at hr0 hr1
  clear eQ ek hl hr hf
  go_enter Try.func3, Try.ntmps3
  go_wp2_with fail
  refine (speaks12 _).mono ?_
  rintro e w1 ⟨rfl, hb1⟩
  have HB1 := Lib.hid hb1
  clear hb1
  go_wp2_with fail
  go_loopg [5, 6, 7, 8, 9] k (fun gk s5 s6 s7 s8 s9 wr => ∃ (i m : Nat), i ≤ k ∧ gk = k - i ∧ s9 = .int .i64 ((i : Int)) ∧ m ≤ i * 300 ∧ AccRel w1 m s5 s6 s7 s8 wr)
  case atStart => exact ⟨0, 0, by omega, by omega, rfl, by omega, AccRel.nil w1⟩
  case round =>
    obtain ⟨i, m, hik, rfl, rfl, hm, hA⟩ := hrel
    have HA := Lib.hid hA
    clear hA
    by_cases hjk : i < k
    · have ix : (i : Int) < (n : Int) := by have := EK.out; omega
      have ix2 : (i : Int) < 20 := by omega
      have hjl : i < l.length := by rw [HL.out]; have := EK.out; omega
      obtain ⟨g, off, rfl, hg, q0, q1, q2⟩ := rw_pick HR.out HL.out (show i < n by have := EK.out; omega)
      have hwf : (l.getD i rw0).Wf := by
        have e : l.getD i rw0 = l[i] := by simp [List.getD, hjl]
        rw [e]; exact HF.out _ (List.getElem_mem hjl)
      obtain ⟨x, ex⟩ : ∃ x, l.getD i rw0 = x := ⟨_, rfl⟩
      rw [ex] at q0 q1 q2 hwf
      have HB1B := fun W (h : Below w1.heap.size w1 W) => HB1.out.trans (h.mono HB1.out.size)
      have HC0 := Lib.hid (fun W (h : Below w1.heap.size w1 W) => ((HB1B W h).cell (p := ⟨g, off + i * 3, none⟩) hg).trans q0)
      have HC1 := Lib.hid (fun W (h : Below w1.heap.size w1 W) => ((HB1B W h).cell (p := ⟨g, off + i * 3 + 1, none⟩) hg).trans q1)
      have HC2 := Lib.hid (fun W (h : Below w1.heap.size w1 W) => ((HB1B W h).cell (p := ⟨g, off + i * 3 + 2, none⟩) hg).trans q2)
      have FF := fun (b : Nat) (w : World) => flo_from b w
      have HX := Lib.hid hwf
      clear q0 q1 q2 ex HB1B hwf
      go_upto_if 30 with (fail)
      go_cut [10] from 19 to 85 (fun s wx => ∃ N : Nat, s = .int .i64 ((N : Int)) ∧ 1 ≤ N ∧ N ≤ 260 ∧ wx = wr)
      case first =>
        clear FF
        by_cases hi0 : i = 0
        · subst hi0
          go_wp2_with fail
          go_meet
          case rel => exact ⟨(1 + r).toNat, by rw [Int.toNat_of_nonneg (by omega)], by omega, by omega, rfl⟩
        · have hi0' : ¬ ((i : Int) = 0) := by omega
          go_wp2_with fail
          go_meet
          case rel => exact ⟨1, rfl, by omega, by omega, rfl⟩
      case rest =>
        obtain ⟨N, rfl, hN1, hN2, rfl⟩ := hcut
        have FF := fun (b : Nat) (w : World) => flo_from b w
        clear FF
        go_wp2_with fail
        go_loopg [5, 6, 7, 8, 11] N (fun gk s5 s6 s7 s8 s11 wr => ∃ (q m : Nat), q ≤ N ∧ gk = N - q ∧ s11 = .int .i64 ((q : Int)) ∧ m ≤ i * 300 + q ∧ AccRel w1 m s5 s6 s7 s8 wr)
        case atStart => exact ⟨0, m, by omega, by omega, rfl, by omega, HA.out⟩
        case round =>
          clear HA hm m
          obtain ⟨q, m, hqN, rfl, rfl, hm, hA⟩ := hrel
          have FF := fun (b : Nat) (w : World) => flo_from b w
          by_cases hqk : q < N
          · have ixq : (q : Int) < (N : Int) := by omega
            obtain ⟨acc, ar, cr, aw, cw, az, cz, ab, cb, hal, haf, rfl, rfl, rfl, rfl, o1, o2, o3, o4, hap, hB⟩ := hA
            have hm1 : m ≤ 6300 := by omega
            have hsB := hB.size
            have HAP := Lib.hid hap
            have HG1 := Lib.hid (show ∀ g, (Value.slice ar m cr).ownBlock = some g → g < wr.heap.size from fun g h => (o1.ge h).2)
            have HG2 := Lib.hid (show ∀ g, (Value.slice aw m cw).ownBlock = some g → g < wr.heap.size from fun g h => (o2.ge h).2)
            have HG3 := Lib.hid (show ∀ g, (Value.slice az m cz).ownBlock = some g → g < wr.heap.size from fun g h => (o3.ge h).2)
            have HG4 := Lib.hid (show ∀ g, (Value.slice ab m cb).ownBlock = some g → g < wr.heap.size from fun g h => (o4.ge h).2)
            have HAL := Lib.hid hal
            have HAF := Lib.hid haf
            obtain ⟨vr, evr⟩ : ∃ v, acc.flatMap Rw.vals = v := ⟨_, rfl⟩
            obtain ⟨vw, evw⟩ : ∃ v, acc.map Rw.u1 = v := ⟨_, rfl⟩
            obtain ⟨vz, evz⟩ : ∃ v, acc.map Rw.u2 = v := ⟨_, rfl⟩
            obtain ⟨vb, evb⟩ : ∃ v, acc.map Rw.u3 = v := ⟨_, rfl⟩
            rw [evr] at o1
            rw [evw] at o2
            rw [evz] at o3
            rw [evb] at o4
            have EVR := Lib.hid evr
            have EVW := Lib.hid evw
            have EVZ := Lib.hid evz
            have EVB := Lib.hid evb
            clear evr evw evz evb hal haf hap
            go_wp2_with fail
            go_upto_region 15 with (fail)
            rename_i K1 hK1
            refine wp_region_calm (fun w' => Below w1.heap.size w1 w' ∧ OwnW w' w1.heap.size 34 3 ar m cr vr ∧ OwnW w' w1.heap.size 30 1 aw m cw vw ∧ OwnW w' w1.heap.size 30 1 az m cz vz ∧ OwnW w' w1.heap.size 4 1 ab m cb vb ∧ wr.heap.size ≤ w'.heap.size) [20] (fun w' => True) [Is (.slice ar m cr), Is (.slice (some ⟨g, off, none⟩) n cap), Is (.int .i64 ((i : Int))), Is (.pointer (some ⟨g, off + i * 3, none⟩)), Is (.pointer (some ⟨g, off + i * 3, none⟩)), Is (.int .u64 (x.w : Int)), Is (.float .f64 x.w), Is (.slice (some ⟨g, off, none⟩) n cap), Is (.int .i64 ((i : Int))), Is (.pointer (some ⟨g, off + i * 3, none⟩)), Is (.pointer (some ⟨g, off + i * 3 + 1, none⟩)), Is (.int .u64 (x.s : Int)), Is (.float .f64 x.s), Is (.slice (some ⟨g, off, none⟩) n cap), Is (.int .i64 ((i : Int))), Is (.pointer (some ⟨g, off + i * 3, none⟩)), Is (.pointer (some ⟨g, off + i * 3 + 2, none⟩)), Is (.bool x.br), Is (.agg #[.float .f64 x.w, .float .f64 x.s, .bool x.br]), sliW wr.heap.size 34 x.vals, ownW w1.heap.size 34 3 (m + 1) (vr ++ x.vals), ownW w1.heap.size 34 3 (m + 1) (vr ++ x.vals)] [] (by kernel_rfl) (by kernel_rfl) (by kernel_rfl) (by kernel_rfl) ⟨hB.drew, o1.drew, o2.drew, o3.drew, o4.drew, Nat.le_refl _⟩ trivial ?_ ?_ ?_ ?_ ?_
            · rintro W W' ⟨hBB, o1, o2, o3, o4, hl⟩ hb
              exact ⟨hBB.trans (hb.mono hBB.size), o1.below hb, o2.below hb, o3.below hb, o4.below hb, Nat.le_trans hl hb.size⟩
            · intro W W' hB h0 hb; exact trivial
            · intro k vs W hk h
              exact absurd hk (by simp)
            · intro Q; clear hK1 hB o1 o2 o3 o4
              refine ⟨?_, ?_, ?_, ?_, ?_, ?_, ?_, ?_, ?_, ?_, ?_, ?_, ?_, ?_, ?_, ?_, ?_, ?_, ?_, ?_, ?_, ?_, trivial⟩
              · intro vs W hW hW0 hd hne hold K hK hA hL; clear hne hA hL; have hBB := hW.1; have o1 := hW.2.1; have o2 := hW.2.2.1; have o3 := hW.2.2.2.1; have o4 := hW.2.2.2.2.1; have hl := hW.2.2.2.2.2; simp only [puts, Act.put, List.setIfInBounds_toArray, List.set_cons_zero, List.set_cons_succ, Nat.zero_add, Nat.reduceAdd] at hK ⊢; have e21 : vs 21 = _ := hold 21 (by kernel_rfl); clear hd hold; simp only [e21] at hK; go_simp; exact hK.out rfl _ _ (Below.refl _ _) rfl
              · intro vs W hW hW0 hd hne hold K hK hA hL; clear hne hA hL; have hBB := hW.1; have o1 := hW.2.1; have o2 := hW.2.2.1; have o3 := hW.2.2.2.1; have o4 := hW.2.2.2.2.1; have hl := hW.2.2.2.2.2; simp only [puts, Act.put, List.setIfInBounds_toArray, List.set_cons_zero, List.set_cons_succ, Nat.zero_add, Nat.reduceAdd] at hK ⊢; clear hd hold; go_simp; exact hK.out rfl _ _ (Below.refl _ _) rfl
              · intro vs W hW hW0 hd hne hold K hK hA hL; clear hne hA hL; have hBB := hW.1; have o1 := hW.2.1; have o2 := hW.2.2.1; have o3 := hW.2.2.2.1; have o4 := hW.2.2.2.2.1; have hl := hW.2.2.2.2.2; simp only [puts, Act.put, List.setIfInBounds_toArray, List.set_cons_zero, List.set_cons_succ, Nat.zero_add, Nat.reduceAdd] at hK ⊢; clear hd hold; go_simp; exact hK.out rfl _ _ (Below.refl _ _) rfl
              · intro vs W hW hW0 hd hne hold K hK hA hL; clear hne hA hL; have hBB := hW.1; have o1 := hW.2.1; have o2 := hW.2.2.1; have o3 := hW.2.2.2.1; have o4 := hW.2.2.2.2.1; have hl := hW.2.2.2.2.2; simp only [puts, Act.put, List.setIfInBounds_toArray, List.set_cons_zero, List.set_cons_succ, Nat.zero_add, Nat.reduceAdd] at hK ⊢; have e1 : vs 1 = _ := hd 1 (by kernel_rfl); have e2 : vs 2 = _ := hd 2 (by kernel_rfl); clear hd hold; simp only [e1, e2] at hK; go_simp; exact hK.out rfl _ _ (Below.refl _ _) rfl
              · intro vs W hW hW0 hd hne hold K hK hA hL; clear hne hA hL; have hBB := hW.1; have o1 := hW.2.1; have o2 := hW.2.2.1; have o3 := hW.2.2.2.1; have o4 := hW.2.2.2.2.1; have hl := hW.2.2.2.2.2; simp only [puts, Act.put, List.setIfInBounds_toArray, List.set_cons_zero, List.set_cons_succ, Nat.zero_add, Nat.reduceAdd] at hK ⊢; have e3 : vs 3 = _ := hd 3 (by kernel_rfl); clear hd hold; simp only [e3] at hK; go_simp; exact hK.out rfl _ _ (Below.refl _ _) rfl
              · intro vs W hW hW0 hd hne hold K hK hA hL; clear hne hA hL; have hBB := hW.1; have o1 := hW.2.1; have o2 := hW.2.2.1; have o3 := hW.2.2.2.1; have o4 := hW.2.2.2.2.1; have hl := hW.2.2.2.2.2; simp only [puts, Act.put, List.setIfInBounds_toArray, List.set_cons_zero, List.set_cons_succ, Nat.zero_add, Nat.reduceAdd] at hK ⊢; have p0 := HC0.out W hBB; have ee : vs 4 = _ := hd 4 (by kernel_rfl); clear hd hold; simp only [ee] at hK; go_simp; exact hK.out rfl _ _ (Below.refl _ _) rfl
              · intro vs W hW hW0 hd hne hold K hK hA hL; clear hne hA hL; have hBB := hW.1; have o1 := hW.2.1; have o2 := hW.2.2.1; have o3 := hW.2.2.2.1; have o4 := hW.2.2.2.2.1; have hl := hW.2.2.2.2.2; simp only [puts, Act.put, List.setIfInBounds_toArray, List.set_cons_zero, List.set_cons_succ, Nat.zero_add, Nat.reduceAdd] at hK ⊢; have ee : vs 5 = _ := hd 5 (by kernel_rfl); have ff := FF x.w; clear hd hold; simp only [ee] at hK; go_simp; exact hK.out rfl _ _ (Below.refl _ _) rfl
              · intro vs W hW hW0 hd hne hold K hK hA hL; clear hne hA hL; have hBB := hW.1; have o1 := hW.2.1; have o2 := hW.2.2.1; have o3 := hW.2.2.2.1; have o4 := hW.2.2.2.2.1; have hl := hW.2.2.2.2.2; simp only [puts, Act.put, List.setIfInBounds_toArray, List.set_cons_zero, List.set_cons_succ, Nat.zero_add, Nat.reduceAdd] at hK ⊢; clear hd hold; go_simp; exact hK.out rfl _ _ (Below.refl _ _) rfl
              · intro vs W hW hW0 hd hne hold K hK hA hL; clear hne hA hL; have hBB := hW.1; have o1 := hW.2.1; have o2 := hW.2.2.1; have o3 := hW.2.2.2.1; have o4 := hW.2.2.2.2.1; have hl := hW.2.2.2.2.2; simp only [puts, Act.put, List.setIfInBounds_toArray, List.set_cons_zero, List.set_cons_succ, Nat.zero_add, Nat.reduceAdd] at hK ⊢; clear hd hold; go_simp; exact hK.out rfl _ _ (Below.refl _ _) rfl
              · intro vs W hW hW0 hd hne hold K hK hA hL; clear hne hA hL; have hBB := hW.1; have o1 := hW.2.1; have o2 := hW.2.2.1; have o3 := hW.2.2.2.1; have o4 := hW.2.2.2.2.1; have hl := hW.2.2.2.2.2; simp only [puts, Act.put, List.setIfInBounds_toArray, List.set_cons_zero, List.set_cons_succ, Nat.zero_add, Nat.reduceAdd] at hK ⊢; have e7 : vs 7 = _ := hd 7 (by kernel_rfl); have e8 : vs 8 = _ := hd 8 (by kernel_rfl); clear hd hold; simp only [e7, e8] at hK; go_simp; exact hK.out rfl _ _ (Below.refl _ _) rfl
              · intro vs W hW hW0 hd hne hold K hK hA hL; clear hne hA hL; have hBB := hW.1; have o1 := hW.2.1; have o2 := hW.2.2.1; have o3 := hW.2.2.2.1; have o4 := hW.2.2.2.2.1; have hl := hW.2.2.2.2.2; simp only [puts, Act.put, List.setIfInBounds_toArray, List.set_cons_zero, List.set_cons_succ, Nat.zero_add, Nat.reduceAdd] at hK ⊢; have e9 : vs 9 = _ := hd 9 (by kernel_rfl); clear hd hold; simp only [e9] at hK; go_simp; exact hK.out rfl _ _ (Below.refl _ _) rfl
              · intro vs W hW hW0 hd hne hold K hK hA hL; clear hne hA hL; have hBB := hW.1; have o1 := hW.2.1; have o2 := hW.2.2.1; have o3 := hW.2.2.2.1; have o4 := hW.2.2.2.2.1; have hl := hW.2.2.2.2.2; simp only [puts, Act.put, List.setIfInBounds_toArray, List.set_cons_zero, List.set_cons_succ, Nat.zero_add, Nat.reduceAdd] at hK ⊢; have p0 := HC1.out W hBB; have ee : vs 10 = _ := hd 10 (by kernel_rfl); clear hd hold; simp only [ee] at hK; go_simp; exact hK.out rfl _ _ (Below.refl _ _) rfl
              · intro vs W hW hW0 hd hne hold K hK hA hL; clear hne hA hL; have hBB := hW.1; have o1 := hW.2.1; have o2 := hW.2.2.1; have o3 := hW.2.2.2.1; have o4 := hW.2.2.2.2.1; have hl := hW.2.2.2.2.2; simp only [puts, Act.put, List.setIfInBounds_toArray, List.set_cons_zero, List.set_cons_succ, Nat.zero_add, Nat.reduceAdd] at hK ⊢; have ee : vs 11 = _ := hd 11 (by kernel_rfl); have ff := FF x.s; clear hd hold; simp only [ee] at hK; go_simp; exact hK.out rfl _ _ (Below.refl _ _) rfl
              · intro vs W hW hW0 hd hne hold K hK hA hL; clear hne hA hL; have hBB := hW.1; have o1 := hW.2.1; have o2 := hW.2.2.1; have o3 := hW.2.2.2.1; have o4 := hW.2.2.2.2.1; have hl := hW.2.2.2.2.2; simp only [puts, Act.put, List.setIfInBounds_toArray, List.set_cons_zero, List.set_cons_succ, Nat.zero_add, Nat.reduceAdd] at hK ⊢; clear hd hold; go_simp; exact hK.out rfl _ _ (Below.refl _ _) rfl
              · intro vs W hW hW0 hd hne hold K hK hA hL; clear hne hA hL; have hBB := hW.1; have o1 := hW.2.1; have o2 := hW.2.2.1; have o3 := hW.2.2.2.1; have o4 := hW.2.2.2.2.1; have hl := hW.2.2.2.2.2; simp only [puts, Act.put, List.setIfInBounds_toArray, List.set_cons_zero, List.set_cons_succ, Nat.zero_add, Nat.reduceAdd] at hK ⊢; clear hd hold; go_simp; exact hK.out rfl _ _ (Below.refl _ _) rfl
              · intro vs W hW hW0 hd hne hold K hK hA hL; clear hne hA hL; have hBB := hW.1; have o1 := hW.2.1; have o2 := hW.2.2.1; have o3 := hW.2.2.2.1; have o4 := hW.2.2.2.2.1; have hl := hW.2.2.2.2.2; simp only [puts, Act.put, List.setIfInBounds_toArray, List.set_cons_zero, List.set_cons_succ, Nat.zero_add, Nat.reduceAdd] at hK ⊢; have e13 : vs 13 = _ := hd 13 (by kernel_rfl); have e14 : vs 14 = _ := hd 14 (by kernel_rfl); clear hd hold; simp only [e13, e14] at hK; go_simp; exact hK.out rfl _ _ (Below.refl _ _) rfl
              · intro vs W hW hW0 hd hne hold K hK hA hL; clear hne hA hL; have hBB := hW.1; have o1 := hW.2.1; have o2 := hW.2.2.1; have o3 := hW.2.2.2.1; have o4 := hW.2.2.2.2.1; have hl := hW.2.2.2.2.2; simp only [puts, Act.put, List.setIfInBounds_toArray, List.set_cons_zero, List.set_cons_succ, Nat.zero_add, Nat.reduceAdd] at hK ⊢; have e15 : vs 15 = _ := hd 15 (by kernel_rfl); clear hd hold; simp only [e15] at hK; go_simp; exact hK.out rfl _ _ (Below.refl _ _) rfl
              · intro vs W hW hW0 hd hne hold K hK hA hL; clear hne hA hL; have hBB := hW.1; have o1 := hW.2.1; have o2 := hW.2.2.1; have o3 := hW.2.2.2.1; have o4 := hW.2.2.2.2.1; have hl := hW.2.2.2.2.2; simp only [puts, Act.put, List.setIfInBounds_toArray, List.set_cons_zero, List.set_cons_succ, Nat.zero_add, Nat.reduceAdd] at hK ⊢; have p0 := HC2.out W hBB; have ee : vs 16 = _ := hd 16 (by kernel_rfl); clear hd hold; simp only [ee] at hK; go_simp; exact hK.out rfl _ _ (Below.refl _ _) rfl
              · intro vs W hW hW0 hd hne hold K hK hA hL; clear hne hA hL; have hBB := hW.1; have o1 := hW.2.1; have o2 := hW.2.2.1; have o3 := hW.2.2.2.1; have o4 := hW.2.2.2.2.1; have hl := hW.2.2.2.2.2; simp only [puts, Act.put, List.setIfInBounds_toArray, List.set_cons_zero, List.set_cons_succ, Nat.zero_add, Nat.reduceAdd] at hK ⊢; have e6 : vs 6 = _ := hd 6 (by kernel_rfl); have e12 : vs 12 = _ := hd 12 (by kernel_rfl); have e17 : vs 17 = _ := hd 17 (by kernel_rfl); clear hd hold; simp only [e6, e12, e17] at hK; go_simp; exact hK.out rfl _ _ (Below.refl _ _) rfl
              · intro vs W hW hW0 hd hne hold K hK hA hL; clear hne hA hL; have hBB := hW.1; have o1 := hW.2.1; have o2 := hW.2.2.1; have o3 := hW.2.2.2.1; have o4 := hW.2.2.2.2.1; have hl := hW.2.2.2.2.2; simp only [puts, Act.put, List.setIfInBounds_toArray, List.set_cons_zero, List.set_cons_succ, Nat.zero_add, Nat.reduceAdd] at hK ⊢; have ee : vs 18 = _ := hd 18 (by kernel_rfl); clear hd hold; simp only [ee] at hK; go_simp; exact hK.out rfl _ _ ((Below.refl _ _).alloc (Nat.le_refl _) _) ⟨W.heap.size, rfl, hl, Blk.new _ _ _ _ rfl⟩
              · intro vs W hW hW0 hd hne hold K hK hA hL; clear hK hA; have hBB := hW.1; have o1 := hW.2.1; have o2 := hW.2.2.1; have o3 := hW.2.2.2.1; have o4 := hW.2.2.2.2.1; have hl := hW.2.2.2.2.2; simp only [puts, Act.put, List.setIfInBounds_toArray, List.set_cons_zero, List.set_cons_succ, Nat.zero_add, Nat.reduceAdd] at hL ⊢; have ea : vs 0 = _ := hd 0 (by kernel_rfl); have h5 : SliW wr.heap.size 34 x.vals (vs 19) W := hd 19 (by kernel_rfl); obtain ⟨bq, ebq, hlb, tb⟩ := h5; clear hd hold; simp only [ea, ebq] at hL ⊢; rw [if_pos (show Region.wanted _ _ = true from rfl)]; refine wp_append_at (.tmp 41) (.tmp 60) 25 rfl w1.heap.size 34 i0 (.agg #[.float .f64 0, .float .f64 0, .bool false]) 3 24 Try.underlying25 hi hz0 hz1 hz2 rfl (by decide) _ _ _ rfl o1 ⟨bq, 0, none⟩ 1 1 x.vals rfl rfl (blk_newsW tb) (cellsR x) (by unfold maxLen; omega) (by omega) (by have := hBB.size; omega) ?_; intro v' w9 ho1 hgr hk1 hat; obtain ⟨a5, c5, rfl, ho2, hbe, hbT, hb2⟩ := OwnW.app o1 ho1 hgr (by omega) (by have := hBB.size; omega); simp only [Act.put, List.setIfInBounds_toArray, List.set_cons_zero, List.set_cons_succ, Nat.zero_add, Nat.reduceAdd]; refine hL.out rfl _ _ ⟨hbe _ _ (Nat.le_refl _) hBB, hk1, OwnW.beside o2 o1 (by decide) hgr, OwnW.beside o3 o1 (by decide) hgr, OwnW.beside o4 o1 (by decide) hgr, Nat.le_trans hl hgr.size⟩ (fun h => absurd h (by decide)) ⟨a5, c5, rfl, ho2⟩ ?_; exact claims_keep_a ⟨.inr (.inr is_keep), .inr (.inr is_keep), .inr (.inr is_keep), .inr (.inr is_keep), .inr (.inr is_keep), .inr (.inr is_keep), .inr (.inr is_keep), .inr (.inr is_keep), .inr (.inr is_keep), .inr (.inr is_keep), .inr (.inr is_keep), .inr (.inr is_keep), .inr (.inr is_keep), .inr (.inr is_keep), .inr (.inr is_keep), .inr (.inr is_keep), .inr (.inr is_keep), .inr (.inr is_keep), .inr (.inr is_keep), .inr (.inr fun h => by obtain ⟨b9, e9, l9, t9⟩ := h; exact ⟨b9, e9, l9, hb2 _ _ _ t9 (fun q hq => by have := HG1.out q hq; omega)⟩), .inl rfl, .inr (.inl (by kernel_rfl)), trivial⟩
              · intro vs W hW hW0 hd hne hold K hK hA hL; clear hne hA hL; have hBB := hW.1; have o1 := hW.2.1; have o2 := hW.2.2.1; have o3 := hW.2.2.2.1; have o4 := hW.2.2.2.2.1; have hl := hW.2.2.2.2.2; simp only [puts, Act.put, List.setIfInBounds_toArray, List.set_cons_zero, List.set_cons_succ, Nat.zero_add, Nat.reduceAdd] at hK ⊢; have h7 : OwnVW w1.heap.size 34 3 (m + 1) (vr ++ x.vals) (vs 20) W := hd 20 (by kernel_rfl); obtain ⟨a5, c5, e1, ho⟩ := h7; clear hd hold; simp only [e1] at hK; go_simp; exact hK.out rfl _ _ (Below.refl _ _) ⟨a5, c5, rfl, ho⟩
            · intro va WB hW hV _
              obtain ⟨hB, -, o2, o3, o4, hl1⟩ := hW
              have h21 : OwnVW w1.heap.size 34 3 (m + 1) (vr ++ x.vals) (va 21) WB := hV 21 (by decide)
              obtain ⟨a9, c9, e21, o1⟩ := h21
              clear hV
              have hsB := hB.size
              simp only [puts, Act.put, List.setIfInBounds_toArray, List.set_cons_zero, List.set_cons_succ, Nat.zero_add, Nat.reduceAdd, e21]
              refine hK1 _ _ ?_
              clear hK1 e21 HG1 HG2 HG3 HG4
              obtain ⟨vr2, evr2⟩ : ∃ v, vr ++ x.vals = v := ⟨_, rfl⟩
              rw [evr2] at o1
              have EVR2 := Lib.hid evr2
              clear evr2
              obtain ⟨wr, rfl⟩ : ∃ u, u = WB := ⟨_, rfl⟩
              have HG2 := Lib.hid (show ∀ g, (Value.slice aw m cw).ownBlock = some g → g < wr.heap.size from fun g h => (o2.ge h).2)
              have HG3 := Lib.hid (show ∀ g, (Value.slice az m cz).ownBlock = some g → g < wr.heap.size from fun g h => (o3.ge h).2)
              have HG4 := Lib.hid (show ∀ g, (Value.slice ab m cb).ownBlock = some g → g < wr.heap.size from fun g h => (o4.ge h).2)
              clear hl1
              go_wp2_with fail
              go_upto_region 16 with (fail)
              refine wp_region_calm (fun w' => Below w1.heap.size w1 w' ∧ OwnW w' w1.heap.size 34 3 a9 (m + 1) c9 vr2 ∧ OwnW w' w1.heap.size 30 1 aw m cw vw ∧ OwnW w' w1.heap.size 30 1 az m cz vz ∧ OwnW w' w1.heap.size 4 1 ab m cb vb ∧ wr.heap.size ≤ w'.heap.size) [7, 15, 23] (fun w' => True) [Is (.slice aw m cw), Is (.slice (some ⟨g, off, none⟩) n cap), Is (.int .i64 ((i : Int))), Is (.pointer (some ⟨g, off + i * 3, none⟩)), Is (.pointer (some ⟨g, off + i * 3, none⟩)), Is (.int .u64 (x.w : Int)), sliW wr.heap.size 30 [Rw.u1 x], ownA w1.heap.size 30 (m + 1) (vw ++ [Rw.u1 x]) (.slice az m cz), Is (.slice az m cz), Is (.slice (some ⟨g, off, none⟩) n cap), Is (.int .i64 ((i : Int))), Is (.pointer (some ⟨g, off + i * 3, none⟩)), Is (.pointer (some ⟨g, off + i * 3 + 1, none⟩)), Is (.int .u64 (x.s : Int)), sliW wr.heap.size 30 [Rw.u2 x], ownB 7 w1.heap.size 30 (m + 1) (vz ++ [Rw.u2 x]), Is (.slice ab m cb), Is (.slice (some ⟨g, off, none⟩) n cap), Is (.int .i64 ((i : Int))), Is (.pointer (some ⟨g, off + i * 3, none⟩)), Is (.pointer (some ⟨g, off + i * 3 + 2, none⟩)), Is (.bool x.br), sliW wr.heap.size 4 [Rw.u3 x], ownW w1.heap.size 4 1 (m + 1) (vb ++ [Rw.u3 x]), sameC 7, sameC 15, sameC 23] [] (by kernel_rfl) (by kernel_rfl) (by kernel_rfl) (by kernel_rfl) ⟨hB.drew, o1.drew, o2.drew, o3.drew, o4.drew, Nat.le_refl _⟩ trivial ?_ ?_ ?_ ?_ ?_
              · rintro W W' ⟨hBB, o1, o2, o3, o4, hl⟩ hb
                exact ⟨hBB.trans (hb.mono hBB.size), o1.below hb, o2.below hb, o3.below hb, o4.below hb, Nat.le_trans hl hb.size⟩
              · intro W W' hB h0 hb; exact trivial
              · intro k vs W hk h
                exact absurd hk (by simp)
              · intro Q; clear hB o1 o2 o3 o4
                refine ⟨?_, ?_, ?_, ?_, ?_, ?_, ?_, ?_, ?_, ?_, ?_, ?_, ?_, ?_, ?_, ?_, ?_, ?_, ?_, ?_, ?_, ?_, ?_, ?_, ?_, ?_, ?_, trivial⟩
                · intro vs W hW hW0 hd hne hold K hK hA hL; clear hne hA hL; have hBB := hW.1; have o1 := hW.2.1; have o2 := hW.2.2.1; have o3 := hW.2.2.2.1; have o4 := hW.2.2.2.2.1; have hl := hW.2.2.2.2.2; simp only [puts, Act.put, List.setIfInBounds_toArray, List.set_cons_zero, List.set_cons_succ, Nat.zero_add, Nat.reduceAdd] at hK ⊢; have e24 : vs 24 = _ := hold 24 (by kernel_rfl); clear hd hold; simp only [e24] at hK; go_simp; exact hK.out rfl _ _ (Below.refl _ _) rfl
                · intro vs W hW hW0 hd hne hold K hK hA hL; clear hne hA hL; have hBB := hW.1; have o1 := hW.2.1; have o2 := hW.2.2.1; have o3 := hW.2.2.2.1; have o4 := hW.2.2.2.2.1; have hl := hW.2.2.2.2.2; simp only [puts, Act.put, List.setIfInBounds_toArray, List.set_cons_zero, List.set_cons_succ, Nat.zero_add, Nat.reduceAdd] at hK ⊢; clear hd hold; go_simp; exact hK.out rfl _ _ (Below.refl _ _) rfl
                · intro vs W hW hW0 hd hne hold K hK hA hL; clear hne hA hL; have hBB := hW.1; have o1 := hW.2.1; have o2 := hW.2.2.1; have o3 := hW.2.2.2.1; have o4 := hW.2.2.2.2.1; have hl := hW.2.2.2.2.2; simp only [puts, Act.put, List.setIfInBounds_toArray, List.set_cons_zero, List.set_cons_succ, Nat.zero_add, Nat.reduceAdd] at hK ⊢; clear hd hold; go_simp; exact hK.out rfl _ _ (Below.refl _ _) rfl
                · intro vs W hW hW0 hd hne hold K hK hA hL; clear hne hA hL; have hBB := hW.1; have o1 := hW.2.1; have o2 := hW.2.2.1; have o3 := hW.2.2.2.1; have o4 := hW.2.2.2.2.1; have hl := hW.2.2.2.2.2; simp only [puts, Act.put, List.setIfInBounds_toArray, List.set_cons_zero, List.set_cons_succ, Nat.zero_add, Nat.reduceAdd] at hK ⊢; have e1 : vs 1 = _ := hd 1 (by kernel_rfl); have e2 : vs 2 = _ := hd 2 (by kernel_rfl); clear hd hold; simp only [e1, e2] at hK; go_simp; exact hK.out rfl _ _ (Below.refl _ _) rfl
                · intro vs W hW hW0 hd hne hold K hK hA hL; clear hne hA hL; have hBB := hW.1; have o1 := hW.2.1; have o2 := hW.2.2.1; have o3 := hW.2.2.2.1; have o4 := hW.2.2.2.2.1; have hl := hW.2.2.2.2.2; simp only [puts, Act.put, List.setIfInBounds_toArray, List.set_cons_zero, List.set_cons_succ, Nat.zero_add, Nat.reduceAdd] at hK ⊢; have e3 : vs 3 = _ := hd 3 (by kernel_rfl); clear hd hold; simp only [e3] at hK; go_simp; exact hK.out rfl _ _ (Below.refl _ _) rfl
                · intro vs W hW hW0 hd hne hold K hK hA hL; clear hne hA hL; have hBB := hW.1; have o1 := hW.2.1; have o2 := hW.2.2.1; have o3 := hW.2.2.2.1; have o4 := hW.2.2.2.2.1; have hl := hW.2.2.2.2.2; simp only [puts, Act.put, List.setIfInBounds_toArray, List.set_cons_zero, List.set_cons_succ, Nat.zero_add, Nat.reduceAdd] at hK ⊢; have p0 := HC0.out W hBB; have ee : vs 4 = _ := hd 4 (by kernel_rfl); clear hd hold; simp only [ee] at hK; go_simp; exact hK.out rfl _ _ (Below.refl _ _) rfl
                · intro vs W hW hW0 hd hne hold K hK hA hL; clear hne hA hL; have hBB := hW.1; have o1 := hW.2.1; have o2 := hW.2.2.1; have o3 := hW.2.2.2.1; have o4 := hW.2.2.2.2.1; have hl := hW.2.2.2.2.2; simp only [puts, Act.put, List.setIfInBounds_toArray, List.set_cons_zero, List.set_cons_succ, Nat.zero_add, Nat.reduceAdd] at hK ⊢; have ee : vs 5 = _ := hd 5 (by kernel_rfl); clear hd hold; simp only [ee] at hK; go_simp; exact hK.out rfl _ _ ((Below.refl _ _).alloc (Nat.le_refl _) _) ⟨W.heap.size, rfl, hl, Blk.new _ _ _ _ rfl⟩
                · intro vs W hW hW0 hd hne hold K hK hA hL; clear hK hA; have hBB := hW.1; have o1 := hW.2.1; have o2 := hW.2.2.1; have o3 := hW.2.2.2.1; have o4 := hW.2.2.2.2.1; have hl := hW.2.2.2.2.2; simp only [puts, Act.put, List.setIfInBounds_toArray, List.set_cons_zero, List.set_cons_succ, Nat.zero_add, Nat.reduceAdd] at hL ⊢; have ea : vs 0 = _ := hd 0 (by kernel_rfl); have h5 : SliW wr.heap.size 30 [Rw.u1 x] (vs 6) W := hd 6 (by kernel_rfl); obtain ⟨bq, ebq, hlb, tb⟩ := h5; clear hd hold; simp only [ea, ebq] at hL ⊢; rw [if_pos (show Region.wanted _ _ = true from rfl)]; refine wp_append_at (.tmp 62) (.tmp 68) 26 rfl w1.heap.size 30 j0 (.int .u64 0) 1 8 Try.underlying26 ji jz0 jz1 jz2 rfl (by decide) _ _ _ rfl o2 ⟨bq, 0, none⟩ 1 1 [Rw.u1 x] rfl rfl (blk_newsW tb) (cells1 _ rfl) (by unfold maxLen; omega) (by omega) (by have := hBB.size; omega) ?_; intro v' w9 ho1 hgr hk1 hat; obtain ⟨a5, c5, rfl, ho2, hbe, hbT, hb2⟩ := OwnW.app o2 ho1 hgr (by omega) (by have := hBB.size; omega); simp only [Act.put, List.setIfInBounds_toArray, List.set_cons_zero, List.set_cons_succ, Nat.zero_add, Nat.reduceAdd]; refine hL.out rfl _ _ ⟨hbe _ _ (Nat.le_refl _) hBB, OwnW.beside o1 o2 (by decide) hgr, hk1, OwnW.besideN o3 HAP.out hgr, OwnW.beside o4 o2 (by decide) hgr, Nat.le_trans hl hgr.size⟩ (fun h => absurd h (by decide)) ⟨a5, c5, rfl, ho2, Apart.app o3 HAP.out hat⟩ ?_; exact claims_keep_a ⟨.inr (.inr is_keep), .inr (.inr is_keep), .inr (.inr is_keep), .inr (.inr is_keep), .inr (.inr is_keep), .inr (.inr is_keep), .inr (.inr fun h => by obtain ⟨b9, e9, l9, t9⟩ := h; exact ⟨b9, e9, l9, hb2 _ _ _ t9 (fun q hq => by have := HG2.out q hq; omega)⟩), .inl rfl, .inr (.inr is_keep), .inr (.inr is_keep), .inr (.inr is_keep), .inr (.inr is_keep), .inr (.inr is_keep), .inr (.inr is_keep), .inr (.inr fun h => by obtain ⟨b9, e9, l9, t9⟩ := h; exact ⟨b9, e9, l9, hb2 _ _ _ t9 (fun q hq => by have := HG2.out q hq; omega)⟩), .inr (.inl (by kernel_rfl)), .inr (.inr is_keep), .inr (.inr is_keep), .inr (.inr is_keep), .inr (.inr is_keep), .inr (.inr is_keep), .inr (.inr is_keep), .inr (.inr fun h => by obtain ⟨b9, e9, l9, t9⟩ := h; exact ⟨b9, e9, l9, hbT _ _ _ t9 (by decide)⟩), .inr (.inl (by kernel_rfl)), .inr (.inl (by kernel_rfl)), .inr (.inl (by kernel_rfl)), .inr (.inl (by kernel_rfl)), trivial⟩
                · intro vs W hW hW0 hd hne hold K hK hA hL; clear hne hA hL; have hBB := hW.1; have o1 := hW.2.1; have o2 := hW.2.2.1; have o3 := hW.2.2.2.1; have o4 := hW.2.2.2.2.1; have hl := hW.2.2.2.2.2; simp only [puts, Act.put, List.setIfInBounds_toArray, List.set_cons_zero, List.set_cons_succ, Nat.zero_add, Nat.reduceAdd] at hK ⊢; have e25 : vs 25 = _ := hold 25 (by kernel_rfl); clear hd hold; simp only [e25] at hK; go_simp; exact hK.out rfl _ _ (Below.refl _ _) rfl
                · intro vs W hW hW0 hd hne hold K hK hA hL; clear hne hA hL; have hBB := hW.1; have o1 := hW.2.1; have o2 := hW.2.2.1; have o3 := hW.2.2.2.1; have o4 := hW.2.2.2.2.1; have hl := hW.2.2.2.2.2; simp only [puts, Act.put, List.setIfInBounds_toArray, List.set_cons_zero, List.set_cons_succ, Nat.zero_add, Nat.reduceAdd] at hK ⊢; clear hd hold; go_simp; exact hK.out rfl _ _ (Below.refl _ _) rfl
                · intro vs W hW hW0 hd hne hold K hK hA hL; clear hne hA hL; have hBB := hW.1; have o1 := hW.2.1; have o2 := hW.2.2.1; have o3 := hW.2.2.2.1; have o4 := hW.2.2.2.2.1; have hl := hW.2.2.2.2.2; simp only [puts, Act.put, List.setIfInBounds_toArray, List.set_cons_zero, List.set_cons_succ, Nat.zero_add, Nat.reduceAdd] at hK ⊢; clear hd hold; go_simp; exact hK.out rfl _ _ (Below.refl _ _) rfl
                · intro vs W hW hW0 hd hne hold K hK hA hL; clear hne hA hL; have hBB := hW.1; have o1 := hW.2.1; have o2 := hW.2.2.1; have o3 := hW.2.2.2.1; have o4 := hW.2.2.2.2.1; have hl := hW.2.2.2.2.2; simp only [puts, Act.put, List.setIfInBounds_toArray, List.set_cons_zero, List.set_cons_succ, Nat.zero_add, Nat.reduceAdd] at hK ⊢; have e9 : vs 9 = _ := hd 9 (by kernel_rfl); have e10 : vs 10 = _ := hd 10 (by kernel_rfl); clear hd hold; simp only [e9, e10] at hK; go_simp; exact hK.out rfl _ _ (Below.refl _ _) rfl
                · intro vs W hW hW0 hd hne hold K hK hA hL; clear hne hA hL; have hBB := hW.1; have o1 := hW.2.1; have o2 := hW.2.2.1; have o3 := hW.2.2.2.1; have o4 := hW.2.2.2.2.1; have hl := hW.2.2.2.2.2; simp only [puts, Act.put, List.setIfInBounds_toArray, List.set_cons_zero, List.set_cons_succ, Nat.zero_add, Nat.reduceAdd] at hK ⊢; have e11 : vs 11 = _ := hd 11 (by kernel_rfl); clear hd hold; simp only [e11] at hK; go_simp; exact hK.out rfl _ _ (Below.refl _ _) rfl
                · intro vs W hW hW0 hd hne hold K hK hA hL; clear hne hA hL; have hBB := hW.1; have o1 := hW.2.1; have o2 := hW.2.2.1; have o3 := hW.2.2.2.1; have o4 := hW.2.2.2.2.1; have hl := hW.2.2.2.2.2; simp only [puts, Act.put, List.setIfInBounds_toArray, List.set_cons_zero, List.set_cons_succ, Nat.zero_add, Nat.reduceAdd] at hK ⊢; have p0 := HC1.out W hBB; have ee : vs 12 = _ := hd 12 (by kernel_rfl); clear hd hold; simp only [ee] at hK; go_simp; exact hK.out rfl _ _ (Below.refl _ _) rfl
                · intro vs W hW hW0 hd hne hold K hK hA hL; clear hne hA hL; have hBB := hW.1; have o1 := hW.2.1; have o2 := hW.2.2.1; have o3 := hW.2.2.2.1; have o4 := hW.2.2.2.2.1; have hl := hW.2.2.2.2.2; simp only [puts, Act.put, List.setIfInBounds_toArray, List.set_cons_zero, List.set_cons_succ, Nat.zero_add, Nat.reduceAdd] at hK ⊢; have ee : vs 13 = _ := hd 13 (by kernel_rfl); clear hd hold; simp only [ee] at hK; go_simp; exact hK.out rfl _ _ ((Below.refl _ _).alloc (Nat.le_refl _) _) ⟨W.heap.size, rfl, hl, Blk.new _ _ _ _ rfl⟩
                · intro vs W hW hW0 hd hne hold K hK hA hL; clear hK hA; have hBB := hW.1; have o1 := hW.2.1; have o2 := hW.2.2.1; have o3 := hW.2.2.2.1; have o4 := hW.2.2.2.2.1; have hl := hW.2.2.2.2.2; simp only [puts, Act.put, List.setIfInBounds_toArray, List.set_cons_zero, List.set_cons_succ, Nat.zero_add, Nat.reduceAdd] at hL ⊢; have ea : vs 8 = _ := hd 8 (by kernel_rfl); have h5 : SliW wr.heap.size 30 [Rw.u2 x] (vs 14) W := hd 14 (by kernel_rfl); obtain ⟨bq, ebq, hlb, tb⟩ := h5; have h7 : OwnA w1.heap.size 30 (m + 1) (vw ++ [Rw.u1 x]) (.slice az m cz) (vs 7) W := hd 7 (by kernel_rfl); clear hd hold; simp only [ea, ebq] at hL ⊢; rw [if_pos (show Region.wanted _ _ = true from rfl)]; refine wp_append_at (.tmp 70) (.tmp 76) 26 rfl w1.heap.size 30 j0 (.int .u64 0) 1 8 Try.underlying26 ji jz0 jz1 jz2 rfl (by decide) _ _ _ rfl o3 ⟨bq, 0, none⟩ 1 1 [Rw.u2 x] rfl rfl (blk_newsW tb) (cells1 _ rfl) (by unfold maxLen; omega) (by omega) (by have := hBB.size; omega) ?_; intro v' w9 ho1 hgr hk1 hat; obtain ⟨a5, c5, rfl, ho2, hbe, hbT, hb2⟩ := OwnW.app o3 ho1 hgr (by omega) (by have := hBB.size; omega); simp only [Act.put, List.setIfInBounds_toArray, List.set_cons_zero, List.set_cons_succ, Nat.zero_add, Nat.reduceAdd]; obtain ⟨a7, c7, e7, o7, ap7⟩ := h7; have ap5 := Apart.app (v' := .slice a5 (m + 1) c5) o7 (e7 ▸ Apart.symm ap7) hat; rw [← e7] at ap5; refine hL.out rfl _ _ ⟨hbe _ _ (Nat.le_refl _) hBB, OwnW.beside o1 o3 (by decide) hgr, OwnW.besideN o2 (Apart.symm HAP.out) hgr, hk1, OwnW.beside o4 o3 (by decide) hgr, Nat.le_trans hl hgr.size⟩ (fun h => absurd h (by decide)) ⟨a5, c5, rfl, ho2, ap5⟩ ?_; exact claims_keep_a ⟨.inr (.inr is_keep), .inr (.inr is_keep), .inr (.inr is_keep), .inr (.inr is_keep), .inr (.inr is_keep), .inr (.inr is_keep), .inr (.inr fun h => by obtain ⟨b9, e9, l9, t9⟩ := h; exact ⟨b9, e9, l9, hb2 _ _ _ t9 (fun q hq => by have := HG3.out q hq; omega)⟩), .inr (.inr fun h => by obtain ⟨a9, c9, e9, h9, ap⟩ := h; exact ⟨a9, c9, e9, OwnW.besideN h9 (e9 ▸ Apart.symm ap) hgr, ap⟩), .inr (.inr is_keep), .inr (.inr is_keep), .inr (.inr is_keep), .inr (.inr is_keep), .inr (.inr is_keep), .inr (.inr is_keep), .inr (.inr fun h => by obtain ⟨b9, e9, l9, t9⟩ := h; exact ⟨b9, e9, l9, hb2 _ _ _ t9 (fun q hq => by have := HG3.out q hq; omega)⟩), .inl rfl, .inr (.inr is_keep), .inr (.inr is_keep), .inr (.inr is_keep), .inr (.inr is_keep), .inr (.inr is_keep), .inr (.inr is_keep), .inr (.inr fun h => by obtain ⟨b9, e9, l9, t9⟩ := h; exact ⟨b9, e9, l9, hbT _ _ _ t9 (by decide)⟩), .inr (.inl (by kernel_rfl)), .inr (.inl (by kernel_rfl)), .inr (.inl (by kernel_rfl)), .inr (.inl (by kernel_rfl)), trivial⟩
                · intro vs W hW hW0 hd hne hold K hK hA hL; clear hne hA hL; have hBB := hW.1; have o1 := hW.2.1; have o2 := hW.2.2.1; have o3 := hW.2.2.2.1; have o4 := hW.2.2.2.2.1; have hl := hW.2.2.2.2.2; simp only [puts, Act.put, List.setIfInBounds_toArray, List.set_cons_zero, List.set_cons_succ, Nat.zero_add, Nat.reduceAdd] at hK ⊢; have e26 : vs 26 = _ := hold 26 (by kernel_rfl); clear hd hold; simp only [e26] at hK; go_simp; exact hK.out rfl _ _ (Below.refl _ _) rfl
                · intro vs W hW hW0 hd hne hold K hK hA hL; clear hne hA hL; have hBB := hW.1; have o1 := hW.2.1; have o2 := hW.2.2.1; have o3 := hW.2.2.2.1; have o4 := hW.2.2.2.2.1; have hl := hW.2.2.2.2.2; simp only [puts, Act.put, List.setIfInBounds_toArray, List.set_cons_zero, List.set_cons_succ, Nat.zero_add, Nat.reduceAdd] at hK ⊢; clear hd hold; go_simp; exact hK.out rfl _ _ (Below.refl _ _) rfl
                · intro vs W hW hW0 hd hne hold K hK hA hL; clear hne hA hL; have hBB := hW.1; have o1 := hW.2.1; have o2 := hW.2.2.1; have o3 := hW.2.2.2.1; have o4 := hW.2.2.2.2.1; have hl := hW.2.2.2.2.2; simp only [puts, Act.put, List.setIfInBounds_toArray, List.set_cons_zero, List.set_cons_succ, Nat.zero_add, Nat.reduceAdd] at hK ⊢; clear hd hold; go_simp; exact hK.out rfl _ _ (Below.refl _ _) rfl
                · intro vs W hW hW0 hd hne hold K hK hA hL; clear hne hA hL; have hBB := hW.1; have o1 := hW.2.1; have o2 := hW.2.2.1; have o3 := hW.2.2.2.1; have o4 := hW.2.2.2.2.1; have hl := hW.2.2.2.2.2; simp only [puts, Act.put, List.setIfInBounds_toArray, List.set_cons_zero, List.set_cons_succ, Nat.zero_add, Nat.reduceAdd] at hK ⊢; have e17 : vs 17 = _ := hd 17 (by kernel_rfl); have e18 : vs 18 = _ := hd 18 (by kernel_rfl); clear hd hold; simp only [e17, e18] at hK; go_simp; exact hK.out rfl _ _ (Below.refl _ _) rfl
                · intro vs W hW hW0 hd hne hold K hK hA hL; clear hne hA hL; have hBB := hW.1; have o1 := hW.2.1; have o2 := hW.2.2.1; have o3 := hW.2.2.2.1; have o4 := hW.2.2.2.2.1; have hl := hW.2.2.2.2.2; simp only [puts, Act.put, List.setIfInBounds_toArray, List.set_cons_zero, List.set_cons_succ, Nat.zero_add, Nat.reduceAdd] at hK ⊢; have e19 : vs 19 = _ := hd 19 (by kernel_rfl); clear hd hold; simp only [e19] at hK; go_simp; exact hK.out rfl _ _ (Below.refl _ _) rfl
                · intro vs W hW hW0 hd hne hold K hK hA hL; clear hne hA hL; have hBB := hW.1; have o1 := hW.2.1; have o2 := hW.2.2.1; have o3 := hW.2.2.2.1; have o4 := hW.2.2.2.2.1; have hl := hW.2.2.2.2.2; simp only [puts, Act.put, List.setIfInBounds_toArray, List.set_cons_zero, List.set_cons_succ, Nat.zero_add, Nat.reduceAdd] at hK ⊢; have p0 := HC2.out W hBB; have ee : vs 20 = _ := hd 20 (by kernel_rfl); clear hd hold; simp only [ee] at hK; go_simp; exact hK.out rfl _ _ (Below.refl _ _) rfl
                · intro vs W hW hW0 hd hne hold K hK hA hL; clear hne hA hL; have hBB := hW.1; have o1 := hW.2.1; have o2 := hW.2.2.1; have o3 := hW.2.2.2.1; have o4 := hW.2.2.2.2.1; have hl := hW.2.2.2.2.2; simp only [puts, Act.put, List.setIfInBounds_toArray, List.set_cons_zero, List.set_cons_succ, Nat.zero_add, Nat.reduceAdd] at hK ⊢; have ee : vs 21 = _ := hd 21 (by kernel_rfl); clear hd hold; simp only [ee] at hK; go_simp; exact hK.out rfl _ _ ((Below.refl _ _).alloc (Nat.le_refl _) _) ⟨W.heap.size, rfl, hl, Blk.new _ _ _ _ rfl⟩
                · intro vs W hW hW0 hd hne hold K hK hA hL; clear hK hA; have hBB := hW.1; have o1 := hW.2.1; have o2 := hW.2.2.1; have o3 := hW.2.2.2.1; have o4 := hW.2.2.2.2.1; have hl := hW.2.2.2.2.2; simp only [puts, Act.put, List.setIfInBounds_toArray, List.set_cons_zero, List.set_cons_succ, Nat.zero_add, Nat.reduceAdd] at hL ⊢; have ea : vs 16 = _ := hd 16 (by kernel_rfl); have h5 : SliW wr.heap.size 4 [Rw.u3 x] (vs 22) W := hd 22 (by kernel_rfl); obtain ⟨bq, ebq, hlb, tb⟩ := h5; clear hd hold; simp only [ea, ebq] at hL ⊢; rw [if_pos (show Region.wanted _ _ = true from rfl)]; refine wp_append_at (.tmp 78) (.tmp 84) 27 rfl w1.heap.size 4 k0 (.bool false) 1 1 Try.underlying27 ki kz0 kz1 kz2 rfl (by decide) _ _ _ rfl o4 ⟨bq, 0, none⟩ 1 1 [Rw.u3 x] rfl rfl (blk_newsW tb) (cells1 _ rfl) (by unfold maxLen; omega) (by omega) (by have := hBB.size; omega) ?_; intro v' w9 ho1 hgr hk1 hat; obtain ⟨a5, c5, rfl, ho2, hbe, hbT, hb2⟩ := OwnW.app o4 ho1 hgr (by omega) (by have := hBB.size; omega); simp only [Act.put, List.setIfInBounds_toArray, List.set_cons_zero, List.set_cons_succ, Nat.zero_add, Nat.reduceAdd]; refine hL.out rfl _ _ ⟨hbe _ _ (Nat.le_refl _) hBB, OwnW.beside o1 o4 (by decide) hgr, OwnW.beside o2 o4 (by decide) hgr, OwnW.beside o3 o4 (by decide) hgr, hk1, Nat.le_trans hl hgr.size⟩ (fun h => absurd h (by decide)) ⟨a5, c5, rfl, ho2⟩ ?_; exact claims_keep_a ⟨.inr (.inr is_keep), .inr (.inr is_keep), .inr (.inr is_keep), .inr (.inr is_keep), .inr (.inr is_keep), .inr (.inr is_keep), .inr (.inr fun h => by obtain ⟨b9, e9, l9, t9⟩ := h; exact ⟨b9, e9, l9, hbT _ _ _ t9 (by decide)⟩), .inr (.inr fun h => by obtain ⟨a9, c9, e9, h9, ap⟩ := h; exact ⟨a9, c9, e9, OwnW.beside h9 o4 (by decide) hgr, ap⟩), .inr (.inr is_keep), .inr (.inr is_keep), .inr (.inr is_keep), .inr (.inr is_keep), .inr (.inr is_keep), .inr (.inr is_keep), .inr (.inr fun h => by obtain ⟨b9, e9, l9, t9⟩ := h; exact ⟨b9, e9, l9, hbT _ _ _ t9 (by decide)⟩), .inr (.inr fun h => by obtain ⟨a9, c9, e9, h9, ap⟩ := h; exact ⟨a9, c9, e9, OwnW.beside h9 o4 (by decide) hgr, ap⟩), .inr (.inr is_keep), .inr (.inr is_keep), .inr (.inr is_keep), .inr (.inr is_keep), .inr (.inr is_keep), .inr (.inr is_keep), .inr (.inr fun h => by obtain ⟨b9, e9, l9, t9⟩ := h; exact ⟨b9, e9, l9, hb2 _ _ _ t9 (fun q hq => by have := HG4.out q hq; omega)⟩), .inl rfl, .inr (.inl (by kernel_rfl)), .inr (.inl (by kernel_rfl)), .inr (.inl (by kernel_rfl)), trivial⟩
                · intro vs W hW hW0 hd hne hold K hK hA hL; clear hne hA hL; have hBB := hW.1; have o1 := hW.2.1; have o2 := hW.2.2.1; have o3 := hW.2.2.2.1; have o4 := hW.2.2.2.2.1; have hl := hW.2.2.2.2.2; simp only [puts, Act.put, List.setIfInBounds_toArray, List.set_cons_zero, List.set_cons_succ, Nat.zero_add, Nat.reduceAdd] at hK ⊢; clear hd hold; go_simp; exact hK.out rfl _ _ (Below.refl _ _) rfl
                · intro vs W hW hW0 hd hne hold K hK hA hL; clear hne hA hL; have hBB := hW.1; have o1 := hW.2.1; have o2 := hW.2.2.1; have o3 := hW.2.2.2.1; have o4 := hW.2.2.2.2.1; have hl := hW.2.2.2.2.2; simp only [puts, Act.put, List.setIfInBounds_toArray, List.set_cons_zero, List.set_cons_succ, Nat.zero_add, Nat.reduceAdd] at hK ⊢; clear hd hold; go_simp; exact hK.out rfl _ _ (Below.refl _ _) rfl
                · intro vs W hW hW0 hd hne hold K hK hA hL; clear hne hA hL; have hBB := hW.1; have o1 := hW.2.1; have o2 := hW.2.2.1; have o3 := hW.2.2.2.1; have o4 := hW.2.2.2.2.1; have hl := hW.2.2.2.2.2; simp only [puts, Act.put, List.setIfInBounds_toArray, List.set_cons_zero, List.set_cons_succ, Nat.zero_add, Nat.reduceAdd] at hK ⊢; clear hd hold; go_simp; exact hK.out rfl _ _ (Below.refl _ _) rfl
              · intro va WB hW hV _
                obtain ⟨hB, o1, -, -, -, hl1⟩ := hW
                have h7 : OwnA w1.heap.size 30 (m + 1) (vw ++ [Rw.u1 x]) (.slice az m cz) (va 7) WB := hV 7 (by decide)
                have h15 : OwnA w1.heap.size 30 (m + 1) (vz ++ [Rw.u2 x]) (va 7) (va 15) WB := hV 15 (by decide)
                have h23 : OwnVW w1.heap.size 4 1 (m + 1) (vb ++ [Rw.u3 x]) (va 23) WB := hV 23 (by decide)
                have e24 : va 24 = va 7 := hV 24 (by decide)
                have e25 : va 25 = va 15 := hV 25 (by decide)
                have e26 : va 26 = va 23 := hV 26 (by decide)
                obtain ⟨a7, c7, e7, o2, -⟩ := h7
                obtain ⟨a8, c8, e15, o3, hap⟩ := h15
                obtain ⟨a6, c6, e23, o4⟩ := h23
                rw [e7] at e24 hap
                rw [e15] at e25 hap
                rw [e23] at e26
                clear hV e7 e15 e23
                have HFIN := Lib.hid (show AccRel w1 (m + 1) (.slice a9 (m + 1) c9) (.slice a7 (m + 1) c7) (.slice a8 (m + 1) c8) (.slice a6 (m + 1) c6) WB from ⟨acc ++ [x], a9, c9, a7, c7, a8, c8, a6, c6, by simp [HAL.out], fun y hy => by
                  rcases List.mem_append.1 hy with h | h
                  · exact HAF.out y h
                  · simp at h; subst h; exact HX.out, rfl, rfl, rfl, rfl, by rw [List.flatMap_append, EVR.out, List.flatMap_singleton, EVR2.out]; exact o1, by rw [List.map_append, EVW.out]; exact o2, by rw [List.map_append, EVZ.out]; exact o3, by rw [List.map_append, EVB.out]; exact o4, Apart.symm hap, hB⟩)
                clear o1 o2 o3 o4 hap hB
                simp only [puts, Act.put, List.setIfInBounds_toArray, List.set_cons_zero, List.set_cons_succ, Nat.zero_add, Nat.reduceAdd, e24, e25, e26]
                clear e24 e25 e26
                go_wp2_with fail
                go_roundg (N - (q + 1))
                case measure => omega
                case rel => exact ⟨q + 1, m + 1, by omega, rfl, by go_num, by omega, HFIN.out⟩
          · obtain rfl : N = q := by omega
            have ixq : ¬ (N : Int) < (N : Int) := by omega
            have HA := Lib.hid hA
            clear hA FF
            go_wp2_with fail
            go_roundg (k - (i + 1))
            case measure => omega
            case rel => exact ⟨i + 1, m, by omega, rfl, by go_num, by omega, HA.out⟩
    · obtain rfl : k = i := by omega
      have hcond : ¬ (k : Int) < (n : Int) ∨ ((k : Int) < (n : Int) ∧ ¬ (k : Int) < 20) := by have := EK.out; omega
      obtain ⟨acc, ar, cr, aw, cw, az, cz, ab, cb, hal, haf, rfl, rfl, rfl, rfl, o1, o2, o3, o4, -, hB⟩ := HA.out
      have hm1 : m ≤ 6300 := by omega
      have WD := fun W h => (words_decode ar m cr acc hal (by omega) haf W h).mono fun _ _ => wd_row
      have RD := fun W h1 h2 h3 => (ref12_decode aw az ab m cw cz cb acc hal (by omega) haf W h1 h2 h3).mono fun _ _ => wd_row
      obtain ⟨XS, eXS⟩ : ∃ XS : List Wo, wD m acc = XS := ⟨_, rfl⟩
      obtain ⟨M, eM⟩ : ∃ M, mD m acc = M := ⟨_, rfl⟩
      have hXM : XS.length = M := by rw [← eXS, ← eM]; exact wD_len hal
      have hM : M ≤ 6300 := by rw [← eM]; unfold mD; split <;> omega
      rw [eXS, eM] at WD RD
      obtain ⟨C, eC⟩ : ∃ C : Int, (if 256 < m then 8 else if acc.all okR then 0 else 4) = C := ⟨_, rfl⟩
      rw [eC] at WD RD
      have HXM := Lib.hid hXM
      have hne : (C != C) = false := by simp
      have hnM : ((M : Int) != (M : Int)) = false := by simp
      obtain ⟨wq, rfl⟩ : ∃ u, u = wr := ⟨_, rfl⟩
      have WD2 := WD wq o1.row
      have R2 := Lib.hid o2.row
      have R3 := Lib.hid o3.row
      have R4 := Lib.hid o4.row
      have HB := Lib.hid (HB1.out.trans (hB.mono HB1.out.size))
      clear HA o1 o2 o3 o4 hB hal haf eXS eM eC hXM WD
      rcases hcond with ix | ⟨ix, ix2⟩
      all_goals
        go_wp2_with fail
        refine WD2.mono ?_
        rintro e w3 ⟨ag, cg, rfl, rG, hb3⟩
        have RD2 := RD w3 (R2.out.below hb3) (R3.out.below hb3) (R4.out.below hb3)
        have RG := Lib.hid rG
        have HB3 := Lib.hid (HB.out.trans (hb3.mono HB.out.size))
        clear rG hb3 WD2 RD
        go_wp2_with fail
        refine RD2.mono ?_
        rintro e w4 ⟨a4, c4, rfl, rW, hb4⟩
        have RG4 := Lib.hid (RG.out.below hb4)
        have RW4 := Lib.hid rW
        have HB4 := Lib.hid (HB3.out.trans (hb4.mono HB3.out.size))
        clear rW hb4 RD2
        go_wp2_with fail
        go_loopg [16] M (fun gk s16 wx => ∃ (j : Nat), j ≤ M ∧ gk = M - j ∧ s16 = .int .i64 ((j : Int)) ∧ ∃ nd, wx = w4.drewN nd)
        case atStart => exact ⟨0, by omega, by omega, rfl, 0, rfl⟩
        case round =>
          obtain ⟨j, hj, rfl, rfl, nd, rfl⟩ := hrel
          by_cases hjk : j < M
          · have ix : (j : Int) < (M : Int) := by omega
            obtain ⟨g3, o3, rfl, x0, x1, x2⟩ := wo_pick RG4.out HXM.out hjk
            obtain ⟨g4, o4, rfl, y0, y1, y2⟩ := wo_pick RW4.out HXM.out hjk
            obtain ⟨x, ex⟩ : ∃ t, XS.getD j wo0 = t := ⟨_, rfl⟩
            rw [ex] at x0 x1 x2 y0 y1 y2
            obtain ⟨xw, xs, xb⟩ := x
            clear ex
            cases xb
            all_goals
              go_upto_region 24 with (fail)
              go_quiet (fail)
              go_wp2_with fail
              go_roundg (M - (j + 1))
              case measure => omega
              case rel => exact ⟨j + 1, by omega, rfl, by go_num, nd + nq, rfl⟩
          · obtain rfl : M = j := by omega
            have ix : ¬ (M : Int) < (M : Int) := by omega
            go_wp2_with fail
            rw [EQ.out]
            exact ⟨rfl, below_dN HB4.out nd⟩
end EB
end Go.Proofs.Ytgmnboacehopfaa
