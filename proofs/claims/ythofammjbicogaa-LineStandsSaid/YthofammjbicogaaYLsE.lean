/-
  The law LineGreedy.
-/
import Derived.Test.YthofammjbicogaaYLsD
import Derived.Test.YthofammjbicogaaYLnK
import Derived.BigQuiet
namespace Go.Proofs.Ythofammjbicogaa
open Go.RowKit
set_option linter.unusedSimpArgs false
set_option linter.unusedVariables false

theorem try_grd (b5 b6 b7 b8 b9 : Nat) (ao : Option Addr) (k cap : Nat) (l : List It) (room : Int) (hk : k ≤ 1000) (hcap : k ≤ cap) (hl : l.length = k) (hf : ItFit l) (L : List Ln) (least most : Int) (hL : fillR l room 0 = some L) (hle : leastR l = some least) (hmo : wd l 0 k = some most)
    (n57 : b5 ≠ b7) (n58 : b5 ≠ b8) (n59 : b5 ≠ b9) (n67 : b6 ≠ b7) (n68 : b6 ≠ b8) (n69 : b6 ≠ b9) (n78 : b7 ≠ b8) (n79 : b7 ≠ b9) (n89 : b8 ≠ b9) (w : World) (hao : ∀ g off, ao = some ⟨g, off, none⟩ → g ≠ b7 ∧ g ≠ b8 ∧ g ≠ b9)
    (h5 : Blk w b5 #[.slice ao k cap] 26) (h6 : Blk w b6 #[.int .i64 room] 2) (hr : RowV w ao k 4 (itV l)) (v7 v8 v9 : Value) (h7 : Blk w b7 #[v7] 44) (h8 : Blk w b8 #[v8] 2) (h9 : Blk w b9 #[v9] 2) :
    Calls Try.prog 16 #[.func (.func 32) #[] #[.pointer (some ⟨b5, 0, none⟩), .pointer (some ⟨b6, 0, none⟩), .pointer (some ⟨b7, 0, none⟩), .pointer (some ⟨b8, 0, none⟩), .pointer (some ⟨b9, 0, none⟩)]] w fun e w' => e = .returned (.int .i64 0) ∧ GrdRel b7 b8 b9 L least most w.heap.size w' ∧ ButL [b7, b8, b9] w w' := by
  have l7 := h7.lt
  have l8 := h8.lt
  have l9 := h9.lt
  refine (try_rel 32 _ 0 [b7, b8, b9] w (GrdRel b7 b8 b9 L least most w.heap.size) (fun b hb => by simp at hb; omega) (fun W W' h hb => h.but hb (by omega) (by omega) (by omega)) (fun w => enters_of Try.func32 (by kernel_rfl) rfl _ w)
    (fun W hb hlt => (grd1 b5 b6 b7 b8 b9 ao k cap l room hk hcap hl hf L least most hL hle hmo n57 n58 n59 n67 n68 n69 n78 n79 n89 w.heap.size W hlt (by omega) (by omega) (by omega) hao (h5.below hb) (h6.below hb) (hr.below hb) _ _ _ (h7.below hb) (h8.below hb) (h9.below hb)).mono fun e W' h => ⟨fun _ => ⟨h.1, h.2.1⟩, fun h => absurd rfl h, h.2.2⟩)).mono ?_
  rintro e w' ⟨rfl, h1, h2⟩
  exact ⟨rfl, h1 rfl, h2⟩
theorem run_max2 {P : Program} (w : World) (ts : Array TypeId) (t : TypeId) (k : IntKind) (x y : Int) :
    (Builtin.max_ ts t #[.int k x, .int k y]).run P w = .ok (.int k (max x y)) w := by
  have e : ∀ a b : Int, max a b = if a < b then b else a := fun a b => by
    rw [Int.max_def]; split <;> split <;> omega
  rw [e]
  simp [Builtin.max_, Builtin.max2]
theorem run_min2 {P : Program} (w : World) (ts : Array TypeId) (t : TypeId) (k : IntKind) (x y : Int) :
    (Builtin.min_ ts t #[.int k x, .int k y]).run P w = .ok (.int k (min x y)) w := by
  have e : ∀ a b : Int, min a b = if b < a then b else a := fun a b => by
    rw [Int.min_def]; split <;> split <;> omega
  rw [e]
  simp [Builtin.min_, Builtin.min2]
theorem subL_sm {l : List It} (h : ItSm l) (a b : Nat) : ItSm (subL l a b) := fun i => by
  by_cases hi : i < b - a
  · rw [subL_get l hi]; exact h _
  · have e : (subL l a b).getD i it0 = it0 := by
      unfold subL
      simp [List.getD, List.getElem?_take, hi]
    rw [e]; simp [it0]
theorem itS_sm {l : List Sm} (hf : SmFit l) (k : Nat) : ItSm ((l.take k).map itS) := fun i => by
  by_cases hi : i < (l.take k).length
  · rw [itS_get hi]
    have hik : i < k := by rw [List.length_take] at hi; omega
    have e : (l.take k).getD i sm0 = l.getD i sm0 := by simp [List.getD, List.getElem?_take, hik]
    rw [e]
    have := hf i
    show (0 ≤ (l.getD i sm0).w ∧ (l.getD i sm0).w ≤ 65535) ∧ (0 ≤ (l.getD i sm0).s ∧ (l.getD i sm0).s ≤ 65535) ∧ (0 ≤ (l.getD i sm0).w % 50 ∧ (l.getD i sm0).w % 50 ≤ 65535)
    omega
  · have e : ((l.take k).map itS).getD i it0 = it0 := by
      simp only [List.getD]
      rw [List.getElem?_eq_none (by rw [List.length_map]; omega)]
      rfl
    rw [e]; simp [it0]
set_option maxRecDepth 100000 in
set_option maxHeartbeats 6400000 in
theorem law_greedy (v : Value) (av : Int) (h0 : 0 ≤ av) (h1 : av ≤ 65535) (w : World) (hv : SmIn w v) :
    Calls Try.prog 6 #[v, .int .u16 av] w fun e w' => e = .returned (.bool true) ∧ Below w.heap.size w w' := by
  have hmf : ∀ (fn : Fn) (first cap : Array Value) (w : World), (Instr.makeFunc fn first cap).run Try.prog w = .ok (.func fn first cap) w := fun _ _ _ _ => rfl
  obtain ⟨ao, n, cap, l, rfl, hn, hl, hr, hf⟩ := hv
  obtain ⟨k, ek⟩ : ∃ k, k = min n 40 := ⟨_, rfl⟩
  have IT := fun W hr => law13_items ao n cap k l hn ek hl hf W hr
  have hs := itS_sm hf k
  have hq : ((l.take k).map itS).length = k := by rw [List.length_map, List.length_take, hl]; omega
  obtain ⟨q, eq⟩ : ∃ q, (l.take k).map itS = q := ⟨_, rfl⟩
  rw [eq] at IT hs hq
  have hk40 : k ≤ 40 := by omega
  obtain ⟨L, least, p1, p2, p3, p4, p5, p6⟩ := greedy_plain hs (by omega) av
  have hlL : L.length ≤ 40 := by have := fillR_len q av 0; rw [p1] at this; simp at this; omega
  rw [hq] at p3 p4 p6
  obtain ⟨most, emost⟩ : ∃ m, ws q 0 k = m := ⟨_, rfl⟩
  rw [emost] at p3 p4 p6
  have wav : IntKind.i64.wrap av = av := by simp [IntKind.wrap, IntKind.bits, IntKind.signed]; omega
  have TG := fun b5 b6 b7 b8 b9 ao cap hc n57 n58 n59 n67 n68 n69 n78 n79 n89 W hao h5 h6 hr v7 v8 v9 h7 h8 h9 => try_grd b5 b6 b7 b8 b9 ao k cap q av (by omega) hc hq hs.fit L least most p1 p2 p3 n57 n58 n59 n67 n68 n69 n78 n79 n89 W hao h5 h6 hr v7 v8 v9 h7 h8 h9
  have WD : ∀ (a : Option Addr) (c : Nat) W, RowV W a k 4 (itV q) → Calls Try.prog 33 #[.slice a k c] W fun e w' => e = .returned (.int .i64 most) ∧ w' = W := fun a c W hr => by
    have := law13_wide a k c q (by omega) hq hs W hr
    rw [emost] at this; exact this
  have HP4 := Lib.hid p4
  have HP5 := Lib.hid p5
  have HP6 := Lib.hid p6
  have HS := Lib.hid hs
  have HQ := Lib.hid hq
  have HR := Lib.hid hr
  clear p1 p2 p3 p4 p5 p6 hs hq hr emost eq ek hl hf
  go_enter Try.func6, Try.ntmps6
  go_wp2_with fail
  refine (speaks13 _).mono ?_
  rintro e w1 ⟨rfl, hb⟩
  have ITx := IT w1 (HR.out.below hb)
  have hB1 := hb
  clear hb IT
  go_wp2_with fail
  refine ITx.mono ?_
  rintro e w2 ⟨a1, c1, rfl, o1, hb⟩
  have hB2 := hB1.trans (hb.mono hB1.size)
  have hs2 := hB2.size
  have hsh := o1.shape
  obtain ⟨Wb, eWb⟩ : ∃ W, ((((w2.alloc (.cells #[.slice a1 k c1] 26)).alloc (.cells #[.int .i64 av] 2)).alloc (.cells #[.slice none 0 0] 44)).alloc (.cells #[.int .i64 0] 2)).alloc (.cells #[.int .i64 0] 2) = W := ⟨_, rfl⟩
  have t5 : Blk Wb w2.heap.size #[.slice a1 k c1] 26 := by rw [← eWb]; exact ((((Blk.new w2 _ _ _ rfl).alloc _).alloc _).alloc _).alloc _
  have t6 : Blk Wb (w2.heap.size + 1) #[.int .i64 av] 2 := by rw [← eWb]; exact (((Blk.new _ _ _ _ (by simp)).alloc _).alloc _).alloc _
  have t7 : Blk Wb (w2.heap.size + 1 + 1) #[.slice none 0 0] 44 := by rw [← eWb]; exact ((Blk.new _ _ _ _ (by simp)).alloc _).alloc _
  have t8 : Blk Wb (w2.heap.size + 1 + 1 + 1) #[.int .i64 0] 2 := by rw [← eWb]; exact (Blk.new _ _ _ _ (by simp)).alloc _
  have t9 : Blk Wb (w2.heap.size + 1 + 1 + 1 + 1) #[.int .i64 0] 2 := by rw [← eWb]; exact Blk.new _ _ _ _ (by simp)
  have hbn : Below w2.heap.size w2 Wb := by rw [← eWb]; exact (by repeat' (first | (with_reducible exact Below.refl _ _) | (with_reducible assumption) | (with_reducible refine below_alloc ?_ _ ?_) | (with_reducible refine below_set _ ?_ ?_) | (with_reducible refine Below.drew ?_) | (with_reducible refine below_dN ?_ _) | (apply below_thenA; assumption) | omega | (simp; done) | (simp; omega) | (simp [*]; done)))
  have hB3 := hB2.trans (hbn.mono hs2)
  have r1 := o1.row.below hbn
  have hrf := o1.lt
  have T1 := TG w2.heap.size (w2.heap.size + 1) (w2.heap.size + 1 + 1) (w2.heap.size + 1 + 1 + 1) (w2.heap.size + 1 + 1 + 1 + 1) a1 c1 hsh.1 (by omega) (by omega) (by omega) (by omega) (by omega) (by omega) (by omega) (by omega) (by omega) Wb (fun g off e => by have := hrf g off e; omega) t5 t6 r1 _ _ _ t7 t8 t9
  have K5 := Lib.hid t5
  have K6 := Lib.hid t6
  have R1 := Lib.hid r1
  have HB3 := Lib.hid hB3
  have HRF := Lib.hid hrf
  clear hb t5 t6 t7 t8 t9 hbn hB1 hB2 hB3 o1 r1 hrf TG ITx
  go_wp2_with fail
  refine T1.mono ?_
  rintro e w3 ⟨rfl, hR, hbt⟩
  obtain ⟨⟨a3, c3, q7, x3, f3⟩, q8, q9⟩ := hR
  have k5 := K5.out.butl hbt (by first | (simp; done) | (simp; omega))
  have k6 := K6.out.butl hbt (by first | (simp; done) | (simp; omega))
  have r1 := R1.out.butl hbt (fun g off e => by have := HRF.out g off e; simp; omega)
  have hB4 : Below w.heap.size w w3 := hbt.to HB3.out (by simp; omega) HB3.out.size
  have c5 := k5.cell 0 _ rfl
  have c8 := q8.cell 0 _ rfl
  have c9 := q9.cell 0 _ rfl
  have hmm : (most != most) = false := by simp
  have hlm : decide (most < least) = false := by have := HP4.out; simp; omega
  have WD1 := fun nd => WD a1 c1 (w3.drewN nd) (r1.below (below_dN (Below.refl _ _) _))
  have Q5 := Lib.hid k5
  have Q6 := Lib.hid k6
  have Q7 := Lib.hid q7
  have Q8 := Lib.hid q8
  have Q9 := Lib.hid q9
  have X3 := Lib.hid x3
  have R1' := Lib.hid r1
  have HB4 := Lib.hid hB4
  clear T1 hbt k5 k6 q7 q8 q9 x3 r1 hB4 eWb
  go_wp2_with fail
  go_quiet ((go_at_call 33; refine Calls.quiet_of_same (WD1 _)))
  go_wp2_with fail
  go_loopg [11, 12] L.length (fun gk s11 s12 wr => ∃ (j a : Nat), j ≤ L.length ∧ gk = L.length - j ∧ s11 = .int .i64 ((a : Int)) ∧ s12 = .int .i64 ((j : Int)) ∧ a ≤ k ∧ FillOk q av least a (L.drop j) ∧ Below w3.heap.size w3 wr)
  case atStart => exact ⟨0, 0, by omega, by omega, rfl, rfl, by omega, by rw [List.drop_zero]; exact HP5.out, below_dN (Below.refl _ _) _⟩
  case round =>
    clear c5 c8 c9 hmm hlm WD1 WD
    obtain ⟨j, a, hj, rfl, rfl, rfl, hak, hfo, hB⟩ := hrel
    have hsB := hB.size
    have d7 := (Q7.out.below hB).cell 0 _ rfl
    by_cases hjk : j < L.length
    · have ix : (j : Int) < (L.length : Int) := by omega
      obtain ⟨g, off, rfl, hg, hcx⟩ := (X3.out.below hB).at hjk
      have hgv := lnV_get L j hjk
      rw [List.drop_eq_getElem_cons hjk] at hfo
      have ex : L[j] = L.getD j ln0 := by simp [List.getD, hjk]
      rw [ex] at hfo
      obtain ⟨x, exx⟩ : ∃ x, L.getD j ln0 = x := ⟨_, rfl⟩
      rw [exx] at hfo hgv
      obtain ⟨f1, f2, f3, f4, f5, f6, f7, f8, f9⟩ := hfo
      have e0 := hcx 0 (by omega)
      have e1 := hcx 1 (by omega)
      have e2 := hcx 2 (by omega)
      have e3 := hcx 3 (by omega)
      rw [hgv.1, Nat.add_zero, f1] at e0
      rw [hgv.2.1] at e1
      rw [hgv.2.2.1] at e2
      rw [hgv.2.2.2] at e3
      obtain ⟨t, et⟩ : ∃ t, x.t = t := ⟨_, rfl⟩
      obtain ⟨ww, eww⟩ : ∃ t, x.w = t := ⟨_, rfl⟩
      obtain ⟨hh, ehh⟩ : ∃ t, x.h = t := ⟨_, rfl⟩
      rw [et] at e1 f2 f3 f4 f5 f6 f8 f9
      rw [eww] at e2 f4 f6 f7
      rw [ehh] at e3
      rw [HQ.out] at f3 f5 f8
      have F4 := Lib.hid f4
      have F5 := Lib.hid f5
      have F6 := Lib.hid f6
      have F8 := Lib.hid f8
      have F9 := Lib.hid f9
      clear hcx hgv ex exx f1 et eww ehh f4 f5 f6 f8 f9
      obtain ⟨W1, eW1⟩ : ∃ W, wr.alloc (.cells #[.int .i64 ((a : Int)), .int .i64 ((t : Int)), .int .i64 ww, .int .i64 hh] 36) = W := ⟨_, rfl⟩
      have tx : Blk W1 wr.heap.size #[.int .i64 ((a : Int)), .int .i64 ((t : Int)), .int .i64 ww, .int .i64 hh] 36 := by rw [← eW1]; exact Blk.new wr _ _ _ rfl
      have hb1 : Below wr.heap.size wr W1 := by rw [← eW1]; exact (by repeat' (first | (with_reducible exact Below.refl _ _) | (with_reducible assumption) | (with_reducible refine below_alloc ?_ _ ?_) | (with_reducible refine below_set _ ?_ ?_) | (with_reducible refine Below.drew ?_) | (with_reducible refine below_dN ?_ _) | (apply below_thenA; assumption) | omega | (simp; done) | (simp; omega) | (simp [*]; done)))
      have hB1 := hB.trans (hb1.mono hsB)
      have TX := Lib.hid tx
      have c0 := tx.cell 0 _ rfl
      have c1' := tx.cell 1 _ rfl
      have c2 := tx.cell 2 _ rfl
      have c5 := (Q5.out.below hB1).cell 0 _ rfl
      have c6 := (Q6.out.below hB1).cell 0 _ rfl
      have c8 := (Q8.out.below hB1).cell 0 _ rfl
      obtain ⟨ga, oa, rfl, hga, hca⟩ := R1'.out.at (show t - 1 < k by omega)
      have hgb := (itV_get q (t - 1) (by rw [HQ.out]; omega)).2.2.2
      have ca3 := hca 3 (by omega)
      rw [hgb] at ca3
      obtain ⟨bt, ebt⟩ : ∃ b, (q.getD (t - 1) it0).b = b := ⟨_, rfl⟩
      rw [ebt] at ca3
      have cb := (hB1.cell (p := ⟨ga, oa + (t - 1) * 4 + 3, none⟩) hga).trans ca3
      have WS := fun nd => law13_wide (some ⟨ga, oa + a * 4, none⟩) (t - a) (c1 - a) (subL q a t) (by omega) (subL_len q (by rw [HQ.out]; omega)) (subL_sm HS.out a t) (W1.drewN nd) ((row_sub R1'.out HQ.out f2 f3).below (below_dN hB1 _))
      rw [ws_sub q a t, ← F4.out] at WS
      have hee : ((a : Int) != (a : Int)) = false := by simp
      have heq : (ww != ww) = false := by simp
      have hta : decide (t ≤ a) = false := by simp; omega
      have hkt : decide (k < t) = false := by simp; omega
      have hmx : decide (max av least < ww) = false := by simp; omega
      have ica : ¬ c1 = a := by have := hsh.1; omega
      have ica2 : (a : Int) ≤ (t : Int) := by omega
      have ica3 : (t : Int) ≤ (c1 : Int) := by have := hsh.1; omega
      have itk : (t : Int) - 1 < (k : Int) := by omega
      have itm : (t : Int) - 1 = ((t - 1 : Nat) : Int) := by omega
      have EBT := Lib.hid ebt
      clear hca hgb ca3 ebt tx
      go_upto_region 15 with (fail)
      go_cut [101] from 48 to 101 (fun s wx => s = .bool false ∧ ∃ nd, wx = W1.drewN nd)
      case first =>
        by_cases htk : t < k
        · have htkb : decide (t < k) = true := by simpa using htk
          have hbt1 : bt = true := by rw [← EBT.out]; exact F5.out htk
          subst hbt1
          go_quiet (first | (go_at_call 33; refine Calls.quiet_of_same (WS _)) | (simp only [run_max2]; exact ⟨rfl, rfl⟩))
          go_wp2
          go_meet
          case rel => exact ⟨rfl, _, rfl⟩
        · have htkb : decide (t < k) = false := by simpa using htk
          go_quiet (first | (go_at_call 33; refine Calls.quiet_of_same (WS _)) | (simp only [run_max2]; exact ⟨rfl, rfl⟩))
          go_wp2
          go_meet
          case rel => exact ⟨rfl, _, rfl⟩
      case rest =>
        obtain ⟨rfl, nd, rfl⟩ := hcut
        obtain ⟨W2, eW2⟩ : ∃ x, W1.drewN nd = x := ⟨_, rfl⟩
        have hb2 : Below W1.heap.size W1 W2 := by rw [← eW2]; exact below_dN (Below.refl _ _) _
        rw [eW2]
        have hB2 := hB1.trans (hb2.mono hB1.size)
        have tx2 := TX.out.below hb2
        have TX2 := Lib.hid tx2
        have c0 := tx2.cell 0 _ rfl
        have c1' := tx2.cell 1 _ rfl
        have c2 := tx2.cell 2 _ rfl
        have c5 := (Q5.out.below hB2).cell 0 _ rfl
        have c6 := (Q6.out.below hB2).cell 0 _ rfl
        have HB2 := Lib.hid hB2
        clear WS hB hB1 hb1 hb2 eW1 eW2 tx2 TX c8 hmx hkt hta hee heq cb d7
        go_wp2_with fail
        go_loopg [14, 15] (t - 1 - a) (fun gk s14 s15 wx => ∃ (i sg : Nat), a ≤ i ∧ i < t ∧ gk = t - 1 - i ∧ s14 = .int .i64 ((sg : Int)) ∧ s15 = .int .i64 ((i : Int)) ∧ 1 ≤ sg ∧ sg ≤ i + 1 ∧ (1 < sg → ∃ d, a ≤ d ∧ d + 1 < t ∧ (q.getD d it0).b = true) ∧ W2 = wx)
        case atStart => exact ⟨a, 1, by omega, by omega, by omega, rfl, rfl, by omega, by omega, fun h => by omega, rfl⟩
        case round =>
          obtain ⟨i, sg, hai, hit, rfl, rfl, rfl, hs1, hsi, hbr, rfl⟩ := hrel
          have HBR := Lib.hid hbr
          clear hbr
          by_cases hi1 : i + 1 < t
          · have ij : (i : Int) + 1 < (t : Int) := by omega
            have iik : (i : Int) < (k : Int) := by omega
            obtain ⟨ga', oa', e', hga', hci⟩ := R1'.out.at (show i < k by omega)
            obtain ⟨rfl, rfl⟩ : ga = ga' ∧ oa = oa' := by simpa using e'
            have hgi := (itV_get q i (by rw [HQ.out]; omega)).2.2.2
            have ci3 := hci 3 (by omega)
            rw [hgi] at ci3
            have cb := (HB2.out.cell (p := ⟨ga, oa + i * 4 + 3, none⟩) hga).trans ci3
            obtain ⟨bi, ebi⟩ : ∃ b, (q.getD i it0).b = b := ⟨_, rfl⟩
            rw [ebi] at cb
            have EBI := Lib.hid ebi
            clear hci hgi ci3 ebi e'
            cases bi
            · go_wp2_with fail
              go_roundg (t - 1 - (i + 1))
              case measure => omega
              case rel => exact ⟨i + 1, sg, by omega, by omega, rfl, rfl, by go_num, hs1, by omega, HBR.out, rfl⟩
            · have hi1' := hi1
              go_wp2_with fail
              go_roundg (t - 1 - (i + 1))
              case measure => omega
              case rel => exact ⟨i + 1, sg + 1, by omega, by omega, rfl, by go_num, by go_num, by omega, by omega, (fun _ => ⟨i, hai, hi1', EBI.out⟩), rfl⟩
          · have ij : ¬ (i : Int) + 1 < (t : Int) := by omega
            go_wp2_with fail
            go_loopg [16] (k - t) (fun gk s16 wx => ∃ (nx : Nat), t ≤ nx ∧ nx ≤ k ∧ gk = k - nx ∧ s16 = .int .i64 ((nx : Int)) ∧ seg q t = seg q nx ∧ W2 = wx)
            case atStart => exact ⟨t, by omega, by omega, by omega, rfl, rfl, rfl⟩
            case round =>
              obtain ⟨nx, htn, hnk, rfl, rfl, hsg, rfl⟩ := hrel
              have HSG := Lib.hid hsg
              clear hsg
              have hexit : (nx < k ∧ (q.getD nx it0).b = false) ∨ (min ((nx : Int) + 1) (k : Int) = (seg q t : Int) ∧ a ≤ seg q t ∧ seg q t ≤ k ∧ (¬ nx < k ∨ (nx < k ∧ (q.getD nx it0).b = true))) := by
                by_cases hn : nx < k
                · cases hb : (q.getD nx it0).b
                  · exact .inl ⟨hn, rfl⟩
                  · have := seg_brk (l := q) (i := nx) (by rw [HQ.out]; exact hn) hb
                    rw [HSG.out, this]
                    exact .inr ⟨by omega, by omega, by omega, .inr ⟨hn, rfl⟩⟩
                · have := seg_end (l := q) (i := nx) (by rw [HQ.out]; omega)
                  rw [HSG.out, this, HQ.out]
                  exact .inr ⟨by omega, by omega, by omega, .inl hn⟩
              rcases hexit with ⟨hn, hbf⟩ | ⟨hmin, has, hsk, hor⟩
              · have ixn : (nx : Int) < (k : Int) := by omega
                obtain ⟨ga', oa', e', hga', hci⟩ := R1'.out.at hn
                obtain ⟨rfl, rfl⟩ : ga = ga' ∧ oa = oa' := by simpa using e'
                have hgi := (itV_get q nx (by rw [HQ.out]; omega)).2.2.2
                have ci3 := hci 3 (by omega)
                rw [hgi, hbf] at ci3
                have cb := (HB2.out.cell (p := ⟨ga, oa + nx * 4 + 3, none⟩) hga).trans ci3
                have HBF := Lib.hid hbf
                have hn' := hn
                clear hci hgi ci3 e' hbf
                go_wp2_with fail
                go_roundg (k - (nx + 1))
                case measure => omega
                case rel => exact ⟨nx + 1, by omega, by omega, rfl, by go_num, by rw [HSG.out]; exact seg_next (by rw [HQ.out]; exact hn') HBF.out, rfl⟩
              · obtain ⟨sgt, esgt⟩ : ∃ x, seg q t = x := ⟨_, rfl⟩
                have F8b := F8.out
                rw [esgt] at hmin has hsk F8b
                have WT := fun (h : a < sgt) nd => law13_wide (some ⟨ga, oa + a * 4, none⟩) (sgt - a) (c1 - a) (subL q a sgt) (by omega) (subL_len q (by rw [HQ.out]; omega)) (subL_sm HS.out a sgt) (W2.drewN nd) ((row_sub R1'.out HQ.out h hsk).below (below_dN HB2.out _))
                rw [ws_sub q a sgt] at WT
                obtain ⟨V, eV⟩ : ∃ x, ws q a sgt = x := ⟨_, rfl⟩
                rw [eV] at WT F8b
                have hgt : t < k → a < sgt := fun h => by
                  have := (seg_up (l := q) (i := t) (by rw [HQ.out]; exact h)).1
                  omega
                have hsw : 1 < sg → ww ≤ av := fun h => by
                  obtain ⟨d, d1, d2, d3⟩ := HBR.out h
                  refine F6.out fun e => ?_
                  have := (seg_spec q _ a rfl (by rw [HQ.out]; omega)).1 d d1 (by omega)
                  rw [this] at d3; cases d3
                have F8B := Lib.hid F8b
                have HSW := Lib.hid hsw
                have HMIN := Lib.hid hmin
                have hfinal : ∀ W', Below w3.heap.size w3 W' → True := fun _ _ => trivial
                have hor2 : (¬ (nx : Int) < (k : Int)) ∨ ((nx : Int) < (k : Int) ∧ nx < k ∧ (q.getD nx it0).b = true) := by
                  rcases hor with h | ⟨h, hb⟩
                  · exact .inl (by omega)
                  · exact .inr ⟨by omega, h, hb⟩
                have ica4 : (a : Int) ≤ (sgt : Int) := by omega
                have ica5 : (sgt : Int) ≤ (c1 : Int) := by omega
                clear hor esgt eV F8b hsw hfinal hmin
                rcases hor2 with ixn | ⟨ixn, hn, hbt⟩
                · skip
                  have hmin := HMIN.out
                  go_upto_region 27 with (fail)
                  clear hmin
                  go_cut [163] from 139 to 163 (fun s wx => s = .bool false ∧ ∃ nd, wx = W2.drewN nd)
                  case first =>
                    have ica : ¬ c1 = a := by have := hsh.1; omega
                    by_cases hsg1 : 1 < sg
                    · have hsgb : decide (1 < sg) = true := by simpa using hsg1
                      have hsgc : decide ((1 : Int) < (sg : Int)) = true := decide_eq_true (by omega)
                      have hwa : decide (av < ww) = false := by have := HSW.out hsg1; simp; omega
                      by_cases htk : t < k
                      · have htkb : decide (t < k) = true := by simpa using htk
                        have hVa : decide (V ≤ av) = false := by have := F8B.out htk; simp; omega
                        have WT2 := WT (hgt htk)
                        clear hsg1 htk
                        go_quiet ((go_at_call 33; refine Calls.quiet_of_same (WT2 _)))
                        go_wp2
                        go_meet
                        case rel => exact ⟨rfl, _, rfl⟩
                      · have htkb : decide (t < k) = false := by simpa using htk
                        clear hsg1 htk WT
                        go_quiet (fail)
                        go_wp2
                        go_meet
                        case rel => exact ⟨rfl, _, rfl⟩
                    · have hsgb : decide (1 < sg) = false := by simpa using hsg1
                      have hsgc : decide ((1 : Int) < (sg : Int)) = false := decide_eq_false (by omega)
                      by_cases htk : t < k
                      · have htkb : decide (t < k) = true := by simpa using htk
                        have hVa : decide (V ≤ av) = false := by have := F8B.out htk; simp; omega
                        have WT2 := WT (hgt htk)
                        clear hsg1 htk
                        go_quiet ((go_at_call 33; refine Calls.quiet_of_same (WT2 _)))
                        go_wp2
                        go_meet
                        case rel => exact ⟨rfl, _, rfl⟩
                      · have htkb : decide (t < k) = false := by simpa using htk
                        clear hsg1 htk WT
                        go_quiet (fail)
                        go_wp2
                        go_meet
                        case rel => exact ⟨rfl, _, rfl⟩
                  case rest =>
                    obtain ⟨rfl, nd3, rfl⟩ := hcut
                    have c1' := ((TX2.out.below (below_dN (Below.refl W2.heap.size W2) nd3)).cell 1 _ rfl)
                    clear WT
                    go_wp2_with fail
                    go_roundg (L.length - (j + 1))
                    case measure => omega
                    case rel => exact ⟨j + 1, t, by omega, rfl, rfl, by go_num, f3, F9.out, below_dN HB2.out _⟩
                · skip
                  obtain ⟨ga', oa', e', hga', hci⟩ := R1'.out.at hn
                  obtain ⟨rfl, rfl⟩ : ga = ga' ∧ oa = oa' := by simpa using e'
                  have hgi := (itV_get q nx (by rw [HQ.out]; omega)).2.2.2
                  have ci3 := hci 3 (by omega)
                  rw [hgi, hbt] at ci3
                  have cb := (HB2.out.cell (p := ⟨ga, oa + nx * 4 + 3, none⟩) hga).trans ci3
                  clear hci hgi ci3 e' hbt
                  have hmin := HMIN.out
                  go_upto_region 27 with (fail)
                  clear hmin
                  go_cut [163] from 139 to 163 (fun s wx => s = .bool false ∧ ∃ nd, wx = W2.drewN nd)
                  case first =>
                    have ica : ¬ c1 = a := by have := hsh.1; omega
                    by_cases hsg1 : 1 < sg
                    · have hsgb : decide (1 < sg) = true := by simpa using hsg1
                      have hsgc : decide ((1 : Int) < (sg : Int)) = true := decide_eq_true (by omega)
                      have hwa : decide (av < ww) = false := by have := HSW.out hsg1; simp; omega
                      by_cases htk : t < k
                      · have htkb : decide (t < k) = true := by simpa using htk
                        have hVa : decide (V ≤ av) = false := by have := F8B.out htk; simp; omega
                        have WT2 := WT (hgt htk)
                        clear hsg1 htk
                        go_quiet ((go_at_call 33; refine Calls.quiet_of_same (WT2 _)))
                        go_wp2
                        go_meet
                        case rel => exact ⟨rfl, _, rfl⟩
                      · have htkb : decide (t < k) = false := by simpa using htk
                        clear hsg1 htk WT
                        go_quiet (fail)
                        go_wp2
                        go_meet
                        case rel => exact ⟨rfl, _, rfl⟩
                    · have hsgb : decide (1 < sg) = false := by simpa using hsg1
                      have hsgc : decide ((1 : Int) < (sg : Int)) = false := decide_eq_false (by omega)
                      by_cases htk : t < k
                      · have htkb : decide (t < k) = true := by simpa using htk
                        have hVa : decide (V ≤ av) = false := by have := F8B.out htk; simp; omega
                        have WT2 := WT (hgt htk)
                        clear hsg1 htk
                        go_quiet ((go_at_call 33; refine Calls.quiet_of_same (WT2 _)))
                        go_wp2
                        go_meet
                        case rel => exact ⟨rfl, _, rfl⟩
                      · have htkb : decide (t < k) = false := by simpa using htk
                        clear hsg1 htk WT
                        go_quiet (fail)
                        go_wp2
                        go_meet
                        case rel => exact ⟨rfl, _, rfl⟩
                  case rest =>
                    obtain ⟨rfl, nd3, rfl⟩ := hcut
                    have c1' := ((TX2.out.below (below_dN (Below.refl W2.heap.size W2) nd3)).cell 1 _ rfl)
                    clear WT
                    go_wp2_with fail
                    go_roundg (L.length - (j + 1))
                    case measure => omega
                    case rel => exact ⟨j + 1, t, by omega, rfl, rfl, by go_num, f3, F9.out, below_dN HB2.out _⟩
    · obtain rfl : j = L.length := by omega
      have ix : ¬ (L.length : Int) < (L.length : Int) := by omega
      rw [List.drop_length] at hfo
      have hka : a = k := by
        have : q.length ≤ a := hfo
        rw [HQ.out] at this; omega
      have c5 := (Q5.out.below hB).cell 0 _ rfl
      have c6 := (Q6.out.below hB).cell 0 _ rfl
      have c9 := (Q9.out.below hB).cell 0 _ rfl
      have hBf := HB4.out.trans (hB.mono HB4.out.size)
      clear hfo
      subst hka
      by_cases hma : av < most
      · have hmb : decide (av < most) = true := by simpa using hma
        go_wp2_with fail
        go_ret
        exact ⟨rfl, hBf⟩
      · have hmb : decide (av < most) = false := by simpa using hma
        have hl1 := HP6.out (by omega)
        have hlb : decide (L.length ≤ 1) = true := by simpa using hl1
        have hli : (L.length : Int) ≤ 1 := by omega
        go_wp2_with fail
        go_ret
        exact ⟨rfl, hBf⟩
end Go.Proofs.Ythofammjbicogaa
