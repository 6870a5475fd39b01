/-
  The reference of layer 20: Main.
-/
import Derived.Test.YthofammjbicogaaYFlN
namespace Go.Proofs.Ythofammjbicogaa
open Go.RowKit
set_option linter.unusedSimpArgs false
set_option linter.unusedVariables false

theorem ref20_spaces (f way : Int) (n : Nat) (hn : 1 ≤ n) (hn2 : n ≤ 400) (hf : lenB f = true) (w : World) :
    Calls Try.prog 73 #[.int .i64 f, .int .i64 ((n : Int)), .int .i64 way] w (SpRef f n way w) := by
  by_cases h4 : way = 4 ∧ 0 < f ∧ 1 < n
  · obtain ⟨rfl, hf0, hn1⟩ := h4
    obtain ⟨m, rfl⟩ : ∃ m, n = m + 1 := ⟨n - 1, by omega⟩
    exact ref20_four f m (by omega) (by omega) hf hf0 w
  by_cases h5 : way = 5 ∧ 0 < f
  · obtain ⟨rfl, hf0⟩ := h5
    exact ref20_five f n hn hn2 hf hf0 w
  by_cases h6 : way = 6 ∧ 0 < f
  · obtain ⟨rfl, hf0⟩ := h6
    exact ref20_six f n hn hn2 hf hf0 w
  exact ref20_plain f way n hn hn2 hf w (by omega)
theorem pre_congr {a b : List Int} {n : Nat} (h : ∀ i, i < n → a.getD i 0 = b.getD i 0) : ∀ j, j ≤ n → pre a j = pre b j
  | 0, _ => rfl
  | j + 1, hj => by
    show pre a j + a.getD j 0 = pre b j + b.getD j 0
    rw [pre_congr h j (by omega), h j (by omega)]
theorem plN_congr (xs : List Int) {a b : List Int} (gap : Int) {n : Nat} (h : ∀ i, i < n → a.getD i 0 = b.getD i 0) : plN xs a gap n = plN xs b gap n := by
  unfold plN
  refine List.map_congr_left fun i hi => ?_
  have := List.mem_range.1 hi
  unfold plAt
  rw [pre_congr h (i + 1) (by omega)]
theorem mkL_split (bs : List Bool) (p : Nat) : ∀ d, ∃ l, mkL bs (p + d) = mkL bs p ++ l ∧ ∀ q ∈ l, p ≤ q
  | 0 => ⟨[], by simp, by simp⟩
  | d + 1 => by
    obtain ⟨l, e, h⟩ := mkL_split bs p d
    refine ⟨l ++ (if bs.getD (p + d) false then [p + d] else []), ?_, ?_⟩
    · show mkL bs (p + d) ++ _ = _
      rw [e, List.append_assoc]
      rfl
    · intro q hq
      rcases List.mem_append.1 hq with hq | hq
      · exact h q hq
      · split at hq <;> simp at hq
        omega
theorem mkL_at {bs : List Bool} {p P : Nat} (h : bs.getD p false = true) (hp : p < P) : (mkL bs P).getD (mkL bs p).length 0 = p ∧ (mkL bs p).length < (mkL bs P).length := by
  obtain ⟨d, rfl⟩ : ∃ d, P = p + 1 + d := ⟨P - (p + 1), by omega⟩
  obtain ⟨l, e, _⟩ := mkL_split bs (p + 1) d
  rw [e, mkL_yes h]
  constructor
  · simp [List.getD]
  · simp [List.length_append]
    try omega
theorem mkL_ge {bs : List Bool} {p P j : Nat} (hp : p ≤ P) (hj : (mkL bs p).length ≤ j) (hl : j < (mkL bs P).length) : p ≤ (mkL bs P).getD j 0 := by
  obtain ⟨d, rfl⟩ : ∃ d, P = p + d := ⟨P - p, by omega⟩
  obtain ⟨l, e, h⟩ := mkL_split bs p d
  rw [e] at hl ⊢
  simp only [List.getD]
  rw [List.getElem?_append_right hj]
  rw [List.length_append] at hl
  have hlt : j - (mkL bs p).length < l.length := by omega
  rw [List.getElem?_eq_getElem hlt]
  exact h _ (List.getElem_mem hlt)
theorem mgL_keep {bs : List Bool} {ps : List Int} {p P N q : Nat} (hp : p ≤ P) (hq : q < p) : ∀ d, (mkL bs p).length + d ≤ (mkL bs P).length → (mgL (mkL bs P) ps N ((mkL bs p).length + d)).getD q 0 = (mgL (mkL bs P) ps N (mkL bs p).length).getD q 0
  | 0, _ => rfl
  | d + 1, h => by
    show ((mgL (mkL bs P) ps N ((mkL bs p).length + d)).set _ _).getD q 0 = _
    rw [getD_set, if_neg, mgL_keep hp hq d (by omega)]
    rintro ⟨e, _⟩
    have e2 : (mkL bs P).getD ((mkL bs p).length + d) 0 = q := e
    have := mkL_ge (bs := bs) (j := (mkL bs p).length + d) hp (by omega) (by omega)
    omega
theorem mkL_mono (bs : List Bool) {p P : Nat} (hp : p ≤ P) : (mkL bs p).length ≤ (mkL bs P).length := by
  obtain ⟨d, rfl⟩ : ∃ d, P = p + d := ⟨P - p, by omega⟩
  obtain ⟨l, e, _⟩ := mkL_split bs p d
  rw [e, List.length_append]
  omega
/-- Of the margins laid as far as a place, those ahead of it are the last ones. -/
theorem mgL_done {bs : List Bool} {ps : List Int} {p P N q : Nat} (hp : p ≤ P) (hq : q < p) : (mgL (mkL bs P) ps N (mkL bs p).length).getD q 0 = (mgL (mkL bs P) ps N (mkL bs P).length).getD q 0 := by
  have h := mkL_mono bs hp
  have := mgL_keep (bs := bs) (ps := ps) (N := N) hp hq ((mkL bs P).length - (mkL bs p).length) (by omega)
  rw [show (mkL bs p).length + ((mkL bs P).length - (mkL bs p).length) = (mkL bs P).length by omega] at this
  exact this.symm
theorem RowI.grown {w w1 : World} {o : Obj} {ob : Option Nat} {ap : Option Addr} {n : Nat} {ps : List Int} (h : RowI w ap n ps) (hg : (w.alloc o).grownBy w1 ob) (hne : ∀ g off, ap = some ⟨g, off, none⟩ → ob ≠ some g) : RowI w1 ap n ps := by
  refine ⟨h.1, fun hk => ?_⟩
  obtain ⟨g, off, e, hlt, hc⟩ := h.2 hk
  have hl2 : g < (w.alloc o).heap.size := by simp; omega
  refine ⟨g, off, e, Nat.lt_of_lt_of_le hl2 hg.size, fun i hi => ?_⟩
  have hb : w1.heap[g]? = w.heap[g]? := by
    rw [hg.block g hl2 (fun e2 => hne g off e e2.symm)]
    exact ((Below.refl w.heap.size w).alloc (Nat.le_refl _) o).block g hlt
  exact (World.cell?_of_block (w := w) (a := ⟨g, off + i, none⟩) hb).trans (hc i hi)
theorem RowI.grownBy {w w1 : World} {ob : Option Nat} {ap : Option Addr} {n : Nat} {ps : List Int} (h : RowI w ap n ps) (hg : w.grownBy w1 ob) (hne : ∀ g off, ap = some ⟨g, off, none⟩ → ob ≠ some g) : RowI w1 ap n ps := by
  refine ⟨h.1, fun hk => ?_⟩
  obtain ⟨g, off, e, hlt, hc⟩ := h.2 hk
  refine ⟨g, off, e, Nat.lt_of_lt_of_le hlt hg.size, fun i hi => ?_⟩
  exact (World.cell?_of_block (w := w) (a := ⟨g, off + i, none⟩) (hg.block g hlt (fun e2 => hne g off e e2.symm))).trans (hc i hi)
set_option maxRecDepth 100000 in
set_option maxHeartbeats 3200000 in
theorem ref20_main (ao ba : Option Addr) (k cap m bc : Nat) (xs : List Int) (bs : List Bool) (avail gap way : Int) (hl : Lim xs k avail gap) (hk1 : 1 ≤ k) (hm : m ≤ 100) (hbs : bs.length = m * 2) (w : World) (hx : RowI w ao k xs) (hr : RowV w ba m 2 (bools bs)) :
    Calls Try.prog 38 #[.slice ao k cap, .slice ba m bc, .int .i64 avail, .int .i64 gap, .int .i64 way] w (MnOut k (mnAt xs bs k avail gap way) (mnMs xs bs k avail gap) w) := by
  obtain ⟨i0, hi, hz0, hz1, hz2⟩ := info_parts (show (Try.prog.info? 2).map (fun i => (i.zero, i.size, i.bytes)) = some (some (.int .i64 0), 1, 8) by kernel_rfl)
  obtain ⟨j0, ji, jz0, jz1, jz2⟩ := info_parts (show (Try.prog.info? 66).map (fun i => (i.zero, i.size, i.bytes)) = some (some (.agg #[.int .i64 0, .int .i64 0]), 2, 16) by kernel_rfl)
  obtain ⟨Q, eQ⟩ : ∃ Q : Ending → World → Prop, Q = MnOut k (mnAt xs bs k avail gap way) (mnMs xs bs k avail gap) w := ⟨_, rfl⟩
  rw [← eQ]
  have EQ := Lib.hid eQ
  have hk30 := hl.k30
  have RM := fun W hx' => ref20_room ao k cap xs avail gap hl W hx'
  have hF := room_lenB hl
  obtain ⟨F, eF⟩ : ∃ F, roomV xs avail gap k = F := ⟨_, rfl⟩
  have eF0 := eF
  rw [eF] at RM hF
  have EF := Lib.hid eF
  have hFl := room_lim hl hl.k30
  rw [eF0] at hFl
  have hsbd := mgF_some bs k F
  have hmle := fun q (hq : q ≤ k * 2) => mgF_le bs k F (q := q) hq
  have hmnn := mgF_nonneg bs k F
  have hsp := fun j (hj : j ≤ k + 1) => spL_pre F way k hk1 hj
  have hp0 := pre_lim hl.xs36
  have SPC := fun W => ref20_spaces F way k hk1 (by omega) hF W
  have PL1 := fun so sc L W (hL : ∀ i, i < k → L.getD i 0 = (spL F k way).getD i 0) hx' hy' => ref20_places ao so k cap (k + 1) sc xs L gap hk30 hl.gp (fun j hj => by have := hp0 j; omega) (by omega) (fun j hj => by rw [pre_congr hL j hj]; have := hsp j (by omega); omega) W hx' hy'
  have PL2 := fun aw cw so W hx' hy' => ref20_places aw so k cw (k + 1) (k + 1) (whL xs (mgF bs k F) k) (zerL k) gap hk30 hl.gp (fun j hj => by rw [whL_pre xs _ k j hj]; have := hp0 j; have := hmle (j * 2) (by omega); omega) (by omega) (fun j hj => by unfold zerL; rw [pre_rep]; omega) W hx' hy'
  have hres : ∀ W a1 c1 g2 L, w.heap.size ≤ g2 → OwnI W w.heap.size a1 k c1 L → L = mnAt xs bs k avail gap way → BlkM W g2 (mgF bs k F) → Below w.heap.size w W → Q (.returned (.tuple #[.slice a1 k c1, .slice (some ⟨g2, 0, none⟩) k k])) W := by
    intro W a1 c1 g2 L h1 h2 h2' h3 h4
    rw [EQ.out]
    refine ⟨a1, c1, g2, rfl, h1, h2' ▸ h2.row, h2.from, ?_, h4⟩
    unfold mnMs
    rw [EF.out]
    exact h3
  have HRES := Lib.hid hres
  have HSB := Lib.hid hsbd
  have HMLE := Lib.hid hmle
  have HMNN := Lib.hid hmnn
  have HLX := Lib.hid hl
  have HFL := Lib.hid hFl
  clear hres hsbd hmle hmnn hsp hp0
  have AU := fun i q W (hq : q < 2) h => ref20_auto ba m bc i q bs hm hq hbs W h
  have HX := Lib.hid hx
  have HR := Lib.hid hr
  have HL := Lib.hid hl
  have HF := Lib.hid hF
  clear eQ hx hr hl hF eF eF0 hFl
  go_enter Try.func38, Try.ntmps38
  go_wp2_with fail
  refine (RM _ HX.out).mono ?_
  rintro e w1 ⟨rfl, hB⟩
  have hr1 := HR.out.below hB
  have HR1 := Lib.hid hr1
  have HB1 := Lib.hid hB
  clear RM hr1 hB
  go_wp2_with fail
  go_loopg [13, 14] k (fun gk s13 s14 wr => ∃ (i c : Nat), i ≤ k ∧ gk = k - i ∧ s13 = .int .i64 ((c : Int)) ∧ c = (mkL bs (2 * i)).length ∧ s14 = .int .i64 ((i : Int)) ∧ Below w1.heap.size w1 wr)
  case atStart => exact ⟨0, 0, by omega, by omega, rfl, rfl, rfl, Below.refl _ _⟩
  case round =>
    obtain ⟨i, c, hik, rfl, rfl, hc, rfl, hb1⟩ := hrel
    by_cases hi1 : i < k
    · have ix : (i : Int) < (k : Int) := by omega
      have HC := Lib.hid hc
      clear hc
      go_wp2_with fail
      go_loopg [13, 15] 2 (fun gk s13 s15 wr => ∃ (q c : Nat), q ≤ 2 ∧ gk = 2 - q ∧ s13 = .int .i64 ((c : Int)) ∧ c = (mkL bs (2 * i + q)).length ∧ s15 = .int .i64 ((q : Int)) ∧ Below w1.heap.size w1 wr)
      case atStart => exact ⟨0, c, by omega, rfl, rfl, HC.out, rfl, hb1⟩
      case round =>
        clear hb1 HC
        obtain ⟨q, c, hq2, rfl, rfl, hc, rfl, hb1⟩ := hrel
        have HC := Lib.hid hc
        have hcl := mkL_len bs (2 * i + q)
        rw [← hc] at hcl
        clear hc
        by_cases hq : q < 2
        · have ix2 : (q : Int) < 2 := by omega
          have AQ := AU i q _ hq (HR1.out.below hb1)
          obtain ⟨x, ex⟩ : ∃ x, bs.getD (i * 2 + q) false = x := ⟨_, rfl⟩
          rw [ex] at AQ
          have ex2 : bs.getD (2 * i + q) false = x := by rw [← ex]; congr 1; omega
          have EX := Lib.hid ex2
          clear ex ex2
          go_wp2_with fail
          refine AQ.mono ?_
          rintro e w3 ⟨rfl, rfl⟩
          clear AQ
          cases x
          · have e1 := mkL_no EX.out
            have E1 := Lib.hid e1
            clear e1 EX
            go_wp2_with fail
            go_roundg (2 - (q + 1))
            case measure => omega
            case rel => exact ⟨q + 1, c, by omega, rfl, rfl, by rw [← Nat.add_assoc, E1.out]; exact HC.out, by go_num, hb1⟩
          · have e1 := mkL_yes EX.out
            have E1 := Lib.hid e1
            clear e1 EX
            go_wp2_with fail
            go_roundg (2 - (q + 1))
            case measure => omega
            case rel => exact ⟨q + 1, c + 1, by omega, rfl, by go_num, by rw [← Nat.add_assoc, E1.out, List.length_append, ← HC.out]; rfl, by go_num, hb1⟩
        · obtain rfl : q = 2 := by omega
          have e2 : 2 * i + 2 = 2 * (i + 1) := by omega
          have hc2 := HC.out
          rw [e2] at hc2
          have HC2 := Lib.hid hc2
          clear hc2 e2
          go_wp2_with fail
          go_roundg (k - (i + 1))
          case measure => omega
          case rel => exact ⟨i + 1, c, by omega, rfl, rfl, HC2.out, by go_num, hb1⟩
    · obtain rfl : i = k := by omega
      have ix : ¬ (i : Int) < (i : Int) := by omega
      have HC := Lib.hid hc
      have hcl := mkL_len bs (2 * i)
      rw [← hc] at hcl
      clear hc
      go_wp2_with (at_make; refine wpList_make_full _ rfl _ _ 62 rfl wr.heap.size 66 j0 (.agg #[.int .i64 0, .int .i64 0]) 2 Try.underlying62 ji jz0 jz1 _ _ _ _ i rfl rfl rfl rfl (by rw [jz2]; omega) (by unfold maxLen; omega) (Nat.le_refl _) ?_)
      intro w2 hown hgr
      have hb2 : Below wr.heap.size wr w2 := (Below.refl _ wr).grown hgr (Nat.le_refl _) (fun _ h => by cases h)
      have t13 : BlkM w2 wr.heap.size (List.replicate (i * 2) 0) := BlkM.made hown
      have hB : Below w.heap.size w w2 := (HB1.out.trans (hb1.mono HB1.out.size)).trans (hb2.mono (Nat.le_trans HB1.out.size hb1.size))
      have hg : w.heap.size ≤ wr.heap.size := Nat.le_trans HB1.out.size hb1.size
      obtain ⟨g13, eg⟩ : ∃ g, wr.heap.size = g := ⟨_, rfl⟩
      rw [eg] at t13 hg ⊢
      clear hown hgr hb2 eg hb1
      by_cases hcf : c = 0 ∨ F ≤ 0
      · have hns : someB (mgF bs i F) (i * 2) = false := by
          rw [HSB.out, decide_eq_false_iff_not, ← HC.out]
          omega
        have hat : mnAt xs bs i avail gap way = plN xs (spL F i way) gap i := by
          unfold mnAt mnMs
          rw [EF.out, if_neg (by rw [hns]; decide)]
        have hmz : mgF bs i F = List.replicate (i * 2) 0 := by
          unfold mgF
          split
          · rfl
          · rw [← HC.out, show c = 0 by omega]; rfl
        have HAT := Lib.hid hat
        have HMZ := Lib.hid hmz
        have hi0 : ¬ (i : Int) = 0 := by omega
        clear hns hat hmz
        have hcc : ((c : Int) = 0) ∨ (¬ (c : Int) = 0 ∧ F ≤ 0) := by omega
        clear hcf
        have SPI := SPC w2
        clear SPC
        rcases hcc with hc0 | ⟨hc0, hf0⟩
        all_goals
          go_wp2_with fail
          refine SPI.mono ?_
          rintro e w3 ⟨asl, cs, L, rfl, hrL, hagr, hb⟩
          have hx' := (HX.out.below hB).below hb
          replace hB := hB.trans (hb.mono hB.size)
          replace t13 := BlkM.below t13 hb
          have hszB := hB.size
          have HAG := Lib.hid hagr
          clear hb SPI hagr
          go_wp2_with fail
          refine (PL1 _ _ L _ HAG.out hx' hrL).mono ?_
          rintro e w4 ⟨a4, c4, rfl, ho, hb⟩
          replace hB := hB.trans (hb.mono hB.size)
          replace t13 := BlkM.below t13 hb
          clear hb hx' hrL PL1 PL2
          go_wp2_with fail
          exact HRES.out _ _ _ _ _ hg (ho.base hszB) (by rw [HAT.out]; exact plN_congr xs gap HAG.out) (by rw [HMZ.out]; exact t13) hB
      · have hc0 : ¬ (c : Int) = 0 := by omega
        have hf0 : ¬ F ≤ 0 := by omega
        have hsm : someB (mgF bs i F) (i * 2) = true := by
          rw [HSB.out, decide_eq_true_iff, ← HC.out]
          omega
        have hat : mnAt xs bs i avail gap way = plN (whL xs (mgF bs i F) i) (zerL i) gap i := by
          unfold mnAt mnMs
          rw [EF.out, if_pos hsm]
        have hmz : mgF bs i F = mgL (mkL bs (2 * i)) (evL F c) (i * 2) c := by
          unfold mgF
          rw [if_neg hf0, ← HC.out]
        have EV := fun W => ref20_even F ((c : Nat) : Int) c rfl (by omega) HF.out W
        obtain ⟨ps, eps⟩ : ∃ ps, evL F c = ps := ⟨_, rfl⟩
        rw [eps] at EV hmz
        have HAT := Lib.hid hat
        have HMZ := Lib.hid hmz
        clear hsm hat hmz hcf SPC PL1 eps
        go_wp2_with fail
        refine (EV _).mono ?_
        rintro e w3 ⟨ap, cq, rfl, hp, _, _, hfr, hb⟩
        have hg13 := t13.lt
        have hfr2 : ∀ g off, ap = some ⟨g, off, none⟩ → g ≠ g13 := fun g off e => by have := hfr g off e; omega
        have HFR := Lib.hid hfr2
        have hs23 := hb.size
        replace hB := hB.trans (hb.mono hB.size)
        replace t13 := BlkM.below t13 hb
        have hfw : 0 < c → ∀ g off, ap = some ⟨g, off, none⟩ → g < w3.heap.size := fun h g off e => by
          obtain ⟨g', off', e', hlt, _⟩ := hp.2 h
          rw [e] at e'
          obtain ⟨rfl, rfl⟩ : g = g' ∧ off = off' := by simpa using e'
          exact hlt
        have HFW := Lib.hid hfw
        have hszB := hB.size
        have hcp : 0 < c := by omega
        clear hb hfr hfr2 EV hfw
        go_wp2_with fail
        go_loopg [18, 19, 20] i (fun gk s18 s19 s20 wr => ∃ (r d : Nat) (aj : Option Addr) (cj : Nat), r ≤ i ∧ gk = i - r ∧ s18 = .int .i64 ((d : Int)) ∧ d = (mkL bs (2 * r)).length ∧ s19 = .slice aj r cj ∧ s20 = .int .i64 ((r : Int)) ∧ OwnI wr w3.heap.size aj r cj (whL xs (mgF bs i F) r) ∧ BlkM wr g13 (mgL (mkL bs (2 * i)) ps (i * 2) d) ∧ RowI wr ap c ps ∧ w3.heap.size ≤ wr.heap.size ∧ Below w.heap.size w wr)
        case atStart => exact ⟨0, 0, none, 0, by omega, by omega, rfl, rfl, rfl, rfl, OwnI.nil _ _, t13, hp, Nat.le_refl _, hB⟩
        case round =>
          clear t13 hp hB hg13
          obtain ⟨r, d, aj, cj, hri, rfl, rfl, hd, rfl, rfl, ho, t13, hp, hs3, hB⟩ := hrel
          by_cases hr1 : r < i
          · have ix : (r : Int) < (i : Int) := by omega
            have HD := Lib.hid hd
            clear hd
            go_wp2_with fail
            go_loopg [18, 21] 2 (fun gk s18 s21 wr => ∃ (q d : Nat), q ≤ 2 ∧ gk = 2 - q ∧ s18 = .int .i64 ((d : Int)) ∧ d = (mkL bs (2 * r + q)).length ∧ s21 = .int .i64 ((q : Int)) ∧ OwnI wr w3.heap.size aj r cj (whL xs (mgF bs i F) r) ∧ BlkM wr g13 (mgL (mkL bs (2 * i)) ps (i * 2) d) ∧ RowI wr ap c ps ∧ w3.heap.size ≤ wr.heap.size ∧ Below w.heap.size w wr)
            case atStart => exact ⟨0, d, by omega, rfl, rfl, HD.out, rfl, ho, t13, hp, hs3, hB⟩
            case round =>
              clear ho t13 hp hs3 hB HD
              obtain ⟨q, d, hq2, rfl, rfl, hd, rfl, ho, t13, hp, hs3, hB⟩ := hrel
              have HD := Lib.hid hd
              by_cases hq : q < 2
              · have ix2 : (q : Int) < 2 := by omega
                have AQ := AU r q _ hq (HR.out.below hB)
                obtain ⟨x, ex⟩ : ∃ x, bs.getD (r * 2 + q) false = x := ⟨_, rfl⟩
                rw [ex] at AQ
                have ex2 : bs.getD (2 * r + q) false = x := by rw [← ex]; congr 1; omega
                have EX := Lib.hid ex2
                clear ex ex2
                go_wp2_with fail
                refine AQ.mono ?_
                rintro e w4 ⟨rfl, rfl⟩
                clear AQ
                cases x
                · have e1 := mkL_no EX.out
                  have E1 := Lib.hid e1
                  clear e1 EX hd
                  go_wp2_with fail
                  go_roundg (2 - (q + 1))
                  case measure => omega
                  case rel => exact ⟨q + 1, d, by omega, rfl, rfl, by rw [← Nat.add_assoc, E1.out]; exact HD.out, by go_num, ho, t13, hp, hs3, hB⟩
                · have e1 := mkL_yes EX.out
                  have E1 := Lib.hid e1
                  have hlt := mkL_at (P := 2 * i) EX.out (by omega)
                  rw [← hd, ← HC.out] at hlt
                  have hdc := hlt.2
                  have hms := hlt.1
                  have ixd : (d : Int) < (c : Int) := by omega
                  obtain ⟨g1, off1, rfl, hg1, hcp1⟩ := hp.at hdc
                  have hn1 : g1 ≠ g13 := HFR.out g1 off1 rfl
                  have es : mgL (mkL bs (2 * i)) ps (i * 2) (d + 1) = (mgL (mkL bs (2 * i)) ps (i * 2) d).set (2 * r + q) (ps.getD d 0) := by
                    show (mgL _ _ _ d).set ((mkL bs (2 * i)).getD d 0) _ = _
                    rw [hms]
                  obtain ⟨x, ex⟩ : ∃ x, ps.getD d 0 = x := ⟨_, rfl⟩
                  rw [ex] at hcp1 es
                  have hpq : 2 * r + q = r * 2 + q := by omega
                  rw [hpq] at es
                  have hnew := BlkM.put t13 (r * 2 + q) x
                  rw [← es] at hnew
                  have hfz := BlkM.free t13 (r * 2 + q)
                  have hco := BlkM.cell t13 (i := r * 2 + q) (by rw [mgL_len]; omega)
                  obtain ⟨y, ey⟩ : ∃ y, (mgL (mkL bs (2 * i)) ps (i * 2) d).getD (r * 2 + q) 0 = y := ⟨_, rfl⟩
                  rw [ey] at hco
                  have hpn := hp.but (But.set (b := g13) w4 (r * 2 + q) (.int .i64 x)) (fun g' off' e => by
                    obtain ⟨rfl, rfl⟩ : g1 = g' ∧ off1 = off' := by simpa using e
                    exact hn1)
                  have hB2 := hB.setCell (p := ⟨g13, r * 2 + q, none⟩) hg (.int .i64 x)
                  have hon := ho.set ⟨g13, r * 2 + q, none⟩ (.int .i64 x) (ho.ne t13 (by decide))
                  have HN := Lib.hid hnew
                  have HP2 := Lib.hid hpn
                  have HB2 := Lib.hid hB2
                  have HON := Lib.hid hon
                  clear e1 EX hd hlt hms es ex ey hpq hnew hpn hB2 hon hp t13 ho hB
                  go_wp2_with fail
                  go_region
                  all_goals
                    go_wp2_with fail
                    go_roundg (2 - (q + 1))
                    case measure => omega
                    case rel => exact ⟨q + 1, d + 1, by omega, rfl, by go_num, by rw [← Nat.add_assoc, E1.out, List.length_append, ← HD.out]; rfl, by go_num, OwnI.drew HON.out, Blk.drew HN.out, RowI.drew HP2.out, by simpa using hs3, HB2.out.drew⟩
              · obtain rfl : q = 2 := by omega
                have hP : 2 * (r + 1) ≤ 2 * i := by omega
                have e2 : 2 * r + 2 = 2 * (r + 1) := by omega
                have hd2 := HD.out
                rw [e2] at hd2
                have HD2 := Lib.hid hd2
                have g0 : (mgL (mkL bs (2 * i)) ps (i * 2) d).getD (r * 2) 0 = (mgF bs i F).getD (r * 2) 0 := by
                  rw [HMZ.out, hd2, HC.out]; exact mgL_done hP (by omega)
                have g1 : (mgL (mkL bs (2 * i)) ps (i * 2) d).getD (r * 2 + 1) 0 = (mgF bs i F).getD (r * 2 + 1) 0 := by
                  rw [HMZ.out, hd2, HC.out]; exact mgL_done hP (by omega)
                obtain ⟨MG, eMG⟩ : ∃ M, mgL (mkL bs (2 * i)) ps (i * 2) d = M := ⟨_, rfl⟩
                have hml : MG.length = i * 2 := by rw [← eMG]; exact mgL_len _ _ _ _
                rw [eMG] at g0 g1 t13
                have m0 := HMLE.out (r * 2) (by omega)
                have m2 := HMLE.out (r * 2 + 1 + 1) (by omega)
                have n0 := HMNN.out (r * 2)
                have n1 := HMNN.out (r * 2 + 1)
                have fl := HFL.out
                have hxl := HLX.out.xs36 r
                have e3 : pre (mgF bs i F) (r * 2 + 1 + 1) = pre (mgF bs i F) (r * 2) + (mgF bs i F).getD (r * 2) 0 + (mgF bs i F).getD (r * 2 + 1) 0 := rfl
                have ews : whL xs (mgF bs i F) (r + 1) = whL xs (mgF bs i F) r ++ [xs.getD r 0 + (mgF bs i F).getD (r * 2) 0 + (mgF bs i F).getD (r * 2 + 1) 0] := whL_succ xs _ r
                obtain ⟨x, ex⟩ : ∃ x, xs.getD r 0 = x := ⟨_, rfl⟩
                obtain ⟨y, ey⟩ : ∃ x, (mgF bs i F).getD (r * 2) 0 = x := ⟨_, rfl⟩
                obtain ⟨z, ez⟩ : ∃ x, (mgF bs i F).getD (r * 2 + 1) 0 = x := ⟨_, rfl⟩
                rw [ex] at hxl ews
                rw [ey] at g0 n0 e3 ews
                rw [ez] at g1 n1 e3 ews
                have w1' : IntKind.i64.wrap (x + y) = x + y := by simp [IntKind.wrap, IntKind.bits, IntKind.signed]; omega
                have w2' : IntKind.i64.wrap (x + y + z) = x + y + z := by simp [IntKind.wrap, IntKind.bits, IntKind.signed]; omega
                obtain ⟨D, eD⟩ : ∃ d, x + y + z = d := ⟨_, rfl⟩
                rw [eD] at ews
                have w3' : IntKind.i64.wrap (x + y + z) = D := w2'.trans eD
                clear w2'
                have hcw : ∀ W, Below w.heap.size w W → ∃ g off, ao = some ⟨g, off, none⟩ ∧ W.cell? ⟨g, off + r, none⟩ = some (.int .i64 x) := fun W h => by
                  obtain ⟨g, off, e, _, hc⟩ := (HX.out.below h).at (show r < i by omega)
                  exact ⟨g, off, e, by rw [hc, ex]⟩
                obtain ⟨gx, offx, rfl, _⟩ := hcw _ hB
                have hcw2 : ∀ W, Below w.heap.size w W → W.cell? ⟨gx, offx + r, none⟩ = some (.int .i64 x) := fun W h => by
                  obtain ⟨g, off, e, hc⟩ := hcw W h
                  obtain ⟨rfl, rfl⟩ : gx = g ∧ offx = off := by simpa using e
                  exact hc
                have hq1 : ∀ W, BlkM W g13 MG → W.cell? ⟨g13, r * 2, none⟩ = some (.int .i64 y) := fun W h => by rw [BlkM.cell h (i := r * 2) (by omega), g0]
                have hq2' : ∀ W, BlkM W g13 MG → W.cell? ⟨g13, r * 2 + 1, none⟩ = some (.int .i64 z) := fun W h => by rw [BlkM.cell h (i := r * 2 + 1) (by omega), g1]
                have hgl : ∀ g, (Value.slice aj r cj).ownBlock = some g → g < wr.heap.size := fun g h => (ho.ge h).2
                have hnp : ∀ g off, ap = some ⟨g, off, none⟩ → (Value.slice aj r cj).ownBlock ≠ some g := fun g off e e2 => by
                  have := (ho.ge e2).1
                  have := HFW.out hcp g off e
                  omega
                have HCW := Lib.hid hcw2
                have HQ1 := Lib.hid hq1
                have HQ2 := Lib.hid hq2'
                have HGL := Lib.hid hgl
                have HNP := Lib.hid hnp
                have EWS := Lib.hid ews
                have EMG := Lib.hid eMG
                have ED := Lib.hid eD
                have hbw3 : w3.heap.size ≤ wr.heap.size := hs3
                have ixr : (r : Int) < (i : Int) := by omega
                clear g0 g1 m0 m2 n0 n1 fl hxl e3 ews ex ey ez hcw hcw2 hq1 hq2' hgl hnp eMG hd2 hml hd e2 eD
                go_wp2_with fail
                go_upto_region 28 with (fail)
                rename_i K1 hK1
                refine wp_region_calm (fun w' => Below w.heap.size w w' ∧ BlkM w' g13 MG ∧ wr.heap.size ≤ w'.heap.size ∧ RowI w' ap c ps) [18] (fun w' => OwnI w' w3.heap.size aj r cj (whL xs (mgF bs i F) r)) [Is (.slice aj r cj), Is (.slice (some ⟨gx, offx, none⟩) i cap), Is (.int .i64 ((r : Int))), Is (.pointer (some ⟨gx, offx + r, none⟩)), Is (.int .i64 x), Is (.slice (some ⟨g13, 0, none⟩) i i), Is (.int .i64 ((r : Int))), Is (.pointer (some ⟨g13, r * 2, none⟩)), Is (.pointer (some ⟨g13, r * 2, none⟩)), Is (.int .i64 y), Is (.int .i64 (x + y)), Is (.slice (some ⟨g13, 0, none⟩) i i), Is (.int .i64 ((r : Int))), Is (.pointer (some ⟨g13, r * 2, none⟩)), Is (.pointer (some ⟨g13, r * 2 + 1, none⟩)), Is (.int .i64 z), Is (.int .i64 D), sliC wr.heap.size D, ownC w3.heap.size (r + 1) (whL xs (mgF bs i F) r ++ [D]), ownC w3.heap.size (r + 1) (whL xs (mgF bs i F) r ++ [D])] [] (by kernel_rfl) (by kernel_rfl) (by kernel_rfl) (by kernel_rfl) ⟨hB.drew, t13, Nat.le_refl _, hp⟩ ho.drew ?_ ?_ ?_ ?_ ?_
                · rintro W W' ⟨hBB, t7, hl, hpp⟩ hb
                  exact ⟨hBB.trans (hb.mono hBB.size), BlkM.below t7 hb, Nat.le_trans hl hb.size, hpp.below hb⟩
                · intro W W' hB h0 hb; exact h0.below hb
                · intro k vs W hk h
                  exact absurd hk (by simp)
                · intro Q; clear hK1 hB t13 ho hp
                  refine ⟨?_, ?_, ?_, ?_, ?_, ?_, ?_, ?_, ?_, ?_, ?_, ?_, ?_, ?_, ?_, ?_, ?_, ?_, ?_, ?_, trivial⟩
                  · intro vs W hW hW0 hd hne hold K hK hA hL; clear hne hA hL; have hBB := hW.1; have t7 := hW.2.1; have hl := hW.2.2.1; have hpp := hW.2.2.2; simp only [puts, Act.put, List.setIfInBounds_toArray, List.set_cons_zero, List.set_cons_succ, Nat.zero_add, Nat.reduceAdd] at hK ⊢; have e19 : vs 19 = _ := hold 19 (by kernel_rfl); clear hd hold; simp only [e19] at hK; go_simp; exact hK.out rfl _ _ (Below.refl _ _) rfl
                  · intro vs W hW hW0 hd hne hold K hK hA hL; clear hne hA hL; have hBB := hW.1; have t7 := hW.2.1; have hl := hW.2.2.1; have hpp := hW.2.2.2; simp only [puts, Act.put, List.setIfInBounds_toArray, List.set_cons_zero, List.set_cons_succ, Nat.zero_add, Nat.reduceAdd] at hK ⊢; clear hd hold; go_simp; exact hK.out rfl _ _ (Below.refl _ _) rfl
                  · intro vs W hW hW0 hd hne hold K hK hA hL; clear hne hA hL; have hBB := hW.1; have t7 := hW.2.1; have hl := hW.2.2.1; have hpp := hW.2.2.2; simp only [puts, Act.put, List.setIfInBounds_toArray, List.set_cons_zero, List.set_cons_succ, Nat.zero_add, Nat.reduceAdd] at hK ⊢; clear hd hold; go_simp; exact hK.out rfl _ _ (Below.refl _ _) rfl
                  · intro vs W hW hW0 hd hne hold K hK hA hL; clear hne hA hL; have hBB := hW.1; have t7 := hW.2.1; have hl := hW.2.2.1; have hpp := hW.2.2.2; simp only [puts, Act.put, List.setIfInBounds_toArray, List.set_cons_zero, List.set_cons_succ, Nat.zero_add, Nat.reduceAdd] at hK ⊢; have e1 : vs 1 = _ := hd 1 (by kernel_rfl); have e2 : vs 2 = _ := hd 2 (by kernel_rfl); clear hd hold; simp only [e1, e2] at hK; go_simp; exact hK.out rfl _ _ (Below.refl _ _) rfl
                  · intro vs W hW hW0 hd hne hold K hK hA hL; clear hne hA hL; have hBB := hW.1; have t7 := hW.2.1; have hl := hW.2.2.1; have hpp := hW.2.2.2; simp only [puts, Act.put, List.setIfInBounds_toArray, List.set_cons_zero, List.set_cons_succ, Nat.zero_add, Nat.reduceAdd] at hK ⊢; have q := HCW.out W hBB; have eb : vs 3 = _ := hd 3 (by kernel_rfl); clear hd hold; simp only [eb] at hK; go_simp; exact hK.out rfl _ _ (Below.refl _ _) rfl
                  · intro vs W hW hW0 hd hne hold K hK hA hL; clear hne hA hL; have hBB := hW.1; have t7 := hW.2.1; have hl := hW.2.2.1; have hpp := hW.2.2.2; simp only [puts, Act.put, List.setIfInBounds_toArray, List.set_cons_zero, List.set_cons_succ, Nat.zero_add, Nat.reduceAdd] at hK ⊢; clear hd hold; go_simp; exact hK.out rfl _ _ (Below.refl _ _) rfl
                  · intro vs W hW hW0 hd hne hold K hK hA hL; clear hne hA hL; have hBB := hW.1; have t7 := hW.2.1; have hl := hW.2.2.1; have hpp := hW.2.2.2; simp only [puts, Act.put, List.setIfInBounds_toArray, List.set_cons_zero, List.set_cons_succ, Nat.zero_add, Nat.reduceAdd] at hK ⊢; clear hd hold; go_simp; exact hK.out rfl _ _ (Below.refl _ _) rfl
                  · intro vs W hW hW0 hd hne hold K hK hA hL; clear hne hA hL; have hBB := hW.1; have t7 := hW.2.1; have hl := hW.2.2.1; have hpp := hW.2.2.2; simp only [puts, Act.put, List.setIfInBounds_toArray, List.set_cons_zero, List.set_cons_succ, Nat.zero_add, Nat.reduceAdd] at hK ⊢; have e5 : vs 5 = _ := hd 5 (by kernel_rfl); have e6 : vs 6 = _ := hd 6 (by kernel_rfl); clear hd hold; simp only [e5, e6] at hK; go_simp; exact hK.out rfl _ _ (Below.refl _ _) rfl
                  · intro vs W hW hW0 hd hne hold K hK hA hL; clear hne hA hL; have hBB := hW.1; have t7 := hW.2.1; have hl := hW.2.2.1; have hpp := hW.2.2.2; simp only [puts, Act.put, List.setIfInBounds_toArray, List.set_cons_zero, List.set_cons_succ, Nat.zero_add, Nat.reduceAdd] at hK ⊢; have e7 : vs 7 = _ := hd 7 (by kernel_rfl); clear hd hold; simp only [e7] at hK; go_simp; exact hK.out rfl _ _ (Below.refl _ _) rfl
                  · intro vs W hW hW0 hd hne hold K hK hA hL; clear hne hA hL; have hBB := hW.1; have t7 := hW.2.1; have hl := hW.2.2.1; have hpp := hW.2.2.2; simp only [puts, Act.put, List.setIfInBounds_toArray, List.set_cons_zero, List.set_cons_succ, Nat.zero_add, Nat.reduceAdd] at hK ⊢; have q := HQ1.out W t7; have eb : vs 8 = _ := hd 8 (by kernel_rfl); clear hd hold; simp only [eb] at hK; go_simp; exact hK.out rfl _ _ (Below.refl _ _) rfl
                  · intro vs W hW hW0 hd hne hold K hK hA hL; clear hne hA hL; have hBB := hW.1; have t7 := hW.2.1; have hl := hW.2.2.1; have hpp := hW.2.2.2; simp only [puts, Act.put, List.setIfInBounds_toArray, List.set_cons_zero, List.set_cons_succ, Nat.zero_add, Nat.reduceAdd] at hK ⊢; have ea : vs 4 = _ := hd 4 (by kernel_rfl); have eb : vs 9 = _ := hd 9 (by kernel_rfl); clear hd hold; simp only [ea, eb] at hK; go_simp; exact hK.out rfl _ _ (Below.refl _ _) rfl
                  · intro vs W hW hW0 hd hne hold K hK hA hL; clear hne hA hL; have hBB := hW.1; have t7 := hW.2.1; have hl := hW.2.2.1; have hpp := hW.2.2.2; simp only [puts, Act.put, List.setIfInBounds_toArray, List.set_cons_zero, List.set_cons_succ, Nat.zero_add, Nat.reduceAdd] at hK ⊢; clear hd hold; go_simp; exact hK.out rfl _ _ (Below.refl _ _) rfl
                  · intro vs W hW hW0 hd hne hold K hK hA hL; clear hne hA hL; have hBB := hW.1; have t7 := hW.2.1; have hl := hW.2.2.1; have hpp := hW.2.2.2; simp only [puts, Act.put, List.setIfInBounds_toArray, List.set_cons_zero, List.set_cons_succ, Nat.zero_add, Nat.reduceAdd] at hK ⊢; clear hd hold; go_simp; exact hK.out rfl _ _ (Below.refl _ _) rfl
                  · intro vs W hW hW0 hd hne hold K hK hA hL; clear hne hA hL; have hBB := hW.1; have t7 := hW.2.1; have hl := hW.2.2.1; have hpp := hW.2.2.2; simp only [puts, Act.put, List.setIfInBounds_toArray, List.set_cons_zero, List.set_cons_succ, Nat.zero_add, Nat.reduceAdd] at hK ⊢; have e11 : vs 11 = _ := hd 11 (by kernel_rfl); have e12 : vs 12 = _ := hd 12 (by kernel_rfl); clear hd hold; simp only [e11, e12] at hK; go_simp; exact hK.out rfl _ _ (Below.refl _ _) rfl
                  · intro vs W hW hW0 hd hne hold K hK hA hL; clear hne hA hL; have hBB := hW.1; have t7 := hW.2.1; have hl := hW.2.2.1; have hpp := hW.2.2.2; simp only [puts, Act.put, List.setIfInBounds_toArray, List.set_cons_zero, List.set_cons_succ, Nat.zero_add, Nat.reduceAdd] at hK ⊢; have e13 : vs 13 = _ := hd 13 (by kernel_rfl); clear hd hold; simp only [e13] at hK; go_simp; exact hK.out rfl _ _ (Below.refl _ _) rfl
                  · intro vs W hW hW0 hd hne hold K hK hA hL; clear hne hA hL; have hBB := hW.1; have t7 := hW.2.1; have hl := hW.2.2.1; have hpp := hW.2.2.2; simp only [puts, Act.put, List.setIfInBounds_toArray, List.set_cons_zero, List.set_cons_succ, Nat.zero_add, Nat.reduceAdd] at hK ⊢; have q := HQ2.out W t7; have eb : vs 14 = _ := hd 14 (by kernel_rfl); clear hd hold; simp only [eb] at hK; go_simp; exact hK.out rfl _ _ (Below.refl _ _) rfl
                  · intro vs W hW hW0 hd hne hold K hK hA hL; clear hne hA hL; have hBB := hW.1; have t7 := hW.2.1; have hl := hW.2.2.1; have hpp := hW.2.2.2; simp only [puts, Act.put, List.setIfInBounds_toArray, List.set_cons_zero, List.set_cons_succ, Nat.zero_add, Nat.reduceAdd] at hK ⊢; have ea : vs 10 = _ := hd 10 (by kernel_rfl); have eb : vs 15 = _ := hd 15 (by kernel_rfl); clear hd hold; simp only [ea, eb] at hK; go_simp; exact hK.out rfl _ _ (Below.refl _ _) rfl
                  · intro vs W hW hW0 hd hne hold K hK hA hL; clear hne hA hL; have hBB := hW.1; have t7 := hW.2.1; have hl := hW.2.2.1; have hpp := hW.2.2.2; simp only [puts, Act.put, List.setIfInBounds_toArray, List.set_cons_zero, List.set_cons_succ, Nat.zero_add, Nat.reduceAdd] at hK ⊢; have eb : vs 16 = _ := hd 16 (by kernel_rfl); clear hd hold; simp only [eb] at hK; go_simp; exact hK.out rfl _ _ ((Below.refl _ _).alloc (Nat.le_refl _) _) ⟨W.heap.size, rfl, hl, Blk.new _ _ _ _ rfl⟩
                  · intro vs W hW hW0 hd hne hold K hK hA hL; clear hK hA; have hBB := hW.1; have t7 := hW.2.1; have hl := hW.2.2.1; have hpp := hW.2.2.2; simp only [puts, Act.put, List.setIfInBounds_toArray, List.set_cons_zero, List.set_cons_succ, Nat.zero_add, Nat.reduceAdd] at hL ⊢; have ho := hW0 (by kernel_rfl); have ea : vs 0 = _ := hd 0 (by kernel_rfl); have h17 : SliV wr.heap.size D (vs 17) W := hd 17 (by kernel_rfl); obtain ⟨b, eb, hlb, tb⟩ := h17; clear hd hold; simp only [ea, eb] at hL ⊢; rw [if_pos (show Region.wanted _ _ = true from rfl)]; refine wp_append_own W (.tmp 91) (.tmp 108) 31 rfl w3.heap.size 2 i0 (.int .i64 0) 1 8 Try.underlying31 hi hz0 hz1 hz2 rfl (by decide) _ _ _ rfl ho.1 ⟨b, 0, none⟩ 1 1 (i64s [D]) rfl rfl (World.news_of_block tb) (i64s_one _) (by unfold maxLen; omega) (by omega) (by omega) ?_; intro v' w1 ho1 hg1 _; obtain ⟨a1, c1, rfl, ho2, hbe, hke, hbl, hb2⟩ := ho.app (ys := [D]) ho1 hg1 rfl (by omega); simp only [Act.put, List.setIfInBounds_toArray, List.set_cons_zero, List.set_cons_succ, Nat.zero_add, Nat.reduceAdd]; refine hL.out rfl _ _ ⟨hbe _ _ hszB hBB, hbl _ _ _ t7 (by decide), Nat.le_trans hl hg1.size, hpp.grownBy hg1 HNP.out⟩ (fun h => absurd h (by decide)) ⟨a1, c1, rfl, ho2⟩ ?_; exact claims_keep_a ⟨.inr (.inr is_keep), .inr (.inr is_keep), .inr (.inr is_keep), .inr (.inr is_keep), .inr (.inr is_keep), .inr (.inr is_keep), .inr (.inr is_keep), .inr (.inr is_keep), .inr (.inr is_keep), .inr (.inr is_keep), .inr (.inr is_keep), .inr (.inr is_keep), .inr (.inr is_keep), .inr (.inr is_keep), .inr (.inr is_keep), .inr (.inr is_keep), .inr (.inr is_keep), .inr (.inr fun h => SliV.app h hb2 HGL.out), .inl rfl, .inr (.inl (by kernel_rfl)), trivial⟩
                  · intro vs W hW hW0 hd hne hold K hK hA hL; clear hne hA hL; have hBB := hW.1; have t7 := hW.2.1; have hl := hW.2.2.1; have hpp := hW.2.2.2; simp only [puts, Act.put, List.setIfInBounds_toArray, List.set_cons_zero, List.set_cons_succ, Nat.zero_add, Nat.reduceAdd] at hK ⊢; have h18 : OwnV w3.heap.size (r + 1) (whL xs (mgF bs i F) r ++ [D]) (vs 18) W := hd 18 (by kernel_rfl); obtain ⟨a1, c1, e1, ho⟩ := h18; clear hd hold; simp only [e1] at hK; go_simp; exact hK.out rfl _ _ (Below.refl _ _) ⟨a1, c1, rfl, ho⟩
                · intro va WB hW hV _
                  clear hB t13 ho hp
                  obtain ⟨hB, t13, hl, hp⟩ := hW
                  have h19 : OwnV w3.heap.size (r + 1) (whL xs (mgF bs i F) r ++ [D]) (va 19) WB := hV 19 (by decide)
                  obtain ⟨a1, c1, e19, ho⟩ := h19
                  clear hV
                  rw [← EWS.out] at ho
                  rw [← EMG.out] at t13
                  simp only [puts, Act.put, List.setIfInBounds_toArray, List.set_cons_zero, List.set_cons_succ, Nat.zero_add, Nat.reduceAdd, e19]
                  clear hK1 e19
                  go_wp2_with fail
                  go_roundg (i - (r + 1))
                  case measure => omega
                  case rel => exact ⟨r + 1, d, a1, c1, by omega, rfl, rfl, HD2.out, rfl, by go_num, ho, t13, hp, Nat.le_trans hbw3 hl, hB⟩
          · have eri : r = i := by omega
            subst eri
            have ix : ¬ (r : Int) < (r : Int) := by omega
            have t14 : BlkM wr g13 (mgF bs r F) := by
              rw [HMZ.out, show c = d by rw [HC.out, hd]]; exact t13
            have hrw := ho.row
            have hszr := hB.size
            clear ho t13 hp HC HMZ hd
            go_wp2_with (at_make; refine wpList_make_row _ rfl _ _ 31 rfl 2 i0 (.int .i64 0) Try.underlying31 hi hz0 hz1 rfl _ _ (r + 1) rfl rfl ?b2 ?b3 ?_)
            case b2 => first | omega | (rw [hz2]; omega)
            case b3 => omega
            have hbz : Below wr.heap.size wr (wr.alloc (.cells (madeCells #[.int .i64 0] (r + 1)) 2)) := (by repeat' (first | (with_reducible exact Below.refl _ _) | (with_reducible assumption) | (with_reducible refine below_alloc ?_ _ ?_) | (with_reducible refine below_set _ ?_ ?_) | (with_reducible refine Below.drew ?_) | (with_reducible refine below_dN ?_ _) | (apply below_thenA; assumption) | omega | (simp; done) | (simp; omega) | (simp [*]; done)))
            have hz := (BlkI.zeros wr (r + 1)).row (n := r + 1) (by simp)
            replace hB := hB.trans (hbz.mono hszr)
            replace t14 := BlkM.below t14 hbz
            replace hrw := hrw.below hbz
            refine (PL2 _ _ _ _ hrw hz).mono ?_
            rintro e w5 ⟨a5, c5, rfl, ho, hb⟩
            have hsz4 := hB.size
            replace hB := hB.trans (hb.mono hB.size)
            replace t14 := BlkM.below t14 hb
            clear hb hz hrw hbz PL2
            go_wp2_with fail
            exact HRES.out _ _ _ _ _ hg (ho.base hsz4) HAT.out.symm t14 hB
end Go.Proofs.Ythofammjbicogaa
