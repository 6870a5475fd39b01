/-
  Package flexbox: Main.
-/
/-
  Layer 20: the laws' 'same', 'speaks'.
-/
/-
  Package flexbox: Align; the reference's Align.
-/
/-
  The reference's half and Align; the law FlexboxAligns.
-/
/-
  The reference of layer 20: Room, Places, auto, Even.
-/
/-
  The reference of layer 20: Spaces.
-/
/-
  From a walk that leaves all old memory as it was to the row's own words.
-/
import Derived.Test.YthofammjbicogaaZ7
import Derived.Test.YthofammjbicogaaZ8
import Derived.Test.YthofammjbicogaaZ1
import Derived.ProofKit
import Derived.OpenShut
namespace Go.Proofs.Ythofammjbicogaa
open Go.RowKit
set_option linter.unusedSimpArgs false
set_option linter.unusedVariables false

def mnMs (xs : List Int) (bs : List Bool) (k : Nat) (avail gap : Int) : List Int := mgF bs k (roomV xs avail gap k)
def mnAt (xs : List Int) (bs : List Bool) (k : Nat) (avail gap way : Int) : List Int :=
  if someB (mnMs xs bs k avail gap) (k * 2) then plN (whL xs (mnMs xs bs k avail gap) k) (zerL k) gap k else plN xs (spL (roomV xs avail gap k) k way) gap k
def Sli3 (B : Nat) (x y z : Int) (v : Value) (w : World) : Prop := ∃ b, v = .slice (some ⟨b, 0, none⟩) 3 3 ∧ B ≤ b ∧ Blk w b #[.int .i64 x, .int .i64 y, .int .i64 z] 2
def sli3C (B : Nat) (x y z : Int) : Cl := .own (Sli3 B x y z) (fun _ _ _ h hb => by obtain ⟨b, e, h1, h2⟩ := h; exact ⟨b, e, h1, h2.below hb⟩)
theorem Sli3.app {B : Nat} {x y z : Int} {v v0 : Value} {W w1 : World} (h : Sli3 B x y z v W) (hb2 : ∀ b cs T, Blk W b cs T → (∀ g, v0.ownBlock = some g → g ≠ b) → Blk w1 b cs T) (hg : ∀ g, v0.ownBlock = some g → g < B) : Sli3 B x y z v w1 := by
  obtain ⟨b, e, h1, h2⟩ := h
  exact ⟨b, e, h1, hb2 b _ _ h2 (fun g hgg => by have := hg g hgg; omega)⟩
def MnOut (k : Nat) (L ms : List Int) (w : World) (e : Ending) (w' : World) : Prop :=
  ∃ a1 c1 g2, e = .returned (.tuple #[.slice a1 k c1, .slice (some ⟨g2, 0, none⟩) k k]) ∧ w.heap.size ≤ g2 ∧ RowI w' a1 k L ∧ (∀ g off, a1 = some ⟨g, off, none⟩ → w.heap.size ≤ g) ∧ BlkM w' g2 ms ∧ Below w.heap.size w w'
theorem OwnI.base {w : World} {B B' : Nat} {ao : Option Addr} {k cap : Nat} {xs : List Int} (h : OwnI w B ao k cap xs) (hB : B' ≤ B) : OwnI w B' ao k cap xs := by
  refine ⟨⟨h.1.1, ?_⟩, h.2⟩
  rcases h.1.2 with h | ⟨g, c, cur, hv, hg, r⟩
  · exact .inl h
  · exact .inr ⟨g, c, cur, hv, Nat.le_trans hB hg, r⟩
theorem room_lenB {xs : List Int} {k : Nat} {avail gap : Int} (h : Lim xs k avail gap) : lenB (roomV xs avail gap k) = true := by
  have := room_lim h h.k30
  rw [lenB_iff]
  unfold LenB
  omega
set_option maxRecDepth 100000 in
set_option maxHeartbeats 3200000 in
theorem flx_main (ao ba : Option Addr) (k cap m bc : Nat) (xs : List Int) (bs : List Bool) (avail gap way : Int) (hl : Lim xs k avail gap) (hk1 : 1 ≤ k) (hm : m ≤ 100) (hbs : bs.length = m * 2) (w : World) (hx : RowI w ao k xs) (hr : RowV w ba m 2 (bools bs)) :
    Calls Try.prog 37 #[.slice ao k cap, .slice ba m bc, .int .i64 avail, .int .i64 gap, .int .i64 way] w (MnOut k (mnAt xs bs k avail gap way) (mnMs xs bs k avail gap) w) := by
  obtain ⟨i0, hi, hz0, hz1, hz2⟩ := info_parts (show (Try.prog.info? 2).map (fun i => (i.zero, i.size, i.bytes)) = some (some (.int .i64 0), 1, 8) by kernel_rfl)
  obtain ⟨Q, eQ⟩ : ∃ Q : Ending → World → Prop, Q = MnOut k (mnAt xs bs k avail gap way) (mnMs xs bs k avail gap) w := ⟨_, rfl⟩
  rw [← eQ]
  have EQ := Lib.hid eQ
  have hk30 := hl.k30
  have RM := fun W hx' => flx_room ao k cap xs avail gap hl W hx'
  have hF := room_lenB hl
  have hFl := room_lim hl hl.k30
  obtain ⟨F, eF⟩ : ∃ F, roomV xs avail gap k = F := ⟨_, rfl⟩
  rw [eF] at RM hF hFl
  have EF := Lib.hid eF
  have AU := fun W hr' => flx_automatic k m bc ba bs F hk30 hm hF W hbs hr'
  have hml := mgF_len bs k F
  have hmle := fun q hq => mgF_le bs k F (q := q) hq
  have hmnn := mgF_nonneg bs k F
  obtain ⟨ms, ems⟩ : ∃ ms, mgF bs k F = ms := ⟨_, rfl⟩
  rw [ems] at AU hml hmle hmnn
  have EMS := Lib.hid ems
  have ST := fun g W h => flx_spent g k ms hml (by omega) W h
  have hsp := fun j (hj : j ≤ k + 1) => spL_pre F way k hk1 hj
  obtain ⟨sb, esb⟩ : ∃ b, someB ms (k * 2) = b := ⟨_, rfl⟩
  rw [esb] at ST
  have ESB := Lib.hid esb
  have HX := Lib.hid hx
  have HR := Lib.hid hr
  have HML := Lib.hid hmle
  have HNN := Lib.hid hmnn
  have HSP := Lib.hid hsp
  have HL := Lib.hid hl
  have HLEN := Lib.hid hml
  have hk0 : ¬ (k : Int) = 0 := by omega
  have hp0 := pre_lim hl.xs36
  have SPC := fun W => flx_spaces F way k hk1 (by omega) hF W
  have PL1 := fun so W hx' hy' => flx_places ao so k cap (k + 1) (k + 1) xs (spL F k way) gap hk30 hl.gp (fun j hj => by have := hp0 j; omega) (by omega) (fun j hj => by have := hsp j hj; omega) W hx' hy'
  have PL2 := fun aw cw so W hx' hy' => flx_places aw so k cw (k + 1) (k + 1) (whL xs ms k) (zerL k) gap hk30 hl.gp (fun j hj => by rw [whL_pre xs ms k j hj]; have := hp0 j; have := hmle (j * 2) (by omega); omega) (by omega) (fun j hj => by unfold zerL; rw [pre_rep]; omega) W hx' hy'
  obtain ⟨LA, eLA⟩ : ∃ L, plN xs (spL F k way) gap k = L := ⟨_, rfl⟩
  obtain ⟨LB, eLB⟩ : ∃ L, plN (whL xs ms k) (zerL k) gap k = L := ⟨_, rfl⟩
  rw [eLA] at PL1
  rw [eLB] at PL2
  obtain ⟨SL, eSL⟩ : ∃ L, spL F k way = L := ⟨_, rfl⟩
  rw [eSL] at SPC PL1
  have hSLl : SL.length = k + 1 := by rw [← eSL]; exact spL_len _ _ _ hk1
  have HSLL := Lib.hid hSLl
  have ELA := Lib.hid eLA
  have ELB := Lib.hid eLB
  have hres : ∀ W a1 c1 g2, w.heap.size ≤ g2 → OwnI W w.heap.size a1 k c1 (if sb then LB else LA) → BlkM W g2 ms → Below w.heap.size w W → Q (.returned (.tuple #[.slice a1 k c1, .slice (some ⟨g2, 0, none⟩) k k])) W := by
    intro W a1 c1 g2 h1 h2 h3 h4
    rw [EQ.out]
    refine ⟨a1, c1, g2, rfl, h1, ?_, h2.from, ?_, h4⟩
    · unfold mnAt mnMs
      rw [EF.out, EMS.out, ESB.out, ELA.out, ELB.out]
      exact h2.row
    · unfold mnMs
      rw [EF.out, EMS.out]
      exact h3
  have HRES := Lib.hid hres
  clear eQ hx hr ems esb eF hmle hmnn hsp hl hp0 hml hFl hF eLA eLB eSL hSLl hres
  go_enter Try.func37, Try.ntmps37
  go_wp2_with fail
  refine (RM _ HX.out).mono ?_
  rintro e w1 ⟨rfl, hB⟩
  have hr1 := HR.out.below hB
  go_wp2_with fail
  refine (AU _ hr1).mono ?_
  rintro e w2 ⟨rfl, t13, hb⟩
  have hsB := hB.size
  replace hB := hB.trans (hb.mono hB.size)
  have HSB := Lib.hid hsB
  clear hb hr1 hsB AU RM
  go_wp2_with fail
  refine (ST _ _ t13).mono ?_
  rintro e w3 ⟨rfl, hb⟩
  replace hB := hB.trans (hb.mono hB.size)
  replace t13 := BlkM.below t13 hb
  clear hb ST
  cases sb
  · go_wp2_with fail
    refine (SPC _).mono ?_
    rintro e w4 ⟨rfl, t6, hb⟩
    replace hB := hB.trans (hb.mono hB.size)
    replace t13 := BlkM.below t13 hb
    have hy := t6.row (n := k + 1) HSLL.out
    have hx' := HX.out.below hB
    clear hb t6
    go_wp2_with fail
    refine (PL1 _ _ hx' hy).mono ?_
    rintro e w5 ⟨aj, cj, rfl, ho, hb⟩
    have hsz4 := hB.size
    replace hB := hB.trans (hb.mono hB.size)
    replace t13 := BlkM.below t13 hb
    clear hb hy hx'
    go_wp2_with fail
    exact HRES.out _ _ _ _ HSB.out (ho.base hsz4) t13 hB
  · have hg13 : w1.heap.size < w3.heap.size := t13.lt
    clear PL1 SPC
    go_wp2_with fail
    obtain ⟨g13, eg13⟩ : ∃ g, w1.heap.size = g := ⟨_, rfl⟩
    rw [eg13] at t13 hg13 HSB ⊢
    clear eg13
    go_loopg [14, 43] k (fun gk s14 s43 wr => ∃ (j : Nat) (aj : Option Addr) (cj : Nat), j ≤ k ∧ gk = k - j ∧ s14 = .slice aj j cj ∧ s43 = .int .i64 ((j : Int)) ∧ OwnI wr w.heap.size aj j cj (whL xs ms j) ∧ BlkM wr g13 ms ∧ Below w.heap.size w wr)
    case atStart => exact ⟨0, none, 0, by omega, by omega, rfl, rfl, OwnI.nil _ _, t13, hB⟩
    case round =>
      clear t13 hB hg13
      obtain ⟨j, aj, cj, hj, rfl, rfl, rfl, ho, t13, hB⟩ := hrel
      by_cases hjk : j < k
      · have ix : (j : Int) < (k : Int) := by omega
        obtain ⟨g, off, rfl, _, hcx⟩ := (HX.out.below hB).at hjk
        have hx := HL.out.xs36 j
        have q1 := BlkM.cell t13 (i := j * 2) (by rw [HLEN.out]; omega)
        have q2 := BlkM.cell t13 (i := j * 2 + 1) (by rw [HLEN.out]; omega)
        have m0 := HML.out (j * 2) (by omega)
        have m2 := HML.out (j * 2 + 1 + 1) (by omega)
        have n0 := HNN.out (j * 2)
        have n1 := HNN.out (j * 2 + 1)
        have fl := room_lim HL.out HL.out.k30
        rw [EF.out] at fl
        have e2 : pre ms (j * 2 + 1 + 1) = pre ms (j * 2) + ms.getD (j * 2) 0 + ms.getD (j * 2 + 1) 0 := rfl
        have ews : whL xs ms (j + 1) = whL xs ms j ++ [xs.getD j 0 + ms.getD (j * 2) 0 + ms.getD (j * 2 + 1) 0] := whL_succ xs ms j
        obtain ⟨x, ex⟩ : ∃ x, xs.getD j 0 = x := ⟨_, rfl⟩
        obtain ⟨y, ey⟩ : ∃ x, ms.getD (j * 2) 0 = x := ⟨_, rfl⟩
        obtain ⟨z, ez⟩ : ∃ x, ms.getD (j * 2 + 1) 0 = x := ⟨_, rfl⟩
        have EY := Lib.hid ey
        have EZ := Lib.hid ez
        rw [ex] at hcx hx ews
        rw [ey] at q1 n0 e2 ews
        rw [ez] at q2 n1 e2 ews
        have AD := fun b W h => flx_add3 b x y z (by unfold LenB; omega) (by unfold IFit; omega) (by unfold IFit; omega) (by unfold LenB; omega) (by unfold LenB; omega) W h
        obtain ⟨d, ed⟩ : ∃ d, x + y + z = d := ⟨_, rfl⟩
        rw [ed] at AD ews
        have hgl : ∀ g, (Value.slice aj j cj).ownBlock = some g → g < wr.heap.size := fun g h => (ho.ge h).2
        have HGL := Lib.hid hgl
        have EWS := Lib.hid ews
        clear hx m0 m2 n0 n1 e2 ews ex ey ez ed hgl fl
        have hq1 : ∀ W, BlkM W g13 ms → W.cell? ⟨g13, j * 2, none⟩ = some (.int .i64 y) := fun W h => by rw [BlkM.cell h (i := j * 2) (by rw [HLEN.out]; omega), EY.out]
        have hq2 : ∀ W, BlkM W g13 ms → W.cell? ⟨g13, j * 2 + 1, none⟩ = some (.int .i64 z) := fun W h => by rw [BlkM.cell h (i := j * 2 + 1) (by rw [HLEN.out]; omega), EZ.out]
        have HQ1 := Lib.hid hq1
        have HQ2 := Lib.hid hq2
        have q13 := t13.lt
        clear hq1 hq2
        obtain ⟨j1, ej1⟩ : ∃ x, j + 1 = x := ⟨_, rfl⟩
        have EJ1 := Lib.hid ej1
        clear ej1
        go_wp2_with fail
        go_upto_region 11 with (fail)
        rename_i K1 hK1
        refine wp_region_calm (fun w' => Below w.heap.size w w' ∧ BlkM w' g13 ms ∧ wr.heap.size ≤ w'.heap.size) [15] (fun w' => OwnI w' w.heap.size aj j cj (whL xs ms j)) [Is (.slice aj j cj), Is (.int .i64 x), Is (.slice (some ⟨g13, 0, none⟩) k k), Is (.int .i64 ((j : Int))), Is (.pointer (some ⟨g13, j * 2, none⟩)), Is (.pointer (some ⟨g13, j * 2, none⟩)), Is (.int .i64 y), Is (.slice (some ⟨g13, 0, none⟩) k k), Is (.int .i64 ((j : Int))), Is (.pointer (some ⟨g13, j * 2, none⟩)), Is (.pointer (some ⟨g13, j * 2 + 1, none⟩)), Is (.int .i64 z), sli3C wr.heap.size x y z, Is (.int .i64 d), sliC wr.heap.size d, ownC w.heap.size (j + 1) (whL xs ms j ++ [d]), ownC w.heap.size (j + 1) (whL xs ms j ++ [d])] [] (by kernel_rfl) (by kernel_rfl) (by kernel_rfl) (by kernel_rfl) ⟨hB.drew, t13, Nat.le_refl _⟩ ho.drew ?_ ?_ ?_ ?_ ?_
        · rintro W W' ⟨hBB, t7, hl⟩ hb
          exact ⟨hBB.trans (hb.mono hBB.size), BlkM.below t7 hb, Nat.le_trans hl hb.size⟩
        · intro W W' hB h0 hb; exact h0.below hb
        · intro k vs W hk h
          exact absurd hk (by simp)
        · intro Q; clear hK1 hB t13 ho q1 q2
          refine ⟨?_, ?_, ?_, ?_, ?_, ?_, ?_, ?_, ?_, ?_, ?_, ?_, ?_, ?_, ?_, ?_, ?_, trivial⟩
          · intro vs W hW hW0 hd hne hold K hK hA hL; clear hne hA hL; have hBB := hW.1; have t7 := hW.2.1; have hl := hW.2.2; simp only [puts, Act.put, List.setIfInBounds_toArray, List.set_cons_zero, List.set_cons_succ, Nat.zero_add, Nat.reduceAdd] at hK ⊢; have e16 : vs 16 = _ := hold 16 (by kernel_rfl); clear hd hold; simp only [e16] at hK; go_simp; exact hK.out rfl _ _ (Below.refl _ _) rfl
          · intro vs W hW hW0 hd hne hold K hK hA hL; clear hne hA hL; have hBB := hW.1; have t7 := hW.2.1; have hl := hW.2.2; simp only [puts, Act.put, List.setIfInBounds_toArray, List.set_cons_zero, List.set_cons_succ, Nat.zero_add, Nat.reduceAdd] at hK ⊢; clear hd hold; go_simp; exact hK.out rfl _ _ (Below.refl _ _) rfl
          · intro vs W hW hW0 hd hne hold K hK hA hL; clear hne hA hL; have hBB := hW.1; have t7 := hW.2.1; have hl := hW.2.2; simp only [puts, Act.put, List.setIfInBounds_toArray, List.set_cons_zero, List.set_cons_succ, Nat.zero_add, Nat.reduceAdd] at hK ⊢; clear hd hold; go_simp; exact hK.out rfl _ _ (Below.refl _ _) rfl
          · intro vs W hW hW0 hd hne hold K hK hA hL; clear hne hA hL; have hBB := hW.1; have t7 := hW.2.1; have hl := hW.2.2; simp only [puts, Act.put, List.setIfInBounds_toArray, List.set_cons_zero, List.set_cons_succ, Nat.zero_add, Nat.reduceAdd] at hK ⊢; clear hd hold; go_simp; exact hK.out rfl _ _ (Below.refl _ _) rfl
          · intro vs W hW hW0 hd hne hold K hK hA hL; clear hne hA hL; have hBB := hW.1; have t7 := hW.2.1; have hl := hW.2.2; simp only [puts, Act.put, List.setIfInBounds_toArray, List.set_cons_zero, List.set_cons_succ, Nat.zero_add, Nat.reduceAdd] at hK ⊢; have e2 : vs 2 = _ := hd 2 (by kernel_rfl); have e3 : vs 3 = _ := hd 3 (by kernel_rfl); clear hd hold; simp only [e2, e3] at hK; go_simp; exact hK.out rfl _ _ (Below.refl _ _) rfl
          · intro vs W hW hW0 hd hne hold K hK hA hL; clear hne hA hL; have hBB := hW.1; have t7 := hW.2.1; have hl := hW.2.2; simp only [puts, Act.put, List.setIfInBounds_toArray, List.set_cons_zero, List.set_cons_succ, Nat.zero_add, Nat.reduceAdd] at hK ⊢; have e4 : vs 4 = _ := hd 4 (by kernel_rfl); clear hd hold; simp only [e4] at hK; go_simp; exact hK.out rfl _ _ (Below.refl _ _) rfl
          · intro vs W hW hW0 hd hne hold K hK hA hL; clear hne hA hL; have hBB := hW.1; have t7 := hW.2.1; have hl := hW.2.2; simp only [puts, Act.put, List.setIfInBounds_toArray, List.set_cons_zero, List.set_cons_succ, Nat.zero_add, Nat.reduceAdd] at hK ⊢; have q := HQ1.out W t7; have eb : vs 5 = _ := hd 5 (by kernel_rfl); clear hd hold; simp only [eb] at hK; go_simp; exact hK.out rfl _ _ (Below.refl _ _) rfl
          · intro vs W hW hW0 hd hne hold K hK hA hL; clear hne hA hL; have hBB := hW.1; have t7 := hW.2.1; have hl := hW.2.2; simp only [puts, Act.put, List.setIfInBounds_toArray, List.set_cons_zero, List.set_cons_succ, Nat.zero_add, Nat.reduceAdd] at hK ⊢; clear hd hold; go_simp; exact hK.out rfl _ _ (Below.refl _ _) rfl
          · intro vs W hW hW0 hd hne hold K hK hA hL; clear hne hA hL; have hBB := hW.1; have t7 := hW.2.1; have hl := hW.2.2; simp only [puts, Act.put, List.setIfInBounds_toArray, List.set_cons_zero, List.set_cons_succ, Nat.zero_add, Nat.reduceAdd] at hK ⊢; clear hd hold; go_simp; exact hK.out rfl _ _ (Below.refl _ _) rfl
          · intro vs W hW hW0 hd hne hold K hK hA hL; clear hne hA hL; have hBB := hW.1; have t7 := hW.2.1; have hl := hW.2.2; simp only [puts, Act.put, List.setIfInBounds_toArray, List.set_cons_zero, List.set_cons_succ, Nat.zero_add, Nat.reduceAdd] at hK ⊢; have e7 : vs 7 = _ := hd 7 (by kernel_rfl); have e8 : vs 8 = _ := hd 8 (by kernel_rfl); clear hd hold; simp only [e7, e8] at hK; go_simp; exact hK.out rfl _ _ (Below.refl _ _) rfl
          · intro vs W hW hW0 hd hne hold K hK hA hL; clear hne hA hL; have hBB := hW.1; have t7 := hW.2.1; have hl := hW.2.2; simp only [puts, Act.put, List.setIfInBounds_toArray, List.set_cons_zero, List.set_cons_succ, Nat.zero_add, Nat.reduceAdd] at hK ⊢; have e9 : vs 9 = _ := hd 9 (by kernel_rfl); clear hd hold; simp only [e9] at hK; go_simp; exact hK.out rfl _ _ (Below.refl _ _) rfl
          · intro vs W hW hW0 hd hne hold K hK hA hL; clear hne hA hL; have hBB := hW.1; have t7 := hW.2.1; have hl := hW.2.2; simp only [puts, Act.put, List.setIfInBounds_toArray, List.set_cons_zero, List.set_cons_succ, Nat.zero_add, Nat.reduceAdd] at hK ⊢; have q := HQ2.out W t7; have eb : vs 10 = _ := hd 10 (by kernel_rfl); clear hd hold; simp only [eb] at hK; go_simp; exact hK.out rfl _ _ (Below.refl _ _) rfl
          · intro vs W hW hW0 hd hne hold K hK hA hL; clear hne hA hL; have hBB := hW.1; have t7 := hW.2.1; have hl := hW.2.2; simp only [puts, Act.put, List.setIfInBounds_toArray, List.set_cons_zero, List.set_cons_succ, Nat.zero_add, Nat.reduceAdd] at hK ⊢; have ea : vs 1 = _ := hd 1 (by kernel_rfl); have eb : vs 6 = _ := hd 6 (by kernel_rfl); have ec : vs 11 = _ := hd 11 (by kernel_rfl); clear hd hold; simp only [ea, eb, ec] at hK; go_simp; exact hK.out rfl _ _ ((Below.refl _ _).alloc (Nat.le_refl _) _) ⟨W.heap.size, rfl, hl, Blk.new _ _ _ _ rfl⟩
          · intro vs W hW hW0 hd hne hold K hK hA hL; clear hne hA hL; have hBB := hW.1; have t7 := hW.2.1; have hl := hW.2.2; simp only [puts, Act.put, List.setIfInBounds_toArray, List.set_cons_zero, List.set_cons_succ, Nat.zero_add, Nat.reduceAdd] at hK ⊢; have h12 : Sli3 wr.heap.size x y z (vs 12) W := hd 12 (by kernel_rfl); obtain ⟨b, eb, hlb, tb⟩ := h12; clear hd hold; simp only [eb] at hK; go_simp; refine (AD b W tb).mono ?_; (rintro e wx ⟨rfl, hbx⟩); go_simp; exact hK.out rfl _ _ hbx rfl
          · intro vs W hW hW0 hd hne hold K hK hA hL; clear hne hA hL; have hBB := hW.1; have t7 := hW.2.1; have hl := hW.2.2; simp only [puts, Act.put, List.setIfInBounds_toArray, List.set_cons_zero, List.set_cons_succ, Nat.zero_add, Nat.reduceAdd] at hK ⊢; have eb : vs 13 = _ := hd 13 (by kernel_rfl); clear hd hold; simp only [eb] at hK; go_simp; exact hK.out rfl _ _ ((Below.refl _ _).alloc (Nat.le_refl _) _) ⟨W.heap.size, rfl, hl, Blk.new _ _ _ _ rfl⟩
          · intro vs W hW hW0 hd hne hold K hK hA hL; clear hK hA; have hBB := hW.1; have t7 := hW.2.1; have hl := hW.2.2; simp only [puts, Act.put, List.setIfInBounds_toArray, List.set_cons_zero, List.set_cons_succ, Nat.zero_add, Nat.reduceAdd] at hL ⊢; have ho := hW0 (by kernel_rfl); have ea : vs 0 = _ := hd 0 (by kernel_rfl); have h14 : SliV wr.heap.size d (vs 14) W := hd 14 (by kernel_rfl); obtain ⟨b, eb, hlb, tb⟩ := h14; clear hd hold; simp only [ea, eb] at hL ⊢; rw [if_pos (show Region.wanted _ _ = true from rfl)]; refine wp_append_own W (.tmp 48) (.tmp 62) 31 rfl w.heap.size 2 i0 (.int .i64 0) 1 8 Try.underlying31 hi hz0 hz1 hz2 rfl (by decide) _ _ _ rfl ho.1 ⟨b, 0, none⟩ 1 1 (i64s [d]) rfl rfl (World.news_of_block tb) (i64s_one _) (by unfold maxLen; omega) (by omega) (by have := hBB.size; omega) ?_; intro v' w1 ho1 hg1 _; obtain ⟨a1, c1, rfl, ho2, hbe, hke, hbl, hb2⟩ := ho.app (ys := [d]) ho1 hg1 rfl (by have := hBB.size; omega); simp only [Act.put, List.setIfInBounds_toArray, List.set_cons_zero, List.set_cons_succ, Nat.zero_add, Nat.reduceAdd]; refine hL.out rfl _ _ ⟨hbe _ _ (Nat.le_refl _) hBB, hbl _ _ _ t7 (by decide), Nat.le_trans hl hg1.size⟩ (fun h => absurd h (by decide)) ⟨a1, c1, rfl, ho2⟩ ?_; exact claims_keep_a ⟨.inr (.inr is_keep), .inr (.inr is_keep), .inr (.inr is_keep), .inr (.inr is_keep), .inr (.inr is_keep), .inr (.inr is_keep), .inr (.inr is_keep), .inr (.inr is_keep), .inr (.inr is_keep), .inr (.inr is_keep), .inr (.inr is_keep), .inr (.inr is_keep), .inr (.inr fun h => Sli3.app h hb2 HGL.out), .inr (.inr is_keep), .inr (.inr fun h => SliV.app h hb2 HGL.out), .inl rfl, .inr (.inl (by kernel_rfl)), trivial⟩
          · intro vs W hW hW0 hd hne hold K hK hA hL; clear hne hA hL; have hBB := hW.1; have t7 := hW.2.1; have hl := hW.2.2; simp only [puts, Act.put, List.setIfInBounds_toArray, List.set_cons_zero, List.set_cons_succ, Nat.zero_add, Nat.reduceAdd] at hK ⊢; have h15 : OwnV w.heap.size (j + 1) (whL xs ms j ++ [d]) (vs 15) W := hd 15 (by kernel_rfl); obtain ⟨a1, c1, e1, ho⟩ := h15; clear hd hold; simp only [e1] at hK; go_simp; exact hK.out rfl _ _ (Below.refl _ _) ⟨a1, c1, rfl, ho⟩
        · intro va WB hW hV _
          clear hB t13 ho q1 q2
          obtain ⟨hB, t13, _⟩ := hW
          have h16 : OwnV w.heap.size (j + 1) (whL xs ms j ++ [d]) (va 16) WB := hV 16 (by decide)
          obtain ⟨a1, c1, e16, ho⟩ := h16
          clear hV
          rw [← EWS.out] at ho
          simp only [puts, Act.put, List.setIfInBounds_toArray, List.set_cons_zero, List.set_cons_succ, Nat.zero_add, Nat.reduceAdd, e16]
          refine hK1 _ _ ?_
          clear hK1 e16
          go_wp2_with fail
          go_roundg (k - (j + 1))
          case measure => omega
          case rel => exact ⟨j + 1, a1, c1, by omega, rfl, rfl, by go_num, ho, t13, hB⟩
      · obtain rfl : j = k := by omega
        have ix : ¬ (j : Int) < (j : Int) := by omega
        have hrw := ho.row
        have hszr := hB.size
        have hg13 := t13.lt
        clear ho
        go_wp2_with (at_make; refine wpList_make_row _ rfl _ _ 31 rfl 2 i0 (.int .i64 0) Try.underlying31 hi hz0 hz1 rfl _ _ (j + 1) rfl rfl ?b2 ?b3 ?_)
        case b2 => first | omega | (rw [hz2]; omega)
        case b3 => omega
        have hbz : Below wr.heap.size wr (wr.alloc (.cells (madeCells #[.int .i64 0] (j + 1)) 2)) := (by repeat' (first | (with_reducible exact Below.refl _ _) | (with_reducible assumption) | (with_reducible refine below_alloc ?_ _ ?_) | (with_reducible refine below_set _ ?_ ?_) | (with_reducible refine Below.drew ?_) | (with_reducible refine below_dN ?_ _) | (apply below_thenA; assumption) | omega | (simp; done) | (simp; omega) | (simp [*]; done)))
        have hz := (BlkI.zeros wr (j + 1)).row (n := j + 1) (by simp)
        replace hB := hB.trans (hbz.mono hszr)
        replace t13 := BlkM.below t13 hbz
        replace hrw := hrw.below hbz
        refine (PL2 _ _ _ _ hrw hz).mono ?_
        rintro e w5 ⟨a5, c5, rfl, ho, hb⟩
        have hsz4 := hB.size
        replace hB := hB.trans (hb.mono hB.size)
        replace t13 := BlkM.below t13 hb
        clear hb hz hrw hbz
        go_wp2_with fail
        exact HRES.out _ _ _ _ HSB.out (ho.base hsz4) t13 hB
end Go.Proofs.Ythofammjbicogaa
namespace Go.Proofs.Ythofammjbicogaa
open Go.RowKit
set_option linter.unusedSimpArgs false
set_option linter.unusedVariables false

set_option maxRecDepth 100000 in
set_option maxHeartbeats 1600000 in
theorem same20 (ao bo : Option Addr) (k ca cb : Nat) (xs : List Int) (hk2 : k ≤ 1000000) (w : World) (hx : RowI w ao k xs) (hy : RowI w bo k xs) :
    Calls Try.prog 39 #[.slice ao k ca, .slice bo k cb] w fun e w' => e = .returned (.bool true) ∧ Below w.heap.size w w' := by
  have HX := Lib.hid hx
  have HY := Lib.hid hy
  clear hx hy
  go_enter Try.func39, Try.ntmps39
  go_wp2_with fail
  go_loopg [5] k (fun gk s5 wr => ∃ (j : Nat), j ≤ k ∧ gk = k - j ∧ s5 = .int .i64 ((j : Int)) ∧ Below w.heap.size w wr)
  case atStart => exact ⟨0, by omega, by omega, rfl, Below.refl _ _⟩
  case round =>
    obtain ⟨j, hj, rfl, rfl, hB⟩ := hrel
    by_cases hjk : j < k
    · have ix : (j : Int) < (k : Int) := by omega
      obtain ⟨g, off, rfl, _, hcx⟩ := (HX.out.below hB).at hjk
      obtain ⟨g2, off2, rfl, _, hcy⟩ := (HY.out.below hB).at hjk
      obtain ⟨x, ex⟩ : ∃ x, xs.getD j 0 = x := ⟨_, rfl⟩
      rw [ex] at hcx hcy
      clear ex
      go_wp2_with fail
      go_quiet (fail)
      go_wp2_with fail
      go_roundg (k - (j + 1))
      case measure => omega
      case rel => exact ⟨j + 1, by omega, rfl, by go_num, below_dN hB _⟩
    · obtain rfl : j = k := by omega
      have ix : ¬ (j : Int) < (j : Int) := by omega
      go_wp2_with fail
      go_ret
      exact ⟨rfl, hB⟩
/-- Try over a function that ends as one knows, and of which something holds that no turn of one far block hurts. -/
theorem try_rel (F : Nat) (cap : Array Value) (c : Int) (l : List Nat) (w : World) (R : World → Prop) (hl : ∀ b, b ∈ l → b < w.heap.size) (hR : ∀ W W', R W → But w.heap.size W W' → R W') (hen : ∀ w, (callFunc F cap).run Try.prog w = .ok (.enter F cap) w)
    (h : ∀ W, Below w.heap.size w W → w.heap.size < W.heap.size → Calls Try.prog F cap W fun e W' => (c = 0 → e = .returned (.tuple #[]) ∧ R W') ∧ (c ≠ 0 → e = .panicked (gave c)) ∧ ButL l W W') :
    Calls Try.prog 16 #[.func (.func F) #[] cap] w fun e w' => e = .returned (.int .i64 c) ∧ (c = 0 → R w') ∧ ButL l w w' := by
  have o1 : Blk (w.alloc (.cells #[.int .i64 0] 32)) w.heap.size #[.int .i64 0] 32 := Blk.new w _ _ _ rfl
  have hnew : w.heap.size ∉ l := fun hm => Nat.lt_irrefl _ (hl _ hm)
  refine (fix_try F cap w (fun c' w1 => c' = c ∧ (c = 0 → R w1) ∧ ButL l (w.alloc (.cells #[.int .i64 0] 32)) w1) hen ((h _ (by repeat' (first | (with_reducible exact Below.refl _ _) | (with_reducible assumption) | (with_reducible refine below_alloc ?_ _ ?_) | (with_reducible refine below_set _ ?_ ?_) | (with_reducible refine Below.drew ?_) | (with_reducible refine below_dN ?_ _) | (apply below_thenA; assumption) | omega | (simp; done) | (simp; omega) | (simp [*]; done))) (by simp)).mono fun e w1 x => ?_)).mono fun e w' x => ?_
  · obtain ⟨x1, x2, x4⟩ := x
    have o3 := o1.butl x4 hnew
    refine ⟨o3.cell 0 _ rfl, o3.free 0, ?_⟩
    by_cases hc : c = 0
    · exact .inl ⟨(x1 hc).1, hc.symm, fun _ => (x1 hc).2, x4⟩
    · exact .inr ⟨c, x2 hc, rfl, fun h => absurd h hc, x4⟩
  · obtain ⟨c', w1, ⟨rfl, hr, hbut⟩, rfl, rfl⟩ := x
    refine ⟨rfl, fun hc => hR _ _ (hr hc) (But.set _ _ _), ((ButL.of (l := l) (show Below w.heap.size w (w.alloc (.cells #[.int .i64 0] 32)) from (by repeat' (first | (with_reducible exact Below.refl _ _) | (with_reducible assumption) | (with_reducible refine below_alloc ?_ _ ?_) | (with_reducible refine below_set _ ?_ ?_) | (with_reducible refine Below.drew ?_) | (with_reducible refine below_dN ?_ _) | (apply below_thenA; assumption) | omega | (simp; done) | (simp; omega) | (simp [*]; done))))).trans hbut).setNew (Nat.le_refl _) _ _⟩
/-- What a call of Main leaves in two boxes. -/
def MnRel (b1 b2 k : Nat) (L ms : List Int) (B : Nat) (W : World) : Prop :=
  ∃ ao c g2, Blk W b1 #[.slice ao k c] 31 ∧ Blk W b2 #[.slice (some ⟨g2, 0, none⟩) k k] 62 ∧ RowI W ao k L ∧ (∀ g off, ao = some ⟨g, off, none⟩ → B < g) ∧ B < g2 ∧ BlkM W g2 ms
theorem MnRel.but {b1 b2 k : Nat} {L ms : List Int} {B : Nat} {W W' : World} (h : MnRel b1 b2 k L ms B W) (hb : But B W W') (h1 : b1 < B) (h2 : b2 < B) : MnRel b1 b2 k L ms B W' := by
  obtain ⟨ao, c, g2, q1, q2, q3, q4, q5, q6⟩ := h
  exact ⟨ao, c, g2, q1.but hb (by omega), q2.but hb (by omega), q3.but hb (fun g off e => by have := q4 g off e; omega), q4, q5, Blk.but q6 hb (by omega)⟩
theorem MnRel.put {b1 b2 k : Nat} {L ms : List Int} {B : Nat} {W : World} {ao : Option Addr} {c g2 : Nat} {v1 v2 : Value} (h1 : Blk W b1 #[v1] 31) (h2 : Blk W b2 #[v2] 62) (h12 : b1 ≠ b2) (l1 : b1 ≤ B) (l2 : b2 ≤ B)
    (hx : RowI W ao k L) (hf : ∀ g off, ao = some ⟨g, off, none⟩ → B < g) (hg : B < g2) (hm : BlkM W g2 ms) :
    MnRel b1 b2 k L ms B ((W.setCell ⟨b1, 0, none⟩ (.slice ao k c)).setCell ⟨b2, 0, none⟩ (.slice (some ⟨g2, 0, none⟩) k k)) := by
  have s1 := h1.set 0 (.slice ao k c)
  have s2 := (h2.other (c := b1) (by omega) 0 (.slice ao k c)).set 0 (.slice (some ⟨g2, 0, none⟩) k k)
  refine ⟨ao, c, g2, s1.other h12 _ _, s2, (hx.but (But.set _ _ _) (fun g off e => by have := hf g off e; omega)).but (But.set _ _ _) (fun g off e => by have := hf g off e; omega), hf, hg, (Blk.other hm (by omega) _ _).other (by omega) _ _⟩
set_option maxRecDepth 100000 in
set_option maxHeartbeats 1600000 in
theorem speaks20a (b1 b2 : Nat) (W : World) (h12 : b1 ≠ b2) (v1 v2 : Value) (h1 : Blk W b1 #[v1] 31) (h2 : Blk W b2 #[v2] 62) (B : Nat) (hB : B < W.heap.size) (l1 : b1 ≤ B) (l2 : b2 ≤ B) :
    Calls Try.prog 64 #[.pointer (some ⟨b1, 0, none⟩), .pointer (some ⟨b2, 0, none⟩)] W fun e W' => e = .returned (.tuple #[]) ∧ MnRel b1 b2 2 [4, 25] [0, 0, 0, 0] B W' ∧ ButL [b1, b2] W W' := by
  have HL : Lim [10, 20] 2 50 2 := ⟨by omega, fun i => by
    match i with
    | 0 => decide
    | 1 => decide
    | i + 2 => exact ⟨by simp [List.getD], by simp [List.getD]⟩, by omega, by omega⟩
  have MN := fun g W (h : Blk W g #[.int .i64 10, .int .i64 20] 2) => flx_main (some ⟨g, 0, none⟩) none 2 2 0 0 [10, 20] [] 50 2 5 HL (by omega) (by omega) rfl W (row_of_blk [10, 20] 2 rfl h rfl) (RowV.nil _ _ _)
  rw [show mnAt [10, 20] [] 2 50 2 5 = [4, 25] by decide, show mnMs [10, 20] [] 2 50 2 = [0, 0, 0, 0] by decide] at MN
  have l1' := h1.lt
  have l2' := h2.lt
  obtain ⟨Q, eQ⟩ : ∃ Q : Ending → World → Prop, Q = fun e W' => e = .returned (.tuple #[]) ∧ MnRel b1 b2 2 [4, 25] [0, 0, 0, 0] B W' ∧ ButL [b1, b2] W W' := ⟨_, rfl⟩
  rw [← eQ]
  have EQ := Lib.hid eQ
  have H1 := Lib.hid h1
  have H2 := Lib.hid h2
  have h21 : b2 ≠ b1 := fun e => h12 e.symm
  clear eQ h1 h2 HL
  go_enter Try.func64, Try.ntmps64
  go_wp2_with fail
  refine (MN _ _ (Blk.new W _ _ _ rfl)).mono ?_
  rintro e w1 ⟨a1, c1, g2, rfl, hg, hx, hf, hm, hb⟩
  have hsA : (W.alloc (.cells #[.int .i64 10, .int .i64 20] 2)).heap.size = W.heap.size + 1 := by simp
  have hb0 : Below W.heap.size W (W.alloc (.cells #[.int .i64 10, .int .i64 20] 2)) := (by repeat' (first | (with_reducible exact Below.refl _ _) | (with_reducible assumption) | (with_reducible refine below_alloc ?_ _ ?_) | (with_reducible refine below_set _ ?_ ?_) | (with_reducible refine Below.drew ?_) | (with_reducible refine below_dN ?_ _) | (apply below_thenA; assumption) | omega | (simp; done) | (simp; omega) | (simp [*]; done)))
  have hbb := hb0.trans (hb.mono (by omega))
  have h1 := H1.out.below hbb
  have h2 := H2.out.below hbb
  have c1' := h1.cell 0 _ rfl
  have c2' := h2.cell 0 _ rfl
  have f1' := h1.free 0
  have f2' := h2.free 0
  have hR : MnRel b1 b2 2 [4, 25] [0, 0, 0, 0] B ((w1.setCell ⟨b1, 0, none⟩ (.slice a1 2 c1)).setCell ⟨b2, 0, none⟩ (.slice (some ⟨g2, 0, none⟩) 2 2)) :=
    MnRel.put h1 h2 h12 l1 l2 hx (fun g off e => by have := hf g off e; omega) (by omega) hm
  have hBt : ButL [b1, b2] W ((w1.setCell ⟨b1, 0, none⟩ (.slice a1 2 c1)).setCell ⟨b2, 0, none⟩ (.slice (some ⟨g2, 0, none⟩) 2 2)) :=
    ((ButL.of hbb).trans (ButL.set _ _ _ (by simp))).trans (ButL.set _ _ _ (by simp))
  have HR := Lib.hid hR
  have HT := Lib.hid hBt
  clear hR hBt h1 h2 hx hf hm hb hb0 hbb hsA
  go_wp2_with fail
  go_end0
  rw [EQ.out]
  exact ⟨rfl, HR.out, HT.out⟩
set_option maxRecDepth 100000 in
set_option maxHeartbeats 1600000 in
theorem speaks20 (w : World) : Calls Try.prog 34 #[] w fun e w' => e = .returned (.bool true) ∧ Below w.heap.size w w' := by
  have hmf : ∀ (fn : Fn) (first cap : Array Value) (w : World), (Instr.makeFunc fn first cap).run Try.prog w = .ok (.func fn first cap) w := fun _ _ _ _ => rfl
  have eqA := eq_arr2
  have h1 : Blk ((w.alloc (.cells #[.slice none 0 0] 31)).alloc (.cells #[.slice none 0 0] 62)) w.heap.size #[.slice none 0 0] 31 := (Blk.new w _ _ _ rfl).alloc _
  have h2 : Blk ((w.alloc (.cells #[.slice none 0 0] 31)).alloc (.cells #[.slice none 0 0] 62)) (w.heap.size + 1) #[.slice none 0 0] 62 := Blk.new _ _ _ _ (by simp)
  have hB : Below w.heap.size w ((w.alloc (.cells #[.slice none 0 0] 31)).alloc (.cells #[.slice none 0 0] 62)) := (by repeat' (first | (with_reducible exact Below.refl _ _) | (with_reducible assumption) | (with_reducible refine below_alloc ?_ _ ?_) | (with_reducible refine below_set _ ?_ ?_) | (with_reducible refine Below.drew ?_) | (with_reducible refine below_dN ?_ _) | (apply below_thenA; assumption) | omega | (simp; done) | (simp; omega) | (simp [*]; done)))
  have hs : ((w.alloc (.cells #[.slice none 0 0] 31)).alloc (.cells #[.slice none 0 0] 62)).heap.size = w.heap.size + 2 := by simp
  obtain ⟨W0, eW⟩ : ∃ W0, (w.alloc (.cells #[.slice none 0 0] 31)).alloc (.cells #[.slice none 0 0] 62) = W0 := ⟨_, rfl⟩
  rw [eW] at h1 h2 hB hs
  have TR := try_rel 64 #[.pointer (some ⟨w.heap.size, 0, none⟩), .pointer (some ⟨w.heap.size + 1, 0, none⟩)] 0 [w.heap.size, w.heap.size + 1] W0 (MnRel w.heap.size (w.heap.size + 1) 2 [4, 25] [0, 0, 0, 0] W0.heap.size)
    (fun b hb => by simp at hb; omega) (fun W W' h hb => h.but hb (by omega) (by omega)) (fun w => enters_of Try.func64 (by kernel_rfl) rfl _ w)
    (fun W hb hlt => (speaks20a w.heap.size (w.heap.size + 1) W (by omega) _ _ (h1.below hb) (h2.below hb) W0.heap.size hlt (by omega) (by omega)).mono fun e W' h => ⟨fun _ => ⟨h.1, h.2.1⟩, fun h => absurd rfl h, h.2.2⟩)
  have SM := fun ao ca g W (hx : RowI W ao 2 [4, 25]) (h : Blk W g #[.int .i64 4, .int .i64 25] 2) => same20 ao (some ⟨g, 0, none⟩) 2 ca 2 [4, 25] (by omega) W hx (row_of_blk [4, 25] 2 rfl h rfl)
  have HS := Lib.hid hs
  clear h1 h2 hs
  go_enter Try.func34, Try.ntmps34
  go_wp2_with fail
  refine TR.mono ?_
  rintro e w1 ⟨rfl, hr, hbt⟩
  obtain ⟨ao, c, g2, q1, q2, q3, q4, q5, q6⟩ := hr (by first | trivial | rfl)
  have hB1 : Below w.heap.size w w1 := hbt.to hB (by simp) hB.size
  have c1 := q1.cell 0 _ rfl
  have c2 := q2.cell 0 _ rfl
  have m0 := BlkM.cell q6 (i := 0) (by simp)
  have m1 := BlkM.cell q6 (i := 1) (by simp)
  have Q2 := Lib.hid q2
  have Q6 := Lib.hid q6
  have hbn : Below w1.heap.size w1 (w1.alloc (.cells #[.int .i64 4, .int .i64 25] 2)) := (by repeat' (first | (with_reducible exact Below.refl _ _) | (with_reducible assumption) | (with_reducible refine below_alloc ?_ _ ?_) | (with_reducible refine below_set _ ?_ ?_) | (with_reducible refine Below.drew ?_) | (with_reducible refine below_dN ?_ _) | (apply below_thenA; assumption) | omega | (simp; done) | (simp; omega) | (simp [*]; done)))
  have hx := q3.below hbn
  have hy := Blk.new w1 #[.int .i64 4, .int .i64 25] 2 _ rfl
  clear hr hbt TR q2 q6
  go_wp2_with fail
  refine (SM _ _ _ _ hx hy).mono ?_
  rintro e w2 ⟨rfl, hb⟩
  have hb2 := hbn.trans (hb.mono hbn.size)
  replace hB1 := hB1.trans (hb2.mono hB1.size)
  have k2 := Q2.out.below hb2
  have k6 := BlkM.below Q6.out hb2
  have c2 := k2.cell 0 _ rfl
  have m0 := BlkM.cell k6 (i := 0) (by simp)
  have m1 := BlkM.cell k6 (i := 1) (by simp)
  have m0 : w2.cell? ⟨g2, 0, none⟩ = some (.int .i64 0) := m0
  have m1 : w2.cell? ⟨g2, 1, none⟩ = some (.int .i64 0) := m1
  clear hb hb2 hbn hx hy k2 k6
  go_wp2_with fail
  go_ret
  exact ⟨rfl, hB1⟩
end Go.Proofs.Ythofammjbicogaa
namespace Go.Proofs.Ythofammjbicogaa
open Go.RowKit
set_option linter.unusedSimpArgs false
set_option linter.unusedVariables false

theorem eq_bool2 (a b a' b' : Bool) (w : World) : (Op.equalIn 10000 71 (.agg #[.bool a, .bool b]) (.agg #[.bool a', .bool b'])).run Try.prog w = .ok (a == a' && b == b') w := by
  have u3 := Try.underlying4
  have a3 := Try.isAgg4
  have z3 := Try.sizeOf4
  rw [show (10000 : Nat) = 9999 + 1 from rfl, Op.equalIn]
  simp only [Sem.run_bind, run_underlying Try.underlying71, Result.andThen_ok]
  simp only [Std.Legacy.Range.forIn_eq_forIn_range', Std.Legacy.Range.size, Nat.sub_zero, Nat.add_sub_cancel, Nat.div_one, List.range'_succ, List.range'_zero, List.forIn_cons, List.forIn_nil]
  go_simp
  cases a <;> cases b <;> cases a' <;> cases b' <;> simp
def alN (f : Int) (a b : Bool) (al : Int) : Int := if a || b then 0 else if al = 3 then f else if al = 4 then f / 2 else 0
def alM (f : Int) (a b : Bool) : Int × Int :=
  if a && b then (max f 0 / 2, max f 0 - max f 0 / 2) else if a then (max f 0, 0) else if b then (0, max f 0) else (0, 0)
set_option maxRecDepth 100000 in
set_option maxHeartbeats 3200000 in
theorem flx_align (s r al : Int) (a b : Bool) (hs : IFit s) (hr : IFit r) (w : World) :
    Calls Try.prog 48 #[.int .i64 s, .int .i64 r, .agg #[.bool a, .bool b], .int .i64 al] w fun e w' =>
      (lenE (r - s) = 0 → e = .returned (.tuple #[.int .i64 (alN (r - s) a b al), .agg #[.int .i64 ((alM (r - s) a b).1), .int .i64 ((alM (r - s) a b).2)]])) ∧ (lenE (r - s) ≠ 0 → e = .panicked (gave (lenE (r - s)))) ∧ Below w.heap.size w w' := by
  have SB := fun W => fix_sub r s hr hs W
  have eN : lenE (r - s) = 0 → lenN (r - s) = r - s := fun h => by unfold lenN lenE at *; cases h2 : lenB (r - s) <;> simp [h2] at h ⊢
  have eL : lenE (r - s) = 0 → LenB (r - s) := fun h => by unfold lenE at h; cases h2 : lenB (r - s) <;> simp [h2] at h; exact (lenB_iff _).1 h2
  obtain ⟨f, ef⟩ : ∃ f, r - s = f := ⟨_, rfl⟩
  obtain ⟨E, eE⟩ : ∃ E, lenE f = E := ⟨_, rfl⟩
  obtain ⟨N, eNN⟩ : ∃ E, lenN f = E := ⟨_, rfl⟩
  rw [ef] at SB eN eL ⊢
  rw [eE, eNN] at SB eN
  rw [eE] at eL ⊢
  obtain ⟨Q, eQ⟩ : ∃ Q : Ending → World → Prop, Q = fun e w' => (E = 0 → e = .returned (.tuple #[.int .i64 (alN f a b al), .agg #[.int .i64 ((alM f a b).1), .int .i64 ((alM f a b).2)]])) ∧ (E ≠ 0 → e = .panicked (gave E)) ∧ Below w.heap.size w w' := ⟨_, rfl⟩
  rw [← eQ]
  have EQ := Lib.hid eQ
  clear eQ eE eNN ef hs hr
  have eb2 := eq_bool2
  obtain ⟨W, eW⟩ : ∃ W, (w.alloc (.cells #[.bool a, .bool b] 71)).alloc (.cells #[.int .i64 0, .int .i64 0] 66) = W := ⟨_, rfl⟩
  have b1 : Blk W w.heap.size #[.bool a, .bool b] 71 := by rw [← eW]; exact (Blk.new w _ _ _ rfl).alloc _
  have b2 : Blk W (w.heap.size + 1) #[.int .i64 0, .int .i64 0] 66 := by rw [← eW]; exact Blk.new _ _ _ _ (by simp)
  have hB : Below w.heap.size w W := by rw [← eW]; exact (by repeat' (first | (with_reducible exact Below.refl _ _) | (with_reducible assumption) | (with_reducible refine below_alloc ?_ _ ?_) | (with_reducible refine below_set _ ?_ ?_) | (with_reducible refine Below.drew ?_) | (with_reducible refine below_dN ?_ _) | (apply below_thenA; assumption) | omega | (simp; done) | (simp; omega) | (simp [*]; done)))
  have hW : W.heap.size = w.heap.size + 2 := by rw [← eW]; simp
  have EW := Lib.hid eW
  go_enter Try.func48, Try.ntmps48
  go_wp2_with fail
  refine (SB _).mono ?_
  rintro e w1 ⟨g1, g2, hb⟩
  have hs1 := hb.size
  replace b1 := b1.below hb
  replace b2 := b2.below hb
  replace hB := hB.trans (hb.mono hB.size)
  clear hb SB
  by_cases hE : E = 0
  · obtain rfl := g1 hE
    obtain rfl := eN hE
    have hL := eL hE
    have HE := Lib.hid hE
    clear g1 g2 eN eL hE
    have b3 := Blk.new w1 #[.int .i64 0, .int .i64 0] 66 _ rfl
    have b1 : Blk (w1.alloc (.cells #[.int .i64 0, .int .i64 0] 66)) w.heap.size #[.bool a, .bool b] 71 := b1.alloc _
    have b2 : Blk (w1.alloc (.cells #[.int .i64 0, .int .i64 0] 66)) (w.heap.size + 1) #[.int .i64 0, .int .i64 0] 66 := b2.alloc _
    have hB : Below w.heap.size w (w1.alloc (.cells #[.int .i64 0, .int .i64 0] 66)) := (by repeat' (first | (with_reducible exact Below.refl _ _) | (with_reducible assumption) | (with_reducible refine below_alloc ?_ _ ?_) | (with_reducible refine below_set _ ?_ ?_) | (with_reducible refine Below.drew ?_) | (with_reducible refine below_dN ?_ _) | (apply below_thenA; assumption) | omega | (simp; done) | (simp; omega) | (simp [*]; done)))
    obtain ⟨W1, eW1⟩ : ∃ W, w1.alloc (.cells #[.int .i64 0, .int .i64 0] 66) = W := ⟨_, rfl⟩
    rw [eW1] at b1 b2 b3 hB
    have c1 := b1.cell 0 _ rfl
    have c2 := b1.cell 1 _ rfl
    have c3 := b2.cell 0 _ rfl
    have c4 := b2.cell 1 _ rfl
    have c5 := b3.cell 0 _ rfl
    have c6 := b3.cell 1 _ rfl
    have f3 := b2.free 0
    have f4 := b2.free 1
    have f5 := b3.free 0
    have f6 := b3.free 1
    have n1 : w1.heap.size ≠ w.heap.size + 1 := by omega
    have n2 : w.heap.size + 1 ≠ w1.heap.size := by omega
    have hB2 : ∀ x y, Below w.heap.size w ((W1.setCell ⟨w.heap.size + 1, 0, none⟩ x).setCell ⟨w.heap.size + 1, 1, none⟩ y) := fun x y => (hB.setCell (p := ⟨w.heap.size + 1, 0, none⟩) (Nat.le_succ _) _).setCell (p := ⟨w.heap.size + 1, 1, none⟩) (Nat.le_succ _) _
    clear b1
    have c7 : ∀ X x y, Blk X (w.heap.size + 1) #[.int .i64 0, .int .i64 0] 66 → ((X.setCell ⟨w.heap.size + 1, 0, none⟩ x).setCell ⟨w.heap.size + 1, 1, none⟩ y).cell? ⟨w.heap.size + 1, 0, none⟩ = some x := fun X x y b => ((b.set 0 x).set 1 y).cell 0 _ rfl
    have c8 : ∀ X x y, Blk X (w.heap.size + 1) #[.int .i64 0, .int .i64 0] 66 → ((X.setCell ⟨w.heap.size + 1, 0, none⟩ x).setCell ⟨w.heap.size + 1, 1, none⟩ y).cell? ⟨w.heap.size + 1, 1, none⟩ = some y := fun X x y b => ((b.set 0 x).set 1 y).cell 1 _ rfl
    have hB3 : ∀ i z x y, Below w.heap.size w (((W1.setCell ⟨w1.heap.size, i, none⟩ z).setCell ⟨w.heap.size + 1, 0, none⟩ x).setCell ⟨w.heap.size + 1, 1, none⟩ y) := fun i z x y => ((hB.setCell (p := ⟨w1.heap.size, i, none⟩) (show w.heap.size ≤ w1.heap.size by omega) _).setCell (p := ⟨w.heap.size + 1, 0, none⟩) (Nat.le_succ _) _).setCell (p := ⟨w.heap.size + 1, 1, none⟩) (Nat.le_succ _) _
    have b3 : ∀ i z, Blk (W1.setCell ⟨w1.heap.size, i, none⟩ z) (w.heap.size + 1) #[.int .i64 0, .int .i64 0] 66 := fun i z => b2.other n2 _ _
    have C7 := Lib.hid c7
    have C8 := Lib.hid c8
    have HB2 := Lib.hid hB2
    have HB3 := Lib.hid hB3
    have B2 := Lib.hid b2
    have B3 := Lib.hid b3
    clear c7 c8 b2 b3 hB2 hB3
    cases a <;> cases b
    · have c7 := C7.out W1 (.int .i64 0) (.int .i64 0) B2.out
      have c8 := C8.out W1 (.int .i64 0) (.int .i64 0) B2.out
      by_cases h3 : al = 3
      · subst h3
        go_wp2_with fail
        go_region
        all_goals
          go_wp2_with fail
          go_light
          simp [bodyPost, results, Try.results48, go_sem, c7, c8]
          rw [EQ.out]
          refine ⟨fun _ => by simp [alN, alM], fun h => absurd HE.out h, ?_⟩
          exact (HB2.out _ _).drew
      · by_cases h4 : al = 4
        · subst h4
          go_wp2_with fail
          go_region
          all_goals
            go_wp2_with fail
            go_light
            simp [bodyPost, results, Try.results48, go_sem, c7, c8]
            rw [EQ.out]
            refine ⟨fun _ => by simp [alN, alM], fun h => absurd HE.out h, ?_⟩
            exact (HB2.out _ _).drew
        · go_wp2_with fail
          go_region
          all_goals
            go_wp2_with fail
            go_light
            simp [bodyPost, results, Try.results48, go_sem, c7, c8]
            rw [EQ.out]
            refine ⟨fun _ => by simp [alN, alM, h3, h4], fun h => absurd HE.out h, ?_⟩
            exact (HB2.out _ _).drew
    · have c7 := C7.out _ (.int .i64 0) (.int .i64 (max N 0)) (B3.out 1 (.int .i64 (max N 0)))
      have c8 := C8.out _ (.int .i64 0) (.int .i64 (max N 0)) (B3.out 1 (.int .i64 (max N 0)))
      go_wp2_with fail
      go_region
      all_goals
        go_wp2_with fail
        go_light
        simp [bodyPost, results, Try.results48, go_sem, c7, c8]
        rw [EQ.out]
        refine ⟨fun _ => by simp [alN, alM], fun h => absurd HE.out h, ?_⟩
        exact (HB3.out _ _ _ _).drew
    · have c7 := C7.out _ (.int .i64 (max N 0)) (.int .i64 0) (B3.out 0 (.int .i64 (max N 0)))
      have c8 := C8.out _ (.int .i64 (max N 0)) (.int .i64 0) (B3.out 0 (.int .i64 (max N 0)))
      go_wp2_with fail
      go_region
      all_goals
        go_wp2_with fail
        go_light
        simp [bodyPost, results, Try.results48, go_sem, c7, c8]
        rw [EQ.out]
        refine ⟨fun _ => by simp [alN, alM], fun h => absurd HE.out h, ?_⟩
        exact (HB3.out _ _ _ _).drew
    · have hwr : wrap64 (max N 0 - max N 0 / 2) = max N 0 - max N 0 / 2 := by unfold LenB at hL; simp only [wrap64]; omega
      have EWR := Lib.hid hwr
      clear hwr
      have c7 := C7.out W1 (.int .i64 (max N 0 / 2)) (.int .i64 (max N 0 - max N 0 / 2)) B2.out
      have c8 := C8.out W1 (.int .i64 (max N 0 / 2)) (.int .i64 (max N 0 - max N 0 / 2)) B2.out
      go_wp2_with fail
      rw [EWR.out]
      go_light
      simp [bodyPost, results, Try.results48, go_sem, c7, c8]
      rw [EQ.out]
      refine ⟨fun _ => by simp [alN, alM], fun h => absurd HE.out h, ?_⟩
      exact HB2.out _ _
  · obtain rfl := g2 hE
    clear g1 g2 eN eL
    go_wp2_with fail
    rw [EQ.out]
    exact ⟨rfl, fun h => absurd h hE, fun _ => rfl, hB⟩
end Go.Proofs.Ythofammjbicogaa
namespace Go.Proofs.Ythofammjbicogaa
open Go.RowKit
set_option linter.unusedSimpArgs false
set_option linter.unusedVariables false

theorem half_eq (n : Int) : (n - (n.tmod 2 + 2).tmod 2).tdiv 2 = n / 2 := by
  have h1 : n.tmod 2 = n - 2 * n.tdiv 2 := by have := Int.tmod_add_mul_tdiv n 2; omega
  have h2 : (n.tmod 2 + 2).tmod 2 = n % 2 := by
    rw [Int.tmod_eq_emod_of_nonneg (by have := Int.tmod_lt_of_pos n (show (0 : Int) < 2 by decide); have := Int.lt_tmod_of_pos n (show (0 : Int) < 2 by decide); omega)]
    omega
  rw [h2]
  have h3 : n - n % 2 = 2 * (n / 2) := by omega
  rw [h3, Int.mul_tdiv_cancel_left _ (by decide)]
set_option maxRecDepth 100000 in
set_option maxHeartbeats 1600000 in
theorem ref20_half (n : Int) (hn : LenB n) (w : World) : Calls Try.prog 82 #[.int .i64 n] w fun e w' => e = .returned (.int .i64 (n / 2)) ∧ w' = w := by
  have h1 := half_eq n
  have t1 := Int.tmod_lt_of_pos n (show (0 : Int) < 2 by decide)
  have t2 := Int.lt_tmod_of_pos n (show (0 : Int) < 2 by decide)
  obtain ⟨m, em⟩ : ∃ m, n.tmod 2 = m := ⟨_, rfl⟩
  rw [em] at h1 t1 t2
  have t3 := Int.tmod_lt_of_pos (m + 2) (show (0 : Int) < 2 by decide)
  have t4 : 0 ≤ (m + 2).tmod 2 := Int.tmod_nonneg _ (by omega)
  obtain ⟨k, ek⟩ : ∃ k, (m + 2).tmod 2 = k := ⟨_, rfl⟩
  rw [ek] at h1 t3 t4
  have w1 : wrap64 (m + 2) = m + 2 := by simp only [wrap64]; omega
  have w2 : wrap64 (n - k) = n - k := by unfold LenB at hn; simp only [wrap64]; omega
  have w3 : wrap64 (n / 2) = n / 2 := by unfold LenB at hn; simp only [wrap64]; omega
  clear t1 t2 t3 t4 hn
  go_enter Try.func82, Try.ntmps82
  go_wp2_with fail
  go_ret
  exact ⟨by rw [w3]; rfl, rfl⟩
set_option maxRecDepth 100000 in
set_option maxHeartbeats 1600000 in
theorem ref20_align (s r al f : Int) (a b : Bool) (ef : r - s = f) (hf : LenB f) (w : World) :
    Calls Try.prog 49 #[.int .i64 s, .int .i64 r, .bool a, .bool b, .int .i64 al] w fun e w' => e = .returned (.tuple #[.int .i64 (alN f a b al), .int .i64 ((alM f a b).1), .int .i64 ((alM f a b).2)]) ∧ w' = w := by
  have hw : wrap64 (r - s) = f := by rw [ef]; unfold LenB at hf; simp only [wrap64]; omega
  obtain ⟨Q, eQ⟩ : ∃ Q : Ending → World → Prop, Q = fun e w' => e = .returned (.tuple #[.int .i64 (alN f a b al), .int .i64 ((alM f a b).1), .int .i64 ((alM f a b).2)]) ∧ w' = w := ⟨_, rfl⟩
  rw [← eQ]
  have EQ := Lib.hid eQ
  have HF := fun n h W => ref20_half n h W
  have h0 : LenB 0 := by unfold LenB; omega
  clear eQ ef
  by_cases hn : f < 0
  · have hm : max f 0 = 0 := by omega
    have hw2 : wrap64 (f - f / 2) = f - f / 2 := by unfold LenB at hf; simp only [wrap64]; omega
    cases a <;> cases b
    · by_cases h3 : al = 3
      · subst h3
        go_enter Try.func49, Try.ntmps49
        go_wp2_with fail
        rw [EQ.out]
        simp [alN, alM, hw]
      · by_cases h4 : al = 4
        · subst h4
          go_enter Try.func49, Try.ntmps49
          go_wp2_with fail
          refine (HF _ hf _).mono ?_
          rintro e w1 ⟨rfl, rfl⟩
          go_wp2_with fail
          rw [EQ.out]
          simp [alN, alM, hw]
        · go_enter Try.func49, Try.ntmps49
          go_wp2_with fail
          rw [EQ.out]
          simp [alN, alM, h3, h4]
    · go_enter Try.func49, Try.ntmps49
      go_wp2_with fail
      rw [EQ.out]
      simp [alN, alM, hm, hw2]
    · go_enter Try.func49, Try.ntmps49
      go_wp2_with fail
      rw [EQ.out]
      simp [alN, alM, hm, hw2]
    · go_enter Try.func49, Try.ntmps49
      go_wp2_with fail
      refine (HF _ h0 _).mono ?_
      rintro e w1 ⟨rfl, rfl⟩
      go_wp2_with fail
      refine (HF _ h0 _).mono ?_
      rintro e w1 ⟨rfl, rfl⟩
      go_wp2_with fail
      rw [EQ.out]
      simp [alN, alM, hm, hw2]
  · have hm : max f 0 = f := by omega
    have hw2 : wrap64 (f - f / 2) = f - f / 2 := by unfold LenB at hf; simp only [wrap64]; omega
    cases a <;> cases b
    · by_cases h3 : al = 3
      · subst h3
        go_enter Try.func49, Try.ntmps49
        go_wp2_with fail
        rw [EQ.out]
        simp [alN, alM, hw]
      · by_cases h4 : al = 4
        · subst h4
          go_enter Try.func49, Try.ntmps49
          go_wp2_with fail
          refine (HF _ hf _).mono ?_
          rintro e w1 ⟨rfl, rfl⟩
          go_wp2_with fail
          rw [EQ.out]
          simp [alN, alM, hw]
        · go_enter Try.func49, Try.ntmps49
          go_wp2_with fail
          rw [EQ.out]
          simp [alN, alM, h3, h4]
    · go_enter Try.func49, Try.ntmps49
      go_wp2_with fail
      rw [EQ.out]
      simp [alN, alM, hm, hw2]
    · go_enter Try.func49, Try.ntmps49
      go_wp2_with fail
      rw [EQ.out]
      simp [alN, alM, hm, hw2]
    · go_enter Try.func49, Try.ntmps49
      go_wp2_with fail
      refine (HF _ hf _).mono ?_
      rintro e w1 ⟨rfl, rfl⟩
      go_wp2_with fail
      refine (HF _ hf _).mono ?_
      rintro e w1 ⟨rfl, rfl⟩
      go_wp2_with fail
      rw [EQ.out]
      simp [alN, alM, hm, hw2]
set_option maxRecDepth 100000 in
set_option maxHeartbeats 1600000 in
/-- The law's own function: what it leaves in two boxes. -/
theorem aligns1 (s r al : Int) (a b : Bool) (b0 b1 b2 b3 b4 b5 : Nat) (v4 v5 v6 : Value) (W : World) (hs : IFit s) (hr : IFit r) (h45 : b4 ≠ b5)
    (q0 : Blk W b0 #[.int .i64 s] 2) (q1 : Blk W b1 #[.int .i64 r] 2) (q2 : Blk W b2 #[.bool a, .bool b] 71) (q3 : Blk W b3 #[.int .i64 al] 3) (q4 : Blk W b4 #[v4] 2) (q5 : Blk W b5 #[v5, v6] 66) :
    Calls Try.prog 47 #[.pointer (some ⟨b0, 0, none⟩), .pointer (some ⟨b1, 0, none⟩), .pointer (some ⟨b2, 0, none⟩), .pointer (some ⟨b3, 0, none⟩), .pointer (some ⟨b4, 0, none⟩), .pointer (some ⟨b5, 0, none⟩)] W fun e W' =>
      (lenE (r - s) = 0 → e = .returned (.tuple #[])) ∧ (lenE (r - s) ≠ 0 → e = .panicked (gave (lenE (r - s)))) ∧
      BlkL W' [(b4, #[if lenE (r - s) = 0 then .int .i64 (alN (r - s) a b al) else v4], 2), (b5, if lenE (r - s) = 0 then #[.int .i64 ((alM (r - s) a b).1), .int .i64 ((alM (r - s) a b).2)] else #[v5, v6], 66)] ∧ ButL [b4, b5] W W' := by
  have AL := fun W => flx_align s r al a b hs hr W
  obtain ⟨E, eE⟩ : ∃ E, lenE (r - s) = E := ⟨_, rfl⟩
  obtain ⟨N, eN⟩ : ∃ E, alN (r - s) a b al = E := ⟨_, rfl⟩
  obtain ⟨M1, eM1⟩ : ∃ E, (alM (r - s) a b).1 = E := ⟨_, rfl⟩
  obtain ⟨M2, eM2⟩ : ∃ E, (alM (r - s) a b).2 = E := ⟨_, rfl⟩
  rw [eE, eN, eM1, eM2] at AL ⊢
  obtain ⟨Q, eQ⟩ : ∃ Q : Ending → World → Prop, Q = fun e W' => (E = 0 → e = .returned (.tuple #[])) ∧ (E ≠ 0 → e = .panicked (gave E)) ∧ BlkL W' [(b4, #[if E = 0 then .int .i64 N else v4], 2), (b5, if E = 0 then #[.int .i64 M1, .int .i64 M2] else #[v5, v6], 66)] ∧ ButL [b4, b5] W W' := ⟨_, rfl⟩
  rw [← eQ]
  have EQ := Lib.hid eQ
  clear eQ eE eN eM1 eM2 hs hr
  have c0 := q0.cell 0 _ rfl
  have c1 := q1.cell 0 _ rfl
  have c2 := q2.cell 0 _ rfl
  have c2b := q2.cell 1 _ rfl
  have c3 := q3.cell 0 _ rfl
  go_enter Try.func47, Try.ntmps47
  go_wp2_with fail
  refine (AL _).mono ?_
  rintro e w1 ⟨g1, g2, hb⟩
  have r4 := q4.below hb
  have r5 := q5.below hb
  clear AL c0 c1 c2 c2b c3
  by_cases hE : E = 0
  · obtain rfl := g1 hE
    have HE := Lib.hid hE
    clear g1 g2 hE
    have c4 := r4.cell 0 _ rfl
    have c5 := r5.cell 0 _ rfl
    have c6 := r5.cell 1 _ rfl
    have f4 := r4.free 0
    have f5 := r5.free 0
    have f6 := r5.free 1
    have hb2 : ButL [b4, b5] W (((w1.setCell ⟨b4, 0, none⟩ (.int .i64 N)).setCell ⟨b5, 0, none⟩ (.int .i64 M1)).setCell ⟨b5, 1, none⟩ (.int .i64 M2)) := ((((ButL.of hb).trans (ButL.set _ _ _ (by simp))).trans (ButL.set _ _ _ (by simp))).trans (ButL.set _ _ _ (by simp)))
    have k4 : Blk (((w1.setCell ⟨b4, 0, none⟩ (.int .i64 N)).setCell ⟨b5, 0, none⟩ (.int .i64 M1)).setCell ⟨b5, 1, none⟩ (.int .i64 M2)) b4 #[.int .i64 N] 2 := ((r4.set 0 (.int .i64 N)).other h45 _ _).other h45 _ _
    have k5 : Blk (((w1.setCell ⟨b4, 0, none⟩ (.int .i64 N)).setCell ⟨b5, 0, none⟩ (.int .i64 M1)).setCell ⟨b5, 1, none⟩ (.int .i64 M2)) b5 #[.int .i64 M1, .int .i64 M2] 66 := ((r5.other (fun e => h45 e.symm) _ _).set 0 (.int .i64 M1)).set 1 (.int .i64 M2)
    have h54 : b5 ≠ b4 := fun e => h45 e.symm
    have K4 := Lib.hid k4
    have K5 := Lib.hid k5
    have HB2 := Lib.hid hb2
    clear k4 k5 hb2 hb r4 r5 q0 q1 q2 q3 q4 q5
    go_wp2_with fail
    go_end0
    rw [EQ.out]
    refine ⟨fun _ => rfl, fun h => absurd HE.out h, ?_, HB2.out⟩
    intro e he
    rw [if_pos HE.out, if_pos HE.out] at he
    simp at he
    rcases he with rfl | rfl
    · exact K4.out
    · exact K5.out
  · obtain rfl := g2 hE
    have HE := Lib.hid hE
    clear g1 g2 hE
    go_wp2_with fail
    rw [EQ.out]
    refine ⟨rfl, fun h => absurd h HE.out, fun _ => rfl, ?_, ButL.of hb⟩
    intro e he
    rw [if_neg HE.out, if_neg HE.out] at he
    simp at he
    rcases he with rfl | rfl
    · exact r4
    · exact r5
end Go.Proofs.Ythofammjbicogaa
namespace Go.Proofs.Ythofammjbicogaa
open Go.RowKit
set_option linter.unusedSimpArgs false
set_option linter.unusedVariables false

set_option maxRecDepth 100000 in
set_option maxHeartbeats 1600000 in
theorem ref20_room (ao : Option Addr) (k cap : Nat) (xs : List Int) (avail gap : Int) (h : Lim xs k avail gap) (w : World) (hx : RowI w ao k xs) :
    Calls Try.prog 70 #[.slice ao k cap, .int .i64 avail, .int .i64 gap] w fun e w' => e = .returned (.int .i64 (roomV xs avail gap k)) ∧ Below w.heap.size w w' := by
  have HX := Lib.hid hx
  have HL := Lib.hid h
  have hk30 := h.k30
  clear hx h
  go_enter Try.func70, Try.ntmps70
  go_wp2_with fail
  go_loopg [1, 7] k (fun gk s1 s7 wr => ∃ (j : Nat) (r : Int), j ≤ k ∧ gk = k - j ∧ s1 = .int .i64 r ∧ s7 = .int .i64 ((j : Int)) ∧ r = roomV xs avail gap j ∧ Below w.heap.size w wr)
  case atStart => exact ⟨0, avail, by omega, by omega, rfl, rfl, (room_zero _ _ _).symm, Below.refl _ _⟩
  case round =>
    obtain ⟨j, r, hj, rfl, rfl, rfl, er, hB⟩ := hrel
    have hr := room_lim HL.out (show j ≤ 30 by omega)
    rw [← er] at hr
    have hr1 := hr.1
    have hr2 := hr.2
    have ER := Lib.hid er
    clear er hr
    by_cases hjk : j < k
    · have ix : (j : Int) < (k : Int) := by omega
      obtain ⟨g, off, rfl, _, hcx⟩ := (HX.out.below hB).at hjk
      have hx := HL.out.xs36 j
      have hg := HL.out.gp
      by_cases hj0 : j = 0
      · have en := room_one xs avail gap
        subst hj0
        rw [← ER.out] at en
        obtain ⟨x, ex⟩ : ∃ x, xs.getD 0 0 = x := ⟨_, rfl⟩
        rw [ex] at hcx hx en
        rw [Nat.add_zero] at hcx
        have hw1 : wrap64 (r - x) = r - x := by simp only [wrap64]; omega
        have EN := Lib.hid en
        have EW := Lib.hid hw1
        have hk0 : 0 < k := hjk
        clear ex en hw1
        go_wp2_with fail
        go_roundg (k - 1)
        case measure => omega
        case rel => exact ⟨1, r - x, by omega, by omega, by first | rfl | rw [EW.out], by go_num, EN.out.symm, hB⟩
      · have en := room_next xs avail gap j (by omega)
        rw [← ER.out] at en
        obtain ⟨x, ex⟩ : ∃ x, xs.getD j 0 = x := ⟨_, rfl⟩
        rw [ex] at hcx hx en
        have hj0' : (0 : Int) < (j : Int) := by omega
        have hjp : 0 < j := by omega
        have hw1 : wrap64 (r - x) = r - x := by simp only [wrap64]; omega
        have hw2 : wrap64 (r - x - gap) = r - gap - x := by simp only [wrap64]; omega
        have hw3 : wrap64 (wrap64 (r - x) - gap) = r - gap - x := by rw [hw1]; exact hw2
        have EN := Lib.hid en
        have EW := Lib.hid hw2
        have EW3 := Lib.hid hw3
        clear ex en hj0 hw1 hw2 hw3
        go_wp2_with fail
        go_roundg (k - (j + 1))
        case measure => omega
        case rel => exact ⟨j + 1, r - x - gap, by omega, rfl, by first | rfl | (rw [EW.out]; congr 1; omega) | (rw [EW3.out]; congr 1; omega), by go_num, by rw [EN.out]; omega, hB⟩
    · obtain rfl : j = k := by omega
      have ix : ¬ (j : Int) < (j : Int) := by omega
      go_wp2_with fail
      go_ret
      exact ⟨by rw [ER.out]; rfl, hB⟩
set_option maxRecDepth 100000 in
set_option maxHeartbeats 3200000 in
theorem ref20_places (ao so : Option Addr) (k cap m sc : Nat) (xs sp : List Int) (gap : Int) (hk30 : k ≤ 30) (hgp : -1073741824 ≤ gap ∧ gap ≤ 1073741824) (h : ∀ j, j ≤ k → -6597069766656 ≤ pre xs j ∧ pre xs j ≤ 6597069766656) (hkm : k ≤ m) (hsf : ∀ j, j ≤ k → -8796093022208 ≤ pre sp j ∧ pre sp j ≤ 8796093022208) (w : World) (hx : RowI w ao k xs) (hy : RowI w so m sp) :
    Calls Try.prog 72 #[.slice ao k cap, .slice so m sc, .int .i64 gap] w fun e w' => ∃ aj cj, e = .returned (.slice aj k cj) ∧ OwnI w' w.heap.size aj k cj (plN xs sp gap k) ∧ Below w.heap.size w w' := by
  obtain ⟨i0, hi, hz0, hz1, hz2⟩ := info_parts (show (Try.prog.info? 2).map (fun i => (i.zero, i.size, i.bytes)) = some (some (.int .i64 0), 1, 8) by kernel_rfl)
  obtain ⟨Q, eQ⟩ : ∃ Q : Ending → World → Prop, Q = fun e w' => ∃ aj cj, e = .returned (.slice aj k cj) ∧ OwnI w' w.heap.size aj k cj (plN xs sp gap k) ∧ Below w.heap.size w w' := ⟨_, rfl⟩
  rw [← eQ]
  have EQ := Lib.hid eQ
  have HX := Lib.hid hx
  have HY := Lib.hid hy
  have HL := Lib.hid h
  have HS := Lib.hid hsf
  have HG := Lib.hid hgp
  clear hx hy h hsf eQ
  go_enter Try.func72, Try.ntmps72
  go_wp2_with fail
  go_loopg [7, 8, 9] k (fun gk s7 s8 s9 wr => ∃ (j : Nat) (aj : Option Addr) (cj : Nat) (a : Int), j ≤ k ∧ gk = k - j ∧ s7 = .slice aj j cj ∧ s8 = .int .i64 a ∧ s9 = .int .i64 ((j : Int)) ∧ a = pre sp j + pre xs j + gap * (j : Int) ∧ OwnI wr w.heap.size aj j cj (plN xs sp gap j) ∧ Below w.heap.size w wr)
  case atStart => exact ⟨0, none, 0, 0, by omega, by omega, rfl, rfl, rfl, by simp [pre], OwnI.nil _ _, Below.refl _ _⟩
  case round =>
    obtain ⟨j, aj, cj, a, hj, rfl, rfl, rfl, rfl, ea, ho, hB⟩ := hrel
    have hsz := hB.size
    by_cases hjk : j < k
    · have ix : (j : Int) < (k : Int) := by omega
      have ixm : (j : Int) < (m : Int) := by omega
      obtain ⟨g, off, rfl, hg1, hcx⟩ := (HX.out).at hjk
      obtain ⟨g2, off2, rfl, hg2, hcy⟩ := (HY.out).at (show j < m by omega)
      have px := HL.out j (by omega)
      have px1 := HL.out (j + 1) (by omega)
      have gj := gap_lim HG.out (show j ≤ 30 by omega)
      have gj1 := gap_lim HG.out (show j + 1 ≤ 30 by omega)
      have s0 := HS.out j (by omega)
      have s1 := HS.out (j + 1) (by omega)
      have es1 : pre sp (j + 1) = pre sp j + sp.getD j 0 := rfl
      have ex1 : pre xs (j + 1) = pre xs j + xs.getD j 0 := rfl
      have eg1 : gap * ((j + 1 : Nat) : Int) = gap * (j : Int) + gap := by push_cast; rw [Int.mul_add, Int.mul_one]
      have hpl : plAt xs sp gap j = a + sp.getD j 0 := by unfold plAt; rw [es1, ea]; omega
      have hnx : pre sp (j + 1) + pre xs (j + 1) + gap * ((j + 1 : Nat) : Int) = a + sp.getD j 0 + (xs.getD j 0 + gap) := by rw [es1, ex1, eg1, ea]; omega
      obtain ⟨x, ex⟩ : ∃ x, xs.getD j 0 = x := ⟨_, rfl⟩
      obtain ⟨y, ey⟩ : ∃ y, sp.getD j 0 = y := ⟨_, rfl⟩
      rw [ex] at hcx ex1 hnx
      rw [ey] at hcy es1 hpl hnx
      have w1 : wrap64 (a + y) = a + y := by simp only [wrap64]; omega
      have w2 : wrap64 (x + gap) = x + gap := by simp only [wrap64]; omega
      have w3 : wrap64 (a + y + (x + gap)) = a + y + (x + gap) := by simp only [wrap64]; omega
      have W2 := Lib.hid w2
      have W3 := Lib.hid w3
      have hcx0 := (hB.cell (p := ⟨g, off + j, none⟩) hg1).trans hcx
      have hcy0 := (hB.cell (p := ⟨g2, off2 + j, none⟩) hg2).trans hcy
      have HPL := Lib.hid hpl
      have HNX := Lib.hid hnx
      have HCX := Lib.hid hcx
      clear ea px px1 gj gj1 s0 s1 es1 ex1 eg1 hpl hnx ex ey hcx hcy w2 w3
      have hsh := ho.shape
      go_wp2_with (at_builtin; refine wpList_append_own _ rfl _ _ 31 rfl w.heap.size 2 i0 (.int .i64 0) 1 8 Try.underlying31 hi hz0 hz1 hz2 rfl (by decide) _ _ _ rfl (ho.1.alloc _) ⟨wr.heap.size, 0, none⟩ 1 1 [.int .i64 (a + y)] rfl rfl ?c1 ?c2 ?c3 ?c4 ?c5 ?_)
      case c1 =>
        intro j u hj
        match j, hj with
        | 0, hj => simp at hj; subst hj; simp [Addr.add, w1]
      case c2 => intro u hu; simp at hu; subst hu; rfl
      case c3 => unfold maxLen; omega
      case c4 => omega
      case c5 => simp; omega
      intro v' w2 hown' hgrow _
      obtain ⟨ao', cap', rfl, ho', _, hB'⟩ := ho.grown hown' hgrow (by omega)
      replace hB := hB' _ _ (Nat.le_refl _) hB
      clear hown' hgrow hB' hsh hsz ho
      have hcx1 := (hB.cell (p := ⟨g, off + j, none⟩) hg1).trans HCX.out
      go_wp2_with fail
      go_roundg (k - (j + 1))
      case measure => omega
      case rel => exact ⟨j + 1, ao', cap', a + y + (x + gap), by omega, rfl, rfl, by first | rw [W2.out, W3.out] | rw [w1, W2.out, W3.out], by go_num, HNX.out.symm, by rw [plN_succ, HPL.out]; exact ho', hB⟩
    · obtain rfl : j = k := by omega
      have ix : ¬ (j : Int) < (j : Int) := by omega
      go_wp2_with fail
      rw [EQ.out]
      exact ⟨aj, cj, rfl, ho, hB⟩
set_option maxRecDepth 100000 in
set_option maxHeartbeats 1600000 in
theorem ref20_auto (ba : Option Addr) (m bc i q : Nat) (bs : List Bool) (hm : m ≤ 100) (hq : q < 2) (hbs : bs.length = m * 2) (w : World) (hr : RowV w ba m 2 (bools bs)) :
    Calls Try.prog 71 #[.slice ba m bc, .int .i64 ((i : Int)), .int .i64 ((q : Int))] w fun e w' => e = .returned (.bool (bs.getD (i * 2 + q) false)) ∧ w' = w := by
  have hq2 : (q : Int) < 2 := by omega
  by_cases h : i < m
  · obtain ⟨g, off, rfl, hg, hc⟩ := hr.at h
    have c0 := hc q hq
    rw [bools_get bs _ (by omega)] at c0
    have ix : (i : Int) < (m : Int) := by omega
    obtain ⟨x, ex⟩ : ∃ x, bs.getD (i * 2 + q) false = x := ⟨_, rfl⟩
    rw [ex] at c0 ⊢
    clear ex hc hr
    go_enter Try.func71, Try.ntmps71
    go_wp2_with fail
    go_ret
    exact ⟨rfl, rfl⟩
  · have e : bs.getD (i * 2 + q) false = false := by simp only [List.getD]; rw [List.getElem?_eq_none (by omega)]; rfl
    have ix : ¬ (i : Int) < (m : Int) := by omega
    rw [e]
    clear e hr
    go_enter Try.func71, Try.ntmps71
    go_wp2_with fail
    go_ret
    exact ⟨rfl, rfl⟩
theorem ones_succ (n : Nat) : ones (n + 1) = ones n ++ [1] := by unfold ones; rw [List.replicate_succ']
set_option maxRecDepth 100000 in
set_option maxHeartbeats 1600000 in
theorem ref20_even (t P : Int) (p : Nat) (hP : P = (p : Int)) (hp2 : p ≤ 1000) (ht : lenB t = true) (w : World) :
    Calls Try.prog 74 #[.int .i64 t, .int .i64 P] w fun e w' => ∃ ao cap, e = .returned (.slice ao p cap) ∧ RowI w' ao p (evL t p) ∧ p ≤ cap ∧ cap ≤ maxLen ∧ (∀ g off, ao = some ⟨g, off, none⟩ → w.heap.size ≤ g) ∧ Below w.heap.size w w' := by
  subst hP
  obtain ⟨i0, hi, hz0, hz1, hz2⟩ := info_parts (show (Try.prog.info? 2).map (fun i => (i.zero, i.size, i.bytes)) = some (some (.int .i64 0), 1, 8) by kernel_rfl)
  have hL := (lenB_iff t).1 ht
  have SP := fun ao cap W hx => ref5_split t ao p cap (ones p) (by omega) hL.fit (fits_ones p) W hx
  unfold SplitAns at SP
  rw [shE_one (by omega) ht, one_pre p p (Nat.le_refl _)] at SP
  obtain ⟨Q, eQ⟩ : ∃ Q : Ending → World → Prop, Q = fun e w' => ∃ ao cap, e = .returned (.slice ao p cap) ∧ RowI w' ao p (evL t p) ∧ p ≤ cap ∧ cap ≤ maxLen ∧ (∀ g off, ao = some ⟨g, off, none⟩ → w.heap.size ≤ g) ∧ Below w.heap.size w w' := ⟨_, rfl⟩
  rw [← eQ]
  have EQ := Lib.hid eQ
  clear ht hL eQ
  go_enter Try.func74, Try.ntmps74
  go_wp2_with fail
  go_loopg [5, 6] p (fun gk s5 s6 wr => ∃ (j : Nat) (aj : Option Addr) (cj : Nat), j ≤ p ∧ gk = p - j ∧ s5 = .slice aj j cj ∧ s6 = .int .i64 ((j : Int)) ∧ OwnI wr w.heap.size aj j cj (ones j) ∧ Below w.heap.size w wr)
  case atStart => exact ⟨0, none, 0, by omega, by omega, rfl, rfl, OwnI.nil _ _, Below.refl _ _⟩
  case round =>
    obtain ⟨j, aj, cj, hj, rfl, rfl, rfl, ho, hB⟩ := hrel
    have hsz := hB.size
    have hsh := ho.shape
    by_cases hjk : j < p
    · have ix : (j : Int) < (p : Int) := by omega
      go_wp2_with (at_builtin; refine wpList_append_own _ rfl _ _ 31 rfl w.heap.size 2 i0 (.int .i64 0) 1 8 Try.underlying31 hi hz0 hz1 hz2 rfl (by decide) _ _ _ rfl (ho.1.alloc _) ⟨wr.heap.size, 0, none⟩ 1 1 [.int .i64 1] rfl rfl ?c1 ?c2 ?c3 ?c4 ?c5 ?_)
      case c1 =>
        intro j u hj
        match j, hj with
        | 0, hj => simp at hj; subst hj; simp [Addr.add]
      case c2 => intro u hu; simp at hu; subst hu; rfl
      case c3 => unfold maxLen; omega
      case c4 => omega
      case c5 => simp; omega
      intro v' w2 hown' hgrow _
      obtain ⟨ao', cap', rfl, ho', _, hB'⟩ := ho.grown hown' hgrow (by omega)
      replace hB := hB' _ _ (Nat.le_refl _) hB
      clear hown' hgrow hB' hsh hsz ho
      go_wp2_with fail
      go_roundg (p - (j + 1))
      case measure => omega
      case rel => exact ⟨j + 1, ao', cap', by omega, rfl, rfl, by go_num, by rw [ones_succ]; exact ho', hB⟩
    · obtain rfl : j = p := by omega
      have ix : ¬ (j : Int) < (j : Int) := by omega
      have hrw := ho.row
      clear ho hsh
      go_wp2_with fail
      refine (SP _ _ _ hrw).mono ?_
      rintro e w2 ⟨a2, m, c2, ys, rfl, r1, q1, q2, h1, -, hb⟩
      obtain ⟨e2, rfl⟩ := h1 (by first | trivial | rfl)
      obtain rfl := e2.symm
      have hbb := hB.trans (hb.mono hB.size)
      clear hb h1 e2
      go_wp2_with fail
      rw [EQ.out]
      exact ⟨a2, c2, rfl, r1, q1, q2.1, fun g off e => Nat.le_trans hsz (q2.2 g off e), hbb⟩
end Go.Proofs.Ythofammjbicogaa
namespace Go.Proofs.Ythofammjbicogaa
open Go.RowKit
set_option linter.unusedSimpArgs false
set_option linter.unusedVariables false

theorem made1 (n : Nat) : (madeCells #[.int .i64 0] n).toList = i64s (List.replicate n 0) := by
  rw [toList_madeCells_one]
  simp [i64s]
theorem BlkI.made {w : World} {B g n : Nat} (h : w.ownsRow B 2 1 (.slice (some ⟨g, 0, none⟩) n n) n (madeCells #[.int .i64 0] n).toList) : BlkI w g (List.replicate n 0) := by
  rcases h.2 with ⟨e, _⟩ | ⟨g', c, cur, e, _, hg, hl, hm, hs, ht⟩
  · simp at e
  · obtain ⟨rfl, rfl⟩ : g = g' ∧ n = c := by simpa using e
    rw [List.take_of_length_le (by rw [Array.length_toList]; omega), made1] at ht
    unfold BlkI Blk
    rw [hg, ← ht]
theorem BlkI.lt {w : World} {g : Nat} {xs : List Int} (h : BlkI w g xs) : g < w.heap.size := Blk.lt h
/-- The parts laid from the second place on. -/
def midL (l : List Int) (n : Nat) : Nat → List Int
  | 0 => zerL n
  | j + 1 => (midL l n j).set (j + 1) (l.getD j 0)
theorem midL_len (l : List Int) (n : Nat) : ∀ j, (midL l n j).length = n + 1
  | 0 => by simp [midL, zerL]
  | j + 1 => by unfold midL; rw [List.length_set]; exact midL_len l n j
theorem midL_get (l : List Int) (n : Nat) : ∀ j, j < n → ∀ i, (midL l n j).getD i 0 = if 1 ≤ i ∧ i ≤ j then l.getD (i - 1) 0 else 0
  | 0, _, i => by
    rw [if_neg (by omega)]
    exact getD_rep _ _
  | j + 1, h, i => by
    show ((midL l n j).set (j + 1) (l.getD j 0)).getD i 0 = _
    rw [getD_set, midL_len, midL_get l n j (by omega) i]
    by_cases e : j + 1 = i
    · subst e
      rw [if_pos ⟨rfl, by omega⟩, if_pos (by omega)]
      rfl
    · rw [if_neg (fun x => e x.1)]
      by_cases h1 : 1 ≤ i ∧ i ≤ j
      · rw [if_pos h1, if_pos (by omega)]
      · rw [if_neg h1, if_neg (by omega)]
theorem between_get (l : List Int) (i : Nat) : (0 :: l ++ [0]).getD i 0 = if 1 ≤ i ∧ i ≤ l.length then l.getD (i - 1) 0 else 0 := by
  match i with
  | 0 => simp [List.getD]
  | i + 1 =>
    have e : (0 :: l ++ [0]).getD (i + 1) 0 = (l ++ [0]).getD i 0 := by simp [List.getD]
    rw [e]
    by_cases hi : i < l.length
    · rw [if_pos (by omega)]; simp [List.getD, List.getElem?_append_left hi]
    · rw [if_neg (by omega)]
      simp only [List.getD]
      rw [List.getElem?_append_right (by omega)]
      cases h2 : (i - l.length) with
      | zero => rfl
      | succ m => rfl
/-- What the reference's Spaces leaves: the same, but for the last. -/
def SpRef (f : Int) (n : Nat) (way : Int) (w : World) (e : Ending) (w' : World) : Prop :=
  ∃ ao cap L, e = .returned (.slice ao (n + 1) cap) ∧ RowI w' ao (n + 1) L ∧ (∀ i, i < n → L.getD i 0 = (spL f n way).getD i 0) ∧ Below w.heap.size w w'
theorem zset (n i : Nat) (y : Int) {j : Nat} (h : j ≠ i) : ((zerL n).set i y).getD j 0 = 0 := by
  rw [getD_set, if_neg (fun x => h x.1.symm)]
  exact getD_rep _ _
set_option maxRecDepth 100000 in
set_option maxHeartbeats 3200000 in
theorem ref20_plain (f way : Int) (n : Nat) (hn : 1 ≤ n) (hn2 : n ≤ 400) (hf : lenB f = true) (w : World)
    (h : way = 2 ∨ (way = 3 ∨ f ≤ 0 ∧ (way = 5 ∨ way = 6)) ∨ (way < 1 ∨ 6 < way ∨ way = 1 ∨ way = 4 ∧ f ≤ 0 ∨ way = 4 ∧ 0 < f ∧ n = 1)) :
    Calls Try.prog 73 #[.int .i64 f, .int .i64 ((n : Int)), .int .i64 way] w (SpRef f n way w) := by
  obtain ⟨i0, hi, hz0, hz1, hz2⟩ := info_parts (show (Try.prog.info? 2).map (fun i => (i.zero, i.size, i.bytes)) = some (some (.int .i64 0), 1, 8) by kernel_rfl)
  have hfin : ∀ W L, BlkI W w.heap.size L → L.length = n + 1 → (∀ i, i < n → L.getD i 0 = (spL f n way).getD i 0) → Below w.heap.size w W → SpRef f n way w (.returned (.slice (some ⟨w.heap.size, 0, none⟩) (n + 1) (n + 1))) W := fun W L h1 h2 h3 h4 => ⟨_, _, L, rfl, h1.row h2, h3, h4⟩
  have hsp : ∀ i, i < n → (spL f n way).getD i 0 = if i = 0 ∧ way = 2 then f else if i = 0 ∧ (way = 3 ∨ f ≤ 0 ∧ (way = 5 ∨ way = 6)) then f / 2 else 0 := by
    intro i hi
    unfold spL
    rcases h with h | h | h
    · rw [if_pos h, getD_set]
      by_cases e : i = 0
      · subst e; rw [if_pos ⟨rfl, by simp [zerL]⟩, if_pos ⟨rfl, h⟩]
      · rw [if_neg (fun x => e x.1.symm), if_neg (fun x => e x.1), if_neg (fun x => e x.1)]; exact getD_rep _ _
    · have h2 : way ≠ 2 := by omega
      rw [if_neg h2, if_pos h, getD_set]
      by_cases e : i = 0
      · subst e; rw [if_pos ⟨rfl, by simp [zerL]⟩, if_neg (fun x => h2 x.2), if_pos ⟨rfl, h⟩]
      · rw [if_neg (fun x => e x.1.symm), if_neg (fun x => e x.1), if_neg (fun x => e x.1)]; exact getD_rep _ _
    · rw [if_neg (by omega), if_neg (by omega), if_neg (by omega), if_neg (by omega), if_neg (by omega), if_neg (by omega), if_neg (by omega)]
      exact getD_rep _ _
  have HH := fun W => ref20_half f ((lenB_iff f).1 hf) W
  have hfl := (lenB_iff f).1 hf
  unfold LenB at hfl
  have wr : wrap64 (f - f / 2) = f - f / 2 := by simp only [wrap64]; omega
  have wr2 : IntKind.i64.wrap (f - f / 2) = f - f / 2 := by simp [IntKind.wrap, IntKind.bits, IntKind.signed]; omega
  obtain ⟨Q, eQ⟩ : ∃ Q : Ending → World → Prop, Q = SpRef f n way w := ⟨_, rfl⟩
  rw [← eQ] at hfin ⊢
  have HFIN := Lib.hid hfin
  have HSP := Lib.hid hsp
  clear eQ hfin hsp hf hfl
  by_cases hn1 : n = 1
  · subst hn1
    rcases h with rfl | h | h
    · by_cases hf0 : f ≤ 0
      all_goals
        go_enter Try.func73, Try.ntmps73
        go_wp2_with (at_make; refine wpList_make_full _ rfl _ _ 31 rfl w.heap.size 2 i0 (.int .i64 0) 1 Try.underlying31 hi hz0 hz1 _ _ _ _ 2 rfl rfl rfl rfl (by rw [hz2]; omega) (by unfold maxLen; omega) (Nat.le_refl _) ?_)
        intro w1 hown hgr
        have hB : Below w.heap.size w w1 := (Below.refl _ w).grown hgr (Nat.le_refl _) (fun _ h => by cases h)
        have t7 : BlkI w1 w.heap.size (zerL 1) := BlkI.made hown
        have c0 := t7.cell (i := 0) (by simp [zerL])
        have c0 : w1.cell? ⟨w.heap.size, 0, none⟩ = some (.int .i64 0) := by rw [c0, zerL, getD_rep]
        have f0 := t7.free 0
        have T := Lib.hid (t7.put 0 f)
        clear hown hgr t7
        go_wp2_with fail
        refine HFIN.out _ _ T.out (by simp [zerL]) (fun i hi => ?_) (hB.setCell (p := ⟨w.heap.size, 0, none⟩) (Nat.le_refl _) _)
        rw [HSP.out i hi, getD_set]
        by_cases e : i = 0
        · subst e; simp [zerL]
        · rw [if_neg (fun x => e x.1.symm), if_neg (fun x => e x.1), if_neg (fun x => e x.1)]; exact getD_rep _ _
    · have hcase : (way = 3 ∧ f ≤ 0) ∨ (way = 3 ∧ ¬ f ≤ 0) ∨ (way = 5 ∧ f ≤ 0) ∨ (way = 6 ∧ f ≤ 0) := by omega
      have HW := Lib.hid h
      clear h
      rcases hcase with ⟨rfl, hf0⟩ | ⟨rfl, hf0⟩ | ⟨rfl, hf0⟩ | ⟨rfl, hf0⟩
      all_goals
        go_enter Try.func73, Try.ntmps73
        go_wp2_with (at_make; refine wpList_make_full _ rfl _ _ 31 rfl w.heap.size 2 i0 (.int .i64 0) 1 Try.underlying31 hi hz0 hz1 _ _ _ _ 2 rfl rfl rfl rfl (by rw [hz2]; omega) (by unfold maxLen; omega) (Nat.le_refl _) ?_)
        intro w1 hown hgr
        have hB : Below w.heap.size w w1 := (Below.refl _ w).grown hgr (Nat.le_refl _) (fun _ h => by cases h)
        have t7 : BlkI w1 w.heap.size (zerL 1) := BlkI.made hown
        have c0 := t7.cell (i := 0) (by simp [zerL])
        have c0 : w1.cell? ⟨w.heap.size, 0, none⟩ = some (.int .i64 0) := by rw [c0, zerL, getD_rep]
        have f0 := t7.free 0
        have t8 := t7.put 0 (f / 2)
        have cn := t8.cell (i := 1) (by simp [zerL])
        rw [zset 1 0 _ (by omega)] at cn
        have fn := t8.free 1
        have T := Lib.hid (t8.put 1 (f - f / 2))
        clear hown hgr t7 t8
        go_wp2_with fail
        refine (HH _).mono ?_
        rintro e w2 ⟨rfl, rfl⟩
        go_wp2_with fail
        refine (HH _).mono ?_
        rintro e w2 ⟨rfl, rfl⟩
        go_wp2_with fail
        refine HFIN.out _ _ T.out (by simp [zerL]) (fun i hi => ?_) ((hB.setCell (p := ⟨w.heap.size, 0, none⟩) (Nat.le_refl _) _).setCell (p := ⟨w.heap.size, 1, none⟩) (Nat.le_refl _) _)
        rw [HSP.out i hi, getD_set, if_neg (fun x => absurd x.1 (by omega)), getD_set]
        by_cases e : i = 0
        · subst e; rw [if_pos ⟨rfl, by simp [zerL]⟩, if_neg (by omega), if_pos ⟨rfl, HW.out⟩]
        · rw [if_neg (fun x => e x.1.symm), if_neg (fun x => e x.1), if_neg (fun x => e x.1)]; exact getD_rep _ _
    · have hcase : (way < 1 ∧ f ≤ 0 ∧ way ≠ 4) ∨ (way < 1 ∧ ¬ f ≤ 0 ∧ way ≠ 4) ∨ (6 < way ∧ f ≤ 0 ∧ way ≠ 4) ∨ (6 < way ∧ ¬ f ≤ 0 ∧ way ≠ 4) ∨ (way = 1 ∧ f ≤ 0) ∨ (way = 1 ∧ ¬ f ≤ 0) ∨ (way = 4 ∧ f ≤ 0) ∨ (way = 4 ∧ ¬ f ≤ 0) := by omega
      have hns : ∀ i, i < 1 → (spL f 1 way).getD i 0 = 0 := fun i hi => by rw [HSP.out i hi, if_neg (by omega), if_neg (by omega)]
      have HNS := Lib.hid hns
      clear h hns
      rcases hcase with ⟨h1, hf0, h4⟩ | ⟨h1, hf0, h4⟩ | ⟨h1, hf0, h4⟩ | ⟨h1, hf0, h4⟩ | ⟨rfl, hf0⟩ | ⟨rfl, hf0⟩ | ⟨rfl, hf0⟩ | ⟨rfl, hf0⟩
      all_goals
        try (have h16 : ¬ way < 1 := by omega)
        go_enter Try.func73, Try.ntmps73
        go_wp2_with (at_make; refine wpList_make_full _ rfl _ _ 31 rfl w.heap.size 2 i0 (.int .i64 0) 1 Try.underlying31 hi hz0 hz1 _ _ _ _ 2 rfl rfl rfl rfl (by rw [hz2]; omega) (by unfold maxLen; omega) (Nat.le_refl _) ?_)
        intro w1 hown hgr
        have hB : Below w.heap.size w w1 := (Below.refl _ w).grown hgr (Nat.le_refl _) (fun _ h => by cases h)
        have t7 : BlkI w1 w.heap.size (zerL 1) := BlkI.made hown
        have cn := t7.cell (i := 1) (by simp [zerL])
        have cn : w1.cell? ⟨w.heap.size, 1, none⟩ = some (.int .i64 0) := by rw [cn, zerL, getD_rep]
        have fn := t7.free 1
        have T := Lib.hid (t7.put 1 f)
        clear hown hgr t7
        go_wp2_with fail
        refine HFIN.out _ _ T.out (by simp [zerL]) (fun i hi => ?_) (hB.setCell (p := ⟨w.heap.size, 1, none⟩) (Nat.le_refl _) _)
        rw [HNS.out i hi]
        exact zset 1 1 _ (by omega)
  · have hn1' : ¬ (n : Int) = 1 := by omega
    have hnn : (n : Int) < (n : Int) + 1 := by omega
    have hnp : (0 : Int) < (n : Int) := by omega
    have hnq : (0 : Int) < (n : Int) + 1 := by omega
    rcases h with rfl | h | h
    · by_cases hf0 : f ≤ 0
      all_goals
        go_enter Try.func73, Try.ntmps73
        go_wp2_with (at_make; refine wpList_make_full _ rfl _ _ 31 rfl w.heap.size 2 i0 (.int .i64 0) 1 Try.underlying31 hi hz0 hz1 _ _ _ _ (n + 1) rfl rfl rfl rfl (by rw [hz2]; omega) (by unfold maxLen; omega) (Nat.le_refl _) ?_)
        intro w1 hown hgr
        have hB : Below w.heap.size w w1 := (Below.refl _ w).grown hgr (Nat.le_refl _) (fun _ h => by cases h)
        have t7 : BlkI w1 w.heap.size (zerL n) := BlkI.made hown
        have c0 := t7.cell (i := 0) (by simp [zerL])
        have c0 : w1.cell? ⟨w.heap.size, 0, none⟩ = some (.int .i64 0) := by rw [c0, zerL, getD_rep]
        have f0 := t7.free 0
        have T := Lib.hid (t7.put 0 f)
        clear hown hgr t7
        go_wp2_with fail
        refine HFIN.out _ _ T.out (by simp [zerL]) (fun i hi => ?_) (hB.setCell (p := ⟨w.heap.size, 0, none⟩) (Nat.le_refl _) _)
        rw [HSP.out i hi, getD_set]
        by_cases e : i = 0
        · subst e; simp [zerL]
        · rw [if_neg (fun x => e x.1.symm), if_neg (fun x => e x.1), if_neg (fun x => e x.1)]; exact getD_rep _ _
    · have hcase : (way = 3 ∧ f ≤ 0) ∨ (way = 3 ∧ ¬ f ≤ 0) ∨ (way = 5 ∧ f ≤ 0) ∨ (way = 6 ∧ f ≤ 0) := by omega
      have HW := Lib.hid h
      clear h
      rcases hcase with ⟨rfl, hf0⟩ | ⟨rfl, hf0⟩ | ⟨rfl, hf0⟩ | ⟨rfl, hf0⟩
      all_goals
        go_enter Try.func73, Try.ntmps73
        go_wp2_with (at_make; refine wpList_make_full _ rfl _ _ 31 rfl w.heap.size 2 i0 (.int .i64 0) 1 Try.underlying31 hi hz0 hz1 _ _ _ _ (n + 1) rfl rfl rfl rfl (by rw [hz2]; omega) (by unfold maxLen; omega) (Nat.le_refl _) ?_)
        intro w1 hown hgr
        have hB : Below w.heap.size w w1 := (Below.refl _ w).grown hgr (Nat.le_refl _) (fun _ h => by cases h)
        have t7 : BlkI w1 w.heap.size (zerL n) := BlkI.made hown
        have c0 := t7.cell (i := 0) (by simp [zerL])
        have c0 : w1.cell? ⟨w.heap.size, 0, none⟩ = some (.int .i64 0) := by rw [c0, zerL, getD_rep]
        have f0 := t7.free 0
        have t8 := t7.put 0 (f / 2)
        have cn := t8.cell (i := n) (by simp [zerL])
        rw [zset n 0 _ (by omega)] at cn
        have fn := t8.free n
        have T := Lib.hid (t8.put n (f - f / 2))
        clear hown hgr t7 t8
        go_wp2_with fail
        refine (HH _).mono ?_
        rintro e w2 ⟨rfl, rfl⟩
        go_wp2_with fail
        refine (HH _).mono ?_
        rintro e w2 ⟨rfl, rfl⟩
        go_wp2_with fail
        refine HFIN.out _ _ T.out (by simp [zerL]) (fun i hi => ?_) ((hB.setCell (p := ⟨w.heap.size, 0, none⟩) (Nat.le_refl _) _).setCell (p := ⟨w.heap.size, n, none⟩) (Nat.le_refl _) _)
        rw [HSP.out i hi, getD_set, if_neg (fun x => absurd x.1 (by omega)), getD_set]
        by_cases e : i = 0
        · subst e; rw [if_pos ⟨rfl, by simp [zerL]⟩, if_neg (by omega), if_pos ⟨rfl, HW.out⟩]
        · rw [if_neg (fun x => e x.1.symm), if_neg (fun x => e x.1), if_neg (fun x => e x.1)]; exact getD_rep _ _
    · have hcase : (way < 1 ∧ f ≤ 0 ∧ way ≠ 4) ∨ (way < 1 ∧ ¬ f ≤ 0 ∧ way ≠ 4) ∨ (6 < way ∧ f ≤ 0 ∧ way ≠ 4) ∨ (6 < way ∧ ¬ f ≤ 0 ∧ way ≠ 4) ∨ (way = 1 ∧ f ≤ 0) ∨ (way = 1 ∧ ¬ f ≤ 0) ∨ (way = 4 ∧ f ≤ 0) := by omega
      have hns : ∀ i, i < n → (spL f n way).getD i 0 = 0 := fun i hi => by rw [HSP.out i hi, if_neg (by omega), if_neg (by omega)]
      have HNS := Lib.hid hns
      clear h hns
      rcases hcase with ⟨h1, hf0, h4⟩ | ⟨h1, hf0, h4⟩ | ⟨h1, hf0, h4⟩ | ⟨h1, hf0, h4⟩ | ⟨rfl, hf0⟩ | ⟨rfl, hf0⟩ | ⟨rfl, hf0⟩
      all_goals
        try (have h16 : ¬ way < 1 := by omega)
        go_enter Try.func73, Try.ntmps73
        go_wp2_with (at_make; refine wpList_make_full _ rfl _ _ 31 rfl w.heap.size 2 i0 (.int .i64 0) 1 Try.underlying31 hi hz0 hz1 _ _ _ _ (n + 1) rfl rfl rfl rfl (by rw [hz2]; omega) (by unfold maxLen; omega) (Nat.le_refl _) ?_)
        intro w1 hown hgr
        have hB : Below w.heap.size w w1 := (Below.refl _ w).grown hgr (Nat.le_refl _) (fun _ h => by cases h)
        have t7 : BlkI w1 w.heap.size (zerL n) := BlkI.made hown
        have cn := t7.cell (i := n) (by simp [zerL])
        have cn : w1.cell? ⟨w.heap.size, n, none⟩ = some (.int .i64 0) := by rw [cn, zerL, getD_rep]
        have fn := t7.free n
        have T := Lib.hid (t7.put n f)
        clear hown hgr t7
        go_wp2_with fail
        refine HFIN.out _ _ T.out (by simp [zerL]) (fun i hi => ?_) (hB.setCell (p := ⟨w.heap.size, n, none⟩) (Nat.le_refl _) _)
        rw [HNS.out i hi]
        exact zset n n _ (by omega)
end Go.Proofs.Ythofammjbicogaa
namespace Go.Proofs.Ythofammjbicogaa
open Go.ChangeShapes Go.WideShapes Go.ChangeAt Go.RowKit
section
variable {H : Type} {enc : TypeId × Value → H} {P : Program}
theorem post_below {f : Func} {s : ChangeSpec} {apart fresh handsOn : Bool} {W W' : World} {args : Array Value} {v : Value} {ds gs : List (DataW H)} {before pa pv : List MemPlace}
    (hW : DataW.Whole enc P f.params.toList s.vars apart W args.toList ds gs before)
    (hres : ∀ (b : Nat) (sp : Nat → Bool) (hd : Bool), DataW.TrodAll enc P W' b sp hd f.resultTypes.toList (v.resultList f.resultTypes.size) (s.fn H (ds ++ gs)).results [])
    (hargs : ∀ sp : Nat → Bool, (∀ p ∈ before, sp p.block = true) → DataW.TrodAll enc P W' 0 sp true f.params.toList args.toList (s.fn H (ds ++ gs)).args pa)
    (hvars : ∀ sp : Nat → Bool, (∀ p ∈ before, sp p.block = true) → DataW.TrodVars enc P W' sp s.vars (s.fn H (ds ++ gs)).vars pv)
    (hps : before = pa ++ pv) (hb : Below W.heap.size W W') :
    s.post enc P f apart fresh handsOn false W args v W' := by
  have hold : ∀ p ∈ before, (fun b => decide (b < W.heap.size)) p.block = true := fun p hp => by simpa using hW.lt p hp
  refine ⟨ds, gs, before, [], pa, pv, hW, hres _ _ _, hargs _ hold, hvars _ hold, World.keptBut_mono (fun p hp => ⟨hp, ?_⟩) (hb.frame _), fun h => by cases h⟩
  rw [hps, List.mem_append] at hp
  exact Or.inr hp
end
theorem fit_of_wf {x : Int} (h : (Lit.int .i64 x).wf = true) : -9223372036854775808 ≤ x ∧ x ≤ 9223372036854775807 := by
  simp [Lit.wf, IntKind.min, IntKind.max, IntKind.signed, IntKind.bits] at h
  exact ⟨by omega, by omega⟩
theorem fitu_of_wf {x : Int} (h : (Lit.int .u64 x).wf = true) : 0 ≤ x ∧ x ≤ 18446744073709551615 := by
  simp [Lit.wf, IntKind.min, IntKind.max, IntKind.signed, IntKind.bits] at h
  exact ⟨by omega, by omega⟩
theorem wd_of_wf {h l : Int} (w0 : (Lit.int .i64 h).wf = true) (w1 : (Lit.int .u64 l).wf = true) : Wd h l (h * 18446744073709551616 + l) := by
  have a := fit_of_wf w0
  have b := fitu_of_wf w1
  exact ⟨a.1, a.2, b.1, b.2, rfl⟩
end Go.Proofs.Ythofammjbicogaa
