/-
  Package flexbox: Main.
-/
/-
  Layer 20: the laws' 'same', 'speaks'.
-/
/-
  From a walk that leaves all old memory as it was to the row's own words.
-/
/-
  From a walk that leaves all old memory as it was to a law's own words, whatever its parameters: each argument reads as it did. And: structs of one-cell fields by value, opened.
-/
import Derived.Test.YthofammjbicogaaZ7
import Derived.Test.YthofammjbicogaaZ8
import Derived.Test.YthofammjbicogaaZ1
import Derived.ProofKit
import Derived.OpenShut
import Derived.ReadAgain
import Derived.Lib.SmallJoins
namespace Go.Proofs.Ythofammjbicogaa
open Go.RowKit
set_option linter.unusedSimpArgs false
set_option linter.unusedVariables false

def mnMs (xs : List Int) (bs : List Bool) (k : Nat) (avail gap : Int) : List Int := mgF bs k (roomV xs avail gap k)
def mnAt (xs : List Int) (bs : List Bool) (k : Nat) (avail gap way : Int) : List Int :=
  if someB (mnMs xs bs k avail gap) (k * 2) then plN (whL xs (mnMs xs bs k avail gap) k) (zerL k) gap k else plN xs (spL (roomV xs avail gap k) k way) gap k
def Sli3 (B : Nat) (x y z : Int) (v : Value) (w : World) : Prop := ∃ b, v = .slice (some ⟨b, 0, none⟩) 3 3 ∧ B ≤ b ∧ Blk w b #[.int .i64 x, .int .i64 y, .int .i64 z] 2
def sli3C (B : Nat) (x y z : Int) : Cl := .own (Sli3 B x y z) (fun _ _ _ h hb => by obtain ⟨b, e, h1, h2⟩ := h; exact ⟨b, e, h1, h2.below hb⟩)
theorem Sli3.app {B : Nat} {x y z : Int} {v v0 : Value} {W w1 : World} (h : Sli3 B x y z v W) (hb2 : ∀ b cs T, Blk W b cs T → (∀ g, v0.ownBlock = some g → g ≠ b) → Blk w1 b cs T) (hg : ∀ g, v0.ownBlock = some g → g < B) : Sli3 B x y z v w1 := by
  obtain ⟨b, e, h1, h2⟩ := h
  exact ⟨b, e, h1, hb2 b _ _ h2 (fun g hgg => by have := hg g hgg; omega)⟩
def MnOut (k : Nat) (L ms : List Int) (w : World) (e : Ending) (w' : World) : Prop :=
  ∃ a1 c1 g2, e = .returned (.tuple #[.slice a1 k c1, .slice (some ⟨g2, 0, none⟩) k k]) ∧ w.heap.size ≤ g2 ∧ RowI w' a1 k L ∧ (∀ g off, a1 = some ⟨g, off, none⟩ → w.heap.size ≤ g) ∧ BlkM w' g2 ms ∧ Below w.heap.size w w'
theorem OwnI.base {w : World} {B B' : Nat} {ao : Option Addr} {k cap : Nat} {xs : List Int} (h : OwnI w B ao k cap xs) (hB : B' ≤ B) : OwnI w B' ao k cap xs := by
  refine ⟨⟨h.1.1, ?_⟩, h.2⟩
  rcases h.1.2 with h | ⟨g, c, cur, hv, hg, r⟩
  · exact .inl h
  · exact .inr ⟨g, c, cur, hv, Nat.le_trans hB hg, r⟩
theorem room_lenB {xs : List Int} {k : Nat} {avail gap : Int} (h : Lim xs k avail gap) : lenB (roomV xs avail gap k) = true := by
  have := room_lim h h.k30
  rw [lenB_iff]
  unfold LenB
  omega
set_option maxRecDepth 100000 in
set_option maxHeartbeats 3200000 in
theorem flx_main (ao ba : Option Addr) (k cap m bc : Nat) (xs : List Int) (bs : List Bool) (avail gap way : Int) (hl : Lim xs k avail gap) (hk1 : 1 ≤ k) (hm : m ≤ 100) (hbs : bs.length = m * 2) (w : World) (hx : RowI w ao k xs) (hr : RowV w ba m 2 (bools bs)) :
    Calls Try.prog 37 #[.slice ao k cap, .slice ba m bc, .int .i64 avail, .int .i64 gap, .int .i64 way] w (MnOut k (mnAt xs bs k avail gap way) (mnMs xs bs k avail gap) w) := by
  obtain ⟨i0, hi, hz0, hz1, hz2⟩ := info_parts (show (Try.prog.info? 2).map (fun i => (i.zero, i.size, i.bytes)) = some (some (.int .i64 0), 1, 8) by kernel_rfl)
  obtain ⟨Q, eQ⟩ : ∃ Q : Ending → World → Prop, Q = MnOut k (mnAt xs bs k avail gap way) (mnMs xs bs k avail gap) w := ⟨_, rfl⟩
  rw [← eQ]
  have EQ := Lib.hid eQ
  have hk30 := hl.k30
  have RM := fun W hx' => flx_room ao k cap xs avail gap hl W hx'
  have hF := room_lenB hl
  have hFl := room_lim hl hl.k30
  obtain ⟨F, eF⟩ : ∃ F, roomV xs avail gap k = F := ⟨_, rfl⟩
  rw [eF] at RM hF hFl
  have EF := Lib.hid eF
  have AU := fun W hr' => flx_automatic k m bc ba bs F hk30 hm hF W hbs hr'
  have hml := mgF_len bs k F
  have hmle := fun q hq => mgF_le bs k F (q := q) hq
  have hmnn := mgF_nonneg bs k F
  obtain ⟨ms, ems⟩ : ∃ ms, mgF bs k F = ms := ⟨_, rfl⟩
  rw [ems] at AU hml hmle hmnn
  have EMS := Lib.hid ems
  have ST := fun g W h => flx_spent g k ms hml (by omega) W h
  have hsp := fun j (hj : j ≤ k + 1) => spL_pre F way k hk1 hj
  obtain ⟨sb, esb⟩ : ∃ b, someB ms (k * 2) = b := ⟨_, rfl⟩
  rw [esb] at ST
  have ESB := Lib.hid esb
  have HX := Lib.hid hx
  have HR := Lib.hid hr
  have HML := Lib.hid hmle
  have HNN := Lib.hid hmnn
  have HSP := Lib.hid hsp
  have HL := Lib.hid hl
  have HLEN := Lib.hid hml
  have hk0 : ¬ (k : Int) = 0 := by omega
  have hp0 := pre_lim hl.xs36
  have SPC := fun W => flx_spaces F way k hk1 (by omega) hF W
  have PL1 := fun so W hx' hy' => flx_places ao so k cap (k + 1) (k + 1) xs (spL F k way) gap hk30 hl.gp (fun j hj => by have := hp0 j; omega) (by omega) (fun j hj => by have := hsp j hj; omega) W hx' hy'
  have PL2 := fun aw cw so W hx' hy' => flx_places aw so k cw (k + 1) (k + 1) (whL xs ms k) (zerL k) gap hk30 hl.gp (fun j hj => by rw [whL_pre xs ms k j hj]; have := hp0 j; have := hmle (j * 2) (by omega); omega) (by omega) (fun j hj => by unfold zerL; rw [pre_rep]; omega) W hx' hy'
  obtain ⟨LA, eLA⟩ : ∃ L, plN xs (spL F k way) gap k = L := ⟨_, rfl⟩
  obtain ⟨LB, eLB⟩ : ∃ L, plN (whL xs ms k) (zerL k) gap k = L := ⟨_, rfl⟩
  rw [eLA] at PL1
  rw [eLB] at PL2
  obtain ⟨SL, eSL⟩ : ∃ L, spL F k way = L := ⟨_, rfl⟩
  rw [eSL] at SPC PL1
  have hSLl : SL.length = k + 1 := by rw [← eSL]; exact spL_len _ _ _ hk1
  have HSLL := Lib.hid hSLl
  have ELA := Lib.hid eLA
  have ELB := Lib.hid eLB
  have hres : ∀ W a1 c1 g2, w.heap.size ≤ g2 → OwnI W w.heap.size a1 k c1 (if sb then LB else LA) → BlkM W g2 ms → Below w.heap.size w W → Q (.returned (.tuple #[.slice a1 k c1, .slice (some ⟨g2, 0, none⟩) k k])) W := by
    intro W a1 c1 g2 h1 h2 h3 h4
    rw [EQ.out]
    refine ⟨a1, c1, g2, rfl, h1, ?_, h2.from, ?_, h4⟩
    · unfold mnAt mnMs
      rw [EF.out, EMS.out, ESB.out, ELA.out, ELB.out]
      exact h2.row
    · unfold mnMs
      rw [EF.out, EMS.out]
      exact h3
  have HRES := Lib.hid hres
  clear eQ hx hr ems esb eF hmle hmnn hsp hl hp0 hml hFl hF eLA eLB eSL hSLl hres
  go_enter Try.func37, Try.ntmps37
  go_wp2_with fail
  refine (RM _ HX.out).mono ?_
  rintro e w1 ⟨rfl, hB⟩
  have hr1 := HR.out.below hB
  go_wp2_with fail
  refine (AU _ hr1).mono ?_
  rintro e w2 ⟨rfl, t13, hb⟩
  have hsB := hB.size
  replace hB := hB.trans (hb.mono hB.size)
  have HSB := Lib.hid hsB
  clear hb hr1 hsB AU RM
  go_wp2_with fail
  refine (ST _ _ t13).mono ?_
  rintro e w3 ⟨rfl, hb⟩
  replace hB := hB.trans (hb.mono hB.size)
  replace t13 := BlkM.below t13 hb
  clear hb ST
  cases sb
  · go_wp2_with fail
    refine (SPC _).mono ?_
    rintro e w4 ⟨rfl, t6, hb⟩
    replace hB := hB.trans (hb.mono hB.size)
    replace t13 := BlkM.below t13 hb
    have hy := t6.row (n := k + 1) HSLL.out
    have hx' := HX.out.below hB
    clear hb t6
    go_wp2_with fail
    refine (PL1 _ _ hx' hy).mono ?_
    rintro e w5 ⟨aj, cj, rfl, ho, hb⟩
    have hsz4 := hB.size
    replace hB := hB.trans (hb.mono hB.size)
    replace t13 := BlkM.below t13 hb
    clear hb hy hx'
    go_wp2_with fail
    exact HRES.out _ _ _ _ HSB.out (ho.base hsz4) t13 hB
  · have hg13 : w1.heap.size < w3.heap.size := t13.lt
    clear PL1 SPC
    go_wp2_with fail
    obtain ⟨g13, eg13⟩ : ∃ g, w1.heap.size = g := ⟨_, rfl⟩
    rw [eg13] at t13 hg13 HSB ⊢
    clear eg13
    go_loopg [14, 43] k (fun gk s14 s43 wr => ∃ (j : Nat) (aj : Option Addr) (cj : Nat), j ≤ k ∧ gk = k - j ∧ s14 = .slice aj j cj ∧ s43 = .int .i64 ((j : Int)) ∧ OwnI wr w.heap.size aj j cj (whL xs ms j) ∧ BlkM wr g13 ms ∧ Below w.heap.size w wr)
    case atStart => exact ⟨0, none, 0, by omega, by omega, rfl, rfl, OwnI.nil _ _, t13, hB⟩
    case round =>
      clear t13 hB hg13
      obtain ⟨j, aj, cj, hj, rfl, rfl, rfl, ho, t13, hB⟩ := hrel
      by_cases hjk : j < k
      · have ix : (j : Int) < (k : Int) := by omega
        obtain ⟨g, off, rfl, _, hcx⟩ := (HX.out.below hB).at hjk
        have hx := HL.out.xs36 j
        have q1 := BlkM.cell t13 (i := j * 2) (by rw [HLEN.out]; omega)
        have q2 := BlkM.cell t13 (i := j * 2 + 1) (by rw [HLEN.out]; omega)
        have m0 := HML.out (j * 2) (by omega)
        have m2 := HML.out (j * 2 + 1 + 1) (by omega)
        have n0 := HNN.out (j * 2)
        have n1 := HNN.out (j * 2 + 1)
        have fl := room_lim HL.out HL.out.k30
        rw [EF.out] at fl
        have e2 : pre ms (j * 2 + 1 + 1) = pre ms (j * 2) + ms.getD (j * 2) 0 + ms.getD (j * 2 + 1) 0 := rfl
        have ews : whL xs ms (j + 1) = whL xs ms j ++ [xs.getD j 0 + ms.getD (j * 2) 0 + ms.getD (j * 2 + 1) 0] := whL_succ xs ms j
        obtain ⟨x, ex⟩ : ∃ x, xs.getD j 0 = x := ⟨_, rfl⟩
        obtain ⟨y, ey⟩ : ∃ x, ms.getD (j * 2) 0 = x := ⟨_, rfl⟩
        obtain ⟨z, ez⟩ : ∃ x, ms.getD (j * 2 + 1) 0 = x := ⟨_, rfl⟩
        have EY := Lib.hid ey
        have EZ := Lib.hid ez
        rw [ex] at hcx hx ews
        rw [ey] at q1 n0 e2 ews
        rw [ez] at q2 n1 e2 ews
        have AD := fun b W h => flx_add3 b x y z (by unfold LenB; omega) (by unfold IFit; omega) (by unfold IFit; omega) (by unfold LenB; omega) (by unfold LenB; omega) W h
        obtain ⟨d, ed⟩ : ∃ d, x + y + z = d := ⟨_, rfl⟩
        rw [ed] at AD ews
        have hgl : ∀ g, (Value.slice aj j cj).ownBlock = some g → g < wr.heap.size := fun g h => (ho.ge h).2
        have HGL := Lib.hid hgl
        have EWS := Lib.hid ews
        clear hx m0 m2 n0 n1 e2 ews ex ey ez ed hgl fl
        have hq1 : ∀ W, BlkM W g13 ms → W.cell? ⟨g13, j * 2, none⟩ = some (.int .i64 y) := fun W h => by rw [BlkM.cell h (i := j * 2) (by rw [HLEN.out]; omega), EY.out]
        have hq2 : ∀ W, BlkM W g13 ms → W.cell? ⟨g13, j * 2 + 1, none⟩ = some (.int .i64 z) := fun W h => by rw [BlkM.cell h (i := j * 2 + 1) (by rw [HLEN.out]; omega), EZ.out]
        have HQ1 := Lib.hid hq1
        have HQ2 := Lib.hid hq2
        have q13 := t13.lt
        clear hq1 hq2
        obtain ⟨j1, ej1⟩ : ∃ x, j + 1 = x := ⟨_, rfl⟩
        have EJ1 := Lib.hid ej1
        clear ej1
        go_wp2_with fail
        go_upto_region 11 with (fail)
        rename_i K1 hK1
        refine wp_region_calm (fun w' => Below w.heap.size w w' ∧ BlkM w' g13 ms ∧ wr.heap.size ≤ w'.heap.size) [15] (fun w' => OwnI w' w.heap.size aj j cj (whL xs ms j)) [Is (.slice aj j cj), Is (.int .i64 x), Is (.slice (some ⟨g13, 0, none⟩) k k), Is (.int .i64 ((j : Int))), Is (.pointer (some ⟨g13, j * 2, none⟩)), Is (.pointer (some ⟨g13, j * 2, none⟩)), Is (.int .i64 y), Is (.slice (some ⟨g13, 0, none⟩) k k), Is (.int .i64 ((j : Int))), Is (.pointer (some ⟨g13, j * 2, none⟩)), Is (.pointer (some ⟨g13, j * 2 + 1, none⟩)), Is (.int .i64 z), sli3C wr.heap.size x y z, Is (.int .i64 d), sliC wr.heap.size d, ownC w.heap.size (j + 1) (whL xs ms j ++ [d]), ownC w.heap.size (j + 1) (whL xs ms j ++ [d])] [] (by kernel_rfl) (by kernel_rfl) (by kernel_rfl) (by kernel_rfl) ⟨hB.drew, t13, Nat.le_refl _⟩ ho.drew ?_ ?_ ?_ ?_ ?_
        · rintro W W' ⟨hBB, t7, hl⟩ hb
          exact ⟨hBB.trans (hb.mono hBB.size), BlkM.below t7 hb, Nat.le_trans hl hb.size⟩
        · intro W W' hB h0 hb; exact h0.below hb
        · intro k vs W hk h
          exact absurd hk (by simp)
        · intro Q; clear hK1 hB t13 ho q1 q2
          refine ⟨?_, ?_, ?_, ?_, ?_, ?_, ?_, ?_, ?_, ?_, ?_, ?_, ?_, ?_, ?_, ?_, ?_, trivial⟩
          · intro vs W hW hW0 hd hne hold K hK hA hL; clear hne hA hL; have hBB := hW.1; have t7 := hW.2.1; have hl := hW.2.2; simp only [puts, Act.put, List.setIfInBounds_toArray, List.set_cons_zero, List.set_cons_succ, Nat.zero_add, Nat.reduceAdd] at hK ⊢; have e16 : vs 16 = _ := hold 16 (by kernel_rfl); clear hd hold; simp only [e16] at hK; go_simp; exact hK.out rfl _ _ (Below.refl _ _) rfl
          · intro vs W hW hW0 hd hne hold K hK hA hL; clear hne hA hL; have hBB := hW.1; have t7 := hW.2.1; have hl := hW.2.2; simp only [puts, Act.put, List.setIfInBounds_toArray, List.set_cons_zero, List.set_cons_succ, Nat.zero_add, Nat.reduceAdd] at hK ⊢; clear hd hold; go_simp; exact hK.out rfl _ _ (Below.refl _ _) rfl
          · intro vs W hW hW0 hd hne hold K hK hA hL; clear hne hA hL; have hBB := hW.1; have t7 := hW.2.1; have hl := hW.2.2; simp only [puts, Act.put, List.setIfInBounds_toArray, List.set_cons_zero, List.set_cons_succ, Nat.zero_add, Nat.reduceAdd] at hK ⊢; clear hd hold; go_simp; exact hK.out rfl _ _ (Below.refl _ _) rfl
          · intro vs W hW hW0 hd hne hold K hK hA hL; clear hne hA hL; have hBB := hW.1; have t7 := hW.2.1; have hl := hW.2.2; simp only [puts, Act.put, List.setIfInBounds_toArray, List.set_cons_zero, List.set_cons_succ, Nat.zero_add, Nat.reduceAdd] at hK ⊢; clear hd hold; go_simp; exact hK.out rfl _ _ (Below.refl _ _) rfl
          · intro vs W hW hW0 hd hne hold K hK hA hL; clear hne hA hL; have hBB := hW.1; have t7 := hW.2.1; have hl := hW.2.2; simp only [puts, Act.put, List.setIfInBounds_toArray, List.set_cons_zero, List.set_cons_succ, Nat.zero_add, Nat.reduceAdd] at hK ⊢; have e2 : vs 2 = _ := hd 2 (by kernel_rfl); have e3 : vs 3 = _ := hd 3 (by kernel_rfl); clear hd hold; simp only [e2, e3] at hK; go_simp; exact hK.out rfl _ _ (Below.refl _ _) rfl
          · intro vs W hW hW0 hd hne hold K hK hA hL; clear hne hA hL; have hBB := hW.1; have t7 := hW.2.1; have hl := hW.2.2; simp only [puts, Act.put, List.setIfInBounds_toArray, List.set_cons_zero, List.set_cons_succ, Nat.zero_add, Nat.reduceAdd] at hK ⊢; have e4 : vs 4 = _ := hd 4 (by kernel_rfl); clear hd hold; simp only [e4] at hK; go_simp; exact hK.out rfl _ _ (Below.refl _ _) rfl
          · intro vs W hW hW0 hd hne hold K hK hA hL; clear hne hA hL; have hBB := hW.1; have t7 := hW.2.1; have hl := hW.2.2; simp only [puts, Act.put, List.setIfInBounds_toArray, List.set_cons_zero, List.set_cons_succ, Nat.zero_add, Nat.reduceAdd] at hK ⊢; have q := HQ1.out W t7; have eb : vs 5 = _ := hd 5 (by kernel_rfl); clear hd hold; simp only [eb] at hK; go_simp; exact hK.out rfl _ _ (Below.refl _ _) rfl
          · intro vs W hW hW0 hd hne hold K hK hA hL; clear hne hA hL; have hBB := hW.1; have t7 := hW.2.1; have hl := hW.2.2; simp only [puts, Act.put, List.setIfInBounds_toArray, List.set_cons_zero, List.set_cons_succ, Nat.zero_add, Nat.reduceAdd] at hK ⊢; clear hd hold; go_simp; exact hK.out rfl _ _ (Below.refl _ _) rfl
          · intro vs W hW hW0 hd hne hold K hK hA hL; clear hne hA hL; have hBB := hW.1; have t7 := hW.2.1; have hl := hW.2.2; simp only [puts, Act.put, List.setIfInBounds_toArray, List.set_cons_zero, List.set_cons_succ, Nat.zero_add, Nat.reduceAdd] at hK ⊢; clear hd hold; go_simp; exact hK.out rfl _ _ (Below.refl _ _) rfl
          · intro vs W hW hW0 hd hne hold K hK hA hL; clear hne hA hL; have hBB := hW.1; have t7 := hW.2.1; have hl := hW.2.2; simp only [puts, Act.put, List.setIfInBounds_toArray, List.set_cons_zero, List.set_cons_succ, Nat.zero_add, Nat.reduceAdd] at hK ⊢; have e7 : vs 7 = _ := hd 7 (by kernel_rfl); have e8 : vs 8 = _ := hd 8 (by kernel_rfl); clear hd hold; simp only [e7, e8] at hK; go_simp; exact hK.out rfl _ _ (Below.refl _ _) rfl
          · intro vs W hW hW0 hd hne hold K hK hA hL; clear hne hA hL; have hBB := hW.1; have t7 := hW.2.1; have hl := hW.2.2; simp only [puts, Act.put, List.setIfInBounds_toArray, List.set_cons_zero, List.set_cons_succ, Nat.zero_add, Nat.reduceAdd] at hK ⊢; have e9 : vs 9 = _ := hd 9 (by kernel_rfl); clear hd hold; simp only [e9] at hK; go_simp; exact hK.out rfl _ _ (Below.refl _ _) rfl
          · intro vs W hW hW0 hd hne hold K hK hA hL; clear hne hA hL; have hBB := hW.1; have t7 := hW.2.1; have hl := hW.2.2; simp only [puts, Act.put, List.setIfInBounds_toArray, List.set_cons_zero, List.set_cons_succ, Nat.zero_add, Nat.reduceAdd] at hK ⊢; have q := HQ2.out W t7; have eb : vs 10 = _ := hd 10 (by kernel_rfl); clear hd hold; simp only [eb] at hK; go_simp; exact hK.out rfl _ _ (Below.refl _ _) rfl
          · intro vs W hW hW0 hd hne hold K hK hA hL; clear hne hA hL; have hBB := hW.1; have t7 := hW.2.1; have hl := hW.2.2; simp only [puts, Act.put, List.setIfInBounds_toArray, List.set_cons_zero, List.set_cons_succ, Nat.zero_add, Nat.reduceAdd] at hK ⊢; have ea : vs 1 = _ := hd 1 (by kernel_rfl); have eb : vs 6 = _ := hd 6 (by kernel_rfl); have ec : vs 11 = _ := hd 11 (by kernel_rfl); clear hd hold; simp only [ea, eb, ec] at hK; go_simp; exact hK.out rfl _ _ ((Below.refl _ _).alloc (Nat.le_refl _) _) ⟨W.heap.size, rfl, hl, Blk.new _ _ _ _ rfl⟩
          · intro vs W hW hW0 hd hne hold K hK hA hL; clear hne hA hL; have hBB := hW.1; have t7 := hW.2.1; have hl := hW.2.2; simp only [puts, Act.put, List.setIfInBounds_toArray, List.set_cons_zero, List.set_cons_succ, Nat.zero_add, Nat.reduceAdd] at hK ⊢; have h12 : Sli3 wr.heap.size x y z (vs 12) W := hd 12 (by kernel_rfl); obtain ⟨b, eb, hlb, tb⟩ := h12; clear hd hold; simp only [eb] at hK; go_simp; refine (AD b W tb).mono ?_; (rintro e wx ⟨rfl, hbx⟩); go_simp; exact hK.out rfl _ _ hbx rfl
          · intro vs W hW hW0 hd hne hold K hK hA hL; clear hne hA hL; have hBB := hW.1; have t7 := hW.2.1; have hl := hW.2.2; simp only [puts, Act.put, List.setIfInBounds_toArray, List.set_cons_zero, List.set_cons_succ, Nat.zero_add, Nat.reduceAdd] at hK ⊢; have eb : vs 13 = _ := hd 13 (by kernel_rfl); clear hd hold; simp only [eb] at hK; go_simp; exact hK.out rfl _ _ ((Below.refl _ _).alloc (Nat.le_refl _) _) ⟨W.heap.size, rfl, hl, Blk.new _ _ _ _ rfl⟩
          · intro vs W hW hW0 hd hne hold K hK hA hL; clear hK hA; have hBB := hW.1; have t7 := hW.2.1; have hl := hW.2.2; simp only [puts, Act.put, List.setIfInBounds_toArray, List.set_cons_zero, List.set_cons_succ, Nat.zero_add, Nat.reduceAdd] at hL ⊢; have ho := hW0 (by kernel_rfl); have ea : vs 0 = _ := hd 0 (by kernel_rfl); have h14 : SliV wr.heap.size d (vs 14) W := hd 14 (by kernel_rfl); obtain ⟨b, eb, hlb, tb⟩ := h14; clear hd hold; simp only [ea, eb] at hL ⊢; rw [if_pos (show Region.wanted _ _ = true from rfl)]; refine wp_append_own W (.tmp 48) (.tmp 62) 31 rfl w.heap.size 2 i0 (.int .i64 0) 1 8 Try.underlying31 hi hz0 hz1 hz2 rfl (by decide) _ _ _ rfl ho.1 ⟨b, 0, none⟩ 1 1 (i64s [d]) rfl rfl (World.news_of_block tb) (i64s_one _) (by unfold maxLen; omega) (by omega) (by have := hBB.size; omega) ?_; intro v' w1 ho1 hg1 _; obtain ⟨a1, c1, rfl, ho2, hbe, hke, hbl, hb2⟩ := ho.app (ys := [d]) ho1 hg1 rfl (by have := hBB.size; omega); simp only [Act.put, List.setIfInBounds_toArray, List.set_cons_zero, List.set_cons_succ, Nat.zero_add, Nat.reduceAdd]; refine hL.out rfl _ _ ⟨hbe _ _ (Nat.le_refl _) hBB, hbl _ _ _ t7 (by decide), Nat.le_trans hl hg1.size⟩ (fun h => absurd h (by decide)) ⟨a1, c1, rfl, ho2⟩ ?_; exact claims_keep_a ⟨.inr (.inr is_keep), .inr (.inr is_keep), .inr (.inr is_keep), .inr (.inr is_keep), .inr (.inr is_keep), .inr (.inr is_keep), .inr (.inr is_keep), .inr (.inr is_keep), .inr (.inr is_keep), .inr (.inr is_keep), .inr (.inr is_keep), .inr (.inr is_keep), .inr (.inr fun h => Sli3.app h hb2 HGL.out), .inr (.inr is_keep), .inr (.inr fun h => SliV.app h hb2 HGL.out), .inl rfl, .inr (.inl (by kernel_rfl)), trivial⟩
          · intro vs W hW hW0 hd hne hold K hK hA hL; clear hne hA hL; have hBB := hW.1; have t7 := hW.2.1; have hl := hW.2.2; simp only [puts, Act.put, List.setIfInBounds_toArray, List.set_cons_zero, List.set_cons_succ, Nat.zero_add, Nat.reduceAdd] at hK ⊢; have h15 : OwnV w.heap.size (j + 1) (whL xs ms j ++ [d]) (vs 15) W := hd 15 (by kernel_rfl); obtain ⟨a1, c1, e1, ho⟩ := h15; clear hd hold; simp only [e1] at hK; go_simp; exact hK.out rfl _ _ (Below.refl _ _) ⟨a1, c1, rfl, ho⟩
        · intro va WB hW hV _
          clear hB t13 ho q1 q2
          obtain ⟨hB, t13, _⟩ := hW
          have h16 : OwnV w.heap.size (j + 1) (whL xs ms j ++ [d]) (va 16) WB := hV 16 (by decide)
          obtain ⟨a1, c1, e16, ho⟩ := h16
          clear hV
          rw [← EWS.out] at ho
          simp only [puts, Act.put, List.setIfInBounds_toArray, List.set_cons_zero, List.set_cons_succ, Nat.zero_add, Nat.reduceAdd, e16]
          refine hK1 _ _ ?_
          clear hK1 e16
          go_wp2_with fail
          go_roundg (k - (j + 1))
          case measure => omega
          case rel => exact ⟨j + 1, a1, c1, by omega, rfl, rfl, by go_num, ho, t13, hB⟩
      · obtain rfl : j = k := by omega
        have ix : ¬ (j : Int) < (j : Int) := by omega
        have hrw := ho.row
        have hszr := hB.size
        have hg13 := t13.lt
        clear ho
        go_wp2_with (at_make; refine wpList_make_row _ rfl _ _ 31 rfl 2 i0 (.int .i64 0) Try.underlying31 hi hz0 hz1 rfl _ _ (j + 1) rfl rfl ?b2 ?b3 ?_)
        case b2 => first | omega | (rw [hz2]; omega)
        case b3 => omega
        have hbz : Below wr.heap.size wr (wr.alloc (.cells (madeCells #[.int .i64 0] (j + 1)) 2)) := (by repeat' (first | (with_reducible exact Below.refl _ _) | (with_reducible assumption) | (with_reducible refine below_alloc ?_ _ ?_) | (with_reducible refine below_set _ ?_ ?_) | (with_reducible refine Below.drew ?_) | (with_reducible refine below_dN ?_ _) | (apply below_thenA; assumption) | omega | (simp; done) | (simp; omega) | (simp [*]; done)))
        have hz := (BlkI.zeros wr (j + 1)).row (n := j + 1) (by simp)
        replace hB := hB.trans (hbz.mono hszr)
        replace t13 := BlkM.below t13 hbz
        replace hrw := hrw.below hbz
        refine (PL2 _ _ _ _ hrw hz).mono ?_
        rintro e w5 ⟨a5, c5, rfl, ho, hb⟩
        have hsz4 := hB.size
        replace hB := hB.trans (hb.mono hB.size)
        replace t13 := BlkM.below t13 hb
        clear hb hz hrw hbz
        go_wp2_with fail
        exact HRES.out _ _ _ _ HSB.out (ho.base hsz4) t13 hB
end Go.Proofs.Ythofammjbicogaa
namespace Go.Proofs.Ythofammjbicogaa
open Go.RowKit
set_option linter.unusedSimpArgs false
set_option linter.unusedVariables false

set_option maxRecDepth 100000 in
set_option maxHeartbeats 1600000 in
theorem same20 (ao bo : Option Addr) (k ca cb : Nat) (xs : List Int) (hk2 : k ≤ 1000000) (w : World) (hx : RowI w ao k xs) (hy : RowI w bo k xs) :
    Calls Try.prog 39 #[.slice ao k ca, .slice bo k cb] w fun e w' => e = .returned (.bool true) ∧ Below w.heap.size w w' := by
  have HX := Lib.hid hx
  have HY := Lib.hid hy
  clear hx hy
  go_enter Try.func39, Try.ntmps39
  go_wp2_with fail
  go_loopg [5] k (fun gk s5 wr => ∃ (j : Nat), j ≤ k ∧ gk = k - j ∧ s5 = .int .i64 ((j : Int)) ∧ Below w.heap.size w wr)
  case atStart => exact ⟨0, by omega, by omega, rfl, Below.refl _ _⟩
  case round =>
    obtain ⟨j, hj, rfl, rfl, hB⟩ := hrel
    by_cases hjk : j < k
    · have ix : (j : Int) < (k : Int) := by omega
      obtain ⟨g, off, rfl, _, hcx⟩ := (HX.out.below hB).at hjk
      obtain ⟨g2, off2, rfl, _, hcy⟩ := (HY.out.below hB).at hjk
      obtain ⟨x, ex⟩ : ∃ x, xs.getD j 0 = x := ⟨_, rfl⟩
      rw [ex] at hcx hcy
      clear ex
      go_wp2_with fail
      go_quiet (fail)
      go_wp2_with fail
      go_roundg (k - (j + 1))
      case measure => omega
      case rel => exact ⟨j + 1, by omega, rfl, by go_num, below_dN hB _⟩
    · obtain rfl : j = k := by omega
      have ix : ¬ (j : Int) < (j : Int) := by omega
      go_wp2_with fail
      go_ret
      exact ⟨rfl, hB⟩
/-- Try over a function that ends as one knows, and of which something holds that no turn of one far block hurts. -/
theorem try_rel (F : Nat) (cap : Array Value) (c : Int) (l : List Nat) (w : World) (R : World → Prop) (hl : ∀ b, b ∈ l → b < w.heap.size) (hR : ∀ W W', R W → But w.heap.size W W' → R W') (hen : ∀ w, (callFunc F cap).run Try.prog w = .ok (.enter F cap) w)
    (h : ∀ W, Below w.heap.size w W → w.heap.size < W.heap.size → Calls Try.prog F cap W fun e W' => (c = 0 → e = .returned (.tuple #[]) ∧ R W') ∧ (c ≠ 0 → e = .panicked (gave c)) ∧ ButL l W W') :
    Calls Try.prog 16 #[.func (.func F) #[] cap] w fun e w' => e = .returned (.int .i64 c) ∧ (c = 0 → R w') ∧ ButL l w w' := by
  have o1 : Blk (w.alloc (.cells #[.int .i64 0] 32)) w.heap.size #[.int .i64 0] 32 := Blk.new w _ _ _ rfl
  have hnew : w.heap.size ∉ l := fun hm => Nat.lt_irrefl _ (hl _ hm)
  refine (fix_try F cap w (fun c' w1 => c' = c ∧ (c = 0 → R w1) ∧ ButL l (w.alloc (.cells #[.int .i64 0] 32)) w1) hen ((h _ (by repeat' (first | (with_reducible exact Below.refl _ _) | (with_reducible assumption) | (with_reducible refine below_alloc ?_ _ ?_) | (with_reducible refine below_set _ ?_ ?_) | (with_reducible refine Below.drew ?_) | (with_reducible refine below_dN ?_ _) | (apply below_thenA; assumption) | omega | (simp; done) | (simp; omega) | (simp [*]; done))) (by simp)).mono fun e w1 x => ?_)).mono fun e w' x => ?_
  · obtain ⟨x1, x2, x4⟩ := x
    have o3 := o1.butl x4 hnew
    refine ⟨o3.cell 0 _ rfl, o3.free 0, ?_⟩
    by_cases hc : c = 0
    · exact .inl ⟨(x1 hc).1, hc.symm, fun _ => (x1 hc).2, x4⟩
    · exact .inr ⟨c, x2 hc, rfl, fun h => absurd h hc, x4⟩
  · obtain ⟨c', w1, ⟨rfl, hr, hbut⟩, rfl, rfl⟩ := x
    refine ⟨rfl, fun hc => hR _ _ (hr hc) (But.set _ _ _), ((ButL.of (l := l) (show Below w.heap.size w (w.alloc (.cells #[.int .i64 0] 32)) from (by repeat' (first | (with_reducible exact Below.refl _ _) | (with_reducible assumption) | (with_reducible refine below_alloc ?_ _ ?_) | (with_reducible refine below_set _ ?_ ?_) | (with_reducible refine Below.drew ?_) | (with_reducible refine below_dN ?_ _) | (apply below_thenA; assumption) | omega | (simp; done) | (simp; omega) | (simp [*]; done))))).trans hbut).setNew (Nat.le_refl _) _ _⟩
/-- What a call of Main leaves in two boxes. -/
def MnRel (b1 b2 k : Nat) (L ms : List Int) (B : Nat) (W : World) : Prop :=
  ∃ ao c g2, Blk W b1 #[.slice ao k c] 31 ∧ Blk W b2 #[.slice (some ⟨g2, 0, none⟩) k k] 62 ∧ RowI W ao k L ∧ (∀ g off, ao = some ⟨g, off, none⟩ → B < g) ∧ B < g2 ∧ BlkM W g2 ms
theorem MnRel.but {b1 b2 k : Nat} {L ms : List Int} {B : Nat} {W W' : World} (h : MnRel b1 b2 k L ms B W) (hb : But B W W') (h1 : b1 < B) (h2 : b2 < B) : MnRel b1 b2 k L ms B W' := by
  obtain ⟨ao, c, g2, q1, q2, q3, q4, q5, q6⟩ := h
  exact ⟨ao, c, g2, q1.but hb (by omega), q2.but hb (by omega), q3.but hb (fun g off e => by have := q4 g off e; omega), q4, q5, Blk.but q6 hb (by omega)⟩
theorem MnRel.put {b1 b2 k : Nat} {L ms : List Int} {B : Nat} {W : World} {ao : Option Addr} {c g2 : Nat} {v1 v2 : Value} (h1 : Blk W b1 #[v1] 31) (h2 : Blk W b2 #[v2] 62) (h12 : b1 ≠ b2) (l1 : b1 ≤ B) (l2 : b2 ≤ B)
    (hx : RowI W ao k L) (hf : ∀ g off, ao = some ⟨g, off, none⟩ → B < g) (hg : B < g2) (hm : BlkM W g2 ms) :
    MnRel b1 b2 k L ms B ((W.setCell ⟨b1, 0, none⟩ (.slice ao k c)).setCell ⟨b2, 0, none⟩ (.slice (some ⟨g2, 0, none⟩) k k)) := by
  have s1 := h1.set 0 (.slice ao k c)
  have s2 := (h2.other (c := b1) (by omega) 0 (.slice ao k c)).set 0 (.slice (some ⟨g2, 0, none⟩) k k)
  refine ⟨ao, c, g2, s1.other h12 _ _, s2, (hx.but (But.set _ _ _) (fun g off e => by have := hf g off e; omega)).but (But.set _ _ _) (fun g off e => by have := hf g off e; omega), hf, hg, (Blk.other hm (by omega) _ _).other (by omega) _ _⟩
set_option maxRecDepth 100000 in
set_option maxHeartbeats 1600000 in
theorem speaks20a (b1 b2 : Nat) (W : World) (h12 : b1 ≠ b2) (v1 v2 : Value) (h1 : Blk W b1 #[v1] 31) (h2 : Blk W b2 #[v2] 62) (B : Nat) (hB : B < W.heap.size) (l1 : b1 ≤ B) (l2 : b2 ≤ B) :
    Calls Try.prog 64 #[.pointer (some ⟨b1, 0, none⟩), .pointer (some ⟨b2, 0, none⟩)] W fun e W' => e = .returned (.tuple #[]) ∧ MnRel b1 b2 2 [4, 25] [0, 0, 0, 0] B W' ∧ ButL [b1, b2] W W' := by
  have HL : Lim [10, 20] 2 50 2 := ⟨by omega, fun i => by
    match i with
    | 0 => decide
    | 1 => decide
    | i + 2 => exact ⟨by simp [List.getD], by simp [List.getD]⟩, by omega, by omega⟩
  have MN := fun g W (h : Blk W g #[.int .i64 10, .int .i64 20] 2) => flx_main (some ⟨g, 0, none⟩) none 2 2 0 0 [10, 20] [] 50 2 5 HL (by omega) (by omega) rfl W (row_of_blk [10, 20] 2 rfl h rfl) (RowV.nil _ _ _)
  rw [show mnAt [10, 20] [] 2 50 2 5 = [4, 25] by decide, show mnMs [10, 20] [] 2 50 2 = [0, 0, 0, 0] by decide] at MN
  have l1' := h1.lt
  have l2' := h2.lt
  obtain ⟨Q, eQ⟩ : ∃ Q : Ending → World → Prop, Q = fun e W' => e = .returned (.tuple #[]) ∧ MnRel b1 b2 2 [4, 25] [0, 0, 0, 0] B W' ∧ ButL [b1, b2] W W' := ⟨_, rfl⟩
  rw [← eQ]
  have EQ := Lib.hid eQ
  have H1 := Lib.hid h1
  have H2 := Lib.hid h2
  have h21 : b2 ≠ b1 := fun e => h12 e.symm
  clear eQ h1 h2 HL
  go_enter Try.func64, Try.ntmps64
  go_wp2_with fail
  refine (MN _ _ (Blk.new W _ _ _ rfl)).mono ?_
  rintro e w1 ⟨a1, c1, g2, rfl, hg, hx, hf, hm, hb⟩
  have hsA : (W.alloc (.cells #[.int .i64 10, .int .i64 20] 2)).heap.size = W.heap.size + 1 := by simp
  have hb0 : Below W.heap.size W (W.alloc (.cells #[.int .i64 10, .int .i64 20] 2)) := (by repeat' (first | (with_reducible exact Below.refl _ _) | (with_reducible assumption) | (with_reducible refine below_alloc ?_ _ ?_) | (with_reducible refine below_set _ ?_ ?_) | (with_reducible refine Below.drew ?_) | (with_reducible refine below_dN ?_ _) | (apply below_thenA; assumption) | omega | (simp; done) | (simp; omega) | (simp [*]; done)))
  have hbb := hb0.trans (hb.mono (by omega))
  have h1 := H1.out.below hbb
  have h2 := H2.out.below hbb
  have c1' := h1.cell 0 _ rfl
  have c2' := h2.cell 0 _ rfl
  have f1' := h1.free 0
  have f2' := h2.free 0
  have hR : MnRel b1 b2 2 [4, 25] [0, 0, 0, 0] B ((w1.setCell ⟨b1, 0, none⟩ (.slice a1 2 c1)).setCell ⟨b2, 0, none⟩ (.slice (some ⟨g2, 0, none⟩) 2 2)) :=
    MnRel.put h1 h2 h12 l1 l2 hx (fun g off e => by have := hf g off e; omega) (by omega) hm
  have hBt : ButL [b1, b2] W ((w1.setCell ⟨b1, 0, none⟩ (.slice a1 2 c1)).setCell ⟨b2, 0, none⟩ (.slice (some ⟨g2, 0, none⟩) 2 2)) :=
    ((ButL.of hbb).trans (ButL.set _ _ _ (by simp))).trans (ButL.set _ _ _ (by simp))
  have HR := Lib.hid hR
  have HT := Lib.hid hBt
  clear hR hBt h1 h2 hx hf hm hb hb0 hbb hsA
  go_wp2_with fail
  go_end0
  rw [EQ.out]
  exact ⟨rfl, HR.out, HT.out⟩
set_option maxRecDepth 100000 in
set_option maxHeartbeats 1600000 in
theorem speaks20 (w : World) : Calls Try.prog 34 #[] w fun e w' => e = .returned (.bool true) ∧ Below w.heap.size w w' := by
  have hmf : ∀ (fn : Fn) (first cap : Array Value) (w : World), (Instr.makeFunc fn first cap).run Try.prog w = .ok (.func fn first cap) w := fun _ _ _ _ => rfl
  have eqA := eq_arr2
  have h1 : Blk ((w.alloc (.cells #[.slice none 0 0] 31)).alloc (.cells #[.slice none 0 0] 62)) w.heap.size #[.slice none 0 0] 31 := (Blk.new w _ _ _ rfl).alloc _
  have h2 : Blk ((w.alloc (.cells #[.slice none 0 0] 31)).alloc (.cells #[.slice none 0 0] 62)) (w.heap.size + 1) #[.slice none 0 0] 62 := Blk.new _ _ _ _ (by simp)
  have hB : Below w.heap.size w ((w.alloc (.cells #[.slice none 0 0] 31)).alloc (.cells #[.slice none 0 0] 62)) := (by repeat' (first | (with_reducible exact Below.refl _ _) | (with_reducible assumption) | (with_reducible refine below_alloc ?_ _ ?_) | (with_reducible refine below_set _ ?_ ?_) | (with_reducible refine Below.drew ?_) | (with_reducible refine below_dN ?_ _) | (apply below_thenA; assumption) | omega | (simp; done) | (simp; omega) | (simp [*]; done)))
  have hs : ((w.alloc (.cells #[.slice none 0 0] 31)).alloc (.cells #[.slice none 0 0] 62)).heap.size = w.heap.size + 2 := by simp
  obtain ⟨W0, eW⟩ : ∃ W0, (w.alloc (.cells #[.slice none 0 0] 31)).alloc (.cells #[.slice none 0 0] 62) = W0 := ⟨_, rfl⟩
  rw [eW] at h1 h2 hB hs
  have TR := try_rel 64 #[.pointer (some ⟨w.heap.size, 0, none⟩), .pointer (some ⟨w.heap.size + 1, 0, none⟩)] 0 [w.heap.size, w.heap.size + 1] W0 (MnRel w.heap.size (w.heap.size + 1) 2 [4, 25] [0, 0, 0, 0] W0.heap.size)
    (fun b hb => by simp at hb; omega) (fun W W' h hb => h.but hb (by omega) (by omega)) (fun w => enters_of Try.func64 (by kernel_rfl) rfl _ w)
    (fun W hb hlt => (speaks20a w.heap.size (w.heap.size + 1) W (by omega) _ _ (h1.below hb) (h2.below hb) W0.heap.size hlt (by omega) (by omega)).mono fun e W' h => ⟨fun _ => ⟨h.1, h.2.1⟩, fun h => absurd rfl h, h.2.2⟩)
  have SM := fun ao ca g W (hx : RowI W ao 2 [4, 25]) (h : Blk W g #[.int .i64 4, .int .i64 25] 2) => same20 ao (some ⟨g, 0, none⟩) 2 ca 2 [4, 25] (by omega) W hx (row_of_blk [4, 25] 2 rfl h rfl)
  have HS := Lib.hid hs
  clear h1 h2 hs
  go_enter Try.func34, Try.ntmps34
  go_wp2_with fail
  refine TR.mono ?_
  rintro e w1 ⟨rfl, hr, hbt⟩
  obtain ⟨ao, c, g2, q1, q2, q3, q4, q5, q6⟩ := hr (by first | trivial | rfl)
  have hB1 : Below w.heap.size w w1 := hbt.to hB (by simp) hB.size
  have c1 := q1.cell 0 _ rfl
  have c2 := q2.cell 0 _ rfl
  have m0 := BlkM.cell q6 (i := 0) (by simp)
  have m1 := BlkM.cell q6 (i := 1) (by simp)
  have Q2 := Lib.hid q2
  have Q6 := Lib.hid q6
  have hbn : Below w1.heap.size w1 (w1.alloc (.cells #[.int .i64 4, .int .i64 25] 2)) := (by repeat' (first | (with_reducible exact Below.refl _ _) | (with_reducible assumption) | (with_reducible refine below_alloc ?_ _ ?_) | (with_reducible refine below_set _ ?_ ?_) | (with_reducible refine Below.drew ?_) | (with_reducible refine below_dN ?_ _) | (apply below_thenA; assumption) | omega | (simp; done) | (simp; omega) | (simp [*]; done)))
  have hx := q3.below hbn
  have hy := Blk.new w1 #[.int .i64 4, .int .i64 25] 2 _ rfl
  clear hr hbt TR q2 q6
  go_wp2_with fail
  refine (SM _ _ _ _ hx hy).mono ?_
  rintro e w2 ⟨rfl, hb⟩
  have hb2 := hbn.trans (hb.mono hbn.size)
  replace hB1 := hB1.trans (hb2.mono hB1.size)
  have k2 := Q2.out.below hb2
  have k6 := BlkM.below Q6.out hb2
  have c2 := k2.cell 0 _ rfl
  have m0 := BlkM.cell k6 (i := 0) (by simp)
  have m1 := BlkM.cell k6 (i := 1) (by simp)
  have m0 : w2.cell? ⟨g2, 0, none⟩ = some (.int .i64 0) := m0
  have m1 : w2.cell? ⟨g2, 1, none⟩ = some (.int .i64 0) := m1
  clear hb hb2 hbn hx hy k2 k6
  go_wp2_with fail
  go_ret
  exact ⟨rfl, hB1⟩
end Go.Proofs.Ythofammjbicogaa
namespace Go.Proofs.Ythofammjbicogaa
open Go.ChangeShapes Go.WideShapes Go.ChangeAt Go.RowKit
section
variable {H : Type} {enc : TypeId × Value → H} {P : Program}
theorem post_below {f : Func} {s : ChangeSpec} {apart fresh handsOn : Bool} {W W' : World} {args : Array Value} {v : Value} {ds gs : List (DataW H)} {before pa pv : List MemPlace}
    (hW : DataW.Whole enc P f.params.toList s.vars apart W args.toList ds gs before)
    (hres : ∀ (b : Nat) (sp : Nat → Bool) (hd : Bool), DataW.TrodAll enc P W' b sp hd f.resultTypes.toList (v.resultList f.resultTypes.size) (s.fn H (ds ++ gs)).results [])
    (hargs : ∀ sp : Nat → Bool, (∀ p ∈ before, sp p.block = true) → DataW.TrodAll enc P W' 0 sp true f.params.toList args.toList (s.fn H (ds ++ gs)).args pa)
    (hvars : ∀ sp : Nat → Bool, (∀ p ∈ before, sp p.block = true) → DataW.TrodVars enc P W' sp s.vars (s.fn H (ds ++ gs)).vars pv)
    (hps : before = pa ++ pv) (hb : Below W.heap.size W W') :
    s.post enc P f apart fresh handsOn false W args v W' := by
  have hold : ∀ p ∈ before, (fun b => decide (b < W.heap.size)) p.block = true := fun p hp => by simpa using hW.lt p hp
  refine ⟨ds, gs, before, [], pa, pv, hW, hres _ _ _, hargs _ hold, hvars _ hold, World.keptBut_mono (fun p hp => ⟨hp, ?_⟩) (hb.frame _), fun h => by cases h⟩
  rw [hps, List.mem_append] at hp
  exact Or.inr hp
end
theorem fit_of_wf {x : Int} (h : (Lit.int .i64 x).wf = true) : -9223372036854775808 ≤ x ∧ x ≤ 9223372036854775807 := by
  simp [Lit.wf, IntKind.min, IntKind.max, IntKind.signed, IntKind.bits] at h
  exact ⟨by omega, by omega⟩
theorem fitu_of_wf {x : Int} (h : (Lit.int .u64 x).wf = true) : 0 ≤ x ∧ x ≤ 18446744073709551615 := by
  simp [Lit.wf, IntKind.min, IntKind.max, IntKind.signed, IntKind.bits] at h
  exact ⟨by omega, by omega⟩
theorem wd_of_wf {h l : Int} (w0 : (Lit.int .i64 h).wf = true) (w1 : (Lit.int .u64 l).wf = true) : Wd h l (h * 18446744073709551616 + l) := by
  have a := fit_of_wf w0
  have b := fitu_of_wf w1
  exact ⟨a.1, a.2, b.1, b.2, rfl⟩
end Go.Proofs.Ythofammjbicogaa
namespace Go.Proofs.Ythofammjbicogaa
open Go.ChangeShapes Go.WideShapes Go.ChangeAt Go.RowKit Go.Joins Go.Deep
set_option linter.unusedVariables false
section
variable {H : Type} {enc : TypeId × Value → H} {P : Program}
theorem trodAll_carry {w w' : World} {base : Nat} {spare : Nat → Bool} {held : Bool} : ∀ {ts : List TypeId} {vs : List Value} {ds : List (DataW H)} {ps : List MemPlace},
    DataW.TrodAll enc P w base spare held ts vs ds ps → (∀ p ∈ ps, w.sameAt w' p) → DataW.TrodAll enc P w' base spare held ts vs ds ps
  | [], [], [], _, h, _ => h
  | _ :: _, _ :: _, _ :: _, _, ⟨p, q, ⟨n, h1⟩, h2, e⟩, hs =>
    ⟨p, q, ⟨n, DataW.trod_carry n _ _ _ h1 fun x hx => hs x (by rw [e]; exact List.mem_append_left _ hx)⟩, trodAll_carry h2 fun x hx => hs x (by rw [e]; exact List.mem_append_right _ hx), e⟩
/-- Behind a walk of a law: true; the arguments read as they did. -/
theorem post_law (hl : laidOutB P = true) (hm : mapsRowed P = true) (hz : ∀ t e, t < P.types.size → P.underlying t = some (.slice e) → 0 < P.cellsOf e)
    {f : Func} {s : ChangeSpec} {tb : TypeId} {W W' : World} {args : Array Value} {ds : List (DataW H)} {before : List MemPlace}
    (hW : DataW.Whole enc P f.params.toList s.vars false W args.toList ds [] before) (hv : s.vars = []) (ht : ∀ t ∈ f.params.toList, t < P.types.size)
    (hr : f.resultTypes = #[tb]) (hb : P.underlying tb = some .bool) (hf : s.fn H (ds ++ []) = { results := [.lit (.bool true)], args := ds }) (hB : Below W.heap.size W W') :
    s.post enc P f false true false false W args (.bool true) W' := by
  have hlt := hW.lt
  obtain ⟨p, q, hA, hV, rfl, hfz, hnd⟩ := hW
  rw [hv] at hV
  obtain ⟨_, rfl⟩ := trodVars_none hV
  rw [List.append_nil] at hlt hfz
  refine post_below (ds := ds) (gs := []) (pa := p) (pv := []) ⟨p, [], hA, by rw [hv]; rfl, rfl, by rw [List.append_nil]; exact hfz, hnd⟩ ?_ ?_ ?_ rfl hB
  · intro b sp hd
    rw [hf, hr]
    exact trodAll_cons_mk (shut_bool hb _) trodAll_mk0
  · intro sp hsp
    rw [hf]
    refine trodAll_carry (DataW.TrodAll.respare (kids_rows hl hm) hz ht hA fun x hx => hsp x (by rw [List.append_nil]; exact hx)) fun x hx => ?_
    exact hB.same (hlt x hx)
  · intro sp _
    rw [hf, hv]
    rfl
end
section
variable {H : Type} {enc : TypeId × Value → H} {P : Program} {w : World} {base : Nat} {spare : Nat → Bool} {held : Bool}
/-- A struct of one-cell fields, by value: each field by its own reading. -/
theorem open_flat {r : Reach} {b0 : Nat} {t : TypeId} {fs : Array Field} {v : Value} {d : DataW H} {p : List MemPlace} (hs : P.underlying t = some (.struct fs)) (hone : oneCellFields P fs = true) (hC : P.cellsOf t = fs.size)
    (hv : Value.okWide P w r b0 t v) (h : DataW.Trod enc P w base spare held t v d p) :
    ∃ l : List Value, v = .agg l.toArray ∧ l.length = fs.size ∧ ∀ (i : Nat) (f : Field), fs[i]? = some f → ∃ u y n, l[i]? = some u ∧ DataW.trod enc P w base spare held n f.type [u] = some y := by
  obtain ⟨⟨l⟩, rfl, hsz⟩ := okWide_struct hs hv
  obtain ⟨fuel, hf⟩ := h
  obtain ⟨xs, n, _, _, _, hlen, hg⟩ := DataW.trod_struct hs hf
  refine ⟨l, rfl, by rw [← hC, ← hsz]; rfl, fun i f hi => ?_⟩
  obtain ⟨ho, hk⟩ := hone_of hone i f hi
  have h1 := hg i f hi
  have hil : i < fs.size := (Array.getElem?_eq_some_iff.1 hi).1
  have hll : i < l.length := by rw [hC] at hsz; simp at hsz; omega
  have hxl : i < xs.length := by omega
  rw [ho, hk] at h1
  have e : (l.drop i).take 1 = [l[i]] := by rw [List.drop_eq_getElem_cons hll]; rfl
  rw [show (Value.agg { toList := l }).cells.toList = l from rfl, e, List.getElem?_eq_getElem hxl] at h1
  exact ⟨l[i], xs[i], n, List.getElem?_eq_getElem hll, h1⟩
/-- An array of structs of one-cell fields, by value: each field by its own reading. -/
theorem open_arr_flat {r : Reach} {b0 n : Nat} {t e : TypeId} {fs : Array Field} {v : Value} {d : DataW H} {p : List MemPlace} (hs : P.underlying t = some (.array n e)) (he : P.underlying e = some (.struct fs)) (hone : oneCellFields P fs = true) (hE : P.cellsOf e = fs.size) (hC : P.cellsOf t = n * fs.size)
    (hv : Value.okWide P w r b0 t v) (h : DataW.Trod enc P w base spare held t v d p) :
    ∃ l : List Value, v = .agg l.toArray ∧ l.length = n * fs.size ∧ ∀ (i j : Nat) (f : Field), i < n → fs[j]? = some f → ∃ u y m, l[i * fs.size + j]? = some u ∧ DataW.trod enc P w base spare held m f.type [u] = some y := by
  simp only [Value.okWide, hs] at hv
  obtain ⟨⟨l⟩, rfl, hsz, _⟩ := hv
  obtain ⟨fuel, hf⟩ := h
  obtain ⟨xs, m, _, _, _, hxl, hg⟩ := DataW.trod_array hs hf
  have hl : l.length = n * fs.size := by rw [← hC, ← hsz]; rfl
  refine ⟨l, rfl, hl, fun i j f hi hj => ?_⟩
  have hjl : j < fs.size := (Array.getElem?_eq_some_iff.1 hj).1
  have h1 := hg i hi
  rw [List.getElem?_eq_getElem (by omega), show (Value.agg { toList := l }).cells.toList = l from rfl, hE] at h1
  obtain ⟨ys, m', _, _, _, hyl, hg2⟩ := DataW.trod_struct he h1
  have h2 := hg2 j f hj
  obtain ⟨ho, hk⟩ := hone_of hone j f hj
  have hin : i * fs.size + j < l.length := by
    rw [hl]
    have : (i + 1) * fs.size ≤ n * fs.size := Nat.mul_le_mul_right _ hi
    rw [Nat.add_mul] at this
    omega
  rw [ho, hk, List.getElem?_eq_getElem (show j < ys.length by omega)] at h2
  have e : (((l.drop (i * fs.size)).take fs.size).drop j).take 1 = [l[i * fs.size + j]] := by
    rw [List.drop_take, List.take_take, List.drop_drop, show min 1 (fs.size - j) = 1 by omega, List.drop_eq_getElem_cons hin]
    rfl
  rw [e] at h2
  exact ⟨_, _, m', List.getElem?_eq_getElem hin, h2⟩
theorem flat_int {t : TypeId} {k : IntKind} (ht : P.underlying t = some (.int k)) {l : List Value} {i : Nat} (h : ∃ u y n, l[i]? = some u ∧ DataW.trod enc P w base spare held n t [u] = some y) :
    ∃ a : Int, l[i]? = some (.int k a) ∧ (Lit.int k a).wf = true := by
  obtain ⟨u, y, n, h1, h2⟩ := h
  obtain ⟨a, e, _, hw⟩ := DataW.trod_int ht h2
  obtain rfl : u = .int k a := by simpa using e
  exact ⟨a, h1, hw⟩
theorem flat_bool {t : TypeId} (ht : P.underlying t = some .bool) {l : List Value} {i : Nat} (h : ∃ u y n, l[i]? = some u ∧ DataW.trod enc P w base spare held n t [u] = some y) :
    ∃ a : Bool, l[i]? = some (.bool a) := by
  obtain ⟨u, y, n, h1, h2⟩ := h
  obtain ⟨a, e, _⟩ := DataW.trod_bool ht h2
  obtain rfl : u = .bool a := by simpa using e
  exact ⟨a, h1⟩
theorem flat_string {t : TypeId} (ht : P.underlying t = some .string) {l : List Value} {i : Nat} (h : ∃ u y n, l[i]? = some u ∧ DataW.trod enc P w base spare held n t [u] = some y) :
    ∃ a : ByteArray, l[i]? = some (.string a) ∧ a.size ≤ maxLen := by
  obtain ⟨u, y, n, h1, h2⟩ := h
  obtain ⟨a, e, _, hm⟩ := DataW.trod_string ht h2
  obtain rfl : u = .string a := by simpa using e
  exact ⟨a, h1, hm⟩
end
theorem open_sl {H : Type} {enc : TypeId × Value → H} {P : Program} {w : World} {r : Reach} {b0 base : Nat} {spare : Nat → Bool} {held : Bool} {t e : TypeId} {k : IntKind} {v : Value} {d : DataW H} {p : List MemPlace} (ht : P.underlying t = some (.slice e)) (he : P.underlying e = some (.int k)) (hc : P.cellsOf e = 1)
    (hsp : spare = fun _ => true) (hv : Value.okWide P w r b0 t v) (h : DataW.Trod enc P w base spare held t v d p) : SlV k w v := by
  obtain ⟨fuel, hf⟩ := h
  have hv' := hv
  simp only [Value.okWide, ht] at hv'
  obtain ⟨a, l, c, rfl⟩ := okWide_slice ht hv
  rcases open_ints ht he hc hf with ⟨hcs, _⟩ | ⟨a', len, cap, zs, hcs, _, hl, hm, hz, _, hcell, hwz⟩
  · left
    have : (Value.slice a l c).cells.toList = [.slice a l c] := rfl
    rw [this] at hcs
    simpa using hcs
  · have : (Value.slice a l c).cells.toList = [.slice a l c] := rfl
    rw [this] at hcs
    obtain ⟨rfl, rfl, rfl⟩ : a = some a' ∧ l = len ∧ c = cap := by simpa using hcs
    simp only [Cell.okWide, Cell.ok, ht] at hv'
    obtain ⟨_, _, _, hspot, row, cells, hshape, _⟩ := hv'
    obtain ⟨g, off, spot⟩ := a'
    simp only at hspot hshape
    subst hspot
    have hg : g < w.heap.size := by
      rcases Nat.lt_or_ge g w.heap.size with h | h
      · exact h
      · unfold World.shape? at hshape
        rw [Array.getElem?_eq_none h] at hshape
        cases hshape
    right
    rw [hsp] at hz
    simp only [if_true] at hz
    refine ⟨g, off, l, c, zs, rfl, hz, hl, hm, hg, fun i hi => ?_, hwz⟩
    have := hcell i (by omega)
    have hadd : (⟨g, off, none⟩ : Addr).add i = ⟨g, off + i, none⟩ := by unfold Addr.add; split <;> simp_all
    rwa [hadd] at this
def listAt (l : List Value) : Nat → List Value → Prop
  | _, [] => True
  | k, x :: xs => l[k]? = some x ∧ listAt l (k + 1) xs
theorem list_end {l : List Value} {k : Nat} : listAt l k [] := trivial
theorem list_step {l : List Value} {k : Nat} {x : Value} {xs : List Value} (h : l[k]? = some x) (hs : listAt l (k + 1) xs) : listAt l k (x :: xs) := ⟨h, hs⟩
theorem listAt.get {l : List Value} : ∀ {xs : List Value} {k : Nat}, listAt l k xs → ∀ i, i < xs.length → l[k + i]? = xs[i]?
  | x :: xs, k, h, i, hi => by
    cases i with
    | zero => simpa using h.1
    | succ i =>
      have := listAt.get h.2 i (by simpa using hi)
      rw [List.getElem?_cons_succ, ← this]; congr 1; omega
theorem list_by {l xs : List Value} {n : Nat} (hl : l.length = n) (h : listAt l 0 xs) (hn : xs.length = n := by rfl) : l = xs := by
  apply List.ext_getElem?
  intro i
  by_cases hi : i < xs.length
  · have := h.get i hi; rwa [Nat.zero_add] at this
  · rw [List.getElem?_eq_none (by omega), List.getElem?_eq_none (by omega)]
theorem u32_of_wf {x : Int} (h : (Lit.int .u32 x).wf = true) : 0 ≤ x ∧ x ≤ 4294967295 := by
  simp [Lit.wf, IntKind.min, IntKind.max, IntKind.signed, IntKind.bits] at h
  exact ⟨by omega, by omega⟩
theorem u16_of_wf {x : Int} (h : (Lit.int .u16 x).wf = true) : 0 ≤ x ∧ x ≤ 65535 := by
  simp [Lit.wf, IntKind.min, IntKind.max, IntKind.signed, IntKind.bits] at h
  exact ⟨by omega, by omega⟩
theorem u8_of_wf {x : Int} (h : (Lit.int .u8 x).wf = true) : 0 ≤ x ∧ x ≤ 255 := by
  simp [Lit.wf, IntKind.min, IntKind.max, IntKind.signed, IntKind.bits] at h
  exact ⟨by omega, by omega⟩
theorem i32_of_wf {x : Int} (h : (Lit.int .i32 x).wf = true) : -2147483648 ≤ x ∧ x ≤ 2147483647 := by
  simp [Lit.wf, IntKind.min, IntKind.max, IntKind.signed, IntKind.bits] at h
  exact ⟨by omega, by omega⟩
theorem slices_full : ∀ t e, t < Try.prog.types.size → Try.prog.underlying t = some (.slice e) → 0 < Try.prog.cellsOf e := slices_full_of Try.prog (by kernel_rfl)
end Go.Proofs.Ythofammjbicogaa
