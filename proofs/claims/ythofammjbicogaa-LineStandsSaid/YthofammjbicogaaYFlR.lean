/-
  Package flexbox: Cross.
-/
import Derived.Test.YthofammjbicogaaYFlO
namespace Go.Proofs.Ythofammjbicogaa
open Go.RowKit
set_option linter.unusedSimpArgs false
set_option linter.unusedVariables false

theorem OwnI.void (w : World) : OwnI (w.alloc (.cells #[] 2)) w.heap.size (some ⟨w.heap.size, 0, none⟩) 0 0 [] :=
  ⟨⟨rfl, .inr ⟨w.heap.size, 0, #[], rfl, Nat.le_refl _, heap_alloc_new w _, Nat.le_refl _, by unfold maxLen; omega, rfl, rfl⟩⟩, rfl⟩
theorem OwnI.put {w : World} {B g k cap i : Nat} {xs : List Int} (h : OwnI w B (some ⟨g, 0, none⟩) k cap xs) (hi : i < k) (y : Int) : OwnI (w.setCell ⟨g, i, none⟩ (.int .i64 y)) B (some ⟨g, 0, none⟩) k cap (xs.set i y) := by
  rcases h.1.2 with ⟨e, _⟩ | ⟨g', c, cur, e, hb, hg, hl, hm, hs, ht⟩
  · simp at e
  · obtain ⟨rfl, rfl⟩ : g = g' ∧ cap = c := by simpa using e
    refine ⟨⟨by simp [i64s, h.2], .inr ⟨g, cap, cur.setIfInBounds i (.int .i64 y), rfl, hb, ?_, hl, hm, by simp [hs], ?_⟩⟩, by rw [List.length_set]; exact h.2⟩
    · simp only [World.setCell, Array.getElem?_modify, if_true, hg]
      rfl
    · rw [Array.toList_setIfInBounds, List.take_set, ht]
      simp [i64s, List.map_set]
theorem OwnI.free {w : World} {B g k cap : Nat} {xs : List Int} (h : OwnI w B (some ⟨g, 0, none⟩) k cap xs) (i : Nat) : w.frozen? ⟨g, i, none⟩ = false := by
  rcases h.1.2 with ⟨e, _⟩ | ⟨g', c, cur, e, hb, hg, hl, hm, hs, ht⟩
  · simp at e
  · obtain ⟨rfl, rfl⟩ : g = g' ∧ cap = c := by simpa using e
    simp [World.frozen?, hg]
theorem OwnI.head {w : World} {B k cap : Nat} {ao : Option Addr} {xs : List Int} (h : OwnI w B ao k cap xs) (hk : 0 < k) : ∃ g, ao = some ⟨g, 0, none⟩ ∧ B ≤ g := by
  rcases h.1.2 with ⟨_, e⟩ | ⟨g', c, cur, e, hb, _⟩
  · omega
  · obtain ⟨rfl, _⟩ : ao = some ⟨g', 0, none⟩ ∧ cap = c := by simpa using e
    exact ⟨g', rfl, hb⟩
/-- Numbers put over a list's, one after another. -/
def stL (xs : List Int) (f : Nat → Int) : Nat → List Int
  | 0 => xs
  | j + 1 => (stL xs f j).set j (f j)
theorem stL_len (xs : List Int) (f : Nat → Int) : ∀ j, (stL xs f j).length = xs.length
  | 0 => rfl
  | j + 1 => by unfold stL; rw [List.length_set]; exact stL_len xs f j
theorem stL_get (xs : List Int) (f : Nat → Int) (i : Nat) (hi : i < xs.length) : ∀ j, (stL xs f j).getD i 0 = if i < j then f i else xs.getD i 0
  | 0 => rfl
  | j + 1 => by
    show ((stL xs f j).set j (f j)).getD i 0 = _
    rw [getD_set, stL_len, stL_get xs f i hi j]
    by_cases e : j = i
    · subst e
      rw [if_pos ⟨rfl, hi⟩, if_pos (by omega)]
    · rw [if_neg (fun x => e x.1)]
      by_cases h1 : i < j
      · rw [if_pos h1, if_pos (by omega)]
      · rw [if_neg h1, if_neg (by omega)]
theorem stL_pre (xs ps : List Int) {k : Nat} (hx : xs.length = k) : ∀ j, j ≤ k → pre (stL xs (fun i => xs.getD i 0 + ps.getD i 0) k) j = pre xs j + pre ps j
  | 0, _ => rfl
  | j + 1, h => by
    show pre (stL _ _ k) j + (stL _ _ k).getD j 0 = pre xs j + xs.getD j 0 + (pre ps j + ps.getD j 0)
    rw [stL_pre xs ps hx j (by omega), stL_get _ _ j (by omega), if_pos (by omega)]
    omega
def crSz (xs : List Int) (k : Nat) (avail gap : Int) (kn si : Bool) (ct : Int) : List Int :=
  if kn then (if si then stL xs (fun _ => avail) k else if ct = 1 ∧ 0 < roomV xs avail gap k then stL xs (fun i => xs.getD i 0 + (evL (roomV xs avail gap k) k).getD i 0) k else xs) else xs
def crAt (xs : List Int) (k : Nat) (avail gap : Int) (kn si : Bool) (ct : Int) : List Int :=
  if kn && si then List.replicate k 0 else if kn && !(ct == 1) then plN xs (spL (roomV xs avail gap k) k (wrap64 (ct - 1))) gap k else plN (crSz xs k avail gap kn si ct) (zerL k) gap k
def CrOut (k : Nat) (LA LS : List Int) (w : World) (e : Ending) (w' : World) : Prop :=
  ∃ a1 c1 a2 c2, e = .returned (.tuple #[.slice a1 k c1, .slice a2 k c2]) ∧ RowI w' a1 k LA ∧ (∀ g off, a1 = some ⟨g, off, none⟩ → w.heap.size ≤ g) ∧ RowI w' a2 k LS ∧ (∀ g off, a2 = some ⟨g, off, none⟩ → w.heap.size ≤ g) ∧ Below w.heap.size w w'
set_option maxRecDepth 100000 in
set_option maxHeartbeats 3200000 in
theorem flx_cross (ao : Option Addr) (k cap : Nat) (xs : List Int) (avail gap ct : Int) (kn si : Bool) (hl : Lim xs k avail gap) (hk1 : 1 ≤ k) (hct : IFit ct) (w : World) (hx : RowI w ao k xs) :
    Calls Try.prog 51 #[.slice ao k cap, .int .i64 avail, .int .i64 gap, .bool kn, .bool si, .int .i64 ct] w (CrOut k (crAt xs k avail gap kn si ct) (crSz xs k avail gap kn si ct) w) := by
  obtain ⟨i0, hi, hz0, hz1, hz2⟩ := info_parts (show (Try.prog.info? 2).map (fun i => (i.zero, i.size, i.bytes)) = some (some (.int .i64 0), 1, 8) by kernel_rfl)
  obtain ⟨Q, eQ⟩ : ∃ Q : Ending → World → Prop, Q = CrOut k (crAt xs k avail gap kn si ct) (crSz xs k avail gap kn si ct) w := ⟨_, rfl⟩
  rw [← eQ]
  have EQ := Lib.hid eQ
  have hkp : 0 < k := hk1
  obtain ⟨gx, offx, rfl, hgx, _⟩ := hx.at hkp
  have hk30 := hl.k30
  have hxl : xs.length = k := hx.1
  have HX := Lib.hid hx
  have HL := Lib.hid hl
  have HXL := Lib.hid hxl
  have hk0 : ¬ (k : Int) = 0 := by omega
  have hp0 := pre_lim hl.xs36
  have hF := room_lenB hl
  have hFl := room_lim hl hl.k30
  obtain ⟨F, eF⟩ : ∃ F, roomV xs avail gap k = F := ⟨_, rfl⟩
  rw [eF] at hF hFl
  have EF := Lib.hid eF
  have hzp : ∀ j, j ≤ k + 1 → -8796093022208 ≤ pre (zerL k) j ∧ pre (zerL k) j ≤ 8796093022208 := fun j _ => by unfold zerL; rw [pre_rep]; omega
  have PX := fun aw cw so sp W (hsp : ∀ j, j ≤ k + 1 → -8796093022208 ≤ pre sp j ∧ pre sp j ≤ 8796093022208) hx' hy' => flx_places aw so k cw (k + 1) (k + 1) xs sp gap hk30 hl.gp (fun j hj => by have := hp0 j; omega) (by omega) hsp W hx' hy'
  have hpn : 0 < F → Nonneg (evL F k) := fun h => evL_nonneg (by omega)
  have hps : pre (evL F k) k = F := evL_sum hkp
  have PS := fun aw cw so W (h0 : 0 < F) hx' hy' => flx_places aw so k cw (k + 1) (k + 1) (stL xs (fun i => xs.getD i 0 + (evL F k).getD i 0) k) (zerL k) gap hk30 hl.gp (fun j hj => by
    rw [stL_pre xs _ hxl j hj]
    have h1 := hp0 j
    have h2 := pre_nonneg (hpn h0) j
    have h3 := pre_mono (hpn h0) hj
    omega) (by omega) hzp W hx' hy'
  have RM := fun W hx' => flx_room (some ⟨gx, offx, none⟩) k cap xs avail gap hl W hx'
  rw [eF] at RM
  have SPC := fun way W => flx_spaces F way k hk1 (by omega) hF W
  have hspp := fun way j (hj : j ≤ k + 1) => spL_pre F way k hk1 hj
  have EV := fun W => flx_even_at F (k : Int) k rfl (by omega) hF W
  have hav := hl.av
  have OF := fun W => fix_of avail (by unfold IFit; omega) (by unfold LenB; omega) W
  have HSPP := Lib.hid hspp
  have HZP := Lib.hid hzp
  have HPN := Lib.hid hpn
  have HPS := Lib.hid hps
  have HFL := Lib.hid hFl
  clear eQ hx hl hxl hp0 hF hFl eF hspp hzp hpn hps hav
  go_enter Try.func51, Try.ntmps51
  have hx0 := HX.out.below (show Below w.heap.size w (w.alloc (.cells #[] 2)) from (by repeat' (first | (with_reducible exact Below.refl _ _) | (with_reducible assumption) | (with_reducible refine below_alloc ?_ _ ?_) | (with_reducible refine below_set _ ?_ ?_) | (with_reducible refine Below.drew ?_) | (with_reducible refine below_dN ?_ _) | (apply below_thenA; assumption) | omega | (simp; done) | (simp; omega) | (simp [*]; done))))
  obtain ⟨ad, ead, hnews⟩ := row_news hx0 hkp
  obtain rfl : ad = ⟨gx, offx, none⟩ := by simpa using ead.symm
  go_wp2_with (at_builtin; refine wpList_append_own _ rfl _ _ 31 rfl w.heap.size 2 i0 (.int .i64 0) 1 8 Try.underlying31 hi hz0 hz1 hz2 rfl (by decide) _ _ _ rfl (OwnI.void w).1 ⟨gx, offx, none⟩ k cap (i64s xs) rfl (by rw [i64s_len, HXL.out, Nat.mul_one]) hnews (i64s_cell _) (by unfold maxLen; omega) (by omega) (by simp) ?_)
  intro v' w2 hown hgrow _
  obtain ⟨a2, c2, rfl, ho, hbe, _, _, _⟩ := (OwnI.void w).app (ys := xs) (m := k) (v' := v') (by simpa [i64s] using hown) hgrow HXL.out (by simp)
  rw [Nat.zero_add, List.nil_append] at ho
  have hB : Below w.heap.size w w2 := hbe _ _ (Nat.le_refl _) (by repeat' (first | (with_reducible exact Below.refl _ _) | (with_reducible assumption) | (with_reducible refine below_alloc ?_ _ ?_) | (with_reducible refine below_set _ ?_ ?_) | (with_reducible refine Below.drew ?_) | (with_reducible refine below_dN ?_ _) | (apply below_thenA; assumption) | omega | (simp; done) | (simp; omega) | (simp [*]; done)))
  have hs2 := hB.size
  obtain ⟨g2, rfl, hg2⟩ := ho.head hkp
  have HO := Lib.hid ho
  clear hown hgrow hbe hnews ead hx0 ho
  rw [Nat.zero_add]
  go_wp2_with (at_make; refine wpList_make_full _ rfl _ _ 31 rfl w2.heap.size 2 i0 (.int .i64 0) 1 Try.underlying31 hi hz0 hz1 _ _ _ _ (k + 1) rfl rfl rfl rfl (by rw [hz2]; omega) (by unfold maxLen; omega) (Nat.le_refl _) ?_)
  intro w3 hown hgr
  have hb3 : Below w2.heap.size w2 w3 := (Below.refl _ w2).grown hgr (Nat.le_refl _) (fun _ h => by cases h)
  have t16 : BlkI w3 w2.heap.size (zerL k) := BlkI.made hown
  have ho := HO.out.below hb3
  have hB3 := hB.trans (hb3.mono hs2)
  have hz3 := t16.lt
  obtain ⟨g16, eg⟩ : ∃ g, w2.heap.size = g := ⟨_, rfl⟩
  rw [eg] at t16 hz3 hs2 ⊢
  have hng : g2 ≠ g16 := by
    obtain ⟨g', off', e', hlt, _⟩ := HO.out.row.2 hkp
    obtain ⟨rfl, _⟩ : g2 = g' ∧ 0 = off' := by simpa using e'
    omega
  clear hown hgr hb3 HO hB eg
  have hfr2 : ∀ (g off : Nat), (some ⟨g2, 0, none⟩ : Option Addr) = some ⟨g, off, none⟩ → w.heap.size ≤ g := fun g off e => by
    obtain ⟨rfl, _⟩ : g2 = g ∧ 0 = off := by simpa using e
    exact hg2
  cases kn
  · have hy := t16.row (n := k + 1) (by simp [zerL])
    clear SPC RM EV OF PS
    go_wp2_with fail
    refine (PX _ _ _ (zerL k) _ HZP.out ho.row hy).mono ?_
    rintro e w5 ⟨a5, c5, rfl, ho5, hb⟩
    have hs3 := hB3.size
    have hB5 := hB3.trans (hb.mono hs3)
    have hor := ho.row.below hb
    clear hb PX hy t16 ho hB3
    go_wp2_with fail
    rw [EQ.out]
    exact ⟨a5, c5, some ⟨g2, 0, none⟩, c2, rfl, ho5.row, fun g off e => Nat.le_trans hs3 (ho5.from g off e), hor, hfr2, hB5⟩
  · cases si
    · clear OF
      go_wp2_with fail
      refine (RM _ (HX.out.below hB3)).mono ?_
      rintro e w4 ⟨rfl, hb⟩
      have ho4 := ho.below hb
      have t4 := BlkI.below t16 hb
      have hs3 := hB3.size
      have hB4 := hB3.trans (hb.mono hs3)
      clear hb RM ho t16 hB3
      by_cases hc1 : ct = 1
      · subst hc1
        by_cases hF0 : 0 < F
        · clear SPC
          go_wp2_with fail
          refine (EV _).mono ?_
          rintro e w5 ⟨ap, cp, rfl, hp, _, _, hfr, hb⟩
          have ho5 := ho4.below hb
          have t5 := BlkI.below t4 hb
          have hs4 := hB4.size
          have hB5 := hB4.trans (hb.mono hs4)
          have hgp : ∀ g off, ap = some ⟨g, off, none⟩ → g ≠ g2 := fun g off e => by
            have h1 := hfr g off e
            obtain ⟨g', off', e', hlt, _⟩ := ho4.row.2 hkp
            obtain ⟨rfl, _⟩ : g2 = g' ∧ 0 = off' := by simpa using e'
            omega
          have HGP := Lib.hid hgp
          have HF0 := Lib.hid hF0
          clear hb EV ho4 t4 hB4 hgp hfr hF0
          obtain ⟨ps, eps⟩ : ∃ ps, evL F k = ps := ⟨_, rfl⟩
          rw [eps] at hp
          have HP' := HPN.out HF0.out
          have HS' := HPS.out
          rw [eps] at PS HP' HS'
          have EPS := Lib.hid eps
          obtain ⟨fs, efs⟩ : ∃ fs, (fun i => xs.getD i 0 + ps.getD i 0) = fs := ⟨_, rfl⟩
          have hfs : ∀ i, fs i = xs.getD i 0 + ps.getD i 0 := fun i => by rw [← efs]
          rw [efs] at PS
          have EFS := Lib.hid efs
          have HFS := Lib.hid hfs
          have HPP := Lib.hid HP'
          have HSS := Lib.hid HS'
          clear eps efs hfs HP' HS' hs3 PX HPN HPS
          go_wp2_with fail
          go_loopg [79] k (fun gk s79 wr => ∃ j, j ≤ k ∧ gk = k - j ∧ s79 = .int .i64 ((j : Int)) ∧ OwnI wr w.heap.size (some ⟨g2, 0, none⟩) k c2 (stL xs fs j) ∧ RowI wr ap k ps ∧ BlkI wr g16 (zerL k) ∧ Below w.heap.size w wr)
          case atStart => exact ⟨0, by omega, by omega, rfl, ho5, hp, t5, hB5⟩
          case round =>
            clear ho5 hp t5 hB5 hs4
            obtain ⟨j, hj, rfl, rfl, ho, hp, t, hB⟩ := hrel
            have hs := hB.size
            by_cases hjk : j < k
            · have ix : (j : Int) < (k : Int) := by omega
              obtain ⟨gp, offp, rfl, _, hcp⟩ := hp.at hjk
              obtain ⟨g', off', e', _, hcx⟩ := ho.row.at hjk
              obtain ⟨rfl, rfl⟩ : g2 = g' ∧ 0 = off' := by simpa using e'
              rw [Nat.zero_add, stL_get xs fs j (by rw [HXL.out]; omega) j, if_neg (by omega)] at hcx
              have hfr := ho.free j
              have hx := HL.out.xs36 j
              have hps := HPP.out j
              have hpl := get_le_pre HPP.out hjk
              rw [HSS.out] at hpl
              have hfl := HFL.out
              have ef := HFS.out j
              have es : stL xs fs (j + 1) = (stL xs fs j).set j (fs j) := rfl
              obtain ⟨x, ex⟩ : ∃ x, xs.getD j 0 = x := ⟨_, rfl⟩
              obtain ⟨y, ey⟩ : ∃ x, ps.getD j 0 = x := ⟨_, rfl⟩
              rw [ex] at hcx hx ef
              rw [ey] at hcp hps hpl ef
              rw [ef] at es
              have AD := fun b W h => flx_add2 b x y (by unfold LenB; omega) (by unfold IFit; omega) (by unfold LenB; omega) W h
              have ES := Lib.hid es
              have hgne := HGP.out gp offp rfl
              clear es ef ex ey hps hpl hfl hx e'
              have b0 := Blk.new wr #[.int .i64 x, .int .i64 y] 2 _ rfl
              have hb0 : Below wr.heap.size wr (wr.alloc (.cells #[.int .i64 x, .int .i64 y] 2)) := (by repeat' (first | (with_reducible exact Below.refl _ _) | (with_reducible assumption) | (with_reducible refine below_alloc ?_ _ ?_) | (with_reducible refine below_set _ ?_ ?_) | (with_reducible refine Below.drew ?_) | (with_reducible refine below_dN ?_ _) | (apply below_thenA; assumption) | omega | (simp; done) | (simp; omega) | (simp [*]; done)))
              go_wp2_with fail
              refine (AD _ _ b0).mono ?_
              rintro e w6 ⟨rfl, hb⟩
              have hb6 := hb0.trans (hb.mono hb0.size)
              have ho6 := (ho.below hb6).put hjk (x + y)
              have hp6 := (hp.below hb6).but (But.set (b := g2) w6 j (.int .i64 (x + y))) (fun g off e => HGP.out g off e)
              have t6 := Blk.other (BlkI.below t hb6) (c := g2) (fun e => hng e.symm) j (.int .i64 (x + y))
              have hB6 := (hB.trans (hb6.mono hs)).setCell (p := ⟨g2, j, none⟩) hg2 (.int .i64 (x + y))
              have hfr6 := (ho.below hb6).free j
              have hcx6 := (hb6.cell (p := ⟨g2, j, none⟩) (by have := hs; omega)).trans hcx
              clear ho hp t hB hb hb0 b0 AD hcx hcp hfr
              go_wp2_with fail
              go_roundg (k - (j + 1))
              case measure => omega
              case rel => exact ⟨j + 1, by omega, rfl, by go_num, by rw [ES.out]; exact ho6, hp6, t6, hB6⟩
            · obtain rfl : j = k := by omega
              have ix : ¬ (j : Int) < (j : Int) := by omega
              have hy := t.row (n := j + 1) (by simp [zerL])
              have PSx := PS (some ⟨g2, 0, none⟩) c2 (some ⟨g16, 0, none⟩) wr HF0.out (EFS.out ▸ ho.row) hy
              clear PS
              go_wp2_with fail
              refine PSx.mono ?_
              rintro e w5 ⟨a5, c5, rfl, ho5, hb⟩
              have hor := ho.row.below hb
              have hB5 := hB.trans (hb.mono hs)
              clear hb PSx hy t ho hB hp
              go_wp2_with fail
              rw [EQ.out]
              unfold CrOut crAt crSz
              rw [EF.out, EPS.out]
              refine ⟨a5, c5, some ⟨g2, 0, none⟩, c2, rfl, ?_, fun g off e => Nat.le_trans hs (ho5.from g off e), ?_, hfr2, hB5⟩
              · have h0 := HF0.out
                rw [EFS.out]
                simpa [h0] using ho5.row
              · have h0 := HF0.out
                rw [EFS.out]
                simpa [h0] using hor
        · have hy := t4.row (n := k + 1) (by simp [zerL])
          clear SPC EV PS
          go_wp2_with fail
          refine (PX _ _ _ (zerL k) _ HZP.out ho4.row hy).mono ?_
          rintro e w5 ⟨a5, c5, rfl, ho5, hb⟩
          have hs4 := hB4.size
          have hB5 := hB4.trans (hb.mono hs4)
          have hor := ho4.row.below hb
          clear hb PX hy t4 ho4 hB4
          go_wp2_with fail
          rw [EQ.out]
          unfold CrOut crAt crSz
          rw [EF.out]
          refine ⟨a5, c5, some ⟨g2, 0, none⟩, c2, rfl, ?_, fun g off e => Nat.le_trans hs4 (ho5.from g off e), ?_, hfr2, hB5⟩
          · have h0 : ¬ 0 < F := by omega
            simp only [h0, and_false, if_false, if_true, Bool.false_eq_true, Bool.and_false, Bool.and_true, beq_self_eq_true, Bool.not_true]; exact ho5.row
          · have h0 : ¬ 0 < F := by omega
            simp only [h0, and_false, if_false, if_true, Bool.false_eq_true]; exact hor
      · have hc1b : (ct == 1) = false := by simpa using hc1
        have HCT := Lib.hid hc1b
        clear EV PS hc1b
        go_wp2_with fail
        refine (SPC _ _).mono ?_
        rintro e w5 ⟨rfl, t6, hb⟩
        have ho5 := ho4.below hb
        have hs4 := hB4.size
        have hB5 := hB4.trans (hb.mono hs4)
        have hsp := fun j (hj : j ≤ k + 1) => HSPP.out (wrap64 (ct - 1)) j hj
        have hsl := spL_len F (wrap64 (ct - 1)) k hkp
        have hy := t6.row (n := k + 1) hsl
        have hfl := HFL.out
        have PL := PX (some ⟨g2, 0, none⟩) c2 (some ⟨w4.heap.size, 0, none⟩) (spL F k (wrap64 (ct - 1))) w5 (fun j hj => by have := hsp j hj; omega) ho5.row hy
        obtain ⟨SL, eSL⟩ : ∃ L, spL F k (wrap64 (ct - 1)) = L := ⟨_, rfl⟩
        rw [eSL] at PL
        have ESL := Lib.hid eSL
        clear hb SPC hsp hsl hy hfl PX t6 hs3 ho4 t4 hB4 eSL
        go_wp2_with fail
        refine PL.mono ?_
        rintro e w6 ⟨a5, c5, rfl, ho6, hb⟩
        have hs5 := hB5.size
        have hB6 := hB5.trans (hb.mono hs5)
        have hor := ho5.row.below hb
        clear hb PL ho5 hB5
        go_wp2_with fail
        rw [EQ.out]
        unfold CrOut crAt crSz
        rw [EF.out, ESL.out, HCT.out]
        refine ⟨a5, c5, some ⟨g2, 0, none⟩, c2, rfl, ?_, fun g off e => Nat.le_trans hs5 (ho6.from g off e), ?_, hfr2, hB6⟩
        · simpa using ho6.row
        · have hc1 : ¬ ct = 1 := by have := HCT.out; simpa using this
          simpa [hc1] using hor
    · clear SPC RM EV PX PS HSPP HZP HPN HPS
      have hkb : ((k : Int) == 0) = false := by simpa using hk0
      go_wp2_with fail
      go_loopg [44] k (fun gk s44 wr => ∃ j, j ≤ k ∧ gk = k - j ∧ s44 = .int .i64 ((j : Int)) ∧ OwnI wr w.heap.size (some ⟨g2, 0, none⟩) k c2 (stL xs (fun _ => avail) j) ∧ BlkI wr g16 (zerL k) ∧ Below w.heap.size w wr)
      case atStart => exact ⟨0, by omega, by omega, rfl, ho, t16, hB3⟩
      case round =>
        clear ho t16 hB3 hz3
        obtain ⟨j, hj, rfl, rfl, ho, t, hB⟩ := hrel
        have hs := hB.size
        by_cases hjk : j < k
        · have ix : (j : Int) < (k : Int) := by omega
          have es : stL xs (fun _ => avail) (j + 1) = (stL xs (fun _ => avail) j).set j avail := rfl
          have ES := Lib.hid es
          have hfr := ho.free j
          obtain ⟨g', off', e', _, hcx⟩ := ho.row.at hjk
          obtain ⟨rfl, rfl⟩ : g2 = g' ∧ 0 = off' := by simpa using e'
          rw [Nat.zero_add] at hcx
          clear es e'
          go_wp2_with fail
          refine (OF _).mono ?_
          rintro e w6 ⟨rfl, rfl⟩
          have ho6 := ho.put hjk avail
          have t6 := Blk.other t (c := g2) (fun e => hng e.symm) j (.int .i64 avail)
          have hB6 := hB.setCell (p := ⟨g2, j, none⟩) hg2 (.int .i64 avail)
          clear ho t hB
          go_wp2_with fail
          go_roundg (k - (j + 1))
          case measure => omega
          case rel => exact ⟨j + 1, by omega, rfl, by go_num, by rw [ES.out]; exact ho6, t6, hB6⟩
        · obtain rfl : j = k := by omega
          have ix : ¬ (j : Int) < (j : Int) := by omega
          clear OF
          go_wp2_with fail
          rw [EQ.out]
          unfold CrOut crAt crSz
          have hz := t.row (n := j + 1) (by simp [zerL])
          have hz2 : RowI wr (some ⟨g16, 0, none⟩) j (List.replicate j 0) := by
            refine ⟨by simp, fun h => ?_⟩
            obtain ⟨g, off, e, hg, hc⟩ := hz.2 (by omega)
            refine ⟨g, off, e, hg, fun i hi => ?_⟩
            rw [hc i (by omega), getD_rep]
            unfold zerL
            rw [getD_rep]
          refine ⟨some ⟨g16, 0, none⟩, j, some ⟨g2, 0, none⟩, c2, rfl, hz2, ?_, ho.row, hfr2, hB⟩
          intro g off e
          obtain ⟨rfl, _⟩ : g16 = g ∧ 0 = off := by simpa using e
          omega
end Go.Proofs.Ythofammjbicogaa
