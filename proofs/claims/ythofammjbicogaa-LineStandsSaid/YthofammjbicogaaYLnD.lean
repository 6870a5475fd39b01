/-
  Package line: Offsets.
-/
import Derived.Test.YthofammjbicogaaYLnC
namespace Go.Proofs.Ythofammjbicogaa
open Go.RowKit
set_option linter.unusedSimpArgs false
set_option linter.unusedVariables false

def offF (l : List It) (a : Nat) (gs : List Int) (at0 : Int) : Nat → Option Int
  | 0 => some at0
  | j + 1 => (offF l a gs at0 j).bind fun t => addP 0 [t, (l.getD (a + j) it0).w, (l.getD (a + j) it0).s, gs.getD j 0]
def offL (l : List It) (a : Nat) (gs : List Int) (at0 : Int) (n : Nat) : List Int := (List.range n).map fun j => (offF l a gs at0 j).getD 0
theorem offL_succ (l : List It) (a : Nat) (gs : List Int) (at0 : Int) (n : Nat) : offL l a gs at0 (n + 1) = offL l a gs at0 n ++ [(offF l a gs at0 n).getD 0] := by
  unfold offL
  rw [List.range_succ, List.map_append]
  rfl
theorem offL_len (l : List It) (a : Nat) (gs : List Int) (at0 : Int) (n : Nat) : (offL l a gs at0 n).length = n := by simp [offL]
theorem offF_none {l : List It} {a : Nat} {gs : List Int} {at0 : Int} {j : Nat} (h : offF l a gs at0 j = none) : ∀ d, offF l a gs at0 (j + d) = none
  | 0 => h
  | d + 1 => by
    show (offF l a gs at0 (j + d)).bind _ = none
    rw [offF_none h d]; rfl
/-- What Offsets of a line that is one answers. -/
def offR (l : List It) (a b : Nat) (W avail text : Int) : Option (List Int) :=
  if lenB (avail - W) then
    (if (offF l a (sprL (avail - W) (b - a) text ((b : Int) == (l.length : Int))) (sprAt (avail - W) text) (b - a - 1)).isSome then some (offL l a (sprL (avail - W) (b - a) text ((b : Int) == (l.length : Int))) (sprAt (avail - W) text) (b - a)) else none)
  else none
def OffAns (r : Option (List Int)) (w : World) (e : Ending) (w' : World) : Prop :=
  (∀ L, r = some L → ∃ ao c, e = .returned (.slice ao L.length c) ∧ OwnI w' w.heap.size ao L.length c L) ∧ (r = none → e = .panicked (gave 2)) ∧ Below w.heap.size w w'
theorem OffAns.yes {L : List Int} {ao : Option Addr} {c : Nat} {w w' : World} (h : OwnI w' w.heap.size ao L.length c L) (hb : Below w.heap.size w w') : OffAns (some L) w (.returned (.slice ao L.length c)) w' :=
  ⟨fun L' e => by obtain rfl := Option.some.inj e; exact ⟨ao, c, rfl, h⟩, fun h => by simp at h, hb⟩
theorem OffAns.no {r : Option (List Int)} {w w' : World} (h : r = none) (hb : Below w.heap.size w w') : OffAns r w (.panicked (gave 2)) w' := by
  subst h
  exact ⟨fun L' e => by simp at e, fun _ => rfl, hb⟩
theorem fix_add4 (g : Nat) (a b c d : Int) (ha : IFit a) (hb : IFit b) (hc : IFit c) (hd : IFit d) (w : World) (h : Blk w g #[.int .i64 a, .int .i64 b, .int .i64 c, .int .i64 d] 2) :
    Calls Try.prog 57 #[.slice (some ⟨g, 0, none⟩) 4 4] w (WdAns (addP 0 [a, b, c, d]) w) :=
  (fix_add_any g 0 4 4 [a, b, c, d] (by omega) w (ints_blk [a, b, c, d] rfl h rfl (by intro x hx; simp at hx; rcases hx with rfl | rfl | rfl | rfl; exact ha; exact hb; exact hc; exact hd)))
theorem gaps_fit {F : Int} (hF : LenB F) (m : Nat) (text : Int) (last : Bool) (j : Nat) : LenB ((sprL F m text last).getD j 0) := by
  unfold sprL sprB
  split
  · rename_i h
    simp only [Bool.and_eq_true, decide_eq_true_eq] at h
    have hF0 : 0 < F := h.1.1.2
    have hn := nonneg_app (evL_nonneg (t := F) (p := m - 1) (by omega))
    have hm1 : 1 < m := h.2
    by_cases hj : j < m - 1
    · have h1 := get_le_pre (evL_nonneg (t := F) (p := m - 1) (by omega)) hj
      rw [evL_sum (by omega)] at h1
      have h2 := (evL_nonneg (t := F) (p := m - 1) (by omega)) j
      have e : (evL F (m - 1) ++ [0]).getD j 0 = (evL F (m - 1)).getD j 0 := by
        simp only [List.getD]
        rw [List.getElem?_append_left (by rw [evL_len]; exact hj)]
      rw [e]
      unfold LenB at *; omega
    · have e : (evL F (m - 1) ++ [0]).getD j 0 = 0 := by
        simp only [List.getD]
        rw [List.getElem?_append_right (by rw [evL_len]; omega), evL_len]
        cases hh : j - (m - 1) with
        | zero => rfl
        | succ n => simp
      rw [e]; unfold LenB; omega
  · rw [getD_rep]; unfold LenB; omega
theorem sprL_len (F : Int) (m : Nat) (hm : 1 ≤ m) (text : Int) (last : Bool) : (sprL F m text last).length = m := by
  unfold sprL
  split
  · rw [List.length_append, evL_len]; simp; omega
  · simp
theorem sprAt_len {F : Int} (hF : LenB F) (text : Int) : LenB (sprAt F text) := by
  unfold sprAt LenB at *
  split
  · omega
  · split <;> omega
def Sli4 (B : Nat) (x y z u : Int) (v : Value) (w : World) : Prop := ∃ b, v = .slice (some ⟨b, 0, none⟩) 4 4 ∧ B ≤ b ∧ Blk w b #[.int .i64 x, .int .i64 y, .int .i64 z, .int .i64 u] 2
def sli4C (B : Nat) (x y z u : Int) : Cl := .own (Sli4 B x y z u) (fun _ _ _ h hb => by obtain ⟨b, e, h1, h2⟩ := h; exact ⟨b, e, h1, h2.below hb⟩)
set_option maxRecDepth 100000 in
set_option maxHeartbeats 6400000 in
theorem ln_offsets_ok (ao : Option Addr) (k cap a b : Nat) (W H avail text : Int) (l : List It) (hk : k ≤ 1000) (hcap : k ≤ cap) (hl : l.length = k) (hf : ItFit l) (hab : a < b) (hbk : b ≤ k) (hW : IFit W) (hav : IFit avail) (w : World) (hr : RowV w ao k 4 (itV l)) :
    Calls Try.prog 18 #[.slice ao k cap, .agg #[.int .i64 ((a : Int)), .int .i64 ((b : Int)), .int .i64 W, .int .i64 H], .int .i64 avail, .int .i64 text] w (OffAns (offR l a b W avail text) w) := by
  obtain ⟨i0, hi, hz0, hz1, hz2⟩ := info_parts (show (Try.prog.info? 2).map (fun i => (i.zero, i.size, i.bytes)) = some (some (.int .i64 0), 1, 8) by kernel_rfl)
  obtain ⟨R, eR⟩ : ∃ R, offR l a b W avail text = R := ⟨_, rfl⟩
  rw [eR]
  obtain ⟨Q, eQ⟩ : ∃ Q : Ending → World → Prop, Q = OffAns R w := ⟨_, rfl⟩
  rw [← eQ]
  have EQ := Lib.hid eQ
  obtain ⟨la, ela⟩ : ∃ x, ((b : Int) == (k : Int)) = x := ⟨_, rfl⟩
  have SP := fun W' => ln_spread a b (b - a) W H avail text la (by omega) (by omega) (by omega) (by omega) hW hav W'
  unfold offR at eR
  rw [hl, ela] at eR
  obtain ⟨F, eF⟩ : ∃ F, avail - W = F := ⟨_, rfl⟩
  rw [eF] at SP eR
  have hgl := sprL_len F (b - a) (by omega) text la
  have hgf := fun h j => gaps_fit (F := F) h (b - a) text la j
  have hatl := fun h => sprAt_len (F := F) h text
  obtain ⟨gs, egs⟩ : ∃ g, sprL F (b - a) text la = g := ⟨_, rfl⟩
  obtain ⟨at0, eat0⟩ : ∃ g, sprAt F text = g := ⟨_, rfl⟩
  unfold SprAns at SP
  rw [egs, eat0] at SP eR
  rw [egs] at hgl
  simp only [egs] at hgf
  rw [eat0] at hatl
  obtain ⟨g, off, rfl, hg, _⟩ := hr.2 (by omega)
  have HV := Lib.hid hr
  have HF := Lib.hid hf
  have HL := Lib.hid hl
  have ER := Lib.hid eR
  have HGF := Lib.hid hgf
  have HGL := Lib.hid hgl
  have HATL := Lib.hid hatl
  obtain ⟨W0, eW⟩ : ∃ W0, w.alloc (.cells #[.int .i64 ((a : Int)), .int .i64 ((b : Int)), .int .i64 W, .int .i64 H] 36) = W0 := ⟨_, rfl⟩
  have t5 : Blk W0 w.heap.size #[.int .i64 ((a : Int)), .int .i64 ((b : Int)), .int .i64 W, .int .i64 H] 36 := by rw [← eW]; exact Blk.new w _ _ _ rfl
  have hB0 : Below w.heap.size w W0 := by rw [← eW]; exact (by repeat' (first | (with_reducible exact Below.refl _ _) | (with_reducible assumption) | (with_reducible refine below_alloc ?_ _ ?_) | (with_reducible refine below_set _ ?_ ?_) | (with_reducible refine Below.drew ?_) | (with_reducible refine below_dN ?_ _) | (apply below_thenA; assumption) | omega | (simp; done) | (simp; omega) | (simp [*]; done)))
  have c0 := t5.cell 0 _ rfl
  have c1 := t5.cell 1 _ rfl
  have c2 := t5.cell 2 _ rfl
  have c3 := t5.cell 3 _ rfl
  have hfz := t5.free 0
  have iab : ¬ (b : Int) ≤ (a : Int) := by omega
  have ibk : ¬ (k : Int) < (b : Int) := by omega
  have ia0 : ¬ (a : Int) < 0 := by omega
  have T5 := Lib.hid t5
  have hlw := t5.lt
  clear eQ eF egs eat0 hr hf hl eR hgf hgl hatl hW hav t5
  go_enter Try.func18, Try.ntmps18
  go_wp2_with fail
  refine (SP _).mono ?_
  rintro e w2 ⟨s1, s2, hb⟩
  have hB2 := hB0.trans (hb.mono hB0.size)
  have t5 := T5.out.below hb
  have c0 := t5.cell 0 _ rfl
  have c1 := t5.cell 1 _ rfl
  have T5 := Lib.hid t5
  have hs2 := hb.size
  clear SP hb hB0 t5
  cases hL : lenB F with
  | false =>
    obtain rfl := s1 hL
    have hno : R = none := by rw [← ER.out, hL]; rfl
    have HNO := Lib.hid hno
    clear s1 s2 hno hL
    go_wp2_with fail
    simp only [bodyPost]
    exact ⟨trivial, by rw [EQ.out]; exact OffAns.no HNO.out hB2⟩
  | true =>
    obtain ⟨gg, rfl, hgg, tg⟩ := s2 hL
    have hLL := (lenB_iff F).1 hL
    have er2 := ER.out
    rw [hL, if_pos rfl] at er2
    have ER2 := Lib.hid er2
    have HGF2 := Lib.hid (HGF.out hLL)
    have HA0 := Lib.hid (HATL.out hLL)
    clear s1 s2 er2 hL hLL ER HGF HATL
    have hlg := BlkI.lt tg
    have hca : ¬ cap = a := by omega
    have iak : (a : Int) ≤ (k : Int) := by omega
    have iac : (a : Int) ≤ (b : Int) := by omega
    have ibc : (b : Int) ≤ (cap : Int) := by omega
    have hRV := row_sub HV.out HL.out hab hbk
    have HRV := Lib.hid hRV
    have hB3 : Below w.heap.size w w2 := hB2
    clear hRV
    go_wp2_with fail
    go_loopg [9, 11, 50] (b - a) (fun gk s9 s11 s50 wr => ∃ (j : Nat) (t : Int) (aj : Option Addr) (cj : Nat), j ≤ b - a ∧ gk = b - a - j ∧ s9 = .int .i64 t ∧ s11 = .slice aj j cj ∧ s50 = .int .i64 ((j : Int)) ∧ (j < b - a → offF l a gs at0 j = some t) ∧ (∀ i, i < j → (offF l a gs at0 i).isSome = true) ∧ LenB t ∧ OwnI wr (gg + 1) aj j cj (offL l a gs at0 j) ∧ BlkI wr gg gs ∧ Blk wr w.heap.size #[.int .i64 ((a : Int)), .int .i64 ((b : Int)), .int .i64 W, .int .i64 H] 36 ∧ Below w.heap.size w wr)
    case atStart => exact ⟨0, at0, none, 0, by omega, by omega, rfl, rfl, rfl, (fun _ => rfl), (fun i hi => by omega), HA0.out, OwnI.nil _ _, tg, T5.out, hB2⟩
    case round =>
      clear tg hB2 hB3 c0 c1 hfz hs2 hlg
      obtain ⟨j, t, aj, cj, hj, rfl, rfl, rfl, rfl, hoj, hos, htL, ho, tg, t5, hB⟩ := hrel
      have hsB := hB.size
      have hlg := BlkI.lt tg
      by_cases hjk : j < b - a
      · have ix : (j : Int) < ((b - a : Nat) : Int) := by omega
        have hoj := hoj hjk
        have OF := fun W' => fix_of t htL.fit htL W'
        obtain ⟨g', off', e', hg', hcx⟩ := (HRV.out.below hB).at hjk
        obtain ⟨rfl, rfl⟩ : g = g' ∧ off + a * 4 = off' := by simpa using e'
        have hgv := itV_get (subL l a b) j (by rw [subL_len l (by rw [HL.out]; exact hbk)]; exact hjk)
        have c0 := hcx 0 (by omega)
        have c1 := hcx 1 (by omega)
        have c2 := hcx 2 (by omega)
        have c3 := hcx 3 (by omega)
        rw [hgv.1, Nat.add_zero] at c0
        rw [hgv.2.1] at c1
        rw [hgv.2.2.1] at c2
        rw [hgv.2.2.2] at c3
        have eit := subL_get l hjk
        rw [eit] at c0 c1 c2 c3
        have hfj := HF.out (a + j)
        have hgj := HGF2.out j
        have cg := BlkI.cell tg (i := j) (by rw [HGL.out]; exact hjk)
        have est : offF l a gs at0 (j + 1) = addP 0 [t, (l.getD (a + j) it0).w, (l.getD (a + j) it0).s, gs.getD j 0] := by
          show (offF l a gs at0 j).bind _ = _
          rw [hoj]; rfl
        have eo := offL_succ l a gs at0 j
        rw [hoj] at eo
        obtain ⟨x, ex⟩ : ∃ x, (l.getD (a + j) it0).w = x := ⟨_, rfl⟩
        obtain ⟨y, ey⟩ : ∃ x, (l.getD (a + j) it0).s = x := ⟨_, rfl⟩
        obtain ⟨z, ez⟩ : ∃ x, (l.getD (a + j) it0).h = x := ⟨_, rfl⟩
        obtain ⟨bb, eb⟩ : ∃ x, (l.getD (a + j) it0).b = x := ⟨_, rfl⟩
        obtain ⟨gv, egv⟩ : ∃ x, gs.getD j 0 = x := ⟨_, rfl⟩
        rw [ex] at c0 hfj est
        rw [ey] at c1 hfj est
        rw [ez] at c2 hfj
        rw [eb] at c3
        rw [egv] at cg hgj est
        obtain ⟨W1, eW1⟩ : ∃ W, wr.alloc (.cells #[.int .i64 x, .int .i64 y, .int .i64 z, .bool bb] 47) = W := ⟨_, rfl⟩
        have ty : Blk W1 wr.heap.size #[.int .i64 x, .int .i64 y, .int .i64 z, .bool bb] 47 := by rw [← eW1]; exact Blk.new wr _ _ _ rfl
        have hb1 : Below wr.heap.size wr W1 := by rw [← eW1]; exact (by repeat' (first | (with_reducible exact Below.refl _ _) | (with_reducible assumption) | (with_reducible refine below_alloc ?_ _ ?_) | (with_reducible refine below_set _ ?_ ?_) | (with_reducible refine Below.drew ?_) | (with_reducible refine below_dN ?_ _) | (apply below_thenA; assumption) | omega | (simp; done) | (simp; omega) | (simp [*]; done)))
        have hB1 := hB.trans (hb1.mono hsB)
        have ho1 := ho.below hb1
        have tg1 := BlkI.below tg hb1
        have t51 := t5.below hb1
        have HGV := Lib.hid egv
        have EST := Lib.hid est
        have HFX := Lib.hid hfj
        have HGJ := Lib.hid hgj
        have HOS := Lib.hid hos
        have HOJ := Lib.hid hoj
        have HTL := Lib.hid htL
        have hsh := ho.shape
        have hoz : OwnI W1 (gg + 1) aj j cj (offL l a gs at0 j) := ho1
        obtain ⟨ys, eys⟩ : ∃ ys, offL l a gs at0 j = ys := ⟨_, rfl⟩
        rw [eys] at ho1 eo
        have EO := Lib.hid eo
        have hs1 := hB1.size
        have hlg1 := BlkI.lt tg1
        clear e' hcx hgv eit ex ey ez eb egv est hfj hgj hos hoj htL hoz eys eo ho tg t5 hB cg
        go_wp2_with fail
        refine (OF _).mono ?_
        rintro e w3 ⟨rfl, rfl⟩
        clear OF
        go_wp2_with (at_builtin; refine wpList_append_own _ rfl _ _ 31 rfl (gg + 1) 2 i0 (.int .i64 0) 1 8 Try.underlying31 hi hz0 hz1 hz2 rfl (by decide) _ _ _ rfl (ho1.1.alloc _) ⟨w3.heap.size, 0, none⟩ 1 1 [.int .i64 t] rfl rfl ?c1 ?c2 ?c3 ?c4 ?c5 ?_)
        case c1 =>
          intro j u hj
          match j, hj with
          | 0, hj => simp at hj; subst hj; simp [Addr.add]
        case c2 => intro u hu; simp at hu; subst hu; rfl
        case c3 => unfold maxLen; omega
        case c4 => omega
        case c5 => simp; omega
        intro v' w4 hown' hgrow _
        obtain ⟨ao', cap', rfl, ho', hkeep, hB'⟩ := ho1.grown hown' hgrow (by omega)
        have hne : ∀ q, q < gg + 1 → (Value.slice aj j cj).ownBlock ≠ some q := fun q hq e => by have := (ho1.ge e).1; omega
        have hB4 := hB' _ _ (by omega) hB1
        have tg4 : BlkI w4 gg gs := hkeep _ _ _ tg1 (hne _ (by omega))
        have t54 := hkeep _ _ _ t51 (hne _ (by omega))
        have ty4 := hkeep _ _ _ ty (ho1.ne ty (by decide))
        have d0 := t54.cell 0 _ rfl
        have d1 := t54.cell 1 _ rfl
        have hs4 := hB4.size
        have hoj1 : OwnI w4 (gg + 1) ao' (j + 1) cap' (offL l a gs at0 (j + 1)) := by rw [EO.out]; exact ho'
        have HOJ1 := Lib.hid hoj1
        have HTG4 := Lib.hid tg4
        have HT54 := Lib.hid t54
        have hlt4 := tg4.lt
        clear hown' hgrow hB' ho' hkeep hne ho1 tg1 t51 hB1 hb1 hs1 hlg1 eW1 hoj1 hsh c0 c1 c2 c3 t54
        by_cases hj1 : j + 1 < b - a
        · have ij : (a : Int) + (j : Int) + 1 < (b : Int) := by omega
          have jlt : (j : Int) < ((b - a : Nat) : Int) := by omega
          have e0 := ty4.cell 0 _ rfl
          have e1 := ty4.cell 1 _ rfl
          have cg4 := BlkI.cell tg4 (i := j) (by rw [HGL.out]; exact hjk)
          have A4 := fun g' W h => fix_add4 g' t x y gv HTL.out.fit HFX.out.1 HFX.out.2.1 HGJ.out.fit W h
          have egv : gs.getD j 0 = gv := HGV.out
          rw [egv] at cg4
          have HJ1 := Lib.hid hj1
          have TY4 := Lib.hid ty4
          have HCG := Lib.hid (show ∀ W, BlkI W gg gs → W.cell? ⟨gg, j, none⟩ = some (.int .i64 gv) from fun W h => by rw [BlkI.cell h (i := j) (by rw [HGL.out]; exact hjk), HGV.out])
          clear egv tg4 ty4 hj1
          cases hA : addP 0 [t, x, y, gv] with
          | none =>
            have A5 := fun g' W h => (A4 g' W h).mono fun _ _ h => width_no h hA
            have hno : R = none := by
              rw [← ER2.out]
              have h1 : offF l a gs at0 (j + 1) = none := by rw [EST.out, hA]
              have h2 := offF_none h1 (b - a - 1 - (j + 1))
              rw [show j + 1 + (b - a - 1 - (j + 1)) = b - a - 1 by have := HJ1.out; omega] at h2
              rw [h2]; rfl
            have HNO := Lib.hid hno
            clear A4 hA hno
            go_wp2_with fail
            go_upto_region 10 with (fail)
            rename_i K1 hK1
            refine wp_region_cl (fun w' => Below w.heap.size w w' ∧ Blk w' wr.heap.size #[.int .i64 x, .int .i64 y, .int .i64 z, .bool bb] 47 ∧ BlkI w' gg gs ∧ w4.heap.size ≤ w'.heap.size) [] (fun w' => True) [Is (.int .i64 t), Is (.pointer (some ⟨wr.heap.size, 0, none⟩)), Is (.int .i64 x), Is (.pointer (some ⟨wr.heap.size, 1, none⟩)), Is (.int .i64 y), Is (.slice (some ⟨gg, 0, none⟩) (b - a) (b - a)), Is (.int .i64 ((j : Int))), Is (.pointer (some ⟨gg, j, none⟩)), Is (.int .i64 gv), sli4C 0 t x y gv, .own (fun _ _ => False) (fun _ _ _ h _ => h), .own (fun _ _ => False) (fun _ _ _ h _ => h)] [] (by kernel_rfl) (by kernel_rfl) (by kernel_rfl) (by kernel_rfl) ⟨hB4.drew, TY4.out, HTG4.out, Nat.le_refl _⟩ trivial ?_ ?_ ?_ ?_ ?_
            · rintro W W' ⟨hBB, tY, tG, hl⟩ hb
              exact ⟨hBB.trans (hb.mono hBB.size), tY.below hb, BlkI.below tG hb, Nat.le_trans hl hb.size⟩
            · exact fun _ _ _ _ _ => trivial
            · intro k vs W hk h
              exact absurd hk (by simp)
            · clear hK1 hB4
              refine ⟨?_, ?_, ?_, ?_, ?_, ?_, ?_, ?_, ?_, ?_, ?_, ?_, trivial⟩
              · intro vs W hW hW0 hd hne hold K hK hA hL; clear hne hA hL; have hBB := hW.1; have tY := hW.2.1; have tG := hW.2.2.1; have hl := hW.2.2.2; simp only [puts, Act.put, List.setIfInBounds_toArray, List.set_cons_zero, List.set_cons_succ, Nat.zero_add, Nat.reduceAdd] at hK ⊢; have e11 : vs 11 = _ := hold 11 (by kernel_rfl); clear hd hold; simp only [e11] at hK; go_simp; exact hK.out rfl _ _ (Below.refl _ _) rfl
              · intro vs W hW hW0 hd hne hold K hK hA hL; clear hne hA hL; have hBB := hW.1; have tY := hW.2.1; have tG := hW.2.2.1; have hl := hW.2.2.2; simp only [puts, Act.put, List.setIfInBounds_toArray, List.set_cons_zero, List.set_cons_succ, Nat.zero_add, Nat.reduceAdd] at hK ⊢; clear hd hold; go_simp; exact hK.out rfl _ _ (Below.refl _ _) rfl
              · intro vs W hW hW0 hd hne hold K hK hA hL; clear hne hA hL; have hBB := hW.1; have tY := hW.2.1; have tG := hW.2.2.1; have hl := hW.2.2.2; simp only [puts, Act.put, List.setIfInBounds_toArray, List.set_cons_zero, List.set_cons_succ, Nat.zero_add, Nat.reduceAdd] at hK ⊢; have eb : vs 1 = _ := hd 1 (by kernel_rfl); have q1 := tY.cell 0 _ rfl; clear hd hold; simp only [eb] at hK; go_simp; exact hK.out rfl _ _ (Below.refl _ _) rfl
              · intro vs W hW hW0 hd hne hold K hK hA hL; clear hne hA hL; have hBB := hW.1; have tY := hW.2.1; have tG := hW.2.2.1; have hl := hW.2.2.2; simp only [puts, Act.put, List.setIfInBounds_toArray, List.set_cons_zero, List.set_cons_succ, Nat.zero_add, Nat.reduceAdd] at hK ⊢; clear hd hold; go_simp; exact hK.out rfl _ _ (Below.refl _ _) rfl
              · intro vs W hW hW0 hd hne hold K hK hA hL; clear hne hA hL; have hBB := hW.1; have tY := hW.2.1; have tG := hW.2.2.1; have hl := hW.2.2.2; simp only [puts, Act.put, List.setIfInBounds_toArray, List.set_cons_zero, List.set_cons_succ, Nat.zero_add, Nat.reduceAdd] at hK ⊢; have eb : vs 3 = _ := hd 3 (by kernel_rfl); have q1 := tY.cell 1 _ rfl; clear hd hold; simp only [eb] at hK; go_simp; exact hK.out rfl _ _ (Below.refl _ _) rfl
              · intro vs W hW hW0 hd hne hold K hK hA hL; clear hne hA hL; have hBB := hW.1; have tY := hW.2.1; have tG := hW.2.2.1; have hl := hW.2.2.2; simp only [puts, Act.put, List.setIfInBounds_toArray, List.set_cons_zero, List.set_cons_succ, Nat.zero_add, Nat.reduceAdd] at hK ⊢; clear hd hold; go_simp; exact hK.out rfl _ _ (Below.refl _ _) rfl
              · intro vs W hW hW0 hd hne hold K hK hA hL; clear hne hA hL; have hBB := hW.1; have tY := hW.2.1; have tG := hW.2.2.1; have hl := hW.2.2.2; simp only [puts, Act.put, List.setIfInBounds_toArray, List.set_cons_zero, List.set_cons_succ, Nat.zero_add, Nat.reduceAdd] at hK ⊢; clear hd hold; go_simp; exact hK.out rfl _ _ (Below.refl _ _) rfl
              · intro vs W hW hW0 hd hne hold K hK hA hL; clear hne hA hL; have hBB := hW.1; have tY := hW.2.1; have tG := hW.2.2.1; have hl := hW.2.2.2; simp only [puts, Act.put, List.setIfInBounds_toArray, List.set_cons_zero, List.set_cons_succ, Nat.zero_add, Nat.reduceAdd] at hK ⊢; have e5 : vs 5 = _ := hd 5 (by kernel_rfl); have e6 : vs 6 = _ := hd 6 (by kernel_rfl); clear hd hold; simp only [e5, e6] at hK; go_simp; exact hK.out rfl _ _ (Below.refl _ _) rfl
              · intro vs W hW hW0 hd hne hold K hK hA hL; clear hne hA hL; have hBB := hW.1; have tY := hW.2.1; have tG := hW.2.2.1; have hl := hW.2.2.2; simp only [puts, Act.put, List.setIfInBounds_toArray, List.set_cons_zero, List.set_cons_succ, Nat.zero_add, Nat.reduceAdd] at hK ⊢; have q := HCG.out W tG; have eb : vs 7 = _ := hd 7 (by kernel_rfl); clear hd hold; simp only [eb] at hK; go_simp; exact hK.out rfl _ _ (Below.refl _ _) rfl
              · intro vs W hW hW0 hd hne hold K hK hA hL; clear hne hA hL; have hBB := hW.1; have tY := hW.2.1; have tG := hW.2.2.1; have hl := hW.2.2.2; simp only [puts, Act.put, List.setIfInBounds_toArray, List.set_cons_zero, List.set_cons_succ, Nat.zero_add, Nat.reduceAdd] at hK ⊢; have ea : vs 0 = _ := hd 0 (by kernel_rfl); have eb : vs 2 = _ := hd 2 (by kernel_rfl); have ec : vs 4 = _ := hd 4 (by kernel_rfl); have ed : vs 8 = _ := hd 8 (by kernel_rfl); clear hd hold; simp only [ea, eb, ec, ed] at hK; go_simp; exact hK.out rfl _ _ ((Below.refl _ _).alloc (Nat.le_refl _) _) ⟨W.heap.size, rfl, Nat.zero_le _, Blk.new _ _ _ _ rfl⟩
              · intro vs W hW hW0 hd hne hold K hK hA hL; clear hne hA hL; have hBB := hW.1; have tY := hW.2.1; have tG := hW.2.2.1; have hl := hW.2.2.2; simp only [puts, Act.put, List.setIfInBounds_toArray, List.set_cons_zero, List.set_cons_succ, Nat.zero_add, Nat.reduceAdd] at hK ⊢; have h9 : Sli4 0 t x y gv (vs 9) W := hd 9 (by kernel_rfl); obtain ⟨b, eb, hlb, tb⟩ := h9; clear hd hold hK; simp only [eb]; go_simp; refine (A5 b W tb).mono ?_; (rintro e wx ⟨rfl, hbx⟩); go_simp; simp [bodyPost]; rw [EQ.out]; exact OffAns.no HNO.out (hBB.trans (hbx.mono hBB.size))
              · intro vs W hW hW0 hd hne hold K hK hA hL; clear hne hA hL; have hBB := hW.1; have tY := hW.2.1; have tG := hW.2.2.1; have hl := hW.2.2.2; simp only [puts, Act.put, List.setIfInBounds_toArray, List.set_cons_zero, List.set_cons_succ, Nat.zero_add, Nat.reduceAdd] at hK ⊢; exact absurd (show False from hd 10 (by kernel_rfl)) (fun h => h)
            · intro va WB hW hV _
              exact absurd (show False from hV 10 (by decide)) (fun h => h)
          | some u =>
            have A5 := fun g' W h => (A4 g' W h).mono fun _ _ h => width_yes h hA
            have hE : offF l a gs at0 (j + 1) = some u := by rw [EST.out, hA]
            have hu : LenB u := by
              rw [← (lenB_iff u)]
              refine addP_lenB (xs := [t, x, y, gv]) (s := 0) (by decide) hA
            have HE := Lib.hid hE
            have HU := Lib.hid hu
            clear A4 hA hE hu
            go_wp2_with fail
            go_region_with (go_at_call 57; refine (A5 _ _ (Blk.drew (Blk.new _ _ _ _ rfl))).mono ?_; rintro e w5 ⟨rfl, hb⟩)
            all_goals
              have hb5 : Below w4.heap.size w4 w5 := Below.trans (by repeat' (first | (with_reducible exact Below.refl _ _) | (with_reducible assumption) | (with_reducible refine below_alloc ?_ _ ?_) | (with_reducible refine below_set _ ?_ ?_) | (with_reducible refine Below.drew ?_) | (with_reducible refine below_dN ?_ _) | (apply below_thenA; assumption) | omega | (simp; done) | (simp; omega) | (simp [*]; done))) (hb.mono (by simp))
              have hB5 := hB4.trans (hb5.mono hs4)
              clear hb
              go_wp2_with fail
              go_roundg (b - a - (j + 1))
              case measure => omega
              case rel => exact ⟨j + 1, u, ao', cap', by omega, rfl, rfl, rfl, by go_num, (fun _ => HE.out), (fun i hi => by rcases Nat.lt_succ_iff_lt_or_eq.1 hi with h | h; exact HOS.out i h; rw [h, HOJ.out]; rfl), HU.out, HOJ1.out.below hb5, BlkI.below HTG4.out hb5, HT54.out.below hb5, hB5⟩
        · have ij : ¬ (a : Int) + (j : Int) + 1 < (b : Int) := by omega
          have HJ1 := Lib.hid hj1
          clear tg4 ty4 hj1
          go_wp2_with fail
          go_roundg (b - a - (j + 1))
          case measure => omega
          case rel => exact ⟨j + 1, t, ao', cap', by omega, rfl, rfl, rfl, by go_num, (fun h => absurd h HJ1.out), (fun i hi => by rcases Nat.lt_succ_iff_lt_or_eq.1 hi with h | h; exact HOS.out i h; rw [h, HOJ.out]; rfl), HTL.out, HOJ1.out, HTG4.out, HT54.out, hB4⟩
      · obtain rfl : j = b - a := by omega
        have ix : ¬ ((b - a : Nat) : Int) < ((b - a : Nat) : Int) := by omega
        have hyes : R = some (offL l a gs at0 (b - a)) := by
          rw [← ER2.out, if_pos (hos _ (by omega))]
        have HY := Lib.hid hyes
        clear hyes hoj hos
        go_wp2_with fail
        rw [EQ.out, HY.out]
        have hln := offL_len l a gs at0 (b - a)
        have := OffAns.yes (w := w) (w' := wr) (L := offL l a gs at0 (b - a)) (ao := aj) (c := cj) (by rw [hln]; exact ho.base (by omega)) hB
        rw [hln] at this
        exact this
end Go.Proofs.Ythofammjbicogaa
