/-
  The reference of layer 13: Fill, Least.
-/
import Derived.Test.YthofammjbicogaaYLnG
namespace Go.Proofs.Ythofammjbicogaa
open Go.RowKit
set_option linter.unusedSimpArgs false
set_option linter.unusedVariables false

def R13Ans (r : Option (List Ln)) (w : World) (e : Ending) (w' : World) : Prop :=
  (∀ L, r = some L → ∃ ao c, e = .returned (.tuple #[.slice ao L.length c, .int .i64 0]) ∧ OwnW w' w.heap.size 39 4 ao L.length c (lnV L)) ∧ (r = none → e = .returned (.tuple #[.slice none 0 0, .int .i64 2])) ∧ Below w.heap.size w w'
theorem R13Ans.yes {L : List Ln} {ao : Option Addr} {c : Nat} {w w' : World} (h : OwnW w' w.heap.size 39 4 ao L.length c (lnV L)) (hb : Below w.heap.size w w') : R13Ans (some L) w (.returned (.tuple #[.slice ao L.length c, .int .i64 0])) w' :=
  ⟨fun L' e => by obtain rfl := Option.some.inj e; exact ⟨ao, c, rfl, h⟩, fun h => by simp at h, hb⟩
theorem R13Ans.no {w w' : World} (hb : Below w.heap.size w w') : R13Ans none w (.returned (.tuple #[.slice none 0 0, .int .i64 2])) w' := ⟨fun L' e => by simp at e, fun _ => rfl, hb⟩
theorem OwnW.set {w : World} {B : Nat} {T : TypeId} {s : Nat} {ao : Option Addr} {k cap : Nat} {vs : List Value} (h : OwnW w B T s ao k cap vs) (a : Addr) (u : Value) (ha : (Value.slice ao k cap).ownBlock ≠ some a.block) : OwnW (w.setCell a u) B T s ao k cap vs := by
  refine ⟨h.1, ?_⟩
  rcases h.2 with h | ⟨g, c, cur, hv, hg, hh, r⟩
  · exact .inl h
  · refine .inr ⟨g, c, cur, hv, hg, ?_, r⟩
    rw [Below.heap_setCell _ _ _ _ (fun e => ha (by rw [hv]; simp [Value.ownBlock, e]))]; exact hh
theorem OwnW.base {w : World} {B B' : Nat} {T : TypeId} {s : Nat} {ao : Option Addr} {k cap : Nat} {vs : List Value} (h : OwnW w B T s ao k cap vs) (hB : B' ≤ B) : OwnW w B' T s ao k cap vs := by
  refine ⟨h.1, ?_⟩
  rcases h.2 with h | ⟨g, c, cur, hv, hg, r⟩
  · exact .inl h
  · exact .inr ⟨g, c, cur, hv, Nat.le_trans hB hg, r⟩
theorem ends_go {l : List It} {d a q : Nat} {E : List Int} (h : E.drop q = endsF l d a) (ha : a < l.length) (hd : l.length - a ≤ d) : q < E.length ∧ E.getD q 0 = (seg l a : Int) ∧ E.drop (q + 1) = endsF l (d - 1) (seg l a) := by
  obtain ⟨d, rfl⟩ : ∃ d', d = d' + 1 := ⟨d - 1, by omega⟩
  have e : E.drop q = (seg l a : Int) :: endsF l d (seg l a) := by
    rw [h]
    show (if a < l.length then _ else []) = _
    rw [if_pos ha]
  have hq : q < E.length := by
    rcases Nat.lt_or_ge q E.length with h1 | h1
    · exact h1
    · rw [List.drop_eq_nil_of_le h1] at e; cases e
  rw [List.drop_eq_getElem_cons hq] at e
  obtain ⟨e1, e2⟩ := List.cons.inj e
  exact ⟨hq, by simp [List.getD, hq, e1], e2⟩
theorem ends_end {l : List It} {d a q : Nat} {E : List Int} (h : E.drop q = endsF l d a) (ha : l.length ≤ a) : E.length ≤ q := by
  have e : endsF l d a = [] := by
    cases d with
    | zero => rfl
    | succ d =>
      show (if a < l.length then _ else []) = _
      rw [if_neg (by omega)]
  rw [e] at h
  simpa using h
theorem rw_yes {r : Option Int} {s : Int} {w : World} {e : Ending} {w' : World} (h : RwAns r w e w') (hs : r = some s) : e = .returned (.tuple #[.int .i64 s, .int .i64 0]) ∧ Below w.heap.size w w' := by
  subst hs; exact h
theorem rw_no {r : Option Int} {w : World} {e : Ending} {w' : World} (h : RwAns r w e w') (hs : r = none) : e = .returned (.tuple #[.int .i64 0, .int .i64 2]) ∧ Below w.heap.size w w' := by
  subst hs; exact h
theorem cells4i (x y z u : Int) : ∀ v ∈ ([.int .i64 x, .int .i64 y, .int .i64 z, .int .i64 u] : List Value), v.oneCell' = true := by
  intro u hu; simp at hu; rcases hu with rfl | rfl | rfl | rfl <;> rfl
/-- A number of a slice of ints. -/
theorem row_int {w : World} {ao : Option Addr} {n : Nat} {E : List Int} (h : RowV w ao n 1 (i64s E)) (hE : E.length = n) {q : Nat} (hq : q < n) : ∃ g off, ao = some ⟨g, off, none⟩ ∧ g < w.heap.size ∧ w.cell? ⟨g, off + q, none⟩ = some (.int .i64 (E.getD q 0)) := by
  obtain ⟨g, off, e, hg, hc⟩ := h.2 (by omega)
  refine ⟨g, off, e, hg, ?_⟩
  rw [hc q (by omega)]
  simp [i64s, List.getD, show q < E.length by omega]
set_option maxRecDepth 100000 in
set_option maxHeartbeats 12800000 in
theorem r13_fill (ao : Option Addr) (k cap : Nat) (avail low : Int) (l : List It) (hk : k ≤ 1000) (hl : l.length = k) (hf : ItFit l) (w : World) (hr : RowV w ao k 4 (itV l)) :
    Calls Try.prog 29 #[.slice ao k cap, .int .i64 avail, .int .i64 low] w (R13Ans (fillR l avail low) w) := by
  obtain ⟨j0, ji, jz0, jz1, jz2⟩ := info_parts (show (Try.prog.info? 39).map (fun i => (i.zero, i.size, i.bytes)) = some (some (.agg #[.int .i64 0, .int .i64 0, .int .i64 0, .int .i64 0]), 4, 32) by kernel_rfl)
  obtain ⟨R, eR⟩ : ∃ R, fillR l avail low = R := ⟨_, rfl⟩
  rw [eR]
  have eR2 : fillF l avail low k 0 [] = R := by rw [← hl]; exact eR
  obtain ⟨Q, eQ⟩ : ∃ Q : Ending → World → Prop, Q = R13Ans R w := ⟨_, rfl⟩
  rw [← eQ]
  have EQ := Lib.hid eQ
  have EN := fun W h => r13_ends ao k cap l hk hl W h
  have WD := fun a b W (hab : a ≤ b) (hb : b ≤ k) (hW : RowV W ao k 4 (itV l)) => r13_width ao k cap a b l hk hl hf hab hb W hW
  obtain ⟨E, eE⟩ : ∃ E, endsF l k 0 = E := ⟨_, rfl⟩
  rw [eE] at EN
  have HRW := Lib.hid hr
  have HL := Lib.hid hl
  have ER := Lib.hid eR2
  have EE := Lib.hid eE
  have HWD := Lib.hid WD
  clear eQ hr hf hl eR eR2 eE WD
  go_enter Try.func29, Try.ntmps29
  go_wp2_with fail
  refine (EN _ HRW.out).mono ?_
  rintro e w1 ⟨ae, ce, rfl, hoe, hb⟩
  have hRE := hoe.row
  have hs01 := hb.size
  have HRE := Lib.hid hRE
  have HB1 := Lib.hid hb
  have HRW := Lib.hid (HRW.out.below hb)
  have HS01 := Lib.hid hs01
  clear EN hoe hRE hb hs01
  go_wp2_with fail
  go_loopg [8, 10, 11] k (fun gk s8 s10 s11 wr => ∃ (d d2 a q : Nat) (out : List Ln) (aj : Option Addr) (cj : Nat), a ≤ k ∧ gk = k - a ∧ s8 = .slice aj out.length cj ∧ s10 = .int .i64 ((a : Int)) ∧ s11 = .int .i64 ((q : Int)) ∧ E.drop q = endsF l d a ∧ k - a ≤ d ∧ fillF l avail low d2 a out = R ∧ k - a ≤ d2 ∧ OwnW wr w1.heap.size 39 4 aj out.length cj (lnV out) ∧ Below w1.heap.size w1 wr ∧ out.length ≤ a ∧ q ≤ a)
  case atStart => exact ⟨k, k, 0, 0, [], none, 0, by omega, by omega, rfl, rfl, rfl, by rw [EE.out]; rfl, by omega, ER.out, by omega, OwnW.nil _ _ _ _, Below.refl _ _, by simp, by omega⟩
  case round =>
    obtain ⟨d, d2, a, q, out, aj, cj, hak, rfl, rfl, rfl, rfl, hed, hd, er, hd2, ho, hB, hoa, hqa⟩ := hrel
    have hsB := hB.size
    by_cases ha : a < k
    · have hal : a < l.length := by rw [HL.out]; exact ha
      have hsg := seg_up hal
      obtain ⟨hqE, heq, hed2⟩ := ends_go hed hal (by rw [HL.out]; exact hd)
      obtain ⟨ge, oe, rfl, hge, hce⟩ := row_int (HRE.out.below hB) rfl hqE
      obtain ⟨g0, off0, rfl, hg0, _⟩ := HRW.out.2 (show 0 < k by omega)
      have ix : (q : Int) < (E.length : Int) := by omega
      obtain ⟨t, et⟩ : ∃ t, seg l a = t := ⟨_, rfl⟩
      rw [et] at heq hsg hed2
      rw [heq] at hce
      rw [HL.out] at hsg
      have hat := hsg.1
      have htk := hsg.2
      have WD1 := HWD.out a t wr (by omega) htk (HRW.out.below hB)
      obtain ⟨d2, rfl⟩ : ∃ d', d2 = d' + 1 := ⟨d2 - 1, by omega⟩
      obtain ⟨d, rfl⟩ : ∃ d', d = d' + 1 := ⟨d - 1, by omega⟩
      rw [Nat.add_sub_cancel] at hed2
      have ER := Lib.hid er
      have ET := Lib.hid et
      have HED := Lib.hid hed2
      have HAL := Lib.hid hal
      have HCE := Lib.hid (fun W (h : Below wr.heap.size wr W) => (h.cell (p := ⟨ge, oe + q, none⟩) hge).trans hce)
      clear hal er et hed hed2 hsg heq hg0
      cases hw1 : wd l a t with
      | none =>
        have WD2 := WD1.mono fun _ _ h => rw_no h hw1
        have hno : R = none := by rw [← ER.out]; exact fill_err HAL.out (by rw [ET.out]; exact hw1)
        have HNO := Lib.hid hno
        clear WD1 hw1 hno
        go_wp2_with fail
        refine WD2.mono ?_
        rintro e w3 ⟨rfl, hb⟩
        have hB3 := hB.trans (hb.mono hsB)
        have hB4 := HB1.out.trans (hB3.mono HS01.out)
        clear hb WD2 hB hB3
        go_wp2_with fail
        rw [EQ.out, HNO.out]
        exact R13Ans.no hB4
      | some s =>
        have WD2 := WD1.mono fun _ _ h => rw_yes h hw1
        have hR := fill_go (d := d2) (out := out) (avail := avail) (low := low) HAL.out (s := s) (by rw [ET.out]; exact hw1)
        rw [ER.out, ET.out, HL.out] at hR
        obtain ⟨X, eX⟩ : ∃ X, extF l avail a k t s = X := ⟨_, rfl⟩
        rw [eX] at hR
        have HR := Lib.hid hR.symm
        have EX0 := Lib.hid eX
        clear WD1 hw1 hR eX
        go_wp2_with fail
        refine WD2.mono ?_
        rintro e w3 ⟨rfl, hb⟩
        have hb3 := hb
        have hB3 := hB.trans (hb.mono hsB)
        have ho3 := ho.below hb
        have hce3 := HCE.out w3 hb
        have hg3 : ∀ g, (Value.slice aj out.length cj).ownBlock = some g → g < w3.heap.size := fun g h => (ho3.ge h).2
        obtain ⟨bx, ebx⟩ : ∃ b, w3.heap.size = b := ⟨_, rfl⟩
        have tx : Blk (w3.alloc (.cells #[.int .i64 ((a : Int)), .int .i64 ((t : Int)), .int .i64 s, .int .i64 low] 39)) bx #[.int .i64 ((a : Int)), .int .i64 ((t : Int)), .int .i64 s, .int .i64 low] 39 := Blk.new _ _ _ _ ebx.symm
        have hbx : w1.heap.size ≤ bx := by have := hB3.size; omega
        have HBX := Lib.hid hbx
        have hne : ∀ b, (Value.slice aj out.length cj).ownBlock = some b → b ≠ bx := fun b h => by have := hg3 b h; omega
        have HNE := Lib.hid (fun b (h : (Value.slice aj out.length cj).ownBlock = some b) (e : b = bx) => hne b h e)
        have hB5 := hB3.alloc hB3.size (.cells #[.int .i64 ((a : Int)), .int .i64 ((t : Int)), .int .i64 s, .int .i64 low] 39)
        have ho5 := ho3.alloc (.cells #[.int .i64 ((a : Int)), .int .i64 ((t : Int)), .int .i64 s, .int .i64 low] 39)
        have HOL := Lib.hid hoa
        clear hb WD2 hB ho hg3 hne hb3 ho3 hB3 hce HCE hoa
        go_wp2_with fail

        clear ebx hce3 hbx
        go_loopg [11] (k - t) (fun gk s11 wr => ∃ (d d3 t q : Nat) (x : Int), a < t ∧ t ≤ k ∧ gk = k - t ∧ s11 = .int .i64 ((q : Int)) ∧ E.drop q = endsF l d t ∧ k - t ≤ d ∧ extF l avail a d3 t x = X ∧ k - t ≤ d3 ∧ Blk wr bx #[.int .i64 ((a : Int)), .int .i64 ((t : Int)), .int .i64 x, .int .i64 low] 39 ∧ OwnW wr w1.heap.size 39 4 aj out.length cj (lnV out) ∧ Below w1.heap.size w1 wr ∧ q ≤ t)
        case atStart => exact ⟨d, k, t, q + 1, s, hat, htk, rfl, by go_num, HED.out, by omega, EX0.out, by omega, tx, ho5, hB5, by omega⟩
        case round =>
          clear tx ho5 hB5 hsB EX0 ET hat htk HED ix hqa hqE
          obtain ⟨d, d3, t, q, x, hat, htk, rfl, rfl, hed, hd, ex, hd3, tx, ho, hB, hqt⟩ := hrel
          have hsB := hB.size
          have f1 := tx.free 1
          have f2 := tx.free 2
          have b1 := tx.cell 1 _ rfl
          have b2 := tx.cell 2 _ rfl
          by_cases ht : t < k
          · have htl : t < l.length := by rw [HL.out]; exact ht
            have hsg := seg_up htl
            obtain ⟨hqE, heq, hed2⟩ := ends_go hed htl (by rw [HL.out]; exact hd)
            obtain ⟨ge2, oe2, e', hge2, hce⟩ := row_int (HRE.out.below hB) rfl hqE
            obtain ⟨rfl, rfl⟩ : ge = ge2 ∧ oe = oe2 := by simpa using e'
            have it1 : (q : Int) < (E.length : Int) := by omega
            obtain ⟨d3, rfl⟩ : ∃ d', d3 = d' + 1 := ⟨d3 - 1, by omega⟩
            obtain ⟨u, eu⟩ : ∃ u, seg l t = u := ⟨_, rfl⟩
            rw [eu] at hsg heq hed2
            rw [heq] at hce
            rw [HL.out] at hsg
            have htu := hsg.1
            have huk := hsg.2
            have WD1 := HWD.out a u wr (by omega) huk (HRW.out.below hB)
            have EU := Lib.hid eu
            have EXX := Lib.hid ex
            have HED := Lib.hid hed
            have HED2 := Lib.hid hed2
            have HCE := Lib.hid (fun W (h : Below wr.heap.size wr W) => (h.cell (p := ⟨ge, oe + q, none⟩) hge2).trans hce)
            clear hsg eu ex hed hed2 heq e'
            cases hw1 : wd l a u with
            | none =>
              have WD2 := WD1.mono fun _ _ h => rw_no h hw1
              have hno : X = none := by rw [← EXX.out]; exact ext_err htl (by rw [EU.out]; exact hw1)
              have hno2 : R = none := by rw [← HR.out, hno]; rfl
              have HNO := Lib.hid hno2
              clear WD1 hw1 hno hno2 htl
              go_wp2_with fail
              refine WD2.mono ?_
              rintro e w4 ⟨rfl, hb⟩
              have hB3 := hB.trans (hb.mono hsB)
              have hB4 := HB1.out.trans (hB3.mono HS01.out)
              clear hb WD2 hB hB3
              go_wp2_with fail
              rw [EQ.out, HNO.out]
              exact R13Ans.no hB4
            | some m =>
              have WD2 := WD1.mono fun _ _ h => rw_yes h hw1
              by_cases hm : avail < m
              · have hex : X = some (t, x) := by rw [← EXX.out]; exact ext_stop htl (by rw [EU.out]; exact hw1) hm
                have EX := Lib.hid hex
                clear WD1 hw1 hex htl
                go_wp2_with fail
                refine WD2.mono ?_
                rintro e w4 ⟨rfl, hb⟩
                have hB4 := hB.trans (hb.mono hsB)
                have ho4 := ho.below hb
                have tx4 := tx.below hb
                clear hb WD2 hB ho hsB tx b1 b2 f1 f2 hce
                have hB := hB4
                have ho := ho4
                have tx := tx4
                have hsB := hB.size
                clear hB4 ho4 tx4
                -- the height; the line is appended
                have hfk : fillF l avail low d2 t (out ++ [⟨a, t, x, hiF l low a (t - a)⟩]) = R := by have := HR.out; rw [EX.out] at this; exact this
                have HFK := Lib.hid hfk
                clear hfk
                have b0 := tx.cell 0 _ rfl
                have b1 := tx.cell 1 _ rfl
                go_wp2_with fail
                go_loopg [17] (t - a) (fun gk s17 wr => ∃ (i : Nat) (h : Int), a ≤ i ∧ i ≤ t ∧ gk = t - i ∧ s17 = .int .i64 ((i : Int)) ∧ h = hiF l low a (i - a) ∧ Blk wr bx #[.int .i64 ((a : Int)), .int .i64 ((t : Int)), .int .i64 x, .int .i64 h] 39 ∧ OwnW wr w1.heap.size 39 4 aj out.length cj (lnV out) ∧ Below w1.heap.size w1 wr)
                case atStart => exact ⟨a, low, Nat.le_refl _, by omega, rfl, rfl, by rw [Nat.sub_self]; rfl, tx, ho, hB⟩
                case round =>
                  clear tx ho hB b0 b1
                  obtain ⟨i, h, hai, hit, rfl, rfl, eh, tx, ho, hB⟩ := hrel
                  have b1 := tx.cell 1 _ rfl
                  have b3 := tx.cell 3 _ rfl
                  have f3 := tx.free 3
                  have hsB := hB.size
                  by_cases hi2 : i < t
                  · have iit : (i : Int) < (t : Int) := by omega
                    have iik : (i : Int) < (k : Int) := by omega
                    obtain ⟨g, off, e', hg, hcx⟩ := (HRW.out.below hB).at (show i < k by omega)
                    obtain ⟨rfl, rfl⟩ : g0 = g ∧ off0 = off := by simpa using e'
                    have hgv := itV_get l i (by rw [HL.out]; omega)
                    have c2 := hcx 2 (by omega)
                    rw [hgv.2.2.1] at c2
                    have est : hiF l low a (i + 1 - a) = max h (l.getD i it0).h := by
                      rw [show i + 1 - a = (i - a) + 1 by omega, eh]
                      show max (hiF l low a (i - a)) (l.getD (a + (i - a)) it0).h = _
                      rw [show a + (i - a) = i by omega]
                    obtain ⟨z, ez⟩ : ∃ x, (l.getD i it0).h = x := ⟨_, rfl⟩
                    rw [ez] at c2 est
                    have EST := Lib.hid est
                    have t2 := tx.set 3 (.int .i64 (max h z))
                    have ho2 := OwnW.set ho ⟨bx, 3, none⟩ (.int .i64 (max h z)) (fun e => HNE.out bx e rfl)
                    have hB2 := hB.setCell (p := ⟨bx, 3, none⟩) HBX.out (.int .i64 (max h z))
                    clear hcx hgv ez est e' tx ho hB eh
                    go_wp2_with fail
                    go_region
                    all_goals
                      go_wp2_with fail
                      go_roundg (t - (i + 1))
                      case measure => omega
                      case rel => exact ⟨i + 1, max h z, by omega, by omega, rfl, by go_num, EST.out.symm, t2.drew, ho2.drew, hB2.drew⟩
                  · obtain rfl : i = t := by omega
                    have iit : ¬ (i : Int) < (i : Int) := by omega
                    have b0 := tx.cell 0 _ rfl
                    have b2 := tx.cell 2 _ rfl
                    have HEH := Lib.hid eh
                    have hol := HOL.out
                    have TX := Lib.hid tx
                    have hneq := HNE.out
                    clear eh tx
                    go_wp2_with (at_builtin; (refine wpList_append_own _ rfl _ _ 50 rfl w1.heap.size 39 j0 (.agg #[.int .i64 0, .int .i64 0, .int .i64 0, .int .i64 0]) 4 32 Try.underlying50 ji jz0 jz1 jz2 rfl (by decide) _ _ _ rfl (ho.alloc _) ⟨wr.heap.size, 0, none⟩ 1 1 [.int .i64 ((a : Int)), .int .i64 ((i : Int)), .int .i64 x, .int .i64 h] rfl rfl (news_blk (Blk.new wr _ _ _ rfl)) (cells4i _ _ _ _) (by unfold maxLen; omega) (by omega) (by simp; omega) ?_))
                    intro v' w6 hown' hgrow _
                    obtain ⟨ao', cap', rfl, ho', hkp, hB'⟩ := OwnW.grown ho hown' hgrow hsB
                    have hB6 := hB' _ _ (Nat.le_refl _) hB
                    have tx6 := hkp _ _ _ TX.out (fun e => hneq bx e rfl)
                    have b1' := tx6.cell 1 _ rfl
                    clear hown' hgrow hB' ho hB hkp tx6 b0 b1 b2 b3
                    go_wp2_with fail
                    go_roundg (k - i)
                    case measure => omega
                    case rel => exact ⟨d, d2, i, q, out ++ [⟨a, i, x, hiF l low a (i - a)⟩], ao', cap', by omega, rfl, by rw [List.length_append]; rfl, rfl, rfl, HED.out, by omega, HFK.out, by omega, by rw [lnV_app, lnV_one, ← HEH.out, List.length_append]; exact ho', hB6, by rw [List.length_append]; show out.length + 1 ≤ i; omega, by omega⟩
              · have hex : extF l avail a d3 u m = X := by rw [← EXX.out]; exact (ext_more htl (by rw [EU.out]; exact hw1) hm).symm ▸ by rw [EU.out]
                have EX := Lib.hid hex
                clear WD1 hw1 hex htl
                go_wp2_with fail
                refine WD2.mono ?_
                rintro e w4 ⟨rfl, hb⟩
                have hB4 := hB.trans (hb.mono hsB)
                have ho4 := ho.below hb
                have tx4 := tx.below hb
                have f1 := tx4.free 1
                have f2 := tx4.free 2
                have b1 := tx4.cell 1 _ rfl
                have b2 := tx4.cell 2 _ rfl
                have hce4 := HCE.out w4 hb
                have tx5 : Blk ((w4.setCell ⟨bx, 1, none⟩ (.int .i64 ((u : Int)))).setCell ⟨bx, 2, none⟩ (.int .i64 m)) bx #[.int .i64 ((a : Int)), .int .i64 ((u : Int)), .int .i64 m, .int .i64 low] 39 := (tx4.set 1 (.int .i64 ((u : Int)))).set 2 (.int .i64 m)
                have ho5 := OwnW.set (OwnW.set ho4 ⟨bx, 1, none⟩ (.int .i64 ((u : Int))) (fun e => HNE.out bx e rfl)) ⟨bx, 2, none⟩ (.int .i64 m) (fun e => HNE.out bx e rfl)
                have hB5 := (hB4.setCell (p := ⟨bx, 1, none⟩) HBX.out (.int .i64 ((u : Int)))).setCell (p := ⟨bx, 2, none⟩) HBX.out (.int .i64 m)
                clear hb WD2 hB ho hsB tx hce tx4 ho4 hB4
                go_wp2_with fail
                go_roundg (k - u)
                case measure => omega
                case rel => exact ⟨d - 1, d3, u, q + 1, m, by omega, huk, rfl, by go_num, HED2.out, by omega, EX.out, by omega, tx5, ho5, hB5, by omega⟩
          · have hqE : E.length ≤ q := ends_end hed (by rw [HL.out]; omega)
            have it1 : ¬ (q : Int) < (E.length : Int) := by omega
            have hex : X = some (t, x) := by rw [← ex]; exact ext_end (by rw [HL.out]; omega)
            have EX := Lib.hid hex
            have HED := Lib.hid hed
            clear ex hex b1 b2 f1 f2 hed
            -- the height; the line is appended
            have hfk : fillF l avail low d2 t (out ++ [⟨a, t, x, hiF l low a (t - a)⟩]) = R := by have := HR.out; rw [EX.out] at this; exact this
            have HFK := Lib.hid hfk
            clear hfk
            have b0 := tx.cell 0 _ rfl
            have b1 := tx.cell 1 _ rfl
            go_wp2_with fail
            go_loopg [17] (t - a) (fun gk s17 wr => ∃ (i : Nat) (h : Int), a ≤ i ∧ i ≤ t ∧ gk = t - i ∧ s17 = .int .i64 ((i : Int)) ∧ h = hiF l low a (i - a) ∧ Blk wr bx #[.int .i64 ((a : Int)), .int .i64 ((t : Int)), .int .i64 x, .int .i64 h] 39 ∧ OwnW wr w1.heap.size 39 4 aj out.length cj (lnV out) ∧ Below w1.heap.size w1 wr)
            case atStart => exact ⟨a, low, Nat.le_refl _, by omega, rfl, rfl, by rw [Nat.sub_self]; rfl, tx, ho, hB⟩
            case round =>
              clear tx ho hB b0 b1
              obtain ⟨i, h, hai, hit, rfl, rfl, eh, tx, ho, hB⟩ := hrel
              have b1 := tx.cell 1 _ rfl
              have b3 := tx.cell 3 _ rfl
              have f3 := tx.free 3
              have hsB := hB.size
              by_cases hi2 : i < t
              · have iit : (i : Int) < (t : Int) := by omega
                have iik : (i : Int) < (k : Int) := by omega
                obtain ⟨g, off, e', hg, hcx⟩ := (HRW.out.below hB).at (show i < k by omega)
                obtain ⟨rfl, rfl⟩ : g0 = g ∧ off0 = off := by simpa using e'
                have hgv := itV_get l i (by rw [HL.out]; omega)
                have c2 := hcx 2 (by omega)
                rw [hgv.2.2.1] at c2
                have est : hiF l low a (i + 1 - a) = max h (l.getD i it0).h := by
                  rw [show i + 1 - a = (i - a) + 1 by omega, eh]
                  show max (hiF l low a (i - a)) (l.getD (a + (i - a)) it0).h = _
                  rw [show a + (i - a) = i by omega]
                obtain ⟨z, ez⟩ : ∃ x, (l.getD i it0).h = x := ⟨_, rfl⟩
                rw [ez] at c2 est
                have EST := Lib.hid est
                have t2 := tx.set 3 (.int .i64 (max h z))
                have ho2 := OwnW.set ho ⟨bx, 3, none⟩ (.int .i64 (max h z)) (fun e => HNE.out bx e rfl)
                have hB2 := hB.setCell (p := ⟨bx, 3, none⟩) HBX.out (.int .i64 (max h z))
                clear hcx hgv ez est e' tx ho hB eh
                go_wp2_with fail
                go_region
                all_goals
                  go_wp2_with fail
                  go_roundg (t - (i + 1))
                  case measure => omega
                  case rel => exact ⟨i + 1, max h z, by omega, by omega, rfl, by go_num, EST.out.symm, t2.drew, ho2.drew, hB2.drew⟩
              · obtain rfl : i = t := by omega
                have iit : ¬ (i : Int) < (i : Int) := by omega
                have b0 := tx.cell 0 _ rfl
                have b2 := tx.cell 2 _ rfl
                have HEH := Lib.hid eh
                have hol := HOL.out
                have TX := Lib.hid tx
                have hneq := HNE.out
                clear eh tx
                go_wp2_with (at_builtin; (refine wpList_append_own _ rfl _ _ 50 rfl w1.heap.size 39 j0 (.agg #[.int .i64 0, .int .i64 0, .int .i64 0, .int .i64 0]) 4 32 Try.underlying50 ji jz0 jz1 jz2 rfl (by decide) _ _ _ rfl (ho.alloc _) ⟨wr.heap.size, 0, none⟩ 1 1 [.int .i64 ((a : Int)), .int .i64 ((i : Int)), .int .i64 x, .int .i64 h] rfl rfl (news_blk (Blk.new wr _ _ _ rfl)) (cells4i _ _ _ _) (by unfold maxLen; omega) (by omega) (by simp; omega) ?_))
                intro v' w6 hown' hgrow _
                obtain ⟨ao', cap', rfl, ho', hkp, hB'⟩ := OwnW.grown ho hown' hgrow hsB
                have hB6 := hB' _ _ (Nat.le_refl _) hB
                have tx6 := hkp _ _ _ TX.out (fun e => hneq bx e rfl)
                have b1' := tx6.cell 1 _ rfl
                clear hown' hgrow hB' ho hB hkp tx6 b0 b1 b2 b3
                go_wp2_with fail
                go_roundg (k - i)
                case measure => omega
                case rel => exact ⟨d, d2, i, q, out ++ [⟨a, i, x, hiF l low a (i - a)⟩], ao', cap', by omega, rfl, by rw [List.length_append]; rfl, rfl, rfl, HED.out, by omega, HFK.out, by omega, by rw [lnV_app, lnV_one, ← HEH.out, List.length_append]; exact ho', hB6, by rw [List.length_append]; show out.length + 1 ≤ i; omega, by omega⟩
    · obtain rfl : a = k := by omega
      have hqE : E.length ≤ q := ends_end hed (by rw [HL.out]; exact Nat.le_refl _)
      have ix : ¬ (q : Int) < (E.length : Int) := by omega
      have hR : R = some out := by rw [← er]; exact fill_end (by rw [HL.out]; exact Nat.le_refl _)
      subst hR
      have hB4 := HB1.out.trans (hB.mono HS01.out)
      have hob := ho.base HS01.out
      clear er hB ho
      go_wp2_with fail
      rw [EQ.out]
      exact R13Ans.yes hob hB4
end Go.Proofs.Ythofammjbicogaa
