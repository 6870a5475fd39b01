/-
  The reference of layer 13: Least.
-/
import Derived.Test.YthofammjbicogaaYLnH
namespace Go.Proofs.Ythofammjbicogaa
open Go.RowKit
set_option linter.unusedSimpArgs false
set_option linter.unusedVariables false

set_option maxRecDepth 100000 in
set_option maxHeartbeats 3200000 in
theorem r13_least (ao : Option Addr) (k cap : Nat) (l : List It) (hk : k ≤ 1000) (hl : l.length = k) (hf : ItFit l) (w : World) (hr : RowV w ao k 4 (itV l)) :
    Calls Try.prog 30 #[.slice ao k cap] w (RwAns (leastR l) w) := by
  obtain ⟨R, eR⟩ : ∃ R, leastR l = R := ⟨_, rfl⟩
  rw [eR]
  have eR2 : leastF l k 0 0 = R := by rw [← hl]; exact eR
  obtain ⟨Q, eQ⟩ : ∃ Q : Ending → World → Prop, Q = RwAns R w := ⟨_, rfl⟩
  rw [← eQ]
  have EQ := Lib.hid eQ
  have EN := fun W h => r13_ends ao k cap l hk hl W h
  have WD := fun a b W (hab : a ≤ b) (hb : b ≤ k) (hW : RowV W ao k 4 (itV l)) => r13_width ao k cap a b l hk hl hf hab hb W hW
  obtain ⟨E, eE⟩ : ∃ E, endsF l k 0 = E := ⟨_, rfl⟩
  rw [eE] at EN
  have HRW := Lib.hid hr
  have HL := Lib.hid hl
  have ER := Lib.hid eR2
  have EE := Lib.hid eE
  have HWD := Lib.hid WD
  clear eQ hr hf hl eR eR2 eE WD
  go_enter Try.func30, Try.ntmps30
  go_wp2_with fail
  refine (EN _ HRW.out).mono ?_
  rintro e w1 ⟨ae, ce, rfl, hoe, hb⟩
  have hRE := hoe.row
  have hs01 := hb.size
  have HRE := Lib.hid hRE
  have HB1 := Lib.hid hb
  have HRW := Lib.hid (HRW.out.below hb)
  have HS01 := Lib.hid hs01
  clear EN hoe hRE hb hs01
  go_wp2_with fail
  go_loopg [5, 6, 7] k (fun gk s5 s6 s7 wr => ∃ (d d2 a q : Nat) (o : Int), a ≤ k ∧ gk = k - a ∧ s5 = .int .i64 ((a : Int)) ∧ s6 = .int .i64 o ∧ s7 = .int .i64 ((q : Int)) ∧ E.drop q = endsF l d a ∧ k - a ≤ d ∧ leastF l d2 a o = R ∧ k - a ≤ d2 ∧ Below w1.heap.size w1 wr ∧ q ≤ a ∧ (q = 0 → a = 0))
  case atStart => exact ⟨k, k, 0, 0, 0, by omega, by omega, rfl, rfl, rfl, by rw [EE.out]; rfl, by omega, ER.out, by omega, Below.refl _ _, by omega, (fun _ => rfl)⟩
  case round =>
    obtain ⟨d, d2, a, q, o, hak, rfl, rfl, rfl, rfl, hed, hd, er, hd2, hB, hqa, hq0⟩ := hrel
    have hsB := hB.size
    by_cases ha : a < k
    · have hal : a < l.length := by rw [HL.out]; exact ha
      have hsg := seg_up hal
      obtain ⟨hqE, heq, hed2⟩ := ends_go hed hal (by rw [HL.out]; exact hd)
      obtain ⟨ge, oe, rfl, hge, hce⟩ := row_int (HRE.out.below hB) rfl hqE
      have ix : (q : Int) < (E.length : Int) := by omega
      obtain ⟨t, et⟩ : ∃ t, seg l a = t := ⟨_, rfl⟩
      rw [et] at heq hsg hed2
      rw [heq] at hce
      rw [HL.out] at hsg
      have hat := hsg.1
      have htk := hsg.2
      have WD1 := HWD.out a t wr (by omega) htk (HRW.out.below hB)
      obtain ⟨d2, rfl⟩ : ∃ d', d2 = d' + 1 := ⟨d2 - 1, by omega⟩
      obtain ⟨d, rfl⟩ : ∃ d', d = d' + 1 := ⟨d - 1, by omega⟩
      rw [Nat.add_sub_cancel] at hed2
      have ER := Lib.hid er
      have ET := Lib.hid et
      have HED := Lib.hid hed2
      have HAL := Lib.hid hal
      have HQ0 := Lib.hid hq0
      have HCE := Lib.hid (fun W (h : Below wr.heap.size wr W) => (h.cell (p := ⟨ge, oe + q, none⟩) hge).trans hce)
      clear hal er et hed hed2 hsg heq hq0
      cases hw1 : wd l a t with
      | none =>
        have WD2 := WD1.mono fun _ _ h => rw_no h hw1
        have hno : R = none := by rw [← ER.out]; exact least_err HAL.out (by rw [ET.out]; exact hw1)
        have HNO := Lib.hid hno
        clear WD1 hw1 hno
        go_wp2_with fail
        refine WD2.mono ?_
        rintro e w3 ⟨rfl, hb⟩
        have hB3 := hB.trans (hb.mono hsB)
        have hB4 := HB1.out.trans (hB3.mono HS01.out)
        clear hb WD2 hB hB3
        go_wp2_with fail
        rw [EQ.out, HNO.out]
        exact ⟨rfl, hB4⟩
      | some s =>
        have WD2 := WD1.mono fun _ _ h => rw_yes h hw1
        have hR := least_go (d := d2) (out := o) HAL.out (s := s) (by rw [ET.out]; exact hw1)
        rw [ER.out, ET.out] at hR
        have HR := Lib.hid hR.symm
        clear WD1 hw1 hR
        go_wp2_with fail
        refine WD2.mono ?_
        rintro e w3 ⟨rfl, hb⟩
        have hB3 := hB.trans (hb.mono hsB)
        have hce3 := HCE.out w3 hb
        clear hb WD2 hB hce
        by_cases hq0 : q = 0
        · have iq0 : ((q : Int) == 0) = true := by simpa using hq0
          have hR2 : leastF l d2 t s = R := by have := HR.out; rw [if_pos (.inl (HQ0.out hq0))] at this; exact this
          have HR2 := Lib.hid hR2
          clear hR2 hq0
          go_wp2_with fail
          go_roundg (k - t)
          case measure => omega
          case rel => exact ⟨d, d2, t, q + 1, s, htk, rfl, rfl, rfl, by go_num, HED.out, by omega, HR2.out, by omega, hB3, by omega, (fun h => by omega)⟩
        · have iq0 : ((q : Int) == 0) = false := by simpa using hq0
          have ha0 : ¬ a = 0 := by omega
          by_cases hos : o < s
          · have hR2 : leastF l d2 t s = R := by have := HR.out; rw [if_pos (.inr hos)] at this; exact this
            have HR2 := Lib.hid hR2
            clear hR2 hq0 ha0
            go_wp2_with fail
            go_roundg (k - t)
            case measure => omega
            case rel => exact ⟨d, d2, t, q + 1, s, htk, rfl, rfl, rfl, by go_num, HED.out, by omega, HR2.out, by omega, hB3, by omega, (fun h => by omega)⟩
          · have hR2 : leastF l d2 t o = R := by have := HR.out; rw [if_neg (fun h => h.elim ha0 hos)] at this; exact this
            have HR2 := Lib.hid hR2
            clear hR2 hq0 ha0
            go_wp2_with fail
            go_roundg (k - t)
            case measure => omega
            case rel => exact ⟨d, d2, t, q + 1, o, htk, rfl, rfl, rfl, by go_num, HED.out, by omega, HR2.out, by omega, hB3, by omega, (fun h => by omega)⟩
    · obtain rfl : a = k := by omega
      have hqE : E.length ≤ q := ends_end hed (by rw [HL.out]; exact Nat.le_refl _)
      have ix : ¬ (q : Int) < (E.length : Int) := by omega
      have hR : R = some o := by rw [← er]; exact least_end (by rw [HL.out]; exact Nat.le_refl _)
      have HR := Lib.hid hR
      have hB4 := HB1.out.trans (hB.mono HS01.out)
      clear hR er hB
      go_wp2_with fail
      rw [EQ.out, HR.out]
      exact ⟨rfl, hB4⟩
end Go.Proofs.Ythofammjbicogaa
