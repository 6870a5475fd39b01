/-
  Package flexsize, each function by its contract. Fifth part: shared.
-/
import Derived.Test.YthofammjbicogaaYFxD
namespace Go.Proofs.Ythofammjbicogaa
open Go.RowKit
set_option linter.unusedSimpArgs false
set_option linter.unusedVariables false

def Fl.free (x : Fl) : Int := if x.fi then 0 else x.fa
def facS : List Fl → Int
  | [] => 0
  | x :: l => x.free + facS l
def wgtsO (grows : Bool) : List Fl → Option (List Int)
  | [] => some []
  | x :: l => (wgtO grows x).bind fun y => (wgtsO grows l).map (y :: ·)
/-- What is shared: the first free room's part, where the factors are less than one. -/
def partO (first f out : Int) : Option Int := if f < 4096 then (if lenB (fq (first * f) 4096) then some (if absI (fq (first * f) 4096) < absI out then fq (first * f) 4096 else out) else none) else some out
def sharedO (grows : Bool) (room first : Int) (st : List Fl) : Option (Int × List Int) :=
  (freeF room st).bind fun out => (wgtsO grows st).bind fun ws => (partO first (facS st) out).map fun t => (t, ws)
def ShrAns (n : Nat) (r : Option (Int × List Int)) (w : World) (e : Ending) (w' : World) : Prop :=
  (match r with | some (t, ws) => ∃ ao cap, e = .returned (.tuple #[.int .i64 t, .slice ao n cap]) ∧ RowI w' ao n ws ∧ n ≤ cap ∧ cap ≤ maxLen | none => e = .panicked (gave 2)) ∧ Below w.heap.size w w'
def FlMay (x : Fl) : Prop := FlFit x ∧ 0 ≤ x.fa ∧ x.fa ≤ 4096000
theorem free_bnd {x : Fl} (h : FlMay x) : 0 ≤ x.free ∧ x.free ≤ 4096000 := by
  have := h.2
  unfold Fl.free; split <;> omega
theorem facS_app : ∀ (l m : List Fl), facS (l ++ m) = facS l + facS m
  | [], m => by simp [facS]
  | x :: l, m => by rw [List.cons_append, facS, facS_app l m, facS]; omega
theorem facS_take {st : List Fl} {j : Nat} (hj : j < st.length) : facS (st.take (j + 1)) = facS (st.take j) + (st.getD j fl0).free := by
  rw [List.take_succ_eq_append_getElem hj, facS_app]
  simp [facS, List.getD, hj]
theorem facS_bnd {st : List Fl} (h : ∀ x ∈ st, FlMay x) : ∀ j, j ≤ st.length → 0 ≤ facS (st.take j) ∧ facS (st.take j) ≤ 4096000 * (j : Int)
  | 0, _ => by simp [facS]
  | j + 1, hj => by
    have h1 := facS_bnd h j (by omega)
    have h2 := free_bnd (at_fit h (j := j) (by omega))
    rw [facS_take (by omega)]
    push_cast
    omega
theorem wgtsO_app (grows : Bool) : ∀ (l : List Fl) (x : Fl), wgtsO grows (l ++ [x]) = (wgtsO grows l).bind fun ys => (wgtO grows x).map fun y => ys ++ [y]
  | [], x => by simp [wgtsO]; cases wgtO grows x <;> rfl
  | y :: l, x => by
    rw [List.cons_append, wgtsO, wgtsO_app grows l x, wgtsO]
    cases wgtO grows y <;> simp
    cases wgtsO grows l <;> simp
    cases wgtO grows x <;> simp
theorem wgtsO_take {grows : Bool} {st : List Fl} {j : Nat} (hj : j < st.length) : wgtsO grows (st.take (j + 1)) = (wgtsO grows (st.take j)).bind fun ys => (wgtO grows (st.getD j fl0)).map fun y => ys ++ [y] := by
  rw [List.take_succ_eq_append_getElem hj, wgtsO_app]
  simp [List.getD, hj]
theorem wgtsO_none {grows : Bool} {st : List Fl} {j : Nat} (h : wgtsO grows (st.take j) = none) : ∀ d, wgtsO grows (st.take (j + d)) = none
  | 0 => h
  | d + 1 => by
    have h1 := wgtsO_none h d
    by_cases hj : j + d < st.length
    · rw [show j + (d + 1) = j + d + 1 by omega, wgtsO_take hj, h1]; rfl
    · rw [List.take_of_length_le (by omega)]
      rw [List.take_of_length_le (by omega)] at h1
      exact h1
theorem freeF_len : ∀ (st : List Fl) (o : Int), LenB o → ∀ t, freeF o st = some t → LenB t
  | [], o, h, t, e => by cases e; exact h
  | x :: st, o, h, t, e => by
    rw [freeF] at e
    split at e
    · rename_i hl
      exact freeF_len st _ ((lenB_iff _).1 hl) t e
    · cases e
theorem givo_none {P : Program} {f : FuncId} {a : Array Value} {w : World} (h : Calls P f a w (GivO none w)) : Calls P f a w fun e w' => e = .panicked (gave 2) ∧ Below w.heap.size w w' := h
theorem givo_some {P : Program} {f : FuncId} {a : Array Value} {w : World} {t : Int} (h : Calls P f a w (GivO (some t) w)) : Calls P f a w fun e w' => e = .returned (.int .i64 t) ∧ Below w.heap.size w w' := h
set_option maxRecDepth 100000 in
set_option maxHeartbeats 3200000 in
theorem fx_shared (b : Nat) (ao : Option Addr) (n cap : Nat) (st : List Fl) (grows : Bool) (room first : Int) (hn : n ≤ 1024) (hl : st.length = n) (hf : ∀ x ∈ st, FlMay x) (hro : LenB room) (hfi : IFit first) (w : World) (tb : Blk w b #[.slice ao n cap, .bool grows, .int .i64 room, .int .i64 first] 145) (hr : RowV w ao n 10 (flV st)) :
    Calls Try.prog 116 #[.pointer (some ⟨b, 0, none⟩)] w (ShrAns n (sharedO grows room first st) w) := by
  obtain ⟨i0, hi, hz0, hz1, hz2⟩ := info_parts (show (Try.prog.info? 2).map (fun i => (i.zero, i.size, i.bytes)) = some (some (.int .i64 0), 1, 8) by kernel_rfl)
  have FR := fx_free b ao n cap st room (.bool grows) (.int .i64 first) (by omega) hl (fun x hx => (hf x hx).1) hro.fit w tb hr
  have lb := tb.lt
  have HR := Lib.hid hr
  have HL := Lib.hid hl
  have HF := Lib.hid hf
  have HRO := Lib.hid hro
  have HFI := Lib.hid hfi
  have TB := Lib.hid tb
  clear tb hr hl hf hro hfi
  obtain ⟨D, eD⟩ : ∃ D, sharedO grows room first st = D := ⟨_, rfl⟩
  rw [eD]
  unfold sharedO at eD
  cases hfr : freeF room st with
  | none =>
    rw [hfr] at eD FR
    replace FR := givo_none FR
    have hD : D = none := eD.symm
    subst hD
    clear eD hfr
    go_enter Try.func116, Try.ntmps116
    go_wp2_with (go_at_call 109; with_reducible refine FR.mono ?_; rintro e w1 ⟨rfl, hb1⟩)
    simp only [bodyPost, ShrAns]
    exact ⟨trivial, trivial, hb1⟩
  | some out =>
    rw [hfr] at eD FR
    replace FR := givo_some FR
    rw [Option.bind_some] at eD
    have ED := Lib.hid eD
    have HO := Lib.hid (freeF_len st room HRO.out out hfr)
    clear eD hfr
    go_enter Try.func116, Try.ntmps116
    go_wp2_with fail
    refine FR.mono ?_
    rintro e w1 ⟨rfl, hb1⟩
    have tb1 := TB.out.below hb1
    have r1 := HR.out.below hb1
    have hs1 := hb1.size
    have c0 := tb1.cell 0 _ rfl
    have TB1 := Lib.hid tb1
    have R1 := Lib.hid r1
    have HB1 := Lib.hid hb1
    clear FR tb1 r1 hb1
    go_wp2_with fail
    go_loopg [5, 6, 17] n (fun gk s5 s6 s17 wr => ∃ (j : Nat) (aj : Option Addr) (cj : Nat) (ys : List Int), j ≤ n ∧ gk = n - j ∧ s5 = .int .i64 (facS (st.take j)) ∧ s6 = .slice aj j cj ∧ s17 = .int .i64 ((j : Int)) ∧ wgtsO grows (st.take j) = some ys ∧ OwnI wr w1.heap.size aj j cj ys ∧ Below w1.heap.size w1 wr)
    case atStart => exact ⟨0, none, 0, [], by omega, by omega, by simp [facS], rfl, rfl, by simp [wgtsO], OwnI.nil _ _, Below.refl _ _⟩
    case round =>
      clear c0
      obtain ⟨j, aj, cj, ys, hj, rfl, rfl, rfl, rfl, hw, ho, hB⟩ := hrel
      have hfb := facS_bnd HF.out j (by rw [HL.out]; exact hj)
      have hB0 := HB1.out.trans (hB.mono hs1)
      have hsz := hB.size
      have hsh := ho.shape
      obtain ⟨F, eF⟩ : ∃ F, facS (st.take j) = F := ⟨_, rfl⟩
      rw [eF] at hfb
      rw [eF]
      have EF := Lib.hid eF
      have HW := Lib.hid hw
      have hfb1 := hfb.1
      have hfb2 : F ≤ 4194304000 := by omega
      have tbr := TB1.out.below hB
      have c0 := tbr.cell 0 _ rfl
      have c3 := tbr.cell 3 _ rfl
      clear eF hw hfb
      by_cases hjk : j < n
      · have ix : (j : Int) < (n : Int) := by omega
        obtain ⟨g, off, rfl, hg, hF⟩ := fl_at (R1.out.below hB) HL.out hjk
        have hmay := at_fit HF.out (j := j) (by rw [HL.out]; exact hjk)
        have hft := facS_take (st := st) (j := j) (by rw [HL.out]; exact hjk)
        have hwt := wgtsO_take (grows := grows) (st := st) (j := j) (by rw [HL.out]; exact hjk)
        rw [HW.out, Option.bind_some] at hwt
        rw [EF.out] at hft
        obtain ⟨x, ex⟩ : ∃ x, st.getD j fl0 = x := ⟨_, rfl⟩
        rw [ex] at hF hmay hft hwt
        obtain ⟨h0, h1, h2, h3, h4, h5, h6, h7, h8, h9⟩ := hF
        have hq := hmay.2
        have hbW : Below wr.heap.size wr (wr.alloc (.cells #[.int .i64 x.it.base, .int .i64 x.it.least, .int .i64 x.it.most, .bool x.it.bound, .int .i64 x.it.extra, .int .i64 x.it.grow, .int .i64 x.it.shrink, .int .i64 x.tg, .int .i64 x.fa, .bool x.fi] 147)) := (by repeat' (first | (with_reducible exact Below.refl _ _) | (with_reducible assumption) | (with_reducible refine below_alloc ?_ _ ?_) | (with_reducible refine below_set _ ?_ ?_) | (with_reducible refine Below.drew ?_) | (with_reducible refine below_dN ?_ _) | (apply below_thenA; assumption) | omega | (simp; done) | (simp; omega) | (simp [*]; done)))
        have WG := fx_weight b grows x (.slice (some ⟨g, off, none⟩) n cap) (.int .i64 room) (.int .i64 first) hmay.1 _ (tbr.below hbW)
        have hoW := ho.below hbW
        have HFT := Lib.hid hft
        have HWT := Lib.hid hwt
        unfold Fl.val at WG
        clear hmay hft hwt tbr ex
        cases hwo : wgtO grows x with
        | none =>
          rw [hwo] at WG
          replace WG := givo_none WG
          have hnone : wgtsO grows st = none := by
            have e1 : wgtsO grows (st.take (j + 1)) = none := by rw [HWT.out, hwo]; rfl
            have := wgtsO_none e1 (n - (j + 1))
            rw [List.take_of_length_le (by rw [HL.out]; omega)] at this
            exact this
          have hD : D = none := by rw [← ED.out, hnone]; rfl
          subst hD
          clear hnone hwo
          cases hx : x.fi <;> rw [hx] at h9 hbW hoW WG
          all_goals
            go_wp2_with (go_at_call 118; with_reducible refine WG.mono ?_; rintro e w2 ⟨rfl, hb2⟩)
            simp only [bodyPost, ShrAns]
            exact ⟨trivial, trivial, hB0.trans ((hbW.trans (hb2.mono hbW.size)).mono hB0.size)⟩
        | some y =>
          rw [hwo] at WG
          replace WG := givo_some WG
          have hwt2 : wgtsO grows (st.take (j + 1)) = some (ys ++ [y]) := by rw [HWT.out, hwo]; rfl
          have HW2 := Lib.hid hwt2
          clear hwt2 hwo
          cases hx : x.fi <;> rw [hx] at h9 hbW hoW WG <;> have HX := Lib.hid hx <;> clear hx
          all_goals
            skip
            go_wp2_with fail
            refine WG.mono ?_
            rintro e w2 ⟨rfl, hb2⟩
            have ho2 := hoW.below hb2
            have hB2 := hB.trans ((hbW.trans (hb2.mono hbW.size)).mono hsz)
            have hs2 := hB2.size
            clear hb2 hoW hbW WG hB ho h0 h1 h2 h3 h4 h5 h6 h7 h8 h9
            go_wp2_with (at_builtin; refine wpList_append_own _ rfl _ _ 31 rfl w1.heap.size 2 i0 (.int .i64 0) 1 8 Try.underlying31 hi hz0 hz1 hz2 rfl (by decide) _ _ _ rfl (ho2.1.alloc _) ⟨w2.heap.size, 0, none⟩ 1 1 [.int .i64 y] rfl rfl ?c1 ?c2 ?c3 ?c4 ?c5 ?_)
            case c1 =>
              intro j u hj
              match j, hj with
              | 0, hj => simp at hj; subst hj; simp [Addr.add]
            case c2 => intro u hu; simp at hu; subst hu; rfl
            case c3 => unfold maxLen; omega
            case c4 => omega
            case c5 => simp; omega
            intro v' w3 hown' hgrow _
            obtain ⟨ao', cap', rfl, ho', _, hB'⟩ := ho2.grown hown' hgrow (by omega)
            have hB3 := hB' _ _ (Nat.le_refl _) hB2
            clear hown' hgrow hB' hB2 ho2
            go_wp2_with fail
            go_roundg (n - (j + 1))
            case measure => omega
            case rel => exact ⟨j + 1, ao', cap', ys ++ [y], by omega, rfl, by rw [HFT.out]; unfold Fl.free; rw [HX.out]; first | rfl | simp, rfl, by go_num, HW2.out, ho', hB3⟩
      · obtain rfl : n = j := by omega
        have ix : ¬ (n : Int) < (n : Int) := by omega
        have hst : st.take n = st := List.take_of_length_le (by rw [HL.out]; omega)
        have hFs := EF.out
        have hWs := HW.out
        rw [hst] at hFs hWs
        have hD := ED.out
        rw [hWs, Option.bind_some, hFs] at hD
        have hrow := ho.row
        have hout := HO.out
        have hx1 := hout.1
        have hx2 := hout.2
        have HD := Lib.hid hD
        have HROW := Lib.hid hrow
        clear hst hFs hWs hD hrow ho hout
        by_cases hF4 : F < 4096
        · have hp : partO first F out = if lenB (fq (first * F) 4096) then some (if absI (fq (first * F) 4096) < absI out then fq (first * F) 4096 else out) else none := by unfold partO; rw [if_pos hF4]
          have PA := fun W => fix_part_any first F 4096 HFI.out (by unfold IFit; omega) (by unfold IFit; omega) W
          have hne : ¬ (4096 : Int) = 0 := by omega
          cases hL : lenB (fq (first * F) 4096)
          · rw [hL, if_neg (by simp)] at hp
            have hD2 : D = none := by have := HD.out; rw [hp] at this; exact this.symm
            subst hD2
            have hE : partE first F 4096 = 2 := by unfold partE; rw [if_neg hne, hL]; rfl
            rw [hE] at PA
            have PN := fun W => (PA W).mono fun e w' h => And.intro (h.2.1 (by simp)) h.2.2
            clear PA hp hL hE hne
            go_wp2_with (go_at_call 117; with_reducible refine (PN _).mono ?_; rintro e w2 ⟨rfl, hb2⟩)
            simp only [bodyPost, ShrAns]
            exact ⟨trivial, trivial, hB0.trans (hb2.mono hB0.size)⟩
          · rw [hL, if_pos rfl] at hp
            have hlb := (lenB_iff _).1 hL
            have hE : partE first F 4096 = 0 := by unfold partE; rw [if_neg hne, hL]; rfl
            have hN : partN first F 4096 = fq (first * F) 4096 := by unfold partN; rw [if_neg hne, hL]; rfl
            rw [hE, hN] at PA
            have PN := fun W => (PA W).mono fun e w' h => And.intro (h.1 (by simp)) h.2.2
            clear hE hN hne
            obtain ⟨pt, ept⟩ : ∃ p, fq (first * F) 4096 = p := ⟨_, rfl⟩
            rw [ept] at hp PN hlb
            have hy1 := hlb.1
            have hy2 := hlb.2
            have S1 := fun W => fx_size pt (by omega) (by omega) W
            have S2 := fun W => fx_size out (by omega) (by omega) W
            obtain ⟨s1, es1⟩ : ∃ s, absI pt = s := ⟨_, rfl⟩
            obtain ⟨s2, es2⟩ : ∃ s, absI out = s := ⟨_, rfl⟩
            rw [es1] at S1 hp
            rw [es2] at S2 hp
            have hD3 := HD.out
            rw [hp, Option.map_some] at hD3
            have HD3 := Lib.hid hD3
            clear PA hp hL ept hlb es1 es2 hD3
            by_cases hs : s1 < s2
            · go_wp2_with (first
                | (go_at_call 117; with_reducible refine (PN _).mono ?_; rintro e w2 ⟨rfl, hb2⟩)
                | (go_at_call 119; with_reducible refine (S1 _).mono ?_; rintro e w3 ⟨rfl, rfl⟩)
                | (go_at_call 119; with_reducible refine (S2 _).mono ?_; rintro e w4 ⟨rfl, rfl⟩))
              go_ret2
              rw [← HD3.out, if_pos hs]
              exact ⟨⟨aj, cj, rfl, HROW.out.below hb2, hsh⟩, hB0.trans (hb2.mono hB0.size)⟩
            · go_wp2_with (first
                | (go_at_call 117; with_reducible refine (PN _).mono ?_; rintro e w2 ⟨rfl, hb2⟩)
                | (go_at_call 119; with_reducible refine (S1 _).mono ?_; rintro e w3 ⟨rfl, rfl⟩)
                | (go_at_call 119; with_reducible refine (S2 _).mono ?_; rintro e w4 ⟨rfl, rfl⟩))
              go_ret2
              rw [← HD3.out, if_neg (show ¬ s1 < s2 by omega)]
              exact ⟨⟨aj, cj, rfl, HROW.out.below hb2, hsh⟩, hB0.trans (hb2.mono hB0.size)⟩
        · have hp : partO first F out = some out := by unfold partO; rw [if_neg hF4]
          have hD3 := HD.out
          rw [hp, Option.map_some] at hD3
          have HD3 := Lib.hid hD3
          clear hD3 hp
          go_wp2_with fail
          go_ret2
          rw [← HD3.out]
          exact ⟨⟨aj, cj, rfl, HROW.out, hsh⟩, hB0⟩
end Go.Proofs.Ythofammjbicogaa
