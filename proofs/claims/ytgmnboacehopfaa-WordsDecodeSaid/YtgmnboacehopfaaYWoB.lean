/-
  Package words: Decode, whatever comes.
-/
import Derived.Test.YtgmnboacehopfaaYWoA
namespace Go.Proofs.Ytgmnboacehopfaa
open Go.RowKit
set_option linter.unusedSimpArgs false
set_option linter.unusedVariables false

/-- Rows of things of s cells each, laid one behind the other. -/
theorem flW_get {α : Type} (f : α → List Value) (s : Nat) (hs : ∀ x, (f x).length = s) (d : α) : ∀ (l : List α) (i j : Nat), i < l.length → j < s → (l.flatMap f)[i * s + j]? = (f (l.getD i d))[j]?
  | [], i, j, h, _ => by simp at h
  | x :: l, 0, j, _, hj => by
    rw [List.flatMap_cons, Nat.zero_mul, Nat.zero_add, List.getElem?_append_left (by rw [hs]; exact hj)]
    rfl
  | x :: l, i + 1, j, h, hj => by
    rw [List.flatMap_cons, List.getElem?_append_right (by rw [hs, Nat.succ_mul]; omega), hs, show (i + 1) * s + j - s = i * s + j by rw [Nat.succ_mul]; omega]
    exact flW_get f s hs d l i j (by simpa using h) hj
theorem flW_snoc {α : Type} (f : α → List Value) (d : α) {l : List α} {j : Nat} (hj : j < l.length) : (l.take (j + 1)).flatMap f = (l.take j).flatMap f ++ f (l.getD j d) := by
  rw [List.take_succ_eq_append_getElem hj, List.flatMap_append]
  congr 1
  simp [List.getD, hj]
/-- A float is stored as any value is (the kit's simp set has no such law). -/
theorem sto_flo (a : Addr) (b : Nat) (m : Mode) (W : World) : (store a (.float .f64 b) m).run Try.prog W = stored Try.prog W a (.float .f64 b) m := run_store Try.prog W a _ m rfl
theorem below_step0 {w w1 : World} {o : Obj} (h : Below (w.alloc o).heap.size (w.alloc o) w1) : Below w.heap.size w w1 := ((Below.refl _ w).alloc (Nat.le_refl _) o).trans (h.mono (by simp))
theorem wp_worldW {P : Program} {c : Code} {Q : Exit → Act → World → Prop} {a : Act} {w : World} (R : World → Prop) (h : R w) (k : ∀ W, R W → c.wp P Q a W) : c.wp P Q a w := k w h
/-- A raw word: both floats by their bits. -/
structure Rw where
  w : Nat
  s : Nat
  br : Bool
def rw0 : Rw := ⟨0, 0, false⟩
def Rw.vals (x : Rw) : List Value := [.float .f64 x.w, .float .f64 x.s, .bool x.br]
def Rw.Wf (x : Rw) : Prop := x.w < 18446744073709551616 ∧ x.s < 18446744073709551616
/-- A word. -/
structure Wo where
  w : Int
  s : Int
  br : Bool
def wo0 : Wo := ⟨0, 0, false⟩
def Wo.vals (x : Wo) : List Value := [.int .i64 x.w, .int .i64 x.s, .bool x.br]
def gW (b : Nat) : Int := (gridR b 64 0 1073741824).1
def eW (b : Nat) : Int := if fKi b = 1 then 4 else 0
theorem eW_is (b : Nat) : (gridR b 64 0 1073741824).2 = eW b := by
  unfold gridR eW
  rw [if_neg (by omega)]
  split
  · rfl
  · split <;> rfl
def woF (x : Rw) : Wo := ⟨gW x.w, gW x.s, x.br⟩
/-- Both are numbers. -/
def okR (x : Rw) : Bool := fKi x.w != 1 && fKi x.s != 1
theorem okR_e (x : Rw) : (okR x = true → eW x.w = 0 ∧ eW x.s = 0) ∧ (okR x = false → (if eW x.w ≠ 0 then eW x.w else eW x.s) = 4) := by
  unfold okR eW
  by_cases h1 : fKi x.w = 1 <;> by_cases h2 : fKi x.s = 1 <;> simp [h1, h2]
theorem all_take {l : List Rw} {j : Nat} (hj : j < l.length) : (l.take (j + 1)).all okR = ((l.take j).all okR && okR (l.getD j rw0)) := by
  rw [List.take_succ_eq_append_getElem hj, List.all_append]
  simp [List.getD, hj]
theorem all_no {l : List Rw} {j : Nat} (hj : j < l.length) (h : okR (l.getD j rw0) = false) : l.all okR = false := by
  rw [List.all_eq_false]
  refine ⟨l[j], List.getElem_mem hj, ?_⟩
  have : l.getD j rw0 = l[j] := by simp [List.getD, hj]
  rw [← this, h]
  simp
def WdAns (T : TypeId) (n : Nat) (l : List Rw) (w : World) (e : Ending) (w' : World) : Prop :=
  ∃ a m c, e = .returned (.tuple #[.slice a m c, .int .i64 (if 256 < n then 8 else if l.all okR then 0 else 4)]) ∧ (¬ 256 < n → l.all okR = true → m = n ∧ OwnW w' w.heap.size T 3 a n c ((l.map woF).flatMap Wo.vals)) ∧ (256 < n ∨ l.all okR = false → m = 0) ∧ Below w.heap.size w w'
set_option maxRecDepth 100000 in
set_option maxHeartbeats 3200000 in
theorem words_decode (ao : Option Addr) (n cap : Nat) (l : List Rw) (hl : l.length = n) (hn : n ≤ 1000000) (hf : ∀ x ∈ l, x.Wf) (w : World) (hr : RowV w ao n 3 (l.flatMap Rw.vals)) :
    Calls Try.prog 10 #[.slice ao n cap] w (WdAns 44 n l w) := by
  obtain ⟨i0, hi, hz0, hz1, hz2⟩ := info_parts (show (Try.prog.info? 44).map (fun i => (i.zero, i.size, i.bytes)) = some (some (.agg #[.int .i64 0, .int .i64 0, .bool false]), 3, 24) by kernel_rfl)
  obtain ⟨Q, eQ⟩ : ∃ Q, Q = WdAns 44 n l w := ⟨_, rfl⟩
  rw [← eQ]
  have EQ := Lib.hid eQ
  have HL := Lib.hid hl
  have HF := Lib.hid hf
  have HR := Lib.hid hr
  clear eQ hl hf hr
  have SF := sto_flo
  by_cases h256 : 256 < n
  · have ix : (256 : Int) < (n : Int) := by omega
    have H := Lib.hid h256
    clear h256
    go_enter Try.func10, Try.ntmps10
    go_wp2_with fail
    rw [EQ.out]
    exact ⟨none, 0, 0, by rw [if_pos H.out]; rfl, fun h => absurd H.out h, fun _ => rfl, Below.refl _ _⟩
  · have ix0 : ¬ (256 : Int) < (n : Int) := by omega
    have H := Lib.hid h256
    go_enter Try.func10, Try.ntmps10
    go_wp2_with fail
    go_loopg [4, 16] n (fun gk s4 s16 wr => ∃ (j : Nat) (aj : Option Addr) (cj : Nat), j ≤ n ∧ gk = n - j ∧ s4 = .slice aj j cj ∧ s16 = .int .i64 ((j : Int)) ∧ (l.take j).all okR = true ∧ OwnW wr w.heap.size 44 3 aj j cj (((l.take j).map woF).flatMap Wo.vals) ∧ Below w.heap.size w wr)
    case atStart => exact ⟨0, none, 0, by omega, by omega, rfl, rfl, by simp, OwnW.nil _ _ _ _, Below.refl _ _⟩
    case round =>
      obtain ⟨j, aj, cj, hj, rfl, rfl, rfl, hall, o1, hB⟩ := hrel
      have hsB := hB.size
      have hsh := o1.shape
      by_cases hjk : j < n
      · have ix : (j : Int) < (n : Int) := by omega
        have hjl : j < l.length := by rw [HL.out]; exact hjk
        obtain ⟨g, off, rfl, hg, hc⟩ := (HR.out.below hB).at hjk
        have hx := fun k (hk : k < 3) => (hc k hk).trans (flW_get Rw.vals 3 (fun _ => rfl) rw0 l j k hjl hk)
        have hwf : (l.getD j rw0).Wf := by
          have e : l.getD j rw0 = l[j] := by simp [List.getD, hjl]
          rw [e]; exact HF.out _ (List.getElem_mem hjl)
        have hat := all_take hjl
        have hno := fun h => all_no hjl h
        have hmp : ((l.take (j + 1)).map woF).flatMap Wo.vals = ((l.take j).map woF).flatMap Wo.vals ++ (woF (l.getD j rw0)).vals := by
          rw [List.take_succ_eq_append_getElem hjl, List.map_append, List.flatMap_append]
          congr 1
          simp [List.getD, hjl]
        obtain ⟨x, ex⟩ : ∃ x, l.getD j rw0 = x := ⟨_, rfl⟩
        rw [ex] at hx hwf hat hno hmp
        rw [hall, Bool.true_and] at hat
        have h0 := hx 0 (by omega)
        rw [Nat.add_zero] at h0
        have h1 := hx 1 (by omega)
        have h2 := hx 2 (by omega)
        rw [show x.vals[0]? = some (.float .f64 x.w) from rfl] at h0
        rw [show x.vals[1]? = some (.float .f64 x.s) from rfl] at h1
        rw [show x.vals[2]? = some (.bool x.br) from rfl] at h2
        have G1 := fun W => real_Grid x.w hwf.1 64 0 1073741824 (by unfold IFit; omega) (by unfold IFit; omega) (by unfold IFit; omega) W
        have G2 := fun W => real_Grid x.s hwf.2 64 0 1073741824 (by unfold IFit; omega) (by unfold IFit; omega) (by unfold IFit; omega) W
        have hok := okR_e x
        have hwv : (woF x).vals = [.int .i64 (gW x.w), .int .i64 (gW x.s), .bool x.br] := rfl
        rw [hwv] at hmp
        simp only [eW_is, show ∀ b, (gridR b 64 0 1073741824).1 = gW b from fun _ => rfl] at G1 G2
        obtain ⟨n1, en1⟩ : ∃ v, gW x.w = v := ⟨_, rfl⟩
        obtain ⟨n2, en2⟩ : ∃ v, gW x.s = v := ⟨_, rfl⟩
        obtain ⟨e1, ee1⟩ : ∃ v, eW x.w = v := ⟨_, rfl⟩
        obtain ⟨e2, ee2⟩ : ∃ v, eW x.s = v := ⟨_, rfl⟩
        rw [en1, en2] at hmp
        simp only [en1, ee1] at G1
        simp only [en2, ee2] at G2
        rw [ee1, ee2] at hok
        have HOK := Lib.hid hok
        have HAT := Lib.hid hat
        have HNO := Lib.hid hno
        have HMP := Lib.hid hmp
        have HB := Lib.hid hB
        have HO := Lib.hid o1
        have BW := Lib.hid (show ∀ W, Below wr.heap.size wr W → W.cell? ⟨g, off + j * 3 + 2, none⟩ = some (.bool x.br) from fun W hW => (hW.cell (p := ⟨g, off + j * 3 + 2, none⟩) hg).trans h2)
        clear hx hwf hat hno hmp hc ex hok hwv en1 en2 ee1 ee2 h256
        cases hk : okR x
        · have q := HOK.out.2 hk
          have C : ∀ b W, Blk W b #[.int .i64 e1, .int .i64 e2] 36 → Calls Try.prog 28 #[.slice (some ⟨b, 0, none⟩) 2 2] W fun r w' => r = .returned (.int .i64 4) ∧ w' = W := fun b W h => by
            have r := cmp_or b e1 e2 W h
            rw [q] at r
            exact r
          have HK := Lib.hid hk
          clear q hk
          go_wp2_with (first
            | (go_at_call 27; with_reducible refine (G1 _).mono ?_; rintro e w1 ⟨rfl, hb1⟩; have hs1 := hb1.size; simp at hs1; obtain ⟨hc1, hf1⟩ := bcell hb1)
            | (go_at_call 27; with_reducible refine (G2 _).mono ?_; rintro e w2 ⟨rfl, hb2⟩; have hs2 := hb2.size; obtain ⟨hc2, hf2⟩ := bcell hb2)
            | (go_at_call 28; with_reducible refine (C _ _ (Blk.new _ _ _ _ rfl)).mono ?_; rintro e w3 ⟨rfl, rfl⟩))
          rw [EQ.out]
          have hb3 : Below wr.heap.size wr w2 := (show Below wr.heap.size wr w1 from (below_step0 hb1)).trans (hb2.mono (by omega))
          exact ⟨none, 0, 0, by rw [if_neg H.out, if_neg (by rw [HNO.out HK.out]; simp)]; rfl, fun _ h => absurd (h.symm.trans (HNO.out HK.out)) (by simp), fun _ => rfl, by have hB2 := HB.out.trans (hb3.mono hsB); have hs5 := hB2.size; exact (by repeat' (first | (with_reducible exact Below.refl _ _) | (with_reducible assumption) | (with_reducible refine below_alloc ?_ _ ?_) | (with_reducible refine below_set _ ?_ ?_) | (with_reducible refine Below.drew ?_) | (with_reducible refine below_dN ?_ _) | (apply below_thenA; assumption) | omega | (simp; done) | (simp; omega) | (simp [*]; done)))⟩
        · obtain ⟨q1, q2⟩ := HOK.out.1 hk
          subst q1 q2
          have C : ∀ b W, Blk W b #[.int .i64 0, .int .i64 0] 36 → Calls Try.prog 28 #[.slice (some ⟨b, 0, none⟩) 2 2] W fun r w' => r = .returned (.int .i64 0) ∧ w' = W := fun b W h => by
            have r := cmp_or b 0 0 W h
            rw [if_neg (by simp)] at r
            exact r
          rw [hk] at HAT
          clear hk
          go_upto_region 12 with (first
            | (go_at_call 27; with_reducible refine (G1 _).mono ?_; rintro e w1 ⟨rfl, hb1⟩; have hs1 := hb1.size; simp at hs1; obtain ⟨hc1, hf1⟩ := bcell hb1)
            | (go_at_call 27; with_reducible refine (G2 _).mono ?_; rintro e w2 ⟨rfl, hb2⟩; have hs2 := hb2.size; obtain ⟨hc2, hf2⟩ := bcell hb2)
            | (go_at_call 28; with_reducible refine (C _ _ (Blk.new _ _ _ _ rfl)).mono ?_; rintro e w3 ⟨rfl, rfl⟩))
          have hb3 : Below wr.heap.size wr w2 := (show Below wr.heap.size wr w1 from (below_step0 hb1)).trans (hb2.mono (by omega))
          have tr : Blk w2 wr.heap.size #[.float .f64 x.w, .float .f64 x.s, .bool x.br] 34 := ((Blk.new wr _ _ _ rfl).below hb1).below hb2
          have hB2 := HB.out.trans (hb3.mono hsB)
          have hs5 := hB2.size
          refine wp_worldW (fun W => Blk W wr.heap.size #[.float .f64 x.w, .float .f64 x.s, .bool x.br] 34 ∧ OwnW W w.heap.size 44 3 aj j cj (((l.take j).map woF).flatMap Wo.vals) ∧ Below w.heap.size w W) ⟨tr.alloc _, (HO.out.below hb3).alloc _, by exact (by repeat' (first | (with_reducible exact Below.refl _ _) | (with_reducible assumption) | (with_reducible refine below_alloc ?_ _ ?_) | (with_reducible refine below_set _ ?_ ?_) | (with_reducible refine Below.drew ?_) | (with_reducible refine below_dN ?_ _) | (apply below_thenA; assumption) | omega | (simp; done) | (simp; omega) | (simp [*]; done)))⟩ ?_
          rintro W5 ⟨t5, o5, hB5⟩
          clear tr hB2 hs5 hb3 hb1 hb2 hc1 hc2 hf1 hf2 hs1 hs2 HOK HNO BW C G1 G2
          have c2 := t5.cell 2 _ rfl
          obtain ⟨ys, eys⟩ : ∃ ys, ((l.take j).map woF).flatMap Wo.vals = ys := ⟨_, rfl⟩
          rw [eys] at o5 HMP
          clear eys
          have hz5 := hB5.size
          go_wp2_with (at_builtin; refine wpList_append_own _ rfl _ _ 35 rfl w.heap.size 44 i0 (.agg #[.int .i64 0, .int .i64 0, .bool false]) 3 24 Try.underlying35 hi hz0 hz1 hz2 rfl (by decide) _ _ _ rfl (o5.alloc _) ⟨W5.heap.size, 0, none⟩ 1 1 [.int .i64 n1, .int .i64 n2, .bool x.br] rfl rfl (fun j u hj => by match j, hj with | 0, hj => (simp at hj; subst hj; simp [Addr.add]) | 1, hj => (simp at hj; subst hj; simp [Addr.add]) | 2, hj => (simp at hj; subst hj; simp [Addr.add])) (fun u hu => by simp at hu; rcases hu with rfl | rfl | rfl <;> rfl) (by unfold maxLen; omega) (by omega) (by simp; omega) ?_)
          intro v' w6 hown' hgrow _
          obtain ⟨ao', cap', rfl, ho', _, hB'⟩ := OwnW.grown o5 hown' hgrow (by omega)
          have hB6 := hB' _ _ (Nat.le_refl _) hB5
          have HO6 := Lib.hid ho'
          have HB6 := Lib.hid hB6
          clear hown' hgrow hB' ho' hB6 o5 hB5 c2 t5
          go_wp2_with fail
          go_roundg (n - (j + 1))
          case measure => omega
          case rel => exact ⟨j + 1, ao', cap', by omega, rfl, rfl, by go_num, HAT.out, by rw [HMP.out]; exact HO6.out, HB6.out⟩
      · obtain rfl : n = j := by omega
        have ix : ¬ (n : Int) < (n : Int) := by omega
        have htk : l.take n = l := List.take_of_length_le (by rw [HL.out]; omega)
        rw [htk] at hall o1
        have HA := Lib.hid hall
        clear htk hall
        go_wp2_with fail
        rw [EQ.out]
        exact ⟨aj, n, cj, by rw [if_neg H.out, if_pos HA.out], fun _ _ => ⟨rfl, o1⟩, fun h => absurd h (by simp [H.out, HA.out]), hB⟩
end Go.Proofs.Ytgmnboacehopfaa
