/-
  Layer 11 (style): Compute's worlds.
-/
/-
  Layer 11 (style): Compute.
-/
/-
  Layer 11 (style): the reference's Compute: plain.
-/
/-
  Layer 11 (style): the reference's Compute.
-/
/-
  Package real: the order of floats; the reference's.
-/
/-
  Package math: what Ldexp needs; package real: nearest.
-/
/-
  Package real: Nearest.
-/
/-
  Layer 11 (style): Default.
-/
/-
  The reference of layer 4: Pixels (as RefD, beside other texts).
-/
/-
  Layer 11 (style): Hairline, of the program and of the reference.
-/
import Derived.Test.YtigjjddblijpbaaGreatDoorZ11
import Derived.Test.YtigjjddblijpbaaGreatDoorZ12
import Derived.Test.YtigjjddblijpbaaGreatDoorZ9
import Derived.Test.YtigjjddblijpbaaGreatDoorZ10
import Derived.Test.YtigjjddblijpbaaGreatDoorZ1
namespace Go.Proofs.YtigjjddblijpbaaGreatDoor
open Go Go.RowKit
set_option linter.unusedSimpArgs false
set_option linter.unusedVariables false

/-- What Compute's world bears: the raw style, the result's box. -/
structure CmW (x : Rs) (w : World) (r o : Nat) (W : World) : Prop where
  raw : Blk W r (cellsF 65 (rawF x)) 44
  out : Blk W o (cellsF 62 zerF) 77
  bel : Below w.heap.size w W
  rlo : w.heap.size ≤ r
  olo : w.heap.size ≤ o
  ne : r ≠ o
theorem CmW.below {x : Rs} {w W W' : World} {r o : Nat} (h : CmW x w r o W) (hb : Below W.heap.size W W') : CmW x w r o W' :=
  ⟨h.raw.below hb, h.out.below hb, h.bel.trans (hb.mono h.bel.size), h.rlo, h.olo, h.ne⟩
theorem CmW.drew {x : Rs} {w W : World} {r o : Nat} (h : CmW x w r o W) : CmW x w r o W.drew := ⟨h.raw.drew, h.out.drew, h.bel.drew, h.rlo, h.olo, h.ne⟩
theorem CmW.but {x : Rs} {w W W' : World} {r o b : Nat} (h : CmW x w r o W) (hb : But b W W') (hr : r ≠ b) (ho : o ≠ b) (hw : w.heap.size ≤ b) : CmW x w r o W' :=
  ⟨h.raw.but hb hr, h.out.but hb ho, hb.to h.bel hw h.bel.size, h.rlo, h.olo, h.ne⟩
/-- And the style. -/
structure SmW (x : Rs) (w : World) (r o s : Nat) (F : Nat → Value) (W : World) : Prop where
  c : CmW x w r o W
  sty : Blk W s (cellsF 62 F) 77
  slo : w.heap.size ≤ s
  nr : r ≠ s
  no : o ≠ s
theorem SmW.below {x : Rs} {w W W' : World} {r o s : Nat} {F : Nat → Value} (h : SmW x w r o s F W) (hb : Below W.heap.size W W') : SmW x w r o s F W' :=
  ⟨h.c.below hb, h.sty.below hb, h.slo, h.nr, h.no⟩
theorem SmW.drew {x : Rs} {w W : World} {r o s : Nat} {F : Nat → Value} (h : SmW x w r o s F W) : SmW x w r o s F W.drew := ⟨h.c.drew, h.sty.drew, h.slo, h.nr, h.no⟩
theorem SmW.alloc {x : Rs} {w W : World} {r o s : Nat} {F : Nat → Value} (h : SmW x w r o s F W) (ob : Obj) : SmW x w r o s F (W.alloc ob) := h.below ((Below.refl _ _).alloc (Nat.le_refl _) _)
theorem SmW.but {x : Rs} {w W W' : World} {r o s : Nat} {F F' : Nat → Value} (h : SmW x w r o s F W) (hb : But s W W') (t : Blk W' s (cellsF 62 F') 77) : SmW x w r o s F' W' :=
  ⟨h.c.but hb h.nr h.no h.slo, t, h.slo, h.nr, h.no⟩
theorem SmW.other {x : Rs} {w W W' : World} {r o s b : Nat} {F : Nat → Value} (h : SmW x w r o s F W) (hb : But b W W') (hr : r ≠ b) (ho : o ≠ b) (hs : s ≠ b) (hw : w.heap.size ≤ b) : SmW x w r o s F W' :=
  ⟨h.c.but hb hr ho hw, h.sty.but hb hs, h.slo, h.nr, h.no⟩
theorem wp_worldS {P : Program} {c : Code} {Q : Exit → Act → World → Prop} {a : Act} {w : World} (R : World → Prop) (h : R w) (k : ∀ W, R W → c.wp P Q a W) : c.wp P Q a w := k w h
/-- Results of which one lies in memory. -/
theorem results_c2 {P : Program} {fn : Func} {a u : Tmp} {t : TypeId} {tmps : Array Value} {w : World} {p : Addr} {v : Value} (h : fn.results = #[.cell a t, .tmp u]) (ha : tmps.getD a undef = .pointer (some p)) (hl : (loadVar t p).run P w = .ok v w) :
    (results fn tmps).run P w = .ok (.tuple #[v, tmps.getD u undef]) w := by
  rw [Array.getD_eq_getD_getElem?] at ha
  simp [results, h, ha, asAddr, hl, Sem.run_bind]
theorem results_c1 {P : Program} {fn : Func} {a : Tmp} {t : TypeId} {tmps : Array Value} {w : World} {p : Addr} {v : Value} (h : fn.results = #[.cell a t]) (ha : tmps.getD a undef = .pointer (some p)) (hl : (loadVar t p).run P w = .ok v w) :
    (results fn tmps).run P w = .ok v w := by
  rw [Array.getD_eq_getD_getElem?] at ha
  simp [results, h, ha, asAddr, hl, Sem.run_bind]
/-- The style, the first i lengths of which are decoded. -/
def F1 (x : Rs) (i : Nat) : Nat → Value := styF (fun j => if j < i then (dL x j).1 else 0) (fun j => if j < i then (dL x j).2.1 else 0) (fun _ => 0) (dA x) x.W x.C
/-- The same, with j numbers. -/
def F2 (x : Rs) (i : Nat) : Nat → Value := styF (fun j => (dL x j).1) (fun j => (dL x j).2.1) (fun j => if j < i then (dN x j).1 else 0) (dA x) x.W x.C
/-- The same, where i sides have been looked at. -/
def F4 (x : Rs) (i : Nat) : Nat → Value := styF (fun j => (dL x j).1) (fun j => (dL x j).2.1) (fun j => if j < i then dM x j else (dN x j).1) (dA x) x.W x.C
theorem F1_zero (x : Rs) : F1 x 0 = styF (fun _ => 0) (fun _ => 0) (fun _ => 0) (dA x) x.W x.C := by
  unfold F1
  simp
theorem F1_set (x : Rs) (i : Nat) (hi : i < 19) : ((cellsF 62 (F1 x i)).setIfInBounds (i * 2) (.int .i64 ((dL x i).1))).setIfInBounds (i * 2 + 1) (.int .i64 ((dL x i).2.1)) = cellsF 62 (F1 x (i + 1)) := by
  rw [cellsF_set, cellsF_set]
  refine cellsF_ext (fun k hk => ?_)
  by_cases h1 : k = i * 2 + 1
  · rw [if_pos h1]
    subst h1
    unfold F1 styF
    rw [if_pos (by omega), if_neg (by omega), show (i * 2 + 1) / 2 = i by omega]
    simp
  · rw [if_neg h1]
    by_cases h2 : k = i * 2
    · rw [if_pos h2]
      subst h2
      unfold F1 styF
      rw [if_pos (by omega), if_pos (by omega), show i * 2 / 2 = i by omega]
      simp
    · rw [if_neg h2]
      unfold F1 styF
      by_cases h3 : k < 38
      · rw [if_pos h3, if_pos h3]
        have e : (k / 2 < i) = (k / 2 < i + 1) := by apply propext; omega
        simp only [e]
      · rw [if_neg h3, if_neg h3]
theorem F1_end (x : Rs) : cellsF 62 (F1 x 19) = cellsF 62 (F2 x 0) := by
  refine cellsF_ext (fun k hk => ?_)
  unfold F1 F2 styF
  by_cases h : k < 38
  · rw [if_pos h, if_pos h]
    simp only [show k / 2 < 19 by omega, if_true]
  · rw [if_neg h, if_neg h]
    simp
theorem F2_set (x : Rs) (i : Nat) (hi : i < 10) : (cellsF 62 (F2 x i)).setIfInBounds (38 + i) (.int .i64 ((dN x i).1)) = cellsF 62 (F2 x (i + 1)) := by
  rw [cellsF_set]
  refine cellsF_ext (fun k hk => ?_)
  unfold F2 styF
  by_cases h1 : k = 38 + i
  · rw [if_pos h1]
    subst h1
    rw [if_neg (by omega), if_pos (by omega), show 38 + i - 38 = i by omega]
    simp
  · rw [if_neg h1]
    by_cases h3 : k < 38
    · rw [if_pos h3, if_pos h3]
    · rw [if_neg h3, if_neg h3]
      by_cases h4 : k < 48
      · rw [if_pos h4, if_pos h4]
        have e : (k - 38 < i) = (k - 38 < i + 1) := by apply propext; omega
        simp only [e]
      · rw [if_neg h4, if_neg h4]
theorem F2_end (x : Rs) : cellsF 62 (F2 x 10) = cellsF 62 (F4 x 0) := by
  refine cellsF_ext (fun k hk => ?_)
  unfold F2 F4 styF
  by_cases h : k < 38
  · rw [if_pos h, if_pos h]
  · rw [if_neg h, if_neg h]
    by_cases h4 : k < 48
    · rw [if_pos h4, if_pos h4]
      dsimp only
      rw [if_pos (by omega), if_neg (by omega)]
    · rw [if_neg h4, if_neg h4]
theorem F4_set (x : Rs) (i : Nat) (hi : i < 4) (hl : x.B i = false) : (cellsF 62 (F4 x i)).setIfInBounds (38 + i) (.int .i64 0) = cellsF 62 (F4 x (i + 1)) := by
  rw [cellsF_set]
  refine cellsF_ext (fun k hk => ?_)
  unfold F4 styF
  by_cases h1 : k = 38 + i
  · rw [if_pos h1]
    subst h1
    rw [if_neg (by omega), if_pos (by omega), show 38 + i - 38 = i by omega]
    dsimp only
    rw [if_pos (by omega)]
    unfold dM
    rw [if_pos ⟨hi, hl⟩]
  · rw [if_neg h1]
    by_cases h3 : k < 38
    · rw [if_pos h3, if_pos h3]
    · rw [if_neg h3, if_neg h3]
      by_cases h4 : k < 48
      · rw [if_pos h4, if_pos h4]
        have e : (k - 38 < i) = (k - 38 < i + 1) := by apply propext; omega
        simp only [e]
      · rw [if_neg h4, if_neg h4]
theorem F4_skip (x : Rs) (i : Nat) (hi : i < 4) (hl : x.B i = true) : cellsF 62 (F4 x i) = cellsF 62 (F4 x (i + 1)) := by
  refine cellsF_ext (fun k hk => ?_)
  unfold F4 styF
  by_cases h3 : k < 38
  · rw [if_pos h3, if_pos h3]
  · rw [if_neg h3, if_neg h3]
    by_cases h4 : k < 48
    · rw [if_pos h4, if_pos h4]
      by_cases h1 : k = 38 + i
      · subst h1
        rw [show 38 + i - 38 = i by omega]
        dsimp only
        rw [if_neg (by omega), if_pos (by omega)]
        unfold dM
        rw [if_neg (fun q => by rw [hl] at q; simp at q)]
      · have e : (k - 38 < i) = (k - 38 < i + 1) := by apply propext; omega
        simp only [e]
    · rw [if_neg h4, if_neg h4]
theorem F4_end (x : Rs) : cellsF 62 (F4 x 4) = cellsF 62 (styF (fun i => (dL x i).1) (fun i => (dL x i).2.1) (dM x) (dA x) x.W x.C) := by
  refine cellsF_ext (fun k hk => ?_)
  unfold F4 styF
  by_cases h3 : k < 38
  · rw [if_pos h3, if_pos h3]
  · rw [if_neg h3, if_neg h3]
    by_cases h4 : k < 48
    · rw [if_pos h4, if_pos h4]
      dsimp only
      by_cases h5 : k - 38 < 4
      · rw [if_pos h5]
      · rw [if_neg h5]
        unfold dM
        rw [if_neg (fun q => h5 q.1)]
    · rw [if_neg h4, if_neg h4]
end Go.Proofs.YtigjjddblijpbaaGreatDoor
namespace Go.Proofs.YtigjjddblijpbaaGreatDoor
open Go Go.RowKit
set_option linter.unusedSimpArgs false
set_option linter.unusedVariables false

def wldS (R : World → Prop) (hR : ∀ w w', R w → Below w.heap.size w w' → R w') : Cl := .own (fun _ w => R w) (fun _ _ _ h hb => hR _ _ h hb)
theorem sto_floS (a : Addr) (b : Nat) (m : Mode) (W : World) : (store a (.float .f64 b) m).run Tryz.prog W = stored Tryz.prog W a (.float .f64 b) m := run_store Tryz.prog W a _ m rfl
theorem dec_len (x : Rs) (hx : x.Fit) (i : Nat) (hi : i < 19) (w : World) : Calls Tryz.prog 48 #[.agg #[.float .f64 (x.L i), .bool (x.P i)], .int .i64 (myL i)] w fun e w' => e = .returned (.tuple #[.agg #[.int .i64 ((dL x i).1), .int .i64 ((dL x i).2.1)], .int .i64 ((dL x i).2.2)]) ∧ Below w.heap.size w w' := by
  have hm : 0 ≤ myL i ∧ myL i ≤ 255 := by
    match i, hi with
    | 0, _ | 1, _ | 2, _ | 3, _ | 4, _ | 5, _ | 6, _ | 7, _ | 8, _ | 9, _ | 10, _ | 11, _ | 12, _ | 13, _ | 14, _ | 15, _ | 16, _ | 17, _ | 18, _ => exact ⟨by decide, by decide⟩
    | n + 19, h => exact absurd h (by omega)
  obtain ⟨m1, m2, m4, m8⟩ := may_bits hm.1 hm.2
  exact val_decode (x.L i) (hx.l i hi) (x.P i) _ _ _ _ (myL i) m1 m2 m4 m8 w
theorem ix_len (x : Rs) (i : Nat) (hi : i < 19) (w : World) : (Instr.index 39 (.agg (cellsF 38 (fun k => rawF x (k)))) (.int .i64 ((i : Int)))).run Tryz.prog w = .ok (.agg #[.float .f64 (x.L i), .bool (x.P i)]) w := by
  match i, hi with
  | 0, _ => (show _ = _; kernel_rfl)
  | 1, _ => (show _ = _; kernel_rfl)
  | 2, _ => (show _ = _; kernel_rfl)
  | 3, _ => (show _ = _; kernel_rfl)
  | 4, _ => (show _ = _; kernel_rfl)
  | 5, _ => (show _ = _; kernel_rfl)
  | 6, _ => (show _ = _; kernel_rfl)
  | 7, _ => (show _ = _; kernel_rfl)
  | 8, _ => (show _ = _; kernel_rfl)
  | 9, _ => (show _ = _; kernel_rfl)
  | 10, _ => (show _ = _; kernel_rfl)
  | 11, _ => (show _ = _; kernel_rfl)
  | 12, _ => (show _ = _; kernel_rfl)
  | 13, _ => (show _ = _; kernel_rfl)
  | 14, _ => (show _ = _; kernel_rfl)
  | 15, _ => (show _ = _; kernel_rfl)
  | 16, _ => (show _ = _; kernel_rfl)
  | 17, _ => (show _ = _; kernel_rfl)
  | 18, _ => (show _ = _; kernel_rfl)
  | n + 19, h => exact absurd h (by omega)
theorem ix_num (x : Rs) (i : Nat) (hi : i < 10) (w : World) : (Instr.index 40 (.agg (cellsF 10 (fun k => rawF x (38 + k)))) (.int .i64 ((i : Int)))).run Tryz.prog w = .ok (.float .f64 (x.N i)) w := by
  match i, hi with
  | 0, _ => (show _ = _; kernel_rfl)
  | 1, _ => (show _ = _; kernel_rfl)
  | 2, _ => (show _ = _; kernel_rfl)
  | 3, _ => (show _ = _; kernel_rfl)
  | 4, _ => (show _ = _; kernel_rfl)
  | 5, _ => (show _ = _; kernel_rfl)
  | 6, _ => (show _ = _; kernel_rfl)
  | 7, _ => (show _ = _; kernel_rfl)
  | 8, _ => (show _ = _; kernel_rfl)
  | 9, _ => (show _ = _; kernel_rfl)
  | n + 10, h => exact absurd h (by omega)
theorem ix_wrd (x : Rs) (i : Nat) (hi : i < 12) (w : World) : (Instr.index 41 (.agg (cellsF 12 (fun k => rawF x (48 + k)))) (.int .i64 ((i : Int)))).run Tryz.prog w = .ok (.int .i64 (x.W i)) w := by
  match i, hi with
  | 0, _ => (show _ = _; kernel_rfl)
  | 1, _ => (show _ = _; kernel_rfl)
  | 2, _ => (show _ = _; kernel_rfl)
  | 3, _ => (show _ = _; kernel_rfl)
  | 4, _ => (show _ = _; kernel_rfl)
  | 5, _ => (show _ = _; kernel_rfl)
  | 6, _ => (show _ = _; kernel_rfl)
  | 7, _ => (show _ = _; kernel_rfl)
  | 8, _ => (show _ = _; kernel_rfl)
  | 9, _ => (show _ = _; kernel_rfl)
  | 10, _ => (show _ = _; kernel_rfl)
  | 11, _ => (show _ = _; kernel_rfl)
  | n + 12, h => exact absurd h (by omega)
theorem ix_lin (x : Rs) (i : Nat) (hi : i < 4) (w : World) : (Instr.index 42 (.agg (cellsF 4 (fun k => rawF x (60 + k)))) (.int .i64 ((i : Int)))).run Tryz.prog w = .ok (.bool (x.B i)) w := by
  match i, hi with
  | 0, _ => (show _ = _; kernel_rfl)
  | 1, _ => (show _ = _; kernel_rfl)
  | 2, _ => (show _ = _; kernel_rfl)
  | 3, _ => (show _ = _; kernel_rfl)
  | n + 4, h => exact absurd h (by omega)
theorem dE_one {x : Rs} {E : Int} (h : fstE (fun i => (dL x i).2.2) 0 19 = E) (hE : E ≠ 0) : dE x = E ∧ outF x = zerF := by
  have e : dE x = E := by unfold dE; rw [h, if_pos hE]
  exact ⟨e, by unfold outF; rw [e, if_neg hE]⟩
theorem dE_two {x : Rs} {E : Int} (h0 : fstE (fun i => (dL x i).2.2) 0 19 = 0) (h : fstE (fun i => (dN x i).2) 0 10 = E) (hE : E ≠ 0) : dE x = E ∧ outF x = zerF := by
  have e : dE x = E := by unfold dE; rw [h0, if_neg (by simp), h, if_pos hE]
  exact ⟨e, by unfold outF; rw [e, if_neg hE]⟩
theorem dE_three {x : Rs} {E : Int} (h0 : fstE (fun i => (dL x i).2.2) 0 19 = 0) (h1 : fstE (fun i => (dN x i).2) 0 10 = 0) (h : fstE (fun i => if okW i (x.W i) then 0 else 11) 0 12 = E) : dE x = E := by
  unfold dE
  rw [h0, if_neg (by simp), h1, if_neg (by simp), h]
set_option maxRecDepth 100000 in
set_option maxHeartbeats 3200000 in
theorem sty_compute (x : Rs) (hx : x.Fit) (w : World) (hT : StyW w) :
    Calls Tryz.prog 18 #[.agg (cellsF 65 (rawF x))] w fun e w' => e = .returned (.tuple #[.agg (cellsF 62 (outF x)), .int .i64 (dE x)]) ∧ Below w.heap.size w w' := by
  have hxn := hx.n 4 (by omega)
  have HX := Lib.hid hx
  have HT := Lib.hid hT
  clear hx hT
  go_enter Tryz.func18, Tryz.ntmps18
  go_upto_region 1 with (fail)
  refine wp_worldS (CmW x w w.heap.size (w.heap.size + 1)) ⟨Blk.alloc (Blk.new _ _ _ _ rfl) _, by rw [← zerF_cells]; exact Blk.new _ _ _ _ (by simp), (by repeat' (first | (with_reducible exact Below.refl _ _) | (with_reducible assumption) | (with_reducible refine below_alloc ?_ _ ?_) | (with_reducible refine below_set _ ?_ ?_) | (with_reducible refine Below.drew ?_) | (with_reducible refine below_dN ?_ _) | (apply below_thenA; assumption) | omega | (simp; done) | (simp; omega) | (simp [*]; done))), Nat.le_refl _, Nat.le_succ _, Nat.ne_of_lt (Nat.lt_succ_self _)⟩ ?_
  intro W1 hW1
  have BU : ∀ w, (Instr.build 77 #[(3, .agg (cellsF 12 (fun k => rawF x (48 + k)))), (4, .int .u8 x.C), (2, .bool (dA x))]).run Tryz.prog w = .ok (.agg (cellsF 62 (F1 x 0))) w := fun w => by rw [F1_zero]; kernel_rfl
  have ho1 := hW1.out.lt
  go_upto_region 1 with (fail)
  rename_i K1 hK1
  refine wp_region_calm (fun w' => CmW x w w.heap.size (w.heap.size + 1) w' ∧ W1.heap.size ≤ w'.heap.size) [] (fun w' => True) [Is (.pointer (some ⟨w.heap.size, 48, none⟩)), Is (.agg (cellsF 12 (fun k => rawF x (48 + k)))), Is (.pointer (some ⟨w.heap.size, 64, none⟩)), Is (.int .u8 x.C), Is (.pointer (some ⟨w.heap.size, 38, none⟩)), Is (.pointer (some ⟨w.heap.size, 42, none⟩)), Is (.float .f64 (x.N 4)), Is (.bool (dA x)), Is (.agg (cellsF 62 (F1 x 0))), bxV W1.heap.size 77 62, bxC 9 W1.heap.size 77 (cellsF 62 (F1 x 0))] [9] (by kernel_rfl) (by kernel_rfl) (by kernel_rfl) (by kernel_rfl) ⟨hW1.drew, Nat.le_refl _⟩ trivial ?_ ?_ ?_ ?_ ?_
  · rintro W W' ⟨hC, hl⟩ hb
    exact ⟨hC.below hb, Nat.le_trans hl hb.size⟩
  · exact fun _ _ _ _ _ => trivial
  · intro k vs W hk h
    obtain rfl : k = 9 := (by simpa using hk) <;> (obtain ⟨b, cs0, e, h1, h2, h3⟩ := h; exact ⟨b, e, h2.lt⟩)
  · intro Q; clear hK1 
    refine ⟨?_, ?_, ?_, ?_, ?_, ?_, ?_, ?_, ?_, ?_, ?_, trivial⟩
    · intro vs W hW hW0 hd hne hold K hK hA hL; clear hne hA hL; have hC := hW.1; have hl := hW.2; simp only [puts, Act.put, List.setIfInBounds_toArray, List.set_cons_zero, List.set_cons_succ, Nat.zero_add, Nat.reduceAdd] at hK ⊢; clear hd hold; go_simp; exact hK.out rfl _ _ (Below.refl _ _) rfl
    · intro vs W hW hW0 hd hne hold K hK hA hL; clear hne hA hL; have hC := hW.1; have hl := hW.2; simp only [puts, Act.put, List.setIfInBounds_toArray, List.set_cons_zero, List.set_cons_succ, Nat.zero_add, Nat.reduceAdd] at hK ⊢; have ea : vs 0 = _ := hd 0 (by kernel_rfl); refine want_wp (by rfl) ?_; refine wp_loadF 41 _ rfl hC.raw 48 12 (by omega) _ Tryz.underlying41 rfl (by kernel_rfl) (by exact ea) ?_; clear hd hold; simp only [Act.put, List.setIfInBounds_toArray, List.set_cons_zero, List.set_cons_succ, Nat.zero_add, Nat.reduceAdd]; exact hK.out rfl _ _ (Below.refl _ _) rfl
    · intro vs W hW hW0 hd hne hold K hK hA hL; clear hne hA hL; have hC := hW.1; have hl := hW.2; simp only [puts, Act.put, List.setIfInBounds_toArray, List.set_cons_zero, List.set_cons_succ, Nat.zero_add, Nat.reduceAdd] at hK ⊢; clear hd hold; go_simp; exact hK.out rfl _ _ (Below.refl _ _) rfl
    · intro vs W hW hW0 hd hne hold K hK hA hL; clear hne hA hL; have hC := hW.1; have hl := hW.2; simp only [puts, Act.put, List.setIfInBounds_toArray, List.set_cons_zero, List.set_cons_succ, Nat.zero_add, Nat.reduceAdd] at hK ⊢; have ea : vs 2 = _ := hd 2 (by kernel_rfl); have q1 : W.cell? ⟨w.heap.size, 64, none⟩ = some (.int .u8 x.C) := hC.raw.cellF (i := 64) (by omega); clear hd hold BU; simp only [ea] at hK; go_simp; exact hK.out rfl _ _ (Below.refl _ _) rfl
    · intro vs W hW hW0 hd hne hold K hK hA hL; clear hne hA hL; have hC := hW.1; have hl := hW.2; simp only [puts, Act.put, List.setIfInBounds_toArray, List.set_cons_zero, List.set_cons_succ, Nat.zero_add, Nat.reduceAdd] at hK ⊢; clear hd hold; go_simp; exact hK.out rfl _ _ (Below.refl _ _) rfl
    · intro vs W hW hW0 hd hne hold K hK hA hL; clear hne hA hL; have hC := hW.1; have hl := hW.2; simp only [puts, Act.put, List.setIfInBounds_toArray, List.set_cons_zero, List.set_cons_succ, Nat.zero_add, Nat.reduceAdd] at hK ⊢; have e4 : vs 4 = _ := hd 4 (by kernel_rfl); clear hd hold; simp only [e4] at hK; go_simp; exact hK.out rfl _ _ (Below.refl _ _) rfl
    · intro vs W hW hW0 hd hne hold K hK hA hL; clear hne hA hL; have hC := hW.1; have hl := hW.2; simp only [puts, Act.put, List.setIfInBounds_toArray, List.set_cons_zero, List.set_cons_succ, Nat.zero_add, Nat.reduceAdd] at hK ⊢; have ea : vs 5 = _ := hd 5 (by kernel_rfl); have q1 : W.cell? ⟨w.heap.size, 42, none⟩ = some (.float .f64 (x.N 4)) := hC.raw.cellF (i := 42) (by omega); clear hd hold BU; simp only [ea] at hK; go_simp; exact hK.out rfl _ _ (Below.refl _ _) rfl
    · intro vs W hW hW0 hd hne hold K hK hA hL; clear hne hA hL; have hC := hW.1; have hl := hW.2; simp only [puts, Act.put, List.setIfInBounds_toArray, List.set_cons_zero, List.set_cons_succ, Nat.zero_add, Nat.reduceAdd] at hK ⊢; have ea : vs 6 = _ := hd 6 (by kernel_rfl); clear hd hold BU; simp only [ea] at hK; go_simp; refine (math_isnan _ hxn _).mono ?_; rintro e wx ⟨rfl, rfl⟩; go_simp; exact hK.out rfl _ _ (Below.refl _ _) rfl
    · intro vs W hW hW0 hd hne hold K hK hA hL; clear hne hA hL; have hC := hW.1; have hl := hW.2; simp only [puts, Act.put, List.setIfInBounds_toArray, List.set_cons_zero, List.set_cons_succ, Nat.zero_add, Nat.reduceAdd] at hK ⊢; have ea : vs 1 = _ := hd 1 (by kernel_rfl); have eb : vs 3 = _ := hd 3 (by kernel_rfl); have ec : vs 7 = _ := hd 7 (by kernel_rfl); refine want_wp (by rfl) ?_; refine wp_buildV _ _ rfl #[(3, .agg (cellsF 12 (fun k => rawF x (48 + k)))), (4, .int .u8 x.C), (2, .bool (dA x))] _ (by simp [go_sem, ea, eb, ec]) BU ?_; clear hd hold; simp only [Act.put, List.setIfInBounds_toArray, List.set_cons_zero, List.set_cons_succ, Nat.zero_add, Nat.reduceAdd]; exact hK.out rfl _ _ (Below.refl _ _) rfl
    · intro vs W hW hW0 hd hne hold K hK hA hL; clear hne hK hL; have hC := hW.1; have hl := hW.2; simp only [puts, Act.put, List.setIfInBounds_toArray, List.set_cons_zero, List.set_cons_succ, Nat.zero_add, Nat.reduceAdd] at hA ⊢; clear hd hold; go_simp; exact hA.out W.heap.size _ ((Below.refl _ _).alloc (Nat.le_refl _) _) (Nat.le_refl _) ⟨W.heap.size, _, rfl, hl, Blk.new _ _ _ _ rfl, rfl⟩
    · intro vs W hW hW0 hd hne hold K hK hA hL; clear hK hA; have hC := hW.1; have hl := hW.2; simp only [puts, Act.put, List.setIfInBounds_toArray, List.set_cons_zero, List.set_cons_succ, Nat.zero_add, Nat.reduceAdd] at hL ⊢; have ec : vs 8 = _ := hd 8 (by kernel_rfl); (have hxb : BxV W1.heap.size 77 62 (vs 9) W := hd 9 (by kernel_rfl)); obtain ⟨b, cs0, eb, hlb, t0, hsz⟩ := hxb; have tb := t0.storeA hsz (F1 x 0); have hbt := But.setCells (b := b) (cellsF 62 (F1 x 0)).toList 0 W; refine want_wp (by rfl) ?_; refine wp_storeF 77 _ _ rfl (t0.asF hsz) 0 62 (by omega) (F1 x 0) (fun i _ => (styF_one _ _ _ _ _ _) i) (by kernel_rfl) (by exact eb) (by exact ec) ?_; clear hd hold; simp only [Act.put, List.setIfInBounds_toArray, List.set_cons_zero, List.set_cons_succ, Nat.zero_add, Nat.reduceAdd]; refine hL.out rfl undef _ ⟨hC.but hbt (by omega) (by omega) (by omega), Nat.le_trans hl hbt.size⟩ (fun _ => trivial) ⟨b, eb, hlb, tb⟩ ?_; exact claims_keep ⟨.inr is_keep, .inr is_keep, .inr is_keep, .inr is_keep, .inr is_keep, .inr is_keep, .inr is_keep, .inr is_keep, .inr is_keep, .inr fun h => BxV.but h hbt t0 tb (by rw [hsz]; rfl), .inl rfl, trivial⟩
  · intro va WA hW hV _
    obtain ⟨hCA, -⟩ := hW
    obtain ⟨s, es, hls, ts⟩ := hV 10 (by decide)
    replace es : va 9 = _ := es
    clear hV
    simp only [puts, Act.put, List.setIfInBounds_toArray, List.set_cons_zero, List.set_cons_succ, Nat.zero_add, Nat.reduceAdd, es]
    refine hK1 _ _ ?_
    have hS0 : SmW x w w.heap.size (w.heap.size + 1) s (F1 x 0) WA := ⟨hCA, ts, by omega, by omega, by omega⟩
    clear hCA ts hls BU hW1 ho1
    go_wp2_with (refine wpl_loadF (by rfl) 39 _ (by rfl) hS0.c.raw 0 38 (by omega) _ Tryz.underlying39 rfl (by kernel_rfl) (by rfl) ?_; simp only [Act.put, List.setIfInBounds_toArray, List.set_cons_zero, List.set_cons_succ, Nat.zero_add, Nat.reduceAdd])
    have SF := sto_floS
    obtain ⟨E1, e1⟩ : ∃ E, fstE (fun i => (dL x i).2.2) 0 19 = E := ⟨_, rfl⟩
    have HE1 := Lib.hid e1
    go_loopg [5, 25] 19 (fun gk s5 s25 wr => ∃ i : Nat, i ≤ 19 ∧ gk = 19 - i ∧ s5 = .int .i64 0 ∧ s25 = .int .i64 ((i : Int)) ∧ fstE (fun i => (dL x i).2.2) i (19 - i) = E1 ∧ SmW x w w.heap.size (w.heap.size + 1) s (F1 x i) wr)
    case atStart => exact ⟨0, by omega, rfl, rfl, rfl, e1, hS0⟩
    case round =>
      clear e1 hS0
      obtain ⟨i, hi, rfl, rfl, rfl, hE, hS⟩ := hrel
      by_cases hik : i < 19
      · have ix : (i : Int) < 19 := by omega
        have IX : ∀ w, (Instr.index 39 (.agg (cellsF 38 (fun k => rawF x k))) (.int .i64 ((i : Int)))).run Tryz.prog w = .ok (.agg #[.float .f64 (x.L i), .bool (x.P i)]) w := fun w => ix_len x i hik w
        have HS := Lib.hid hS
        have HEE := Lib.hid hE
        clear hS hE
        go_upto_region 6 with (fail)
        obtain ⟨g, eg⟩ : ∃ g, g = wr.heap.size := ⟨_, rfl⟩
        rw [← eg]
        refine wp_worldS (fun W => SmW x w w.heap.size (w.heap.size + 1) s (F1 x i) W ∧ Blk W g #[.float .f64 (x.L i), .bool (x.P i)] 38 ∧ wr.heap.size ≤ W.heap.size) ⟨HS.out.alloc _, Blk.new _ _ _ _ eg, by simp⟩ ?_
        rintro W6 ⟨hS6, tg, hl6⟩
        have hgs : g ≠ s := fun e => by have := HS.out.sty.lt; omega
        have EG := Lib.hid eg
        clear eg
        have DC := fun W => dec_len x HX.out i hik W
        have MC := fun W => sty_may i hik W
        have FS := F1_set x i hik
        obtain ⟨⟨kd, nn, c⟩, ed⟩ : ∃ q, dL x i = q := ⟨_, rfl⟩
        rw [ed] at DC FS
        dsimp only at DC FS
        have HED := Lib.hid ed
        have HFS := Lib.hid FS
        obtain ⟨M, eM⟩ : ∃ M, myL i = M := ⟨_, rfl⟩
        rw [eM] at DC MC
        clear ed FS IX SF eM
        go_upto_region 6 with (fail)
        rename_i K6 hK6
        refine wp_region_calm (fun w' => (∃ F, SmW x w w.heap.size (w.heap.size + 1) s F w') ∧ Blk w' g #[.float .f64 (x.L i), .bool (x.P i)] 38) [10] (fun w' => Blk w' s (cellsF 62 (F1 x i)) 77) [Is (.int .i64 ((i : Int))), Is (.agg #[.float .f64 (x.L i), .bool (x.P i)]), Is (.int .i64 ((i : Int))), Is (.int .i64 M), Is (.tuple #[.agg #[.int .i64 kd, .int .i64 nn], .int .i64 c]), Is (.tuple #[.agg #[.int .i64 kd, .int .i64 nn], .int .i64 c]), Is (.agg #[.int .i64 kd, .int .i64 nn]), Is (.int .i64 c), Is (.pointer (some ⟨s, 0, none⟩)), Is (.pointer (some ⟨s, i * 2, none⟩)), wldS (fun w' => Blk w' s (cellsF 62 (F1 x (i + 1))) 77) (fun _ _ h hb => h.below hb), Is (.int .i64 c)] [] (by kernel_rfl) (by kernel_rfl) (by kernel_rfl) (by kernel_rfl) ⟨⟨_, hS6.drew⟩, tg.drew⟩ hS6.sty.drew ?_ ?_ ?_ ?_ ?_
        · rintro W W' ⟨hF, hg⟩ hb
          exact ⟨hF.imp fun F h => h.below hb, hg.below hb⟩
        · intro W W' hB h0 hb; exact h0.below hb
        · intro k vs W hk h
          exact absurd hk (by simp)
        · intro Q; clear hK6 
          refine ⟨?_, ?_, ?_, ?_, ?_, ?_, ?_, ?_, ?_, ?_, ?_, ?_, trivial⟩
          · intro vs W hW hW0 hd hne hold K hK hA hL; clear hne hA hL; have hF := hW.1; have hg := hW.2; simp only [puts, Act.put, List.setIfInBounds_toArray, List.set_cons_zero, List.set_cons_succ, Nat.zero_add, Nat.reduceAdd] at hK ⊢; clear hd hold; go_simp; exact hK.out rfl _ _ (Below.refl _ _) rfl
          · intro vs W hW hW0 hd hne hold K hK hA hL; clear hne hA hL; have hF := hW.1; have hg := hW.2; simp only [puts, Act.put, List.setIfInBounds_toArray, List.set_cons_zero, List.set_cons_succ, Nat.zero_add, Nat.reduceAdd] at hK ⊢; have q1 := hg.cell 0 _ rfl; have q2 := hg.cell 1 _ rfl; clear hd hold; go_simp; exact hK.out rfl _ _ (Below.refl _ _) rfl
          · intro vs W hW hW0 hd hne hold K hK hA hL; clear hne hA hL; have hF := hW.1; have hg := hW.2; simp only [puts, Act.put, List.setIfInBounds_toArray, List.set_cons_zero, List.set_cons_succ, Nat.zero_add, Nat.reduceAdd] at hK ⊢; clear hd hold; go_simp; exact hK.out rfl _ _ (Below.refl _ _) rfl
          · intro vs W hW hW0 hd hne hold K hK hA hL; clear hne hA hL; have hF := hW.1; have hg := hW.2; simp only [puts, Act.put, List.setIfInBounds_toArray, List.set_cons_zero, List.set_cons_succ, Nat.zero_add, Nat.reduceAdd] at hK ⊢; have ea : vs 2 = _ := hd 2 (by kernel_rfl); clear hd hold; simp only [ea] at hK; go_simp; refine (MC _).mono ?_; rintro e wx ⟨rfl, rfl⟩; go_simp; exact hK.out rfl _ _ (Below.refl _ _) rfl
          · intro vs W hW hW0 hd hne hold K hK hA hL; clear hne hA hL; have hF := hW.1; have hg := hW.2; simp only [puts, Act.put, List.setIfInBounds_toArray, List.set_cons_zero, List.set_cons_succ, Nat.zero_add, Nat.reduceAdd] at hK ⊢; have ea : vs 1 = _ := hd 1 (by kernel_rfl); have eb : vs 3 = _ := hd 3 (by kernel_rfl); clear hd hold; simp only [ea, eb] at hK; go_simp; refine (DC _).mono ?_; rintro e wx ⟨rfl, hbx⟩; go_simp; exact hK.out rfl _ _ hbx rfl
          · intro vs W hW hW0 hd hne hold K hK hA hL; clear hne hA hL; have hF := hW.1; have hg := hW.2; simp only [puts, Act.put, List.setIfInBounds_toArray, List.set_cons_zero, List.set_cons_succ, Nat.zero_add, Nat.reduceAdd] at hK ⊢; have e4 : vs 4 = _ := hd 4 (by kernel_rfl); clear hd hold; simp only [e4] at hK; go_simp; exact hK.out rfl _ _ (Below.refl _ _) rfl
          · intro vs W hW hW0 hd hne hold K hK hA hL; clear hne hA hL; have hF := hW.1; have hg := hW.2; simp only [puts, Act.put, List.setIfInBounds_toArray, List.set_cons_zero, List.set_cons_succ, Nat.zero_add, Nat.reduceAdd] at hK ⊢; have e5 : vs 5 = _ := hd 5 (by kernel_rfl); clear hd hold; simp only [e5] at hK; go_simp; exact hK.out rfl _ _ (Below.refl _ _) rfl
          · intro vs W hW hW0 hd hne hold K hK hA hL; clear hne hA hL; have hF := hW.1; have hg := hW.2; simp only [puts, Act.put, List.setIfInBounds_toArray, List.set_cons_zero, List.set_cons_succ, Nat.zero_add, Nat.reduceAdd] at hK ⊢; have e5 : vs 5 = _ := hd 5 (by kernel_rfl); clear hd hold; simp only [e5] at hK; go_simp; exact hK.out rfl _ _ (Below.refl _ _) rfl
          · intro vs W hW hW0 hd hne hold K hK hA hL; clear hne hA hL; have hF := hW.1; have hg := hW.2; simp only [puts, Act.put, List.setIfInBounds_toArray, List.set_cons_zero, List.set_cons_succ, Nat.zero_add, Nat.reduceAdd] at hK ⊢; clear hd hold; go_simp; exact hK.out rfl _ _ (Below.refl _ _) rfl
          · intro vs W hW hW0 hd hne hold K hK hA hL; clear hne hA hL; have hF := hW.1; have hg := hW.2; simp only [puts, Act.put, List.setIfInBounds_toArray, List.set_cons_zero, List.set_cons_succ, Nat.zero_add, Nat.reduceAdd] at hK ⊢; have e8 : vs 8 = _ := hd 8 (by kernel_rfl); have e0 : vs 0 = _ := hd 0 (by kernel_rfl); clear hd hold; simp only [e8, e0] at hK; go_simp; exact hK.out rfl _ _ (Below.refl _ _) rfl
          · intro vs W hW hW0 hd hne hold K hK hA hL; clear hK hA; have hF := hW.1; have hg := hW.2; simp only [puts, Act.put, List.setIfInBounds_toArray, List.set_cons_zero, List.set_cons_succ, Nat.zero_add, Nat.reduceAdd] at hL ⊢; have ea : vs 9 = _ := hd 9 (by kernel_rfl); have eb : vs 6 = _ := hd 6 (by kernel_rfl); have h0 := hW0 (by kernel_rfl); have q1 := h0.cellF (i := i * 2) (by omega); have q2 := h0.cellF (i := i * 2 + 1) (by omega); have z1 := h0.free (i * 2); have z2 := h0.free (i * 2 + 1); have tb := (h0.set (i * 2) (.int .i64 kd)).set (i * 2 + 1) (.int .i64 nn); rw [HFS.out] at tb; have hbt := (But.set (b := s) W (i * 2) (.int .i64 kd)).trans (But.set _ (i * 2 + 1) (.int .i64 nn)); clear hd hold; simp only [ea, eb] at hL; go_simp; refine hL.out rfl undef _ ⟨(by obtain ⟨F, h⟩ := hF; exact ⟨_, h.but hbt tb⟩), hg.but hbt hgs⟩ (fun h => by simp at h) tb ?_; exact claims_keep ⟨.inr is_keep, .inr is_keep, .inr is_keep, .inr is_keep, .inr is_keep, .inr is_keep, .inr is_keep, .inr is_keep, .inr is_keep, .inr is_keep, .inl rfl, .inr is_keep, trivial⟩
          · intro vs W hW hW0 hd hne hold K hK hA hL; clear hne hA hL; have hF := hW.1; have hg := hW.2; simp only [puts, Act.put, List.setIfInBounds_toArray, List.set_cons_zero, List.set_cons_succ, Nat.zero_add, Nat.reduceAdd] at hK ⊢; have ea : vs 7 = _ := hd 7 (by kernel_rfl); clear hd; have e5 : vs 11 = _ := hold 11 (by kernel_rfl); clear hold; simp only [ea] at hK; go_simp; exact hK.out rfl _ _ (Below.refl _ _) rfl
        · intro va6 WB hW hV _
          obtain ⟨⟨F, hSF⟩, -⟩ := hW
          have hS7 : Blk WB s (cellsF 62 (F1 x (i + 1))) 77 := hV 10 (by decide)
          have e11 : va6 11 = _ := hV 11 (by decide)
          clear hV
          simp only [puts, Act.put, List.setIfInBounds_toArray, List.set_cons_zero, List.set_cons_succ, Nat.zero_add, Nat.reduceAdd, e11]
          refine hK6 _ _ ?_
          have hS8 : SmW x w w.heap.size (w.heap.size + 1) s (F1 x (i + 1)) WB := ⟨hSF.c, hS7, hSF.slo, hSF.nr, hSF.no⟩
          have HS8 := Lib.hid hS8
          have hout := hS8.c.out
          have HOUT := Lib.hid hout
          clear hS8 hSF hS7 hS6 tg hl6 DC MC hgs hout
          by_cases hc : c = 0
          · subst hc
            go_wp2_with fail
            go_roundg (19 - (i + 1))
            case measure => go_light; omega
            case rel =>
              go_light
              refine ⟨i + 1, by omega, rfl, rfl, rfl, ?_, HS8.out⟩
              have := HEE.out
              rw [show 19 - i = (19 - (i + 1)) + 1 by omega, fstE_on (by rw [HED.out])] at this
              exact this
          · have z : (c == 0) = false := by simpa using hc
            have HC := Lib.hid hc
            clear hc
            go_wp2_with (first
              | (refine wpl_buildV (by rfl) 77 _ (by rfl) #[] (.agg (cellsF 62 zerF)) (by rfl) (fun _ => by kernel_rfl) ?_; simp only [Act.put, List.setIfInBounds_toArray, List.set_cons_zero, List.set_cons_succ, Nat.zero_add, Nat.reduceAdd])
              | (refine wpl_storeF (by rfl) 77 _ _ (by rfl) HOUT.out 0 62 (by omega) zerF (fun i _ => by unfold zerF; exact styF_one _ _ _ _ _ _ _) (by kernel_rfl) (by rfl) (by rfl) ?_; simp only [Act.put, List.setIfInBounds_toArray, List.set_cons_zero, List.set_cons_succ, Nat.zero_add, Nat.reduceAdd])
              | (refine bodyPost_ret (results_c2 (by rfl) (by rfl) (by exact load_allF (HOUT.out.storeF) 77 _ Tryz.underlying77 rfl (by kernel_rfl))) (by rfl) ?_))
            have hd := dE_one (E := E1) HE1.out (by rw [← HEE.out, show 19 - i = (19 - (i + 1)) + 1 by omega, fstE_hit (by rw [HED.out]; exact HC.out), HED.out]; exact HC.out)
            have hcE : E1 = c := by rw [← HEE.out, show 19 - i = (19 - (i + 1)) + 1 by omega, fstE_hit (by rw [HED.out]; exact HC.out), HED.out]
            refine ⟨⟨by rw [hd.2], by rw [hd.1, hcE]⟩, ?_⟩
            exact (But.setCells _ _ _).to HS8.out.c.bel (by omega) HS8.out.c.bel.size
      · have hi19 : i = 19 := by omega
        subst hi19
        have hE1 : E1 = 0 := hE.symm
        have hS2 : SmW x w w.heap.size (w.heap.size + 1) s (F2 x 0) wr := ⟨hS.c, by rw [← F1_end]; exact hS.sty, hS.slo, hS.nr, hS.no⟩
        clear hS
        subst hE1
        have HE0 := Lib.hid (show fstE (fun i => (dL x i).2.2) 0 19 = 0 from HE1.out)
        clear HE1
        go_wp2_with (refine wpl_loadF (by rfl) 40 _ (by rfl) hS2.c.raw 38 10 (by omega) _ Tryz.underlying40 rfl (by kernel_rfl) (by rfl) ?_; simp only [Act.put, List.setIfInBounds_toArray, List.set_cons_zero, List.set_cons_succ, Nat.zero_add, Nat.reduceAdd])
        obtain ⟨E2, e2⟩ : ∃ E, fstE (fun i => (dN x i).2) 0 10 = E := ⟨_, rfl⟩
        have HE2 := Lib.hid e2
        go_loopg [5, 46] 10 (fun gk s5 s46 wr => ∃ i : Nat, i ≤ 10 ∧ gk = 10 - i ∧ s5 = .int .i64 0 ∧ s46 = .int .i64 ((i : Int)) ∧ fstE (fun i => (dN x i).2) i (10 - i) = E2 ∧ SmW x w w.heap.size (w.heap.size + 1) s (F2 x i) wr)
        case atStart => exact ⟨0, by omega, rfl, rfl, rfl, e2, hS2⟩
        case round =>
          clear e2 hS2
          obtain ⟨i, hi, rfl, rfl, rfl, hE, hS⟩ := hrel
          by_cases hik : i < 10
          · have ix : (i : Int) < 10 := by omega
            have IX : ∀ w, (Instr.index 40 (.agg (cellsF 10 (fun k => rawF x (38 + k)))) (.int .i64 ((i : Int)))).run Tryz.prog w = .ok (.float .f64 (x.N i)) w := fun w => ix_num x i hik w
            have HS := Lib.hid hS
            have HEE := Lib.hid hE
            have NC := fun W hW => sty_number i hik (x.N i) (HX.out.n i hik) W hW
            have FS := F2_set x i hik
            have ed0 : nF i (x.N i) = dN x i := rfl
            rw [ed0] at NC
            obtain ⟨⟨nn, c⟩, ed⟩ : ∃ q, dN x i = q := ⟨_, rfl⟩
            rw [ed] at NC FS
            dsimp only at NC FS
            have HED := Lib.hid ed
            have HFS := Lib.hid FS
            have NC2 := NC wr (HT.out.below hS.c.bel)
            clear ed ed0 FS NC hS hE
            by_cases hc : c = 0
            · subst hc
              go_wp2_with (go_at_call 49; with_reducible refine (NC2).mono ?_; rintro e w1 ⟨rfl, hb1⟩; have hS1 := HS.out.below hb1; have q1 := hS1.sty.cellF (i := 38 + i) (by omega); have z1 := hS1.sty.free (38 + i); have HS1 := Lib.hid hS1; clear hS1)
              go_roundg (10 - (i + 1))
              case measure => go_light; omega
              case rel =>
                go_light
                have tb := HS1.out.sty.set (38 + i) (.int .i64 nn)
                rw [HFS.out] at tb
                refine ⟨i + 1, by omega, rfl, rfl, rfl, ?_, HS1.out.but (But.set _ _ _) tb⟩
                have := HEE.out
                rw [show 10 - i = (10 - (i + 1)) + 1 by omega, fstE_on (by rw [HED.out])] at this
                exact this
            · have z : (c == 0) = false := by simpa using hc
              have HC := Lib.hid hc
              clear hc
              go_wp2_with (first
                | (go_at_call 49; with_reducible refine (NC2).mono ?_; rintro e w1 ⟨rfl, hb1⟩; have hS1 := HS.out.below hb1; have q1 := hS1.sty.cellF (i := 38 + i) (by omega); have z1 := hS1.sty.free (38 + i); have HS1 := Lib.hid hS1; clear hS1)
                | (refine wpl_buildV (by rfl) 77 _ (by rfl) #[] (.agg (cellsF 62 zerF)) (by rfl) (fun _ => by kernel_rfl) ?_; simp only [Act.put, List.setIfInBounds_toArray, List.set_cons_zero, List.set_cons_succ, Nat.zero_add, Nat.reduceAdd])
                | (refine wpl_storeF (by rfl) 77 _ _ (by rfl) (HS1.out.c.out.other HS1.out.no (38 + i) (.int .i64 nn)) 0 62 (by omega) zerF (fun i _ => by unfold zerF; exact styF_one _ _ _ _ _ _ _) (by kernel_rfl) (by rfl) (by rfl) ?_; simp only [Act.put, List.setIfInBounds_toArray, List.set_cons_zero, List.set_cons_succ, Nat.zero_add, Nat.reduceAdd])
                | (refine bodyPost_ret (results_c2 (by rfl) (by rfl) (by exact load_allF ((HS1.out.c.out.other HS1.out.no (38 + i) (.int .i64 nn)).storeF) 77 _ Tryz.underlying77 rfl (by kernel_rfl))) (by rfl) ?_))
              have hcE : E2 = c := by rw [← HEE.out, show 10 - i = (10 - (i + 1)) + 1 by omega, fstE_hit (by rw [HED.out]; exact HC.out), HED.out]
              have hd := dE_two (E := E2) HE0.out HE2.out (by rw [hcE]; exact HC.out)
              refine ⟨⟨by rw [hd.2], by rw [hd.1, hcE]⟩, ?_⟩
              have hcc := HS1.out.c.but (But.set (b := s) w1 (38 + i) (.int .i64 nn)) HS1.out.nr HS1.out.no HS1.out.slo
              exact (But.setCells _ _ _).to hcc.bel (by omega) hcc.bel.size
          · have hi10 : i = 10 := by omega
            subst hi10
            have hE1 : E2 = 0 := hE.symm
            have hS3 : SmW x w w.heap.size (w.heap.size + 1) s (F4 x 0) wr := ⟨hS.c, by rw [← F2_end]; exact hS.sty, hS.slo, hS.nr, hS.no⟩
            clear hS
            subst hE1
            have HE1 := Lib.hid (show fstE (fun i => (dN x i).2) 0 10 = 0 from HE2.out)
            clear HE2
            go_wp2_with (refine wpl_loadF (by rfl) 41 _ (by rfl) hS3.c.raw 48 12 (by omega) _ Tryz.underlying41 rfl (by kernel_rfl) (by rfl) ?_; simp only [Act.put, List.setIfInBounds_toArray, List.set_cons_zero, List.set_cons_succ, Nat.zero_add, Nat.reduceAdd])
            obtain ⟨E3, e3⟩ : ∃ E, fstE (fun i => if okW i (x.W i) then 0 else 11) 0 12 = E := ⟨_, rfl⟩
            have HE3 := Lib.hid e3
            go_loopg [66] 12 (fun gk s66 wr => ∃ i : Nat, i ≤ 12 ∧ gk = 12 - i ∧ s66 = .int .i64 ((i : Int)) ∧ fstE (fun i => if okW i (x.W i) then 0 else 11) i (12 - i) = E3 ∧ SmW x w w.heap.size (w.heap.size + 1) s (F4 x 0) wr)
            case atStart => exact ⟨0, by omega, rfl, rfl, e3, hS3⟩
            case round =>
              clear e3 hS3
              obtain ⟨i, hi, rfl, rfl, hE, hS⟩ := hrel
              by_cases hik : i < 12
              · have ix : (i : Int) < 12 := by omega
                have IX : ∀ w, (Instr.index 41 (.agg (cellsF 12 (fun k => rawF x (48 + k)))) (.int .i64 ((i : Int)))).run Tryz.prog w = .ok (.int .i64 (x.W i)) w := fun w => ix_wrd x i hik w
                have HS := Lib.hid hS
                have HEE := Lib.hid hE
                have HWR := HT.out.below hS.c.bel
                have r1 : wr.cell? ⟨0, i * 3 + 1, none⟩ = some (.int .i64 (wrdT.getD (3 * i + 1) 0)) := by rw [Nat.mul_comm 3 i]; exact HWR.wrd _ (by omega)
                have r2 : wr.cell? ⟨0, i * 3 + 2, none⟩ = some (.int .i64 (wrdT.getD (3 * i + 2) 0)) := by rw [Nat.mul_comm 3 i]; exact HWR.wrd _ (by omega)
                have hwf := HX.out.w i hik
                have hok : okW i (x.W i) = (decide (wrdT.getD (3 * i + 1) 0 ≤ x.W i) && decide (x.W i ≤ wrdT.getD (3 * i + 2) 0)) := rfl
                obtain ⟨lo, elo⟩ : ∃ q, wrdT.getD (3 * i + 1) 0 = q := ⟨_, rfl⟩
                obtain ⟨up, eup⟩ : ∃ q, wrdT.getD (3 * i + 2) 0 = q := ⟨_, rfl⟩
                rw [elo] at hok r1
                rw [eup] at hok r2
                obtain ⟨W0, eW⟩ : ∃ q, x.W i = q := ⟨_, rfl⟩
                rw [eW] at IX
                have HOK := Lib.hid hok
                have HEW := Lib.hid eW
                clear hS hE HWR hwf hok elo eup eW
                have q0 : fstE (fun i => if okW i (x.W i) then 0 else 11) i (12 - i) = E3 := HEE.out
                rw [show 12 - i = (12 - (i + 1)) + 1 by omega] at q0
                by_cases h1 : W0 < lo
                · have hno : okW i (x.W i) = false := by rw [HOK.out, HEW.out]; simp; omega
                  rw [fstE_hit (by rw [hno]; decide), hno] at q0
                  have HQ := Lib.hid q0
                  clear q0 hno
                  go_wp2_with (first
                    | (refine wpl_buildV (by rfl) 77 _ (by rfl) #[] (.agg (cellsF 62 zerF)) (by rfl) (fun _ => by kernel_rfl) ?_; simp only [Act.put, List.setIfInBounds_toArray, List.set_cons_zero, List.set_cons_succ, Nat.zero_add, Nat.reduceAdd])
                    | (refine wpl_storeF (by rfl) 77 _ _ (by rfl) HS.out.c.out 0 62 (by omega) zerF (fun i _ => by unfold zerF; exact styF_one _ _ _ _ _ _ _) (by kernel_rfl) (by rfl) (by rfl) ?_; simp only [Act.put, List.setIfInBounds_toArray, List.set_cons_zero, List.set_cons_succ, Nat.zero_add, Nat.reduceAdd])
                    | (refine bodyPost_ret (results_c2 (by rfl) (by rfl) (by exact load_allF (HS.out.c.out.storeF) 77 _ Tryz.underlying77 rfl (by kernel_rfl))) (by rfl) ?_))
                  have hd := dE_three HE0.out HE1.out HE3.out
                  have h11 : E3 = 11 := by rw [← HQ.out]; rfl
                  rw [h11] at hd
                  refine ⟨⟨by unfold outF; rw [if_neg (by rw [hd]; decide)], hd.symm⟩, ?_⟩
                  exact (But.setCells _ _ _).to HS.out.c.bel (by omega) HS.out.c.bel.size
                · have d1 : decide (W0 < lo) = false := by simp; omega
                  by_cases h2 : up < W0
                  · have hno : okW i (x.W i) = false := by rw [HOK.out, HEW.out]; simp; omega
                    rw [fstE_hit (by rw [hno]; decide), hno] at q0
                    have HQ := Lib.hid q0
                    clear q0 hno h1
                    go_wp2_with (first
                      | (refine wpl_buildV (by rfl) 77 _ (by rfl) #[] (.agg (cellsF 62 zerF)) (by rfl) (fun _ => by kernel_rfl) ?_; simp only [Act.put, List.setIfInBounds_toArray, List.set_cons_zero, List.set_cons_succ, Nat.zero_add, Nat.reduceAdd])
                      | (refine wpl_storeF (by rfl) 77 _ _ (by rfl) HS.out.c.out 0 62 (by omega) zerF (fun i _ => by unfold zerF; exact styF_one _ _ _ _ _ _ _) (by kernel_rfl) (by rfl) (by rfl) ?_; simp only [Act.put, List.setIfInBounds_toArray, List.set_cons_zero, List.set_cons_succ, Nat.zero_add, Nat.reduceAdd])
                      | (refine bodyPost_ret (results_c2 (by rfl) (by rfl) (by exact load_allF (HS.out.c.out.storeF) 77 _ Tryz.underlying77 rfl (by kernel_rfl))) (by rfl) ?_))
                    have hd := dE_three HE0.out HE1.out HE3.out
                    have h11 : E3 = 11 := by rw [← HQ.out]; rfl
                    rw [h11] at hd
                    refine ⟨⟨by unfold outF; rw [if_neg (by rw [hd]; decide)], hd.symm⟩, ?_⟩
                    exact (But.setCells _ _ _).to HS.out.c.bel (by omega) HS.out.c.bel.size
                  · have hyes : okW i (x.W i) = true := by rw [HOK.out, HEW.out]; simp; omega
                    have d2 : decide (up < W0) = false := by simp; omega
                    rw [fstE_on (by rw [hyes]; rfl)] at q0
                    have HQ := Lib.hid q0
                    clear q0 hyes h1 h2
                    go_wp2_with fail
                    go_roundg (12 - (i + 1))
                    case measure => go_light; omega
                    case rel =>
                      go_light
                      exact ⟨i + 1, by omega, rfl, rfl, HQ.out, HS.out⟩
              · have hi12 : i = 12 := by omega
                subst hi12
                have hE1 : E3 = 0 := hE.symm
                have hS4 := hS
                clear hS
                subst hE1
                have hD0 := dE_three HE0.out HE1.out HE3.out
                have HD0 := Lib.hid hD0
                clear HE3 hD0
                go_wp2_with (refine wpl_loadF (by rfl) 42 _ (by rfl) hS4.c.raw 60 4 (by omega) _ Tryz.underlying42 rfl (by kernel_rfl) (by rfl) ?_; simp only [Act.put, List.setIfInBounds_toArray, List.set_cons_zero, List.set_cons_succ, Nat.zero_add, Nat.reduceAdd])
                go_loopg [88] 4 (fun gk s88 wr => ∃ i : Nat, i ≤ 4 ∧ gk = 4 - i ∧ s88 = .int .i64 ((i : Int)) ∧ SmW x w w.heap.size (w.heap.size + 1) s (F4 x i) wr)
                case atStart => exact ⟨0, by omega, rfl, rfl, hS4⟩
                case round =>
                  clear hS4
                  obtain ⟨i, hi, rfl, rfl, hS⟩ := hrel
                  by_cases hik : i < 4
                  · have ix : (i : Int) < 4 := by omega
                    have IX : ∀ w, (Instr.index 42 (.agg (cellsF 4 (fun k => rawF x (60 + k)))) (.int .i64 ((i : Int)))).run Tryz.prog w = .ok (.bool (x.B i)) w := fun w => ix_lin x i hik w
                    have q1 := hS.sty.cellF (i := 38 + i) (by omega)
                    have z1 := hS.sty.free (38 + i)
                    have HS := Lib.hid hS
                    clear hS
                    have FS := fun h => F4_set x i hik h
                    have FK := fun h => F4_skip x i hik h
                    have HFS := Lib.hid FS
                    have HFK := Lib.hid FK
                    clear FS FK
                    obtain ⟨bb, ebb⟩ : ∃ q, x.B i = q := ⟨_, rfl⟩
                    rw [ebb] at IX
                    have HBB := Lib.hid ebb
                    clear ebb
                    cases bb
                    · go_wp2_with fail
                      go_roundg (4 - (i + 1))
                      case measure => go_light; omega
                      case rel =>
                        go_light
                        have tb := HS.out.sty.set (38 + i) (.int .i64 0)
                        rw [HFS.out HBB.out] at tb
                        exact ⟨i + 1, by omega, rfl, rfl, HS.out.but (But.set _ _ _) tb⟩
                    · go_wp2_with fail
                      go_roundg (4 - (i + 1))
                      case measure => go_light; omega
                      case rel =>
                        go_light
                        have tb := HS.out.sty
                        rw [HFK.out HBB.out] at tb
                        exact ⟨i + 1, by omega, rfl, rfl, HS.out.but (But.of (Below.refl _ _)) tb⟩
                  · have hi4 : i = 4 := by omega
                    subst hi4
                    have HS := Lib.hid hS
                    clear hS
                    go_wp2_with (first
                      | (refine wpl_loadA (by rfl) 77 _ (by rfl) HS.out.sty _ Tryz.underlying77 rfl (by kernel_rfl) (by rfl) ?_; simp only [Act.put, List.setIfInBounds_toArray, List.set_cons_zero, List.set_cons_succ, Nat.zero_add, Nat.reduceAdd])
                      | (refine wpl_storeF (by rfl) 77 _ _ (by rfl) HS.out.c.out 0 62 (by omega) (F4 x 4) (fun i _ => by unfold F4; exact styF_one _ _ _ _ _ _ _) (by kernel_rfl) (by rfl) (by rfl) ?_; simp only [Act.put, List.setIfInBounds_toArray, List.set_cons_zero, List.set_cons_succ, Nat.zero_add, Nat.reduceAdd])
                      | (refine bodyPost_ret (results_c2 (by rfl) (by rfl) (by exact load_allF (HS.out.c.out.storeF) 77 _ Tryz.underlying77 rfl (by kernel_rfl))) (by rfl) ?_))
                    refine ⟨⟨?_, HD0.out.symm⟩, ?_⟩
                    · rw [F4_end]; unfold outF; rw [if_pos HD0.out]
                    · exact (But.setCells _ _ _).to HS.out.c.bel (by omega) HS.out.c.bel.size
end Go.Proofs.YtigjjddblijpbaaGreatDoor
namespace Go.Proofs.YtigjjddblijpbaaGreatDoor
open Go Go.RowKit
set_option linter.unusedSimpArgs false
set_option linter.unusedVariables false

/-- A raw style as the reference has it. -/
def refF (x : Rs) (k : Nat) : Value :=
  if k < 19 then .int .u64 (x.L k) else if k < 38 then .bool (x.P (k - 19)) else if k < 48 then .int .u64 (x.N (k - 38)) else if k < 60 then .int .i64 (x.W (k - 48)) else .bool (x.B (k - 60))
/-- A style as the reference has it. -/
def rstF (K n : Nat → Int) (N : Nat → Int) (a : Bool) (W : Nat → Int) (k : Nat) : Value :=
  if k < 38 then (if k % 2 = 0 then .int .i64 (K (k / 2)) else .int .i64 (n (k / 2)))
  else if k < 48 then .int .i64 (N (k - 38)) else if k = 48 then .bool a else .int .i64 (W (k - 49))
theorem rstF_one (K n N : Nat → Int) (a : Bool) (W : Nat → Int) (k : Nat) : (rstF K n N a W k).oneCell' = true := by
  unfold rstF
  repeat' split
  all_goals rfl
def zerR : Nat → Value := rstF (fun _ => 0) (fun _ => 0) (fun _ => 0) false (fun _ => 0)
theorem zerR_one (k : Nat) : (zerR k).oneCell' = true := rstF_one _ _ _ _ _ k
def finR (x : Rs) : Nat → Value := rstF (fun i => (dL x i).1) (fun i => (dL x i).2.1) (dM x) (dA x) x.W
def outR (x : Rs) : Nat → Value := if dE x = 0 then finR x else zerR
theorem zerR_cells : cellsF 61 zerR = #[.int .i64 0, .int .i64 0, .int .i64 0, .int .i64 0, .int .i64 0, .int .i64 0, .int .i64 0, .int .i64 0, .int .i64 0, .int .i64 0, .int .i64 0, .int .i64 0, .int .i64 0, .int .i64 0, .int .i64 0, .int .i64 0, .int .i64 0, .int .i64 0, .int .i64 0, .int .i64 0, .int .i64 0, .int .i64 0, .int .i64 0, .int .i64 0, .int .i64 0, .int .i64 0, .int .i64 0, .int .i64 0, .int .i64 0, .int .i64 0, .int .i64 0, .int .i64 0, .int .i64 0, .int .i64 0, .int .i64 0, .int .i64 0, .int .i64 0, .int .i64 0, .int .i64 0, .int .i64 0, .int .i64 0, .int .i64 0, .int .i64 0, .int .i64 0, .int .i64 0, .int .i64 0, .int .i64 0, .int .i64 0, .bool false, .int .i64 0, .int .i64 0, .int .i64 0, .int .i64 0, .int .i64 0, .int .i64 0, .int .i64 0, .int .i64 0, .int .i64 0, .int .i64 0, .int .i64 0, .int .i64 0] := by kernel_rfl
theorem ref_len {x : Rs} {i : Nat} (h : i < 19) : refF x i = .int .u64 (x.L i) ∧ refF x (19 + i) = .bool (x.P i) := by
  constructor
  · unfold refF
    rw [if_pos h]
  · unfold refF
    rw [if_neg (by omega), if_pos (by omega), show 19 + i - 19 = i by omega]
theorem ref_num {x : Rs} {i : Nat} (h : i < 10) : refF x (38 + i) = .int .u64 (x.N i) := by
  unfold refF
  rw [if_neg (by omega), if_neg (by omega), if_pos (by omega), show 38 + i - 38 = i by omega]
theorem ref_wrd {x : Rs} {i : Nat} (h : i < 12) : refF x (48 + i) = .int .i64 (x.W i) := by
  unfold refF
  rw [if_neg (by omega), if_neg (by omega), if_neg (by omega), if_pos (by omega), show 48 + i - 48 = i by omega]
theorem ref_lin {x : Rs} {i : Nat} (h : i < 4) : refF x (60 + i) = .bool (x.B i) := by
  unfold refF
  rw [if_neg (by omega), if_neg (by omega), if_neg (by omega), if_neg (by omega), show 60 + i - 60 = i by omega]
def G1 (x : Rs) (i : Nat) : Nat → Value := rstF (fun j => if j < i then (dL x j).1 else 0) (fun j => if j < i then (dL x j).2.1 else 0) (fun _ => 0) false (fun _ => 0)
def G2 (x : Rs) (i : Nat) : Nat → Value := rstF (fun j => (dL x j).1) (fun j => (dL x j).2.1) (fun j => if j < i then dM x j else 0) false (fun _ => 0)
def G3 (x : Rs) : Nat → Value := rstF (fun j => (dL x j).1) (fun j => (dL x j).2.1) (dM x) (dA x) (fun _ => 0)
theorem G1_zero (x : Rs) : G1 x 0 = zerR := by
  unfold G1 zerR
  simp
theorem G1_set (x : Rs) (i : Nat) (hi : i < 19) : ((cellsF 61 (G1 x i)).setIfInBounds (i * 2) (.int .i64 ((dL x i).1))).setIfInBounds (i * 2 + 1) (.int .i64 ((dL x i).2.1)) = cellsF 61 (G1 x (i + 1)) := by
  rw [cellsF_set, cellsF_set]
  refine cellsF_ext (fun k hk => ?_)
  by_cases h1 : k = i * 2 + 1
  · rw [if_pos h1]
    subst h1
    unfold G1 rstF
    rw [if_pos (by omega), if_neg (by omega), show (i * 2 + 1) / 2 = i by omega]
    simp
  · rw [if_neg h1]
    by_cases h2 : k = i * 2
    · rw [if_pos h2]
      subst h2
      unfold G1 rstF
      rw [if_pos (by omega), if_pos (by omega), show i * 2 / 2 = i by omega]
      simp
    · rw [if_neg h2]
      unfold G1 rstF
      by_cases h3 : k < 38
      · rw [if_pos h3, if_pos h3]
        have e : (k / 2 < i) = (k / 2 < i + 1) := by apply propext; omega
        simp only [e]
      · rw [if_neg h3, if_neg h3]
theorem G1_end (x : Rs) : cellsF 61 (G1 x 19) = cellsF 61 (G2 x 0) := by
  refine cellsF_ext (fun k hk => ?_)
  unfold G1 G2 rstF
  by_cases h : k < 38
  · rw [if_pos h, if_pos h]
    simp only [show k / 2 < 19 by omega, if_true]
  · rw [if_neg h, if_neg h]
    simp
theorem G2_set (x : Rs) (i : Nat) (hi : i < 10) : (cellsF 61 (G2 x i)).setIfInBounds (38 + i) (.int .i64 (dM x i)) = cellsF 61 (G2 x (i + 1)) := by
  rw [cellsF_set]
  refine cellsF_ext (fun k hk => ?_)
  unfold G2 rstF
  by_cases h1 : k = 38 + i
  · rw [if_pos h1]
    subst h1
    rw [if_neg (by omega), if_pos (by omega), show 38 + i - 38 = i by omega]
    simp
  · rw [if_neg h1]
    by_cases h3 : k < 38
    · rw [if_pos h3, if_pos h3]
    · rw [if_neg h3, if_neg h3]
      by_cases h4 : k < 48
      · rw [if_pos h4, if_pos h4]
        have e : (k - 38 < i) = (k - 38 < i + 1) := by apply propext; omega
        simp only [e]
      · rw [if_neg h4, if_neg h4]
theorem G2_end (x : Rs) : (cellsF 61 (G2 x 10)).setIfInBounds 48 (.bool (dA x)) = cellsF 61 (G3 x) := by
  rw [cellsF_set]
  refine cellsF_ext (fun k hk => ?_)
  unfold G2 G3 rstF
  by_cases h1 : k = 48
  · rw [if_pos h1]
    subst h1
    rw [if_neg (by omega), if_neg (by omega), if_pos rfl]
  · rw [if_neg h1]
    by_cases h3 : k < 38
    · rw [if_pos h3, if_pos h3]
    · rw [if_neg h3, if_neg h3]
      by_cases h4 : k < 48
      · rw [if_pos h4, if_pos h4]
        dsimp only
        rw [if_pos (by omega)]
      · rw [if_neg h4, if_neg h4, if_neg h1, if_neg h1]
theorem G3_end (x : Rs) : cellsF 61 (fun k => if 49 ≤ k ∧ k < 49 + 12 then (fun k => refF x (48 + k)) (k - 49) else G3 x k) = cellsF 61 (finR x) := by
  refine cellsF_ext (fun k hk => ?_)
  by_cases h : 49 ≤ k ∧ k < 49 + 12
  · rw [if_pos h]
    dsimp only
    rw [ref_wrd (by omega)]
    unfold finR rstF
    rw [if_neg (by omega), if_neg (by omega), if_neg (by omega)]
  · rw [if_neg h]
    unfold finR G3 rstF
    by_cases h3 : k < 38
    · rw [if_pos h3, if_pos h3]
    · rw [if_neg h3, if_neg h3]
      by_cases h4 : k < 48
      · rw [if_pos h4, if_pos h4]
      · rw [if_neg h4, if_neg h4, if_pos (by omega), if_pos (by omega)]
theorem dE_zero {x : Rs} (h0 : fstE (fun i => (dL x i).2.2) 0 19 = 0) (h1 : fstE (fun i => (dN x i).2) 0 10 = 0) (h : fstE (fun i => if okW i (x.W i) then 0 else 11) 0 12 = 0) : dE x = 0 ∧ outR x = finR x := by
  have e := dE_three h0 h1 h
  exact ⟨e, by unfold outR; rw [e, if_pos rfl]⟩
theorem outR_no {x : Rs} {c : Int} (h : dE x = c) (hc : c ≠ 0) : outR x = zerR := by unfold outR; rw [if_neg (by rw [h]; exact hc)]
end Go.Proofs.YtigjjddblijpbaaGreatDoor
namespace Go.Proofs.YtigjjddblijpbaaGreatDoor
open Go Go.RowKit
set_option linter.unusedSimpArgs false
set_option linter.unusedVariables false

end Go.Proofs.YtigjjddblijpbaaGreatDoor
namespace Go.Proofs.YtigjjddblijpbaaGreatDoor
open Go.RowKit
set_option linter.unusedSimpArgs false
set_option linter.unusedVariables false

theorem or_top (b : Nat) (hb : b < 9223372036854775808) : bits .or .u64 (b : Int) 9223372036854775808 = (b : Int) + 9223372036854775808 := by
  have h := bits_or_u64_nat b 9223372036854775808 (by omega) (by omega)
  have e : b ||| 9223372036854775808 = b + 9223372036854775808 := by
    have := Nat.two_pow_add_eq_or_of_lt (i := 63) (b := b) hb 1
    rw [show (2 : Nat) ^ 63 * 1 = 9223372036854775808 by decide] at this
    rw [Nat.or_comm, ← this]
    omega
  rw [e] at h
  exact h
end Go.Proofs.YtigjjddblijpbaaGreatDoor
namespace Go.Proofs.YtigjjddblijpbaaGreatDoor
open Go.RowKit
set_option linter.unusedSimpArgs false
set_option linter.unusedVariables false

def upB (t : Nat) (more : Bool) : Bool := decide (1024 < t % 2048) || (decide (t % 2048 = 1024) && (more || decide (t / 2048 % 2 = 1)))
def nrT (t : Nat) (more : Bool) : Nat := t / 2048 + (upB t more).toNat
theorem nrT_is (A d : Nat) : nrT (A / d) (decide (A % d ≠ 0)) = nrM A d := by
  unfold nrT nrM upB
  by_cases c1 : 1024 < A / d % 2048
  · rw [if_pos (.inl c1), decide_eq_true c1]; rfl
  · rw [decide_eq_false c1, Bool.false_or]
    by_cases c2 : A / d % 2048 = 1024
    · rw [decide_eq_true c2, Bool.true_and]
      by_cases c3 : A % d ≠ 0 ∨ A / d / 2048 % 2 = 1
      · rw [if_pos (.inr ⟨c2, c3⟩)]
        rcases c3 with c3 | c3
        · rw [decide_eq_true c3]; rfl
        · rw [decide_eq_true c3, Bool.or_true]; rfl
      · rw [if_neg (by omega), decide_eq_false (fun h => c3 (.inl h)), decide_eq_false (fun h => c3 (.inr h))]; rfl
    · rw [decide_eq_false c2, if_neg (by omega)]; rfl
end Go.Proofs.YtigjjddblijpbaaGreatDoor
namespace Go.Proofs.YtigjjddblijpbaaGreatDoor
open Go.RowKit
set_option linter.unusedSimpArgs false
set_option linter.unusedVariables false

set_option maxRecDepth 100000 in
set_option maxHeartbeats 1600000 in
theorem math_nan2 (w : World) : Calls Tryz.prog 45 #[] w fun e w' => e = .returned (.float .f64 9221120237041090561) ∧ w' = w := by
  have FF : ∀ w, (callFunc 84 #[.int .u64 9221120237041090561]).run Tryz.prog w = .ok (.value (.float .f64 9221120237041090561)) w := flo_from2 9221120237041090561
  go_enter Tryz.func45, Tryz.ntmps45
  go_wp2_with fail
  go_ret
  exact ⟨rfl, rfl⟩
/-- The nearest float's bits. -/
def nrG (a d : Nat) : Nat := (1085 - nrK a d) * 4503599627370496 + nrM (a * 2 ^ nrK a d) d
def nrB (N D : Int) : Nat := if goodB N D = false then 9221120237041090561 else if N = 0 then 0 else (if N < 0 then 9223372036854775808 else 0) + nrG N.natAbs D.natAbs
theorem neg_float {r : Nat} (h : r < 9223372036854775808) : Op.negFloat .f64 r = 9223372036854775808 + r := by
  show r ^^^ 2 ^ (11 + 52) = _
  have e : r ^^^ 2 ^ 63 = 2 ^ 63 ||| r := by
    refine Nat.eq_of_testBit_eq fun i => ?_
    rw [Nat.testBit_xor, Nat.testBit_or, Nat.testBit_two_pow]
    by_cases hi : 63 = i
    · subst hi
      rw [Nat.testBit_lt_two_pow (show r < 2 ^ 63 from h)]; rfl
    · simp [hi]
  have h2 := Nat.two_pow_add_eq_or_of_lt (i := 63) (b := r) h 1
  rw [Nat.mul_one] at h2
  rw [show 11 + 52 = 63 from rfl, e, ← h2]
/-- The three words of a quotient, and what the walk needs of them. -/
structure Wds (a d q0 r0 q1 r1 q2 r2 : Nat) : Prop where
  e0 : a / d = q0
  e1 : a % d = r0
  e2 : r0 * 18446744073709551616 / d = q1
  e3 : r0 * 18446744073709551616 % d = r1
  e4 : r1 * 18446744073709551616 / d = q2
  e5 : r1 * 18446744073709551616 % d = r2
  b0 : q0 ≤ 9223372036854775808
  b1 : q1 < 18446744073709551616
  b2 : q2 < 18446744073709551616
  c0 : r0 < d
  c1 : r1 < d
  c2 : r2 < d
theorem wds_of {a d : Nat} (ha : a ≤ 9223372036854775808) (hd : 0 < d) : ∃ q0 r0 q1 r1 q2 r2, Wds a d q0 r0 q1 r1 q2 r2 := by
  have w1 : ∀ r : Nat, r < d → r * 18446744073709551616 / d < 18446744073709551616 := fun r h => (Nat.div_lt_iff_lt_mul hd).2 (by
    rw [Nat.mul_comm 18446744073709551616 d]
    exact Nat.mul_lt_mul_of_pos_right h (by decide))
  have m0 := Nat.mod_lt a hd
  have m1 := Nat.mod_lt (a % d * 18446744073709551616) hd
  have m2 := Nat.mod_lt (a % d * 18446744073709551616 % d * 18446744073709551616) hd
  exact ⟨_, _, _, _, _, _, rfl, rfl, rfl, rfl, rfl, rfl, Nat.le_trans (Nat.div_le_self _ _) ha, w1 _ m0, w1 _ m1, m0, m1, m2⟩
/-- The join of two words, in the walk's own form. -/
theorem join_walk {q p n : Nat} (hn : n ≤ 63) (hq : q * 2 ^ n < 18446744073709551616) (hp : p < 18446744073709551616) :
    bits .or .u64 (IntKind.u64.wrap ((q : Int) * 2 ^ n)) ((p : Int) / 2 ^ (64 - n)) = (((q * 18446744073709551616 + p) * 2 ^ n / 18446744073709551616 : Nat) : Int) := by
  have e : (q : Int) * 2 ^ n = ((q * 2 ^ n : Nat) : Int) := by simp
  have h := (shift_join (q : Int) (p : Int) n hn (by omega) (by rw [e]; omega) (by omega) (by omega)).1
  rw [IntKind.wrap_u64, Int.emod_eq_of_lt (by rw [e]; omega) (by rw [e]; omega), h]
  simp
theorem below_walk {p n : Nat} : IntKind.u64.wrap ((p : Int) * 2 ^ n) = ((p * 2 ^ n % 18446744073709551616 : Nat) : Int) := by
  rw [IntKind.wrap_u64, show (p : Int) * 2 ^ n = ((p * 2 ^ n : Nat) : Int) by simp]
  omega
end Go.Proofs.YtigjjddblijpbaaGreatDoor
namespace Go.Proofs.YtigjjddblijpbaaGreatDoor
open Go Go.RowKit
set_option linter.unusedSimpArgs false
set_option linter.unusedVariables false

/-- The default on its way. -/
def stR (a : Nat) (b c : Bool) (d : Nat) : Rs where
  L := fun j => if b = true ∧ (j = 4 ∨ j = 5) then 9218868437227405312 else if j < a ∧ (j < 4 ∨ 14 ≤ j) then 9221120237041090561 else 0
  P := fun _ => false
  N := fun j => if c = true ∧ (j = 4 ∨ j = 9) then 9221120237041090561 else if c = true ∧ j = 6 then 4607182418800017408 else 0
  W := fun j => if j < d ∧ j ≠ 4 ∧ j ≠ 9 then 1 else 0
  B := fun _ => false
  C := 0
def defR : Rs := stR 19 true true 12
theorem stR_zero : cellsF 65 (rawF (stR 0 false false 0)) = #[.float .f64 0, .bool false, .float .f64 0, .bool false, .float .f64 0, .bool false, .float .f64 0, .bool false, .float .f64 0, .bool false, .float .f64 0, .bool false, .float .f64 0, .bool false, .float .f64 0, .bool false, .float .f64 0, .bool false, .float .f64 0, .bool false, .float .f64 0, .bool false, .float .f64 0, .bool false, .float .f64 0, .bool false, .float .f64 0, .bool false, .float .f64 0, .bool false, .float .f64 0, .bool false, .float .f64 0, .bool false, .float .f64 0, .bool false, .float .f64 0, .bool false, .float .f64 0, .float .f64 0, .float .f64 0, .float .f64 0, .float .f64 0, .float .f64 0, .float .f64 0, .float .f64 0, .float .f64 0, .float .f64 0, .int .i64 0, .int .i64 0, .int .i64 0, .int .i64 0, .int .i64 0, .int .i64 0, .int .i64 0, .int .i64 0, .int .i64 0, .int .i64 0, .int .i64 0, .int .i64 0, .bool false, .bool false, .bool false, .bool false, .int .u8 0] := by kernel_rfl
theorem stR_len (i : Nat) (hi : i < 19) (h : i < 4 ∨ 14 ≤ i) : (cellsF 65 (rawF (stR i false false 0))).setIfInBounds (i * 2) (.float .f64 9221120237041090561) = cellsF 65 (rawF (stR (i + 1) false false 0)) := by
  match i, hi with
  | 0, _ => (show _ = _; kernel_rfl)
  | 1, _ => (show _ = _; kernel_rfl)
  | 2, _ => (show _ = _; kernel_rfl)
  | 3, _ => (show _ = _; kernel_rfl)
  | 4, _ => omega
  | 5, _ => omega
  | 6, _ => omega
  | 7, _ => omega
  | 8, _ => omega
  | 9, _ => omega
  | 10, _ => omega
  | 11, _ => omega
  | 12, _ => omega
  | 13, _ => omega
  | 14, _ => (show _ = _; kernel_rfl)
  | 15, _ => (show _ = _; kernel_rfl)
  | 16, _ => (show _ = _; kernel_rfl)
  | 17, _ => (show _ = _; kernel_rfl)
  | 18, _ => (show _ = _; kernel_rfl)
  | n + 19, h => exact absurd h (by omega)
theorem stR_skip (i : Nat) (h : 4 ≤ i ∧ i < 14) : cellsF 65 (rawF (stR i false false 0)) = cellsF 65 (rawF (stR (i + 1) false false 0)) := by
  refine cellsF_ext (fun k hk => ?_)
  unfold rawF stR
  by_cases h1 : k < 38
  · rw [if_pos h1, if_pos h1]
    dsimp only
    have e : (k / 2 < i ∧ (k / 2 < 4 ∨ 14 ≤ k / 2)) = (k / 2 < i + 1 ∧ (k / 2 < 4 ∨ 14 ≤ k / 2)) := by apply propext; omega
    simp only [e]
  · rw [if_neg h1, if_neg h1]
theorem stR_inf : ((cellsF 65 (rawF (stR 19 false false 0))).setIfInBounds 8 (.float .f64 9218868437227405312)).setIfInBounds 10 (.float .f64 9218868437227405312) = cellsF 65 (rawF (stR 19 true false 0)) := by kernel_rfl
theorem stR_num : (((cellsF 65 (rawF (stR 19 true false 0))).setIfInBounds 42 (.float .f64 9221120237041090561)).setIfInBounds 47 (.float .f64 9221120237041090561)).setIfInBounds 44 (.float .f64 4607182418800017408) = cellsF 65 (rawF (stR 19 true true 0)) := by kernel_rfl
theorem stR_wrd (i : Nat) (hi : i < 12) (h : i ≠ 4 ∧ i ≠ 9) : (cellsF 65 (rawF (stR 19 true true i))).setIfInBounds (48 + i) (.int .i64 1) = cellsF 65 (rawF (stR 19 true true (i + 1))) := by
  match i, hi with
  | 0, _ => (show _ = _; kernel_rfl)
  | 1, _ => (show _ = _; kernel_rfl)
  | 2, _ => (show _ = _; kernel_rfl)
  | 3, _ => (show _ = _; kernel_rfl)
  | 4, _ => omega
  | 5, _ => (show _ = _; kernel_rfl)
  | 6, _ => (show _ = _; kernel_rfl)
  | 7, _ => (show _ = _; kernel_rfl)
  | 8, _ => (show _ = _; kernel_rfl)
  | 9, _ => omega
  | 10, _ => (show _ = _; kernel_rfl)
  | 11, _ => (show _ = _; kernel_rfl)
  | n + 12, h => exact absurd h (by omega)
theorem stR_wsk (i : Nat) (h : i = 4 ∨ i = 9) : cellsF 65 (rawF (stR 19 true true i)) = cellsF 65 (rawF (stR 19 true true (i + 1))) := by
  rcases h with rfl | rfl
  · kernel_rfl
  · kernel_rfl
theorem and_may (i : Nat) (hi : i < 19) : bits .and .i64 (myL i) 1 = if i < 4 ∨ (6 ≤ i ∧ i < 10) ∨ 14 ≤ i then 1 else 0 := by
  match i, hi with
  | 0, _ => (show _ = _; kernel_rfl)
  | 1, _ => (show _ = _; kernel_rfl)
  | 2, _ => (show _ = _; kernel_rfl)
  | 3, _ => (show _ = _; kernel_rfl)
  | 4, _ => (show _ = _; kernel_rfl)
  | 5, _ => (show _ = _; kernel_rfl)
  | 6, _ => (show _ = _; kernel_rfl)
  | 7, _ => (show _ = _; kernel_rfl)
  | 8, _ => (show _ = _; kernel_rfl)
  | 9, _ => (show _ = _; kernel_rfl)
  | 10, _ => (show _ = _; kernel_rfl)
  | 11, _ => (show _ = _; kernel_rfl)
  | 12, _ => (show _ = _; kernel_rfl)
  | 13, _ => (show _ = _; kernel_rfl)
  | 14, _ => (show _ = _; kernel_rfl)
  | 15, _ => (show _ = _; kernel_rfl)
  | 16, _ => (show _ = _; kernel_rfl)
  | 17, _ => (show _ = _; kernel_rfl)
  | 18, _ => (show _ = _; kernel_rfl)
  | n + 19, h => exact absurd h (by omega)
set_option maxRecDepth 100000 in
set_option maxHeartbeats 1600000 in
theorem math_inf (w : World) : Calls Tryz.prog 46 #[.int .i64 1] w fun e w' => e = .returned (.float .f64 9218868437227405312) ∧ w' = w := by
  have FF : ∀ w, (callFunc 84 #[.int .u64 9218868437227405312]).run Tryz.prog w = .ok (.value (.float .f64 9218868437227405312)) w := flo_from2 9218868437227405312
  go_enter Tryz.func46, Tryz.ntmps46
  go_wp2_with fail
  go_ret
  exact ⟨rfl, rfl⟩
/-- Default's world. -/
structure DfW (w : World) (x : Rs) (W : World) : Prop where
  out : Blk W w.heap.size (cellsF 65 (rawF (stR 0 false false 0))) 44
  raw : Blk W (w.heap.size + 1) (cellsF 65 (rawF x)) 44
  bel : Below w.heap.size w W
theorem DfW.but {w W W' : World} {x x' : Rs} (h : DfW w x W) (hb : But (w.heap.size + 1) W W') (t : Blk W' (w.heap.size + 1) (cellsF 65 (rawF x')) 44) : DfW w x' W' :=
  ⟨h.out.but hb (by omega), t, hb.to h.bel (by omega) h.bel.size⟩
theorem rawF_one (x : Rs) (k : Nat) : (rawF x k).oneCell' = true := by
  unfold rawF
  repeat' split
  all_goals rfl
set_option maxRecDepth 100000 in
set_option maxHeartbeats 3200000 in
theorem sty_default (w : World) : Calls Tryz.prog 17 #[] w fun e w' => e = .returned (.agg (cellsF 65 (rawF defR))) ∧ Below w.heap.size w w' := by
  have SF := sto_floS
  have NN := math_nan2
  have NI := math_inf
  go_enter Tryz.func17, Tryz.ntmps17
  go_upto_region 2 with (fail)
  refine wp_worldS (DfW w (stR 0 false false 0)) ⟨by rw [stR_zero]; exact Blk.alloc (Blk.new _ _ _ _ rfl) _, by rw [stR_zero]; exact Blk.new _ _ _ _ (by simp), (by repeat' (first | (with_reducible exact Below.refl _ _) | (with_reducible assumption) | (with_reducible refine below_alloc ?_ _ ?_) | (with_reducible refine below_set _ ?_ ?_) | (with_reducible refine Below.drew ?_) | (with_reducible refine below_dN ?_ _) | (apply below_thenA; assumption) | omega | (simp; done) | (simp; omega) | (simp [*]; done)))⟩ ?_
  intro W1 hS0
  go_wp2_with fail
  go_loopg [4] 19 (fun gk s4 wr => ∃ i : Nat, i ≤ 19 ∧ gk = 19 - i ∧ s4 = .int .i64 ((i : Int)) ∧ DfW w (stR i false false 0) wr)
  case atStart => exact ⟨0, by omega, rfl, rfl, hS0⟩
  case round =>
    clear hS0
    obtain ⟨i, hi, rfl, rfl, hS⟩ := hrel
    by_cases hik : i < 19
    · have ix : (i : Int) < 19 := by omega
      have MC := fun W => sty_may i hik W
      have hb := and_may i hik
      obtain ⟨M, eM⟩ : ∃ M, myL i = M := ⟨_, rfl⟩
      rw [eM] at MC hb
      clear eM
      have q1 := hS.raw.cellF (i := i * 2) (by omega)
      have z1 := hS.raw.free (i * 2)
      have HS := Lib.hid hS
      have HIK := Lib.hid hik
      clear hS hik
      by_cases h1 : i < 4
      · rw [if_pos (.inl h1)] at hb
        have i6 : (i : Int) < 6 := by omega
        have H1 := Lib.hid h1
        clear h1
        go_wp2_with (first
          | (go_at_call 44; with_reducible refine (MC _).mono ?_; rintro e w1 ⟨rfl, rfl⟩)
          | (go_at_call 45; with_reducible refine (NN _).mono ?_; rintro e w1 ⟨rfl, rfl⟩))
        go_roundg (19 - (i + 1))
        case measure => go_light; have := HIK.out; omega
        case rel =>
          go_light
          have tb := HS.out.raw.set (i * 2) (.float .f64 9221120237041090561)
          rw [stR_len i HIK.out (.inl H1.out)] at tb
          exact ⟨i + 1, by have := HIK.out; omega, rfl, rfl, HS.out.but (But.set _ _ _) tb⟩
      · by_cases h2 : 14 ≤ i
        · rw [if_pos (.inr (.inr h2))] at hb
          have i6 : decide ((i : Int) < 6) = false := by simp; omega
          have i14 : 14 ≤ (i : Int) := by omega
          have H2 := Lib.hid h2
          clear h1 h2
          go_wp2_with (first
            | (go_at_call 44; with_reducible refine (MC _).mono ?_; rintro e w1 ⟨rfl, rfl⟩)
            | (go_at_call 45; with_reducible refine (NN _).mono ?_; rintro e w1 ⟨rfl, rfl⟩))
          go_roundg (19 - (i + 1))
          case measure => go_light; have := HIK.out; omega
          case rel =>
            go_light
            have tb := HS.out.raw.set (i * 2) (.float .f64 9221120237041090561)
            rw [stR_len i HIK.out (.inr H2.out)] at tb
            exact ⟨i + 1, by have := HIK.out; omega, rfl, rfl, HS.out.but (But.set _ _ _) tb⟩
        · have hsk := stR_skip i ⟨by omega, by omega⟩
          have HSK := Lib.hid hsk
          clear hsk
          by_cases h3 : 6 ≤ i ∧ i < 10
          · rw [if_pos (.inr (.inl h3))] at hb
            have i6 : decide ((i : Int) < 6) = false := by simp; omega
            have i14 : decide (14 ≤ (i : Int)) = false := by simp; omega
            clear h1 h2 h3
            go_wp2_with (go_at_call 44; with_reducible refine (MC _).mono ?_; rintro e w1 ⟨rfl, rfl⟩)
            go_roundg (19 - (i + 1))
            case measure => go_light; have := HIK.out; omega
            case rel =>
              go_light
              exact ⟨i + 1, by have := HIK.out; omega, rfl, rfl, HS.out.out, by rw [← HSK.out]; exact HS.out.raw, HS.out.bel⟩
          · rw [if_neg (by omega)] at hb
            clear h1 h2 h3
            go_wp2_with (go_at_call 44; with_reducible refine (MC _).mono ?_; rintro e w1 ⟨rfl, rfl⟩)
            go_roundg (19 - (i + 1))
            case measure => go_light; have := HIK.out; omega
            case rel =>
              go_light
              exact ⟨i + 1, by have := HIK.out; omega, rfl, rfl, HS.out.out, by rw [← HSK.out]; exact HS.out.raw, HS.out.bel⟩
    · have hi19 : i = 19 := by omega
      subst hi19
      have q1 := hS.raw.cellF (i := 8) (by omega)
      have q2 := hS.raw.cellF (i := 10) (by omega)
      have z1 := hS.raw.free 8
      have z2 := hS.raw.free 10
      have HS := Lib.hid hS
      clear hS
      go_upto_region 9 with (go_at_call 46; with_reducible refine (NI _).mono ?_; rintro e w1 ⟨rfl, rfl⟩)
      refine wp_worldS (DfW w (stR 19 true false 0)) ?_ ?_
      · have tb := (HS.out.raw.set 8 (.float .f64 9218868437227405312)).set 10 (.float .f64 9218868437227405312)
        rw [stR_inf] at tb
        exact HS.out.but ((But.set _ _ _).trans (But.set _ _ _)) tb
      intro W2 hS
      clear q1 q2 z1 z2 HS NI
      have q1 := hS.raw.cellF (i := 42) (by omega)
      have q2 := hS.raw.cellF (i := 47) (by omega)
      have q3 := hS.raw.cellF (i := 44) (by omega)
      have z1 := hS.raw.free 42
      have z2 := hS.raw.free 47
      have z3 := hS.raw.free 44
      have HS := Lib.hid hS
      clear hS
      go_upto_region 10 with (go_at_call 45; with_reducible refine (NN _).mono ?_; rintro e w1 ⟨rfl, rfl⟩)
      refine wp_worldS (DfW w (stR 19 true true 0)) ?_ ?_
      · have tb := ((HS.out.raw.set 42 (.float .f64 9221120237041090561)).set 47 (.float .f64 9221120237041090561)).set 44 (.float .f64 4607182418800017408)
        rw [stR_num] at tb
        exact HS.out.but (((But.set _ _ _).trans (But.set _ _ _)).trans (But.set _ _ _)) tb
      intro W3 hS3
      clear q1 q2 q3 z1 z2 z3 HS NN SF
      go_wp2_with fail
      go_loopg [41] 12 (fun gk s41 wr => ∃ i : Nat, i ≤ 12 ∧ gk = 12 - i ∧ s41 = .int .i64 ((i : Int)) ∧ DfW w (stR 19 true true i) wr)
      case atStart => exact ⟨0, by omega, rfl, rfl, hS3⟩
      case round =>
        clear hS3
        obtain ⟨i, hi, rfl, rfl, hS⟩ := hrel
        by_cases hik : i < 12
        · have ix : (i : Int) < 12 := by omega
          have q1 := hS.raw.cellF (i := 48 + i) (by omega)
          have z1 := hS.raw.free (48 + i)
          have HS := Lib.hid hS
          have HIK := Lib.hid hik
          clear hS hik
          by_cases h4 : i = 4
          · subst h4
            have hsk := Lib.hid (stR_wsk 4 (.inl rfl))
            go_wp2_with fail
            go_roundg (12 - (4 + 1))
            case measure => go_light; omega
            case rel =>
              go_light
              exact ⟨4 + 1, by omega, rfl, rfl, HS.out.out, by rw [← hsk.out]; exact HS.out.raw, HS.out.bel⟩
          · by_cases h9 : i = 9
            · subst h9
              have hsk := Lib.hid (stR_wsk 9 (.inr rfl))
              go_wp2_with fail
              go_roundg (12 - (9 + 1))
              case measure => go_light; omega
              case rel =>
                go_light
                exact ⟨9 + 1, by omega, rfl, rfl, HS.out.out, by rw [← hsk.out]; exact HS.out.raw, HS.out.bel⟩
            · have n4 : ((i : Int) == 4) = false := by simp; omega
              have n9 : ((i : Int) == 9) = false := by simp; omega
              have H49 := Lib.hid (⟨h4, h9⟩ : i ≠ 4 ∧ i ≠ 9)
              have m4 : ((i : Int) != 4) = true := by simp; omega
              have m9 : ((i : Int) != 9) = true := by simp; omega
              have k4 : (i == 4) = false := by simp; omega
              have k9 : (i == 9) = false := by simp; omega
              have l4 : ((i : Int) = 4) = False := by simp; omega
              have l9 : ((i : Int) = 9) = False := by simp; omega
              go_wp2_with fail
              go_roundg (12 - (i + 1))
              case measure => go_light; have := HIK.out; omega
              case rel =>
                go_light
                have tb := HS.out.raw.set (48 + i) (.int .i64 1)
                rw [stR_wrd i HIK.out H49.out] at tb
                exact ⟨i + 1, by have := HIK.out; omega, rfl, rfl, HS.out.but (But.set _ _ _) tb⟩
        · have hi12 : i = 12 := by omega
          subst hi12
          have HS := Lib.hid hS
          clear hS
          go_wp2_with (first
            | (refine wpl_loadA (by rfl) 44 _ (by rfl) HS.out.raw _ Tryz.underlying44 rfl (by kernel_rfl) (by rfl) ?_; simp only [Act.put, List.setIfInBounds_toArray, List.set_cons_zero, List.set_cons_succ, Nat.zero_add, Nat.reduceAdd])
            | (refine wpl_storeF (by rfl) 44 _ _ (by rfl) HS.out.out 0 65 (by omega) (rawF (stR 19 true true 12)) (fun i _ => rawF_one _ i) (by kernel_rfl) (by rfl) (by rfl) ?_; simp only [Act.put, List.setIfInBounds_toArray, List.set_cons_zero, List.set_cons_succ, Nat.zero_add, Nat.reduceAdd])
            | (refine bodyPost_ret (results_c1 (by rfl) (by rfl) (by exact load_allF (HS.out.out.storeF (g := rawF (stR 19 true true 12))) 44 _ Tryz.underlying44 rfl (by kernel_rfl))) (by rfl) ?_))
          exact ⟨rfl, (But.setCells _ _ _).to HS.out.bel (by omega) HS.out.bel.size⟩
end Go.Proofs.YtigjjddblijpbaaGreatDoor
namespace Go.Proofs.YtigjjddblijpbaaGreatDoor
open Go.RowKit
set_option linter.unusedSimpArgs false
set_option linter.unusedVariables false

theorem fq64P (x : Int) : fq x 64 = x / 64 := by unfold fq; rw [if_neg (by decide)]
theorem IsBig.allocdP {w : World} {neg : Bool} {ao : Option Addr} {k cap : Nat} {n : Int} (h : IsBig w neg ao k cap n) (o : Obj) : IsBig (w.alloc o) neg ao k cap n := h.keeps (Keeps.alloc (Keeps.refl w) o)
theorem IsBig.drewdP {w : World} {neg : Bool} {ao : Option Addr} {k cap : Nat} {n : Int} (h : IsBig w neg ao k cap n) : IsBig w.drew neg ao k cap n := h.keeps (Keeps.drew (Keeps.refl w))
theorem IsBig.belowXP {w w' : World} (hb : Below w.heap.size w w') {neg : Bool} {ao : Option Addr} {k cap : Nat} {n : Int} (h : IsBig w neg ao k cap n) : IsBig w' neg ao k cap n := h.keep hb
section
variable {w wX w' : World} {b : Nat} {q1 q2 : Value}
end
end Go.Proofs.YtigjjddblijpbaaGreatDoor
namespace Go.Proofs.YtigjjddblijpbaaGreatDoor
open Go.RowKit
set_option linter.unusedSimpArgs false
set_option linter.unusedVariables false

def hairN (n p q : Int) : Int := if scaleE n p q ≠ 0 then 0 else if n = 0 then 0 else max (scaleN n p q / 64 * 64) 64
theorem partE_len {a n d : Int} (h : partE a n d = 0) : LenB (partN a n d) := by
  unfold partE at h
  unfold partN
  by_cases h0 : d = 0
  · rw [if_pos h0] at h; omega
  · rw [if_neg h0] at h ⊢
    cases hl : lenB (fq (a * n) d)
    · rw [hl] at h; simp at h
    · simp only [if_true]
      exact (lenB_iff _).1 hl
theorem scaleE_len {n p q : Int} (h : scaleE n p q = 0) : LenB (scaleN n p q) := by
  unfold scaleE at h
  unfold scaleN
  cases hg : goodB p q
  · rw [hg] at h; simp at h
  · rw [hg] at h
    simp only [if_true] at h ⊢
    exact partE_len h
set_option maxRecDepth 100000 in
set_option maxHeartbeats 1600000 in
theorem sty_hairline (n p q : Int) (hn : IFit n) (hp : IFit p) (hq : IFit q) (w : World) :
    Calls Tryz.prog 225 #[.int .i64 n, .agg #[.int .i64 p, .int .i64 q]] w (Gives (hairN n p q) (scaleE n p q) w) := by
  have SC := fun W => fix_scale n p q hn hp hq W
  unfold Gives at SC
  obtain ⟨Q, eQ⟩ : ∃ Q, Q = Gives (hairN n p q) (scaleE n p q) w := ⟨_, rfl⟩
  rw [← eQ]
  have t1 := Blk.new w #[.int .i64 p, .int .i64 q] 81 _ rfl
  have q0 := t1.cell 0 _ rfl
  have q1 := t1.cell 1 _ rfl
  have hB : Below w.heap.size w (w.alloc (.cells #[.int .i64 p, .int .i64 q] 81)) := (by repeat' (first | (with_reducible exact Below.refl _ _) | (with_reducible assumption) | (with_reducible refine below_alloc ?_ _ ?_) | (with_reducible refine below_set _ ?_ ?_) | (with_reducible refine Below.drew ?_) | (with_reducible refine below_dN ?_ _) | (apply below_thenA; assumption) | omega | (simp; done) | (simp; omega) | (simp [*]; done)))
  have hs := hB.size
  have HB := Lib.hid hB
  clear hB t1
  by_cases h : scaleE n p q = 0
  · have C : ∀ W, Calls Tryz.prog 226 #[.int .i64 n, .agg #[.int .i64 p, .int .i64 q]] W fun e w' => e = .returned (.int .i64 (scaleN n p q)) ∧ Below W.heap.size W w' := fun W => (SC W).mono fun e w' g => ⟨g.1 h, g.2.2⟩
    have hL := scaleE_len h
    have FL := fun W => fix_floor (scaleN n p q) hL.fit W
    have hL2 : LenB (scaleN n p q / 64 * 64) := by unfold LenB at hL ⊢; omega
    have PX := fun W => fix_px (scaleN n p q / 64) (by unfold LenB at hL; unfold IFit; omega) hL2 W
    unfold hairN at eQ
    rw [if_neg (by simpa using h)] at eQ
    obtain ⟨F, eF⟩ : ∃ F, scaleN n p q / 64 * 64 = F := ⟨_, rfl⟩
    obtain ⟨G, eG⟩ : ∃ G, scaleN n p q / 64 = G := ⟨_, rfl⟩
    obtain ⟨X, eX⟩ : ∃ X, scaleN n p q = X := ⟨_, rfl⟩
    obtain ⟨S, eS⟩ : ∃ S, scaleE n p q = S := ⟨_, rfl⟩
    rw [eF] at PX eQ hL2
    rw [eG] at PX FL
    rw [eX] at FL C
    rw [eS] at eQ h
    subst h
    clear SC eF eG eX eS hL hL2
    by_cases hn0 : n = 0
    · subst hn0
      rw [if_pos rfl] at eQ
      have EQ := Lib.hid eQ
      clear eQ
      go_enter Tryz.func225, Tryz.ntmps225
      go_wp2_with (go_at_call 226; with_reducible refine (C _).mono ?_; rintro e w1 ⟨rfl, hb1⟩)
      rw [EQ.out]
      exact ⟨fun _ => rfl, fun g => absurd rfl g, HB.out.trans (hb1.mono hs)⟩
    · rw [if_neg hn0] at eQ
      have z : (n == 0) = false := by simpa using hn0
      clear hn0
      obtain ⟨M, eM⟩ : ∃ M, max F 64 = M := ⟨_, rfl⟩
      rw [eM] at eQ
      have EQ := Lib.hid eQ
      clear eQ
      go_enter Tryz.func225, Tryz.ntmps225
      go_wp2_with (first
        | (go_at_call 226; with_reducible refine (C _).mono ?_; rintro e w1 ⟨rfl, hb1⟩)
        | (go_at_call 214; with_reducible refine (FL _).mono ?_; rintro e w2 ⟨rfl, rfl⟩)
        | (go_at_call 179; with_reducible refine (PX _).mono ?_; rintro e w3 ⟨rfl, hb3⟩))
      rw [EQ.out]
      exact ⟨fun _ => rfl, fun g => absurd rfl g, (HB.out.trans (hb1.mono hs)).trans (hb3.mono (HB.out.trans (hb1.mono hs)).size)⟩
  · have C : ∀ W, Calls Tryz.prog 226 #[.int .i64 n, .agg #[.int .i64 p, .int .i64 q]] W fun e w' => e = .panicked (gave (scaleE n p q)) ∧ Below W.heap.size W w' := fun W => (SC W).mono fun e w' g => ⟨g.2.1 h, g.2.2⟩
    obtain ⟨S, eS⟩ : ∃ S, scaleE n p q = S := ⟨_, rfl⟩
    rw [eS] at C h eQ
    have H := Lib.hid h
    have EQ := Lib.hid eQ
    clear eQ h SC eS
    go_enter Tryz.func225, Tryz.ntmps225
    go_wp2_with (go_at_call 226; with_reducible refine (C _).mono ?_; rintro e w1 ⟨rfl, hb1⟩)
    simp only [bodyPost]
    rw [EQ.out]
    exact ⟨trivial, fun g => absurd g H.out, fun _ => rfl, HB.out.trans (hb1.mono hs)⟩
end Go.Proofs.YtigjjddblijpbaaGreatDoor
