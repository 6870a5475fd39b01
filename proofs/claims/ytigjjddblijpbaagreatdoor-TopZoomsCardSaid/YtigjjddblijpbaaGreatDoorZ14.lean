/-
  Layer 11 (style): Borders of a style whose borders' widths give way at no scale.
-/
/-
  Layer 11 (style): speaks.
-/
/-
  Layer 11 (style): the laws' raw style, and what told makes of it: plain; a style is the same as itself.
-/
/-
  Layer 11 (style): told, same: the walks.
-/
/-
  Package rect, each function by its contract.
-/
/-
  Package rect: New, Empty, W, H, And.
-/
/-
  A walker by reckoning: hooks: what the small functions on whole numbers leave.
-/
/-
  A walker by reckoning: calls that were reckoned ahead, each from a memory of its own: used wherever that memory is part of what is known.
-/
import Derived.Test.YtigjjddblijpbaaGreatDoorZ13
import Derived.ChangeKeysEq
import Derived.Test.YtigjjddblijpbaaGreatDoorZ9
import Derived.Test.YtigjjddblijpbaaGreatDoorZ8
namespace Go.Proofs.YtigjjddblijpbaaGreatDoor
open Go Go.RowKit
set_option linter.unusedSimpArgs false
set_option linter.unusedVariables false

/-- Four cells, the first i of which are told. -/
def brF (h : Nat → Int) (i : Nat) (k : Nat) : Value := .int .i64 (if k < i then h k else 0)
theorem brF_set (h : Nat → Int) (i : Nat) (hi : i < 4) : (cellsF 4 (brF h i)).setIfInBounds i (.int .i64 (h i)) = cellsF 4 (brF h (i + 1)) := by
  rw [cellsF_set]
  refine cellsF_ext (fun k hk => ?_)
  unfold brF
  by_cases h1 : k = i
  · rw [if_pos h1]
    subst h1
    rw [if_pos (by omega)]
  · rw [if_neg h1]
    have e : (k < i) = (k < i + 1) := by apply propext; omega
    simp only [e]
theorem brF_zero (h : Nat → Int) : cellsF 4 (brF h 0) = #[.int .i64 0, .int .i64 0, .int .i64 0, .int .i64 0] := by kernel_rfl
structure BoW (F : Nat → Value) (p q : Int) (h : Nat → Int) (w : World) (i : Nat) (W : World) : Prop where
  sty : Blk W w.heap.size (cellsF 62 F) 77
  rat : Blk W (w.heap.size + 1) #[.int .i64 p, .int .i64 q] 81
  out : Blk W (w.heap.size + 1 + 1) (cellsF 4 (brF h 0)) 49
  box : Blk W (w.heap.size + 1 + 1 + 1) (cellsF 4 (brF h i)) 49
  bel : Below w.heap.size w W
theorem BoW.below {F : Nat → Value} {p q : Int} {h : Nat → Int} {w W W' : World} {i : Nat} (x : BoW F p q h w i W) (hb : Below W.heap.size W W') : BoW F p q h w i W' :=
  ⟨x.sty.below hb, x.rat.below hb, x.out.below hb, x.box.below hb, x.bel.trans (hb.mono x.bel.size)⟩
theorem BoW.drew {F : Nat → Value} {p q : Int} {h : Nat → Int} {w W : World} {i : Nat} (x : BoW F p q h w i W) : BoW F p q h w i W.drew :=
  ⟨x.sty.drew, x.rat.drew, x.out.drew, x.box.drew, x.bel.drew⟩
theorem BoW.but {F : Nat → Value} {p q : Int} {h : Nat → Int} {w W W' : World} {i j : Nat} (x : BoW F p q h w i W) (hb : But (w.heap.size + 1 + 1 + 1) W W') (t : Blk W' (w.heap.size + 1 + 1 + 1) (cellsF 4 (brF h j)) 49) : BoW F p q h w j W' :=
  ⟨x.sty.but hb (by omega), x.rat.but hb (by omega), x.out.but hb (by omega), t, hb.to x.bel (by omega) x.bel.size⟩
set_option maxRecDepth 100000 in
set_option maxHeartbeats 3200000 in
theorem sty_borders (F : Nat → Value) (N : Nat → Int) (p q : Int) (hF : ∀ i, i < 4 → F (38 + i) = .int .i64 (N i)) (hN : ∀ i, i < 4 → IFit (N i) ∧ scaleE (N i) p q = 0) (hp : IFit p) (hq : IFit q) (w : World) :
    Calls Tryz.prog 200 #[.agg (cellsF 62 F), .agg #[.int .i64 p, .int .i64 q]] w fun e w' => e = .returned (.agg (cellsF 4 (brF (fun i => hairN (N i) p q) 4))) ∧ Below w.heap.size w w' := by
  obtain ⟨h, eh⟩ : ∃ h, (fun i => hairN (N i) p q) = h := ⟨_, rfl⟩
  have HC : ∀ i, i < 4 → ∀ W, Calls Tryz.prog 225 #[.int .i64 (N i), .agg #[.int .i64 p, .int .i64 q]] W fun e w' => e = .returned (.int .i64 (h i)) ∧ Below W.heap.size W w' := by
    intro i hi W
    rw [← eh]
    exact (sty_hairline (N i) p q (hN i hi).1 hp hq W).mono fun e w' g => ⟨g.1 (hN i hi).2, g.2.2⟩
  rw [eh]
  have HF := Lib.hid hF
  have HHC := Lib.hid HC
  clear eh hN hp hq hF HC
  go_enter Tryz.func200, Tryz.ntmps200
  go_upto_region 2 with (fail)
  refine wp_worldS (BoW F p q h w 0) ⟨Blk.alloc (Blk.alloc (Blk.alloc (Blk.new _ _ _ _ rfl) _) _) _, Blk.alloc (Blk.alloc (Blk.new _ _ _ _ (by simp)) _) _, by rw [brF_zero]; exact Blk.alloc (Blk.new _ _ _ _ (by simp)) _, by rw [brF_zero]; exact Blk.new _ _ _ _ (by simp), (by repeat' (first | (with_reducible exact Below.refl _ _) | (with_reducible assumption) | (with_reducible refine below_alloc ?_ _ ?_) | (with_reducible refine below_set _ ?_ ?_) | (with_reducible refine Below.drew ?_) | (with_reducible refine below_dN ?_ _) | (apply below_thenA; assumption) | omega | (simp; done) | (simp; omega) | (simp [*]; done)))⟩ ?_
  intro W1 hS0
  go_wp2_with fail
  go_loopg [7] 4 (fun gk s7 wr => ∃ i : Nat, i ≤ 4 ∧ gk = 4 - i ∧ s7 = .int .i64 ((i : Int)) ∧ BoW F p q h w i wr)
  case atStart => exact ⟨0, by omega, rfl, rfl, hS0⟩
  case round =>
    clear hS0
    obtain ⟨i, hi, rfl, rfl, hS⟩ := hrel
    by_cases hik : i < 4
    · have ix : (i : Int) < 4 := by omega
      go_upto_region 5 with (fail)
      have C := HHC.out i hik
      have wi : IntKind.i64.wrap (i : Int) = (i : Int) := by simp only [IntKind.wrap_i64, wrap64]; omega
      have i10 : (i : Int) < 10 := by omega
      have hfi := HF.out i hik
      obtain ⟨n, en⟩ : ∃ n, N i = n := ⟨_, rfl⟩
      have hset := brF_set h i hik
      obtain ⟨hh, ehh⟩ : ∃ n, h i = n := ⟨_, rfl⟩
      rw [en] at hfi C
      rw [ehh] at C hset
      have HSET := Lib.hid hset
      clear en ehh hset
      go_upto_region 5 with (fail)
      rename_i K5 hK5
      refine wp_region_calm (fun w' => ∃ j, BoW F p q h w j w') [9] (fun w' => BoW F p q h w i w') [Is (.int .i64 ((i : Int))), Is (.int .i64 ((i : Int))), Is (.int .i64 ((i : Int))), Is (.pointer (some ⟨w.heap.size, 38, none⟩)), Is (.pointer (some ⟨w.heap.size, 38 + i, none⟩)), Is (.int .i64 n), Is (.agg #[.int .i64 p, .int .i64 q]), Is (.int .i64 hh), Is (.pointer (some ⟨w.heap.size + 1 + 1 + 1, i, none⟩)), wldS (fun w' => BoW F p q h w (i + 1) w') (fun _ _ h hb => h.below hb)] [] (by kernel_rfl) (by kernel_rfl) (by kernel_rfl) (by kernel_rfl) ⟨i, hS.drew⟩ hS.drew ?_ ?_ ?_ ?_ ?_
      · rintro W W' hC hb
        exact hC.imp fun j h => h.below hb
      · intro W W' hB h0 hb; exact h0.below hb
      · intro k vs W hk h
        exact absurd hk (by simp)
      · intro Q; clear hK5 
        refine ⟨?_, ?_, ?_, ?_, ?_, ?_, ?_, ?_, ?_, ?_, trivial⟩
        · intro vs W hW hW0 hd hne hold K hK hA hL; clear hne hA hL; have hC := hW; simp only [puts, Act.put, List.setIfInBounds_toArray, List.set_cons_zero, List.set_cons_succ, Nat.zero_add, Nat.reduceAdd] at hK ⊢; clear hd hold; go_simp; exact hK.out rfl _ _ (Below.refl _ _) rfl
        · intro vs W hW hW0 hd hne hold K hK hA hL; clear hne hA hL; have hC := hW; simp only [puts, Act.put, List.setIfInBounds_toArray, List.set_cons_zero, List.set_cons_succ, Nat.zero_add, Nat.reduceAdd] at hK ⊢; clear hd hold; go_simp; exact hK.out rfl _ _ (Below.refl _ _) rfl
        · intro vs W hW hW0 hd hne hold K hK hA hL; clear hne hA hL; have hC := hW; simp only [puts, Act.put, List.setIfInBounds_toArray, List.set_cons_zero, List.set_cons_succ, Nat.zero_add, Nat.reduceAdd] at hK ⊢; have e1 : vs 1 = _ := hd 1 (by kernel_rfl); clear hd hold; simp only [e1] at hK; go_simp; exact hK.out rfl _ _ (Below.refl _ _) rfl
        · intro vs W hW hW0 hd hne hold K hK hA hL; clear hne hA hL; have hC := hW; simp only [puts, Act.put, List.setIfInBounds_toArray, List.set_cons_zero, List.set_cons_succ, Nat.zero_add, Nat.reduceAdd] at hK ⊢; clear hd hold; go_simp; exact hK.out rfl _ _ (Below.refl _ _) rfl
        · intro vs W hW hW0 hd hne hold K hK hA hL; clear hne hA hL; have hC := hW; simp only [puts, Act.put, List.setIfInBounds_toArray, List.set_cons_zero, List.set_cons_succ, Nat.zero_add, Nat.reduceAdd] at hK ⊢; have e3 : vs 3 = _ := hd 3 (by kernel_rfl); have e2 : vs 2 = _ := hd 2 (by kernel_rfl); clear hd hold; simp only [e3, e2] at hK; go_simp; exact hK.out rfl _ _ (Below.refl _ _) rfl
        · intro vs W hW hW0 hd hne hold K hK hA hL; clear hne hA hL; have hC := hW; simp only [puts, Act.put, List.setIfInBounds_toArray, List.set_cons_zero, List.set_cons_succ, Nat.zero_add, Nat.reduceAdd] at hK ⊢; have ea : vs 4 = _ := hd 4 (by kernel_rfl); obtain ⟨j, hCj⟩ := hC; have q1 := hCj.sty.cellF (i := 38 + i) (by omega); rw [hfi] at q1; clear hd hold hCj; simp only [ea] at hK; go_simp; exact hK.out rfl _ _ (Below.refl _ _) rfl
        · intro vs W hW hW0 hd hne hold K hK hA hL; clear hne hA hL; have hC := hW; simp only [puts, Act.put, List.setIfInBounds_toArray, List.set_cons_zero, List.set_cons_succ, Nat.zero_add, Nat.reduceAdd] at hK ⊢; obtain ⟨j, hCj⟩ := hC; have q1 := hCj.rat.cell 0 _ rfl; have q2 := hCj.rat.cell 1 _ rfl; clear hd hold hCj; go_simp; exact hK.out rfl _ _ (Below.refl _ _) rfl
        · intro vs W hW hW0 hd hne hold K hK hA hL; clear hne hA hL; have hC := hW; simp only [puts, Act.put, List.setIfInBounds_toArray, List.set_cons_zero, List.set_cons_succ, Nat.zero_add, Nat.reduceAdd] at hK ⊢; have ea : vs 5 = _ := hd 5 (by kernel_rfl); have eb : vs 6 = _ := hd 6 (by kernel_rfl); clear hd hold; simp only [ea, eb] at hK; go_simp; refine (C _).mono ?_; rintro e wx ⟨rfl, hbx⟩; go_simp; exact hK.out rfl _ _ hbx rfl
        · intro vs W hW hW0 hd hne hold K hK hA hL; clear hne hA hL; have hC := hW; simp only [puts, Act.put, List.setIfInBounds_toArray, List.set_cons_zero, List.set_cons_succ, Nat.zero_add, Nat.reduceAdd] at hK ⊢; have e0 : vs 0 = _ := hd 0 (by kernel_rfl); clear hd hold; simp only [e0] at hK; go_simp; exact hK.out rfl _ _ (Below.refl _ _) rfl
        · intro vs W hW hW0 hd hne hold K hK hA hL; clear hK hA; have hC := hW; simp only [puts, Act.put, List.setIfInBounds_toArray, List.set_cons_zero, List.set_cons_succ, Nat.zero_add, Nat.reduceAdd] at hL ⊢; have ea : vs 8 = _ := hd 8 (by kernel_rfl); have eb : vs 7 = _ := hd 7 (by kernel_rfl); have h0 := hW0 (by kernel_rfl); have q1 := h0.box.cellF (i := i) (by omega); have z1 := h0.box.free i; have tb := h0.box.set i (.int .i64 hh); rw [HSET.out] at tb; have hbt := But.set (b := w.heap.size + 1 + 1 + 1) W i (.int .i64 hh); have hN := h0.but hbt tb; clear hd hold h0; simp only [ea, eb] at hL; go_simp; refine hL.out rfl undef _ ⟨_, hN⟩ (fun h => by simp at h) hN ?_; exact claims_keep ⟨.inr is_keep, .inr is_keep, .inr is_keep, .inr is_keep, .inr is_keep, .inr is_keep, .inr is_keep, .inr is_keep, .inr is_keep, .inl rfl, trivial⟩
      · intro va5 WB hW hV _
        have hS9 : BoW F p q h w (i + 1) WB := hV 9 (by decide)
        clear hV hW
        simp only [puts, Act.put, List.setIfInBounds_toArray, List.set_cons_zero, List.set_cons_succ, Nat.zero_add, Nat.reduceAdd]
        refine hK5 _ _ ?_
        have HS9 := Lib.hid hS9
        clear hS9 hS C hfi
        go_wp2_with fail
        go_roundg (4 - (i + 1))
        case measure => go_light; omega
        case rel =>
          go_light
          exact ⟨i + 1, by omega, rfl, rfl, HS9.out⟩
    · have hi4 : i = 4 := by omega
      subst hi4
      have HS := Lib.hid hS
      clear hS
      go_wp2_with (first
        | (refine wpl_loadA (by rfl) 49 _ (by rfl) HS.out.box _ Tryz.underlying49 rfl (by kernel_rfl) (by rfl) ?_; simp only [Act.put, List.setIfInBounds_toArray, List.set_cons_zero, List.set_cons_succ, Nat.zero_add, Nat.reduceAdd])
        | (refine wpl_storeF (by rfl) 49 _ _ (by rfl) HS.out.out 0 4 (by omega) (brF h 4) (fun i _ => rfl) (by kernel_rfl) (by rfl) (by rfl) ?_; simp only [Act.put, List.setIfInBounds_toArray, List.set_cons_zero, List.set_cons_succ, Nat.zero_add, Nat.reduceAdd])
        | (refine bodyPost_ret (results_c1 (by rfl) (by rfl) (by exact load_allF (HS.out.out.storeF (g := brF h 4)) 49 _ Tryz.underlying49 rfl (by kernel_rfl))) (by rfl) ?_))
      exact (But.setCells _ _ _).to HS.out.bel (by omega) HS.out.bel.size
end Go.Proofs.YtigjjddblijpbaaGreatDoor
namespace Go.Proofs.YtigjjddblijpbaaGreatDoor
open Go Go.RowKit
set_option linter.unusedSimpArgs false
set_option linter.unusedVariables false

/-- The whole of a block is stored; of the world behind it no more is told than that. -/
theorem wpl_storeW {P : Program} {ops : Array Oper} {rest : List Oper} {op : Oper} {a : Act} {w : World} {Q : Exit → Act → World → Prop} (hg : op.guard = none) (ty : TypeId) (x y : Operand) (ho : op.op = .store ty x y)
    {b n : Nat} {f : Nat → Value} {T : TypeId} (t : Blk w b (cellsF n f) T) (g : Nat → Value) (h1 : ∀ i, i < n → (g i).oneCell' = true) (hi : (P.info? ty).map (·.size) = some n)
    (hx : a.eval x = .pointer (some ⟨b, 0, none⟩)) (hy : a.eval y = .agg (cellsF n g)) (hk : ∀ W, Blk W b (cellsF n g) T → But b w W → wpList P ops Q rest (a.put op.dst undef) W) : wpList P ops Q (op :: rest) a w :=
  wpl_storeF hg ty x y ho t 0 n (by omega) g h1 hi hx hy (hk _ t.storeF (But.setCells _ _ _))
def spR : Rs where
  L := defR.L
  P := defR.P
  N := fun j => if j = 0 then 4591870180066957722 else defR.N j
  W := defR.W
  B := fun j => decide (j = 0)
  C := 0
theorem spR_set : ((cellsF 65 (rawF defR)).setIfInBounds 38 (.float .f64 4591870180066957722)).setIfInBounds 60 (.bool true) = cellsF 65 (rawF spR) := by kernel_rfl
theorem spR_fit : spR.Fit := by
  refine ⟨fun i hi => ?_, fun i hi => ?_, fun i hi => ?_⟩
  · have : ∀ i, i < 19 → spR.L i < 18446744073709551616 := by decide
    exact this i hi
  · have : ∀ i, i < 10 → spR.N i < 18446744073709551616 := by decide
    exact this i hi
  · have : ∀ i, i < 12 → (-9223372036854775808 ≤ spR.W i ∧ spR.W i ≤ 9223372036854775807) := by decide
    exact this i hi
theorem spR_ok : dE spR = 0 := by kernel_rfl
theorem spR_cells : cellsF 62 (outF spR) = #[.int .i64 1, .int .i64 0, .int .i64 1, .int .i64 0, .int .i64 1, .int .i64 0, .int .i64 1, .int .i64 0, .int .i64 2, .int .i64 0, .int .i64 2, .int .i64 0, .int .i64 3, .int .i64 0, .int .i64 3, .int .i64 0, .int .i64 3, .int .i64 0, .int .i64 3, .int .i64 0, .int .i64 3, .int .i64 0, .int .i64 3, .int .i64 0, .int .i64 3, .int .i64 0, .int .i64 3, .int .i64 0, .int .i64 1, .int .i64 0, .int .i64 1, .int .i64 0, .int .i64 1, .int .i64 0, .int .i64 1, .int .i64 0, .int .i64 1, .int .i64 0, .int .i64 6, .int .i64 0, .int .i64 0, .int .i64 0, .int .i64 0, .int .i64 0, .int .i64 4096, .int .i64 0, .int .i64 0, .int .i64 1280, .bool true, .int .i64 1, .int .i64 1, .int .i64 1, .int .i64 1, .int .i64 0, .int .i64 1, .int .i64 1, .int .i64 1, .int .i64 1, .int .i64 0, .int .i64 1, .int .i64 1, .int .u8 0] := by kernel_rfl
def spN (i : Nat) : Int := if i = 0 then 6 else 0
theorem spN_cell (i : Nat) (hi : i < 4) : outF spR (38 + i) = .int .i64 (spN i) := by
  match i, hi with
  | 0, _ => (show _ = _; kernel_rfl)
  | 1, _ => (show _ = _; kernel_rfl)
  | 2, _ => (show _ = _; kernel_rfl)
  | 3, _ => (show _ = _; kernel_rfl)
theorem spN_ok (i : Nat) (hi : i < 4) : IFit (spN i) ∧ scaleE (spN i) 1 1 = 0 := by
  match i, hi with
  | 0, _ => exact ⟨by unfold IFit spN; omega, by kernel_rfl⟩
  | 1, _ => exact ⟨by unfold IFit spN; omega, by kernel_rfl⟩
  | 2, _ => exact ⟨by unfold IFit spN; omega, by kernel_rfl⟩
  | 3, _ => exact ⟨by unfold IFit spN; omega, by kernel_rfl⟩
theorem spN_out : cellsF 4 (brF (fun i => hairN (spN i) 1 1) 4) = #[.int .i64 64, .int .i64 0, .int .i64 0, .int .i64 0] := by kernel_rfl
end Go.Proofs.YtigjjddblijpbaaGreatDoor
namespace Go.Proofs.YtigjjddblijpbaaGreatDoor
open Go Go.RowKit
set_option linter.unusedSimpArgs false
set_option linter.unusedVariables false

theorem flo_fromS (b : Nat) (w : World) : (callFunc 84 #[.int .u64 (b : Int)]).run Tryz.prog w = .ok (.value (.float .f64 b)) w := by
  rw [run_callFunc_extern Tryz.func84 (by kernel_rfl) (by kernel_rfl) (by kernel_rfl) (e := Extern.MathFloatBits.float64frombits) (by kernel_rfl)]
  rfl
/-- A raw style as the laws have it. -/
def lawF (x : Rs) (k : Nat) : Value := if k < 64 then refF x k else .int .u8 x.C
theorem law_ref {x : Rs} {k : Nat} (h : k < 64) : lawF x k = refF x k := if_pos h
def T1 (x : Rs) (i : Nat) : Rs where
  L := fun j => if j < i then x.L j else 0
  P := fun j => if j < i then x.P j else false
  N := fun _ => 0
  W := x.W
  B := x.B
  C := x.C
def T2 (x : Rs) (i : Nat) : Rs where
  L := x.L
  P := x.P
  N := fun j => if j < i then x.N j else 0
  W := x.W
  B := x.B
  C := x.C
theorem T1_set (x : Rs) (i : Nat) (hi : i < 19) : ((cellsF 65 (rawF (T1 x i))).setIfInBounds (i * 2) (.float .f64 (x.L i))).setIfInBounds (i * 2 + 1) (.bool (x.P i)) = cellsF 65 (rawF (T1 x (i + 1))) := by
  rw [cellsF_set, cellsF_set]
  refine cellsF_ext (fun k hk => ?_)
  by_cases h1 : k = i * 2 + 1
  · rw [if_pos h1]
    subst h1
    unfold rawF
    rw [if_pos (by omega), if_neg (by omega), show (i * 2 + 1) / 2 = i by omega]
    simp [T1]
  · rw [if_neg h1]
    by_cases h2 : k = i * 2
    · rw [if_pos h2]
      subst h2
      unfold rawF
      rw [if_pos (by omega), if_pos (by omega), show i * 2 / 2 = i by omega]
      simp [T1]
    · rw [if_neg h2]
      unfold rawF
      by_cases h3 : k < 38
      · rw [if_pos h3, if_pos h3]
        have e : (k / 2 < i) = (k / 2 < i + 1) := by apply propext; omega
        simp only [T1, e]
      · rw [if_neg h3, if_neg h3]
        rfl
theorem T1_end (x : Rs) : cellsF 65 (rawF (T1 x 19)) = cellsF 65 (rawF (T2 x 0)) := by
  refine cellsF_ext (fun k hk => ?_)
  unfold rawF
  by_cases h : k < 38
  · rw [if_pos h, if_pos h]
    simp only [T1, T2, show k / 2 < 19 by omega, if_true]
  · rw [if_neg h, if_neg h]
    simp [T1, T2]
theorem T2_set (x : Rs) (i : Nat) (hi : i < 10) : (cellsF 65 (rawF (T2 x i))).setIfInBounds (38 + i) (.float .f64 (x.N i)) = cellsF 65 (rawF (T2 x (i + 1))) := by
  rw [cellsF_set]
  refine cellsF_ext (fun k hk => ?_)
  unfold rawF
  by_cases h1 : k = 38 + i
  · rw [if_pos h1]
    subst h1
    rw [if_neg (by omega), if_pos (by omega), show 38 + i - 38 = i by omega]
    simp [T2]
  · rw [if_neg h1]
    by_cases h3 : k < 38
    · rw [if_pos h3, if_pos h3]
      rfl
    · rw [if_neg h3, if_neg h3]
      by_cases h4 : k < 48
      · rw [if_pos h4, if_pos h4]
        have e : (k - 38 < i) = (k - 38 < i + 1) := by apply propext; omega
        simp only [T2, e]
      · rw [if_neg h4, if_neg h4]
        rfl
theorem T2_end (x : Rs) : cellsF 65 (rawF (T2 x 10)) = cellsF 65 (rawF x) := by
  refine cellsF_ext (fun k hk => ?_)
  unfold rawF
  by_cases h : k < 38
  · rw [if_pos h, if_pos h]
    rfl
  · rw [if_neg h, if_neg h]
    by_cases h4 : k < 48
    · rw [if_pos h4, if_pos h4]
      simp only [T2, show k - 38 < 10 by omega, if_true]
    · rw [if_neg h4, if_neg h4]
      rfl
/-- A value is the same as itself. -/
def SelfEq (d : Nat) (t : TypeId) (v : Value) : Prop := ∀ w, (Op.equalIn d t v v).run Tryz.prog w = .ok true w
theorem self_int {d : Nat} {t : TypeId} {k k' : IntKind} {a : Int} (h : Tryz.prog.underlying t = some (.int k')) : SelfEq (d + 1) t (.int k a) := fun w => by
  rw [run_equalIn_int w d t k k' a a h]
  simp
theorem self_bool {d : Nat} {t : TypeId} {a : Bool} (h : Tryz.prog.underlying t = some .bool) : SelfEq (d + 1) t (.bool a) := fun w => by
  rw [run_equalIn_bool' w d t a a h]
  simp
theorem self_items {d c : Nat} {e : TypeId} {xs : Array Value} : ∀ (is : List Nat), (∀ i, i ∈ is → ∃ v, (∀ w, (part e xs (i * c)).run Tryz.prog w = .ok v w) ∧ SelfEq d e v) → ∀ w, (Op.eqItems d e c xs xs is).run Tryz.prog w = .ok true w
  | [], _, w => by simp [Op.eqItems]
  | i :: is, h, w => by
    obtain ⟨v, h1, h2⟩ := h i (by simp)
    have ih := self_items is (fun j hj => h j (by simp [hj])) w
    simp only [Op.eqItems, Sem.run_bind, h1 w, Result.andThen_ok, h2 w]
    simpa using ih
theorem self_fields {d : Nat} {xs : Array Value} : ∀ (fs : List Field), (∀ f, f ∈ fs → ∃ v, (∀ w, (part f.type xs f.offset).run Tryz.prog w = .ok v w) ∧ SelfEq d f.type v) → ∀ w, (Op.eqFields d xs xs fs).run Tryz.prog w = .ok true w
  | [], _, w => by simp [Op.eqFields]
  | f :: fs, h, w => by
    obtain ⟨v, h1, h2⟩ := h f (by simp)
    have ih := self_fields fs (fun j hj => h j (by simp [hj])) w
    unfold Op.eqFields
    split
    · simp only [Sem.run_bind, h1 w, Result.andThen_ok, h2 w]
      simpa using ih
    · exact ih
theorem self_struct {d : Nat} {t : TypeId} {fs : Array Field} {xs : Array Value} (hu : Tryz.prog.underlying t = some (.struct fs)) (hp : Tryz.prog.stoodInHeld t = false)
    (h : ∀ f, f ∈ fs.toList → ∃ v, (∀ w, (part f.type xs f.offset).run Tryz.prog w = .ok v w) ∧ SelfEq d f.type v) : SelfEq (d + 1) t (.agg xs) := fun w => by
  have e : Tryz.prog.fieldsOf t = fs := by simp [Program.fieldsOf, hu]
  rw [run_equalIn_struct w d t xs xs (by rw [e]; exact hu) hp, e]
  exact self_fields _ h w
theorem self_array {d n : Nat} {t e : TypeId} {xs : Array Value} (hu : Tryz.prog.underlying t = some (.array n e)) (hi : (Tryz.prog.info? e).isSome = true)
    (h : ∀ i, i < n → ∃ v, (∀ w, (part e xs (i * Tryz.prog.cellsOf e)).run Tryz.prog w = .ok v w) ∧ SelfEq d e v) : SelfEq (d + 1) t (.agg xs) := fun w => by
  obtain ⟨i, hi⟩ := Option.isSome_iff_exists.1 hi
  rw [run_equalIn_array w d xs xs hu hi]
  exact self_items _ (fun i hi => h i (by simpa using hi)) w
theorem part_agg {T : TypeId} {m n o : Nat} {f : Nat → Value} (h : o + m ≤ n) (ha : ∀ w, (isAgg T).run Tryz.prog w = .ok true w) (hz : ∀ w, (sizeOf T).run Tryz.prog w = .ok m w) (w : World) : (part T (cellsF n f) o).run Tryz.prog w = .ok (.agg (cellsF m (fun k => f (o + k)))) w := by
  simp [part, Sem.run_bind, ha, hz, cellsF_extract n f o m h]
theorem part_at {e : TypeId} {n i : Nat} {f : Nat → Value} (he : Tryz.prog.plainKey e = true) (hi : i < n) (w : World) : (part e (cellsF n f) i).run Tryz.prog w = .ok (f i) w := run_part_plain w he (cellsF_get f hi)
/-- An array of whole numbers. -/
theorem self_ints {d n : Nat} {t e : TypeId} {k : IntKind} {f : Nat → Value} (hu : Tryz.prog.underlying t = some (.array n e)) (hi : (Tryz.prog.info? e).isSome = true) (hc : Tryz.prog.cellsOf e = 1) (hk : Tryz.prog.plainKey e = true) (he : Tryz.prog.underlying e = some (.int k)) (h : ∀ i, i < n → ∃ z, f i = .int k z) : SelfEq (d + 2) t (.agg (cellsF n f)) :=
  self_array hu hi (fun i hi => by
    rw [hc, Nat.mul_one]
    obtain ⟨z, e⟩ := h i hi
    exact ⟨f i, part_at hk hi, by rw [e]; exact self_int he⟩)
theorem self_val {d : Nat} (f : Nat → Value) (a b : Int) (h0 : f 0 = .int .i64 a) (h1 : f 1 = .int .i64 b) : SelfEq (d + 2) 73 (.agg (cellsF 2 f)) := by
  refine self_struct Tryz.underlying73 (by kernel_rfl) (fun g hg => ?_)
  simp only [List.mem_cons, List.not_mem_nil, or_false] at hg
  rcases hg with rfl | rfl
  · exact ⟨_, part_at (by kernel_rfl) (show 0 < 2 by omega), by rw [h0]; exact self_int (k' := .i64) (by kernel_rfl)⟩
  · exact ⟨_, part_at (by kernel_rfl) (show 1 < 2 by omega), by rw [h1]; exact self_int (k' := .i64) (by kernel_rfl)⟩
theorem sty_self (K n N : Nat → Int) (a : Bool) (W : Nat → Int) (c : Int) (w : World) : (Op.equalIn 10000 77 (.agg (cellsF 62 (styF K n N a W c))) (.agg (cellsF 62 (styF K n N a W c)))).run Tryz.prog w = .ok true w := by
  refine self_struct (d := 9999) Tryz.underlying77 (by kernel_rfl) (fun g hg => ?_) w
  simp only [List.mem_cons, List.not_mem_nil, or_false] at hg
  rcases hg with rfl | rfl | rfl | rfl | rfl
  · refine ⟨_, part_agg (m := 38) (n := 62) (o := 0) (by omega) (fun _ => by kernel_rfl) (fun _ => by kernel_rfl), ?_⟩
    refine self_array (d := 9998) Tryz.underlying74 (by kernel_rfl) (fun i hi => ?_)
    rw [show Tryz.prog.cellsOf 73 = 2 by kernel_rfl]
    refine ⟨_, part_agg (m := 2) (o := i * 2) (by omega) (fun _ => by kernel_rfl) (fun _ => by kernel_rfl), ?_⟩
    refine self_val (d := 9996) _ (K i) (n i) ?_ ?_
    · show styF K n N a W c (0 + (i * 2 + 0)) = _
      unfold styF
      rw [if_pos (by omega), if_pos (by omega), show (0 + (i * 2 + 0)) / 2 = i by omega]
    · show styF K n N a W c (0 + (i * 2 + 1)) = _
      unfold styF
      rw [if_pos (by omega), if_neg (by omega), show (0 + (i * 2 + 1)) / 2 = i by omega]
  · refine ⟨_, part_agg (m := 10) (n := 62) (o := 38) (by omega) (fun _ => by kernel_rfl) (fun _ => by kernel_rfl), ?_⟩
    refine self_ints (d := 9997) Tryz.underlying75 (by kernel_rfl) (by kernel_rfl) (by kernel_rfl) Tryz.underlying2 (fun i hi => ⟨N i, ?_⟩)
    show styF K n N a W c (38 + i) = _
    unfold styF
    rw [if_neg (by omega), if_pos (by omega), show 38 + i - 38 = i by omega]
  · exact ⟨_, part_at (by kernel_rfl) (show 48 < 62 by omega), self_bool (d := 9998) (by kernel_rfl)⟩
  · refine ⟨_, part_agg (m := 12) (n := 62) (o := 49) (by omega) (fun _ => by kernel_rfl) (fun _ => by kernel_rfl), ?_⟩
    refine self_ints (d := 9997) Tryz.underlying41 (by kernel_rfl) (by kernel_rfl) (by kernel_rfl) Tryz.underlying3 (fun i hi => ⟨W i, ?_⟩)
    show styF K n N a W c (49 + i) = _
    unfold styF
    rw [if_neg (by omega), if_neg (by omega), if_neg (by omega), if_pos (by omega), show 49 + i - 49 = i by omega]
  · exact ⟨_, part_at (by kernel_rfl) (show 61 < 62 by omega), self_int (d := 9998) (k' := .u8) (by kernel_rfl)⟩
theorem num_self (N : Nat → Int) (w : World) : (Op.equalIn 10000 75 (.agg (cellsF 10 (fun k => .int .i64 (N k)))) (.agg (cellsF 10 (fun k => .int .i64 (N k))))).run Tryz.prog w = .ok true w :=
  self_ints (d := 9998) Tryz.underlying75 (by kernel_rfl) (by kernel_rfl) (by kernel_rfl) Tryz.underlying2 (fun i _ => ⟨N i, rfl⟩) w
theorem wrd_self (N : Nat → Int) (w : World) : (Op.equalIn 10000 41 (.agg (cellsF 12 (fun k => .int .i64 (N k)))) (.agg (cellsF 12 (fun k => .int .i64 (N k))))).run Tryz.prog w = .ok true w :=
  self_ints (d := 9998) Tryz.underlying41 (by kernel_rfl) (by kernel_rfl) (by kernel_rfl) Tryz.underlying3 (fun i _ => ⟨N i, rfl⟩) w
end Go.Proofs.YtigjjddblijpbaaGreatDoor
namespace Go.Proofs.YtigjjddblijpbaaGreatDoor
open Go Go.RowKit
set_option linter.unusedSimpArgs false
set_option linter.unusedVariables false

/-- The same in a region that keeps its order, behind a guard that says yes. -/
theorem wplw_loadF {P : Program} {ops : Array Oper} {rest : List Oper} {op : Oper} {a : Act} {w : World} {Q : Exit → Act → World → Prop} (hg : Region.wanted op (yielded ops a.tmps) = true) (ty : TypeId) (x : Operand) (ho : op.op = .load ty x)
    {b n : Nat} {f : Nat → Value} {T : TypeId} (t : Blk w b (cellsF n f) T) (o m : Nat) (h : o + m ≤ n) (d : TypeDesc) (hu : P.underlying ty = some d) (hd : d.isRow = true) (hi : (P.info? ty).map (·.size) = some m)
    (hx : a.eval x = .pointer (some ⟨b, o, none⟩)) (hk : wpList P ops Q rest (a.put op.dst (.agg (cellsF m (fun k => f (o + k))))) w) : wpList P ops Q (op :: rest) a w :=
  BigFrame.wpList_want hg fun _ hK => wp_loadF ty x ho t o m h d hu hd hi hx (hK _ _ hk)
theorem wplw_loadA {P : Program} {ops : Array Oper} {rest : List Oper} {op : Oper} {a : Act} {w : World} {Q : Exit → Act → World → Prop} (hg : Region.wanted op (yielded ops a.tmps) = true) (ty : TypeId) (x : Operand) (ho : op.op = .load ty x)
    {b n : Nat} {f : Nat → Value} {T : TypeId} (t : Blk w b (cellsF n f) T) (d : TypeDesc) (hu : P.underlying ty = some d) (hd : d.isRow = true) (hi : (P.info? ty).map (·.size) = some n)
    (hx : a.eval x = .pointer (some ⟨b, 0, none⟩)) (hk : wpList P ops Q rest (a.put op.dst (.agg (cellsF n f))) w) : wpList P ops Q (op :: rest) a w :=
  BigFrame.wpList_want hg fun _ hK => wp_loadA ty x ho t d hu hd hi hx (hK _ _ hk)
theorem wplw_buildV {P : Program} {ops : Array Oper} {rest : List Oper} {op : Oper} {a : Act} {w : World} {Q : Exit → Act → World → Prop} (hg : Region.wanted op (yielded ops a.tmps) = true) (ty : TypeId) (parts : Array (Nat × Operand)) (ho : op.op = .build ty parts)
    (q : Array (Nat × Value)) (v : Value) (hp : parts.map (fun (i, x) => (i, a.eval x)) = q) (hr : ∀ w, (Instr.build ty q).run P w = .ok v w) (hk : wpList P ops Q rest (a.put op.dst v) w) : wpList P ops Q (op :: rest) a w :=
  BigFrame.wpList_want hg fun _ hK => wp_buildV ty parts ho q v hp hr (hK _ _ hk)
end Go.Proofs.YtigjjddblijpbaaGreatDoor
namespace Go.Proofs.YtigjjddblijpbaaGreatDoor
open Go Go.RowKit
set_option linter.unusedSimpArgs false
set_option linter.unusedVariables false

def wldT (R : World → Prop) (hR : ∀ w w', R w → Below w.heap.size w w' → R w') : Cl := .own (fun _ w => R w) (fun _ _ _ h hb => hR _ _ h hb)
/-- Each claim but those behind lasts from one world to another. -/
def KeepT (os : Array Oper) (n i : Nat) (vs : Nat → Value) (w w' : World) : List Cl → Nat → Prop
  | [], _ => True
  | c :: cs, k => (k = i ∨ anc os n k i = true ∨ (c.holds k vs w → c.holds k vs w')) ∧ KeepT os n i vs w w' cs (k + 1)
theorem keep_t {os : Array Oper} {n i : Nat} {vs : Nat → Value} {w w' : World} : ∀ {cls : List Cl} {k : Nat}, KeepT os n i vs w w' cls k → ∀ j, k + j ≠ i → anc os n (k + j) i = false → (cls.getD j .any).holds (k + j) vs w → (cls.getD j .any).holds (k + j) vs w'
  | [], _, _, j, _, _, h => by simp [Cl.holds]
  | c :: cs, k, hk, j, hj, ha, h => by
    cases j with
    | zero =>
      rcases hk.1 with h1 | h1 | h1
      · exact absurd h1 hj
      · rw [Nat.add_zero] at ha; rw [h1] at ha; cases ha
      · exact h1 h
    | succ j =>
      have := keep_t (cls := cs) (k := k + 1) hk.2 j (by omega) (by rw [show k + 1 + j = k + (j + 1) by omega]; exact ha)
      rw [show k + 1 + j = k + (j + 1) by omega] at this
      exact this h
theorem claims_keep_t {os : Array Oper} {n i : Nat} {vs : Nat → Value} {w w' : World} {cls : List Cl} (h : KeepT os n i vs w w' cls 0) : ∀ j, j ≠ i → anc os n j i = false → claim cls j vs w → claim cls j vs w' := fun j hj ha hc => by
  have := keep_t h j (by omega)
  rw [Nat.zero_add] at this
  exact this ha hc
def bnd (n : Int) : Int := min (max n (-1073741824)) 1073741824
theorem bnd_at (n : Int) : -1073741824 ≤ bnd n ∧ bnd n ≤ 1073741824 := by unfold bnd; omega
theorem bnd_bnd (n : Int) : bnd (bnd n) = bnd n := by unfold bnd; omega
/-- A rectangle. -/
structure Rc where
  a : Int
  b : Int
  c : Int
  d : Int
def Rc.v (r : Rc) : Value := .agg #[.int .i64 r.a, .int .i64 r.b, .int .i64 r.c, .int .i64 r.d]
def rc0 : Rc := ⟨0, 0, 0, 0⟩
def Rc.right (r : Rc) : Rc := if bnd r.c ≤ bnd r.a ∨ bnd r.d ≤ bnd r.b then rc0 else ⟨bnd r.a, bnd r.b, bnd r.c, bnd r.d⟩
structure Rc.Fit (r : Rc) : Prop where
  a : IFit r.a
  b : IFit r.b
  c : IFit r.c
  d : IFit r.d
theorem Rc.right_in (r : Rc) : (-1073741824 ≤ r.right.a ∧ r.right.a ≤ 1073741824) ∧ (-1073741824 ≤ r.right.b ∧ r.right.b ≤ 1073741824) ∧ (-1073741824 ≤ r.right.c ∧ r.right.c ≤ 1073741824) ∧ (-1073741824 ≤ r.right.d ∧ r.right.d ≤ 1073741824) := by
  have h1 := bnd_at r.a
  have h2 := bnd_at r.b
  have h3 := bnd_at r.c
  have h4 := bnd_at r.d
  unfold Rc.right
  split
  · unfold rc0; dsimp only; omega
  · exact ⟨h1, h2, h3, h4⟩
theorem Rc.right_fit (r : Rc) : r.right.Fit := by
  have := r.right_in
  exact ⟨by unfold IFit; omega, by unfold IFit; omega, by unfold IFit; omega, by unfold IFit; omega⟩
set_option maxRecDepth 100000 in
set_option maxHeartbeats 1600000 in
theorem rec_bound (n : Int) (w : World) : Calls Tryz.prog 117 #[.int .i64 n] w fun e w' => e = .returned (.int .i64 (bnd n)) ∧ w' = w := by
  have e : min (max n (-1073741824)) 1073741824 = bnd n := rfl
  go_enter Tryz.func117, Tryz.ntmps117
  go_wp2_with fail
  go_ret
  exact ⟨rfl, rfl⟩
/-- The whole of a block is loaded. -/
theorem load_blk {P : Program} {w : World} {b n : Nat} {cs : Array Value} {T : TypeId} (t : Blk w b cs T) (hs : cs.size = n) (ty : TypeId) (d : TypeDesc) (hu : P.underlying ty = some d) (hd : d.isRow = true) (hi : (P.info? ty).map (·.size) = some n) :
    (loadVar ty ⟨b, 0, none⟩).run P w = .ok (.agg cs) w := by
  have h := load_allF (t.asF hs) ty d hu hd hi
  rwa [← eq_cellsF hs (fun i hi => by rw [Array.getD_eq_getD_getElem?, Array.getElem?_eq_getElem (by omega)]; rfl)] at h
/-- What Right's world bears. -/
structure RtW (w : World) (r : Rc) (W : World) : Prop where
  box : Blk W w.heap.size #[.int .i64 r.a, .int .i64 r.b, .int .i64 r.c, .int .i64 r.d] 57
  out : Blk W (w.heap.size + 1) #[.int .i64 0, .int .i64 0, .int .i64 0, .int .i64 0] 57
  bel : Below w.heap.size w W
theorem RtW.below {w W W' : World} {r : Rc} (h : RtW w r W) (hb : Below W.heap.size W W') : RtW w r W' := ⟨h.box.below hb, h.out.below hb, h.bel.trans (hb.mono h.bel.size)⟩
theorem RtW.drew {w W : World} {r : Rc} (h : RtW w r W) : RtW w r W.drew := ⟨h.box.drew, h.out.drew, h.bel.drew⟩
theorem But.set4 {b : Nat} (W : World) (u0 u1 u2 u3 : Value) : But b W ((((W.setCell ⟨b, 0, none⟩ u0).setCell ⟨b, 0 + 1, none⟩ u1).setCell ⟨b, 0 + 2, none⟩ u2).setCell ⟨b, 0 + 3, none⟩ u3) := (((But.set _ _ _).trans (But.set _ _ _)).trans (But.set _ _ _)).trans (But.set _ _ _)
set_option maxRecDepth 100000 in
set_option maxHeartbeats 1600000 in
theorem rec_right (r : Rc) (w : World) : Calls Tryz.prog 67 #[r.v] w fun e w' => e = .returned r.right.v ∧ Below w.heap.size w w' := by
  obtain ⟨a, b, c, d⟩ := r
  have B1 := rec_bound a
  have B2 := rec_bound b
  have B3 := rec_bound c
  have B4 := rec_bound d
  unfold Rc.right Rc.v
  dsimp only
  obtain ⟨A, eA⟩ : ∃ x, bnd a = x := ⟨_, rfl⟩
  obtain ⟨C, eC⟩ : ∃ x, bnd b = x := ⟨_, rfl⟩
  obtain ⟨D, eD⟩ : ∃ x, bnd c = x := ⟨_, rfl⟩
  obtain ⟨E, eE⟩ : ∃ x, bnd d = x := ⟨_, rfl⟩
  rw [eA] at B1 ⊢
  rw [eC] at B2 ⊢
  rw [eD] at B3 ⊢
  rw [eE] at B4 ⊢
  clear eA eC eD eE
  obtain ⟨Q, eQ⟩ : ∃ Q : Ending → World → Prop, Q = fun e w' => e = .returned (Value.agg #[.int .i64 ((if D ≤ A ∨ E ≤ C then rc0 else ⟨A, C, D, E⟩ : Rc).a), .int .i64 ((if D ≤ A ∨ E ≤ C then rc0 else ⟨A, C, D, E⟩ : Rc).b), .int .i64 ((if D ≤ A ∨ E ≤ C then rc0 else ⟨A, C, D, E⟩ : Rc).c), .int .i64 ((if D ≤ A ∨ E ≤ C then rc0 else ⟨A, C, D, E⟩ : Rc).d)]) ∧ Below w.heap.size w w' := ⟨_, rfl⟩
  rw [← eQ]
  have EQ := Lib.hid eQ
  clear eQ
  go_enter Tryz.func67, Tryz.ntmps67
  go_upto_region 1 with fail
  refine wp_worldT (RtW w ⟨a, b, c, d⟩) ⟨(Blk.new _ _ _ _ rfl).alloc _, Blk.new _ _ _ _ (by simp), (by repeat' (first | (with_reducible exact Below.refl _ _) | (with_reducible assumption) | (with_reducible refine below_alloc ?_ _ ?_) | (with_reducible refine below_set _ ?_ ?_) | (with_reducible refine Below.drew ?_) | (with_reducible refine below_dN ?_ _) | (apply below_thenA; assumption) | omega | (simp; done) | (simp; omega) | (simp [*]; done)))⟩ ?_
  intro W1 hS
  go_upto_region 1 with (fail)
  rename_i K1 hK1
  refine wp_region_calm (fun w' => ∃ r, RtW w r w') [13] (fun w' => RtW w ⟨a, b, c, d⟩ w') [Is (.pointer (some ⟨w.heap.size, 0, none⟩)), Is (.int .i64 a), Is (.int .i64 A), Is (.pointer (some ⟨w.heap.size, 1, none⟩)), Is (.int .i64 b), Is (.int .i64 C), Is (.pointer (some ⟨w.heap.size, 2, none⟩)), Is (.int .i64 c), Is (.int .i64 D), Is (.pointer (some ⟨w.heap.size, 3, none⟩)), Is (.int .i64 d), Is (.int .i64 E), Is (.agg #[.int .i64 A, .int .i64 C, .int .i64 D, .int .i64 E]), wldT (fun w' => RtW w ⟨A, C, D, E⟩ w') (fun _ _ h hb => h.below hb)] [] (by kernel_rfl) (by kernel_rfl) (by kernel_rfl) (by kernel_rfl) ⟨_, hS.drew⟩ hS.drew ?_ ?_ ?_ ?_ ?_
  · rintro W W' hC hb
    exact hC.imp fun r h => h.below hb
  · intro W W' hB h0 hb; exact h0.below hb
  · intro k vs W hk h
    exact absurd hk (by simp)
  · intro Q; clear hK1 hS
    refine ⟨?_, ?_, ?_, ?_, ?_, ?_, ?_, ?_, ?_, ?_, ?_, ?_, ?_, ?_, trivial⟩
    · intro vs W hW hW0 hd hne hold K hK hA hL; clear hne hA hL; have hC := hW; simp only [puts, Act.put, List.setIfInBounds_toArray, List.set_cons_zero, List.set_cons_succ, Nat.zero_add, Nat.reduceAdd] at hK ⊢; clear hd hold; go_simp; exact hK.out rfl _ _ (Below.refl _ _) rfl
    · intro vs W hW hW0 hd hne hold K hK hA hL; clear hne hA hL; have hC := hW; simp only [puts, Act.put, List.setIfInBounds_toArray, List.set_cons_zero, List.set_cons_succ, Nat.zero_add, Nat.reduceAdd] at hK ⊢; have ea : vs 0 = _ := hd 0 (by kernel_rfl); have h0 := hW0 (by kernel_rfl); have q1 := h0.box.cell 0 _ rfl; clear hd hold h0; simp only [ea] at hK; go_simp; exact hK.out rfl _ _ (Below.refl _ _) rfl
    · intro vs W hW hW0 hd hne hold K hK hA hL; clear hne hA hL; have hC := hW; simp only [puts, Act.put, List.setIfInBounds_toArray, List.set_cons_zero, List.set_cons_succ, Nat.zero_add, Nat.reduceAdd] at hK ⊢; have ea : vs 1 = _ := hd 1 (by kernel_rfl); clear hd hold; simp only [ea] at hK; go_simp; refine (B1 W).mono ?_; (rintro e wx ⟨rfl, rfl⟩); go_simp; exact hK.out rfl _ _ (Below.refl _ _) rfl
    · intro vs W hW hW0 hd hne hold K hK hA hL; clear hne hA hL; have hC := hW; simp only [puts, Act.put, List.setIfInBounds_toArray, List.set_cons_zero, List.set_cons_succ, Nat.zero_add, Nat.reduceAdd] at hK ⊢; clear hd hold; go_simp; exact hK.out rfl _ _ (Below.refl _ _) rfl
    · intro vs W hW hW0 hd hne hold K hK hA hL; clear hne hA hL; have hC := hW; simp only [puts, Act.put, List.setIfInBounds_toArray, List.set_cons_zero, List.set_cons_succ, Nat.zero_add, Nat.reduceAdd] at hK ⊢; have ea : vs 3 = _ := hd 3 (by kernel_rfl); have h0 := hW0 (by kernel_rfl); have q1 := h0.box.cell 1 _ rfl; clear hd hold h0; simp only [ea] at hK; go_simp; exact hK.out rfl _ _ (Below.refl _ _) rfl
    · intro vs W hW hW0 hd hne hold K hK hA hL; clear hne hA hL; have hC := hW; simp only [puts, Act.put, List.setIfInBounds_toArray, List.set_cons_zero, List.set_cons_succ, Nat.zero_add, Nat.reduceAdd] at hK ⊢; have ea : vs 4 = _ := hd 4 (by kernel_rfl); clear hd hold; simp only [ea] at hK; go_simp; refine (B2 W).mono ?_; (rintro e wx ⟨rfl, rfl⟩); go_simp; exact hK.out rfl _ _ (Below.refl _ _) rfl
    · intro vs W hW hW0 hd hne hold K hK hA hL; clear hne hA hL; have hC := hW; simp only [puts, Act.put, List.setIfInBounds_toArray, List.set_cons_zero, List.set_cons_succ, Nat.zero_add, Nat.reduceAdd] at hK ⊢; clear hd hold; go_simp; exact hK.out rfl _ _ (Below.refl _ _) rfl
    · intro vs W hW hW0 hd hne hold K hK hA hL; clear hne hA hL; have hC := hW; simp only [puts, Act.put, List.setIfInBounds_toArray, List.set_cons_zero, List.set_cons_succ, Nat.zero_add, Nat.reduceAdd] at hK ⊢; have ea : vs 6 = _ := hd 6 (by kernel_rfl); have h0 := hW0 (by kernel_rfl); have q1 := h0.box.cell 2 _ rfl; clear hd hold h0; simp only [ea] at hK; go_simp; exact hK.out rfl _ _ (Below.refl _ _) rfl
    · intro vs W hW hW0 hd hne hold K hK hA hL; clear hne hA hL; have hC := hW; simp only [puts, Act.put, List.setIfInBounds_toArray, List.set_cons_zero, List.set_cons_succ, Nat.zero_add, Nat.reduceAdd] at hK ⊢; have ea : vs 7 = _ := hd 7 (by kernel_rfl); clear hd hold; simp only [ea] at hK; go_simp; refine (B3 W).mono ?_; (rintro e wx ⟨rfl, rfl⟩); go_simp; exact hK.out rfl _ _ (Below.refl _ _) rfl
    · intro vs W hW hW0 hd hne hold K hK hA hL; clear hne hA hL; have hC := hW; simp only [puts, Act.put, List.setIfInBounds_toArray, List.set_cons_zero, List.set_cons_succ, Nat.zero_add, Nat.reduceAdd] at hK ⊢; clear hd hold; go_simp; exact hK.out rfl _ _ (Below.refl _ _) rfl
    · intro vs W hW hW0 hd hne hold K hK hA hL; clear hne hA hL; have hC := hW; simp only [puts, Act.put, List.setIfInBounds_toArray, List.set_cons_zero, List.set_cons_succ, Nat.zero_add, Nat.reduceAdd] at hK ⊢; have ea : vs 9 = _ := hd 9 (by kernel_rfl); have h0 := hW0 (by kernel_rfl); have q1 := h0.box.cell 3 _ rfl; clear hd hold h0; simp only [ea] at hK; go_simp; exact hK.out rfl _ _ (Below.refl _ _) rfl
    · intro vs W hW hW0 hd hne hold K hK hA hL; clear hne hA hL; have hC := hW; simp only [puts, Act.put, List.setIfInBounds_toArray, List.set_cons_zero, List.set_cons_succ, Nat.zero_add, Nat.reduceAdd] at hK ⊢; have ea : vs 10 = _ := hd 10 (by kernel_rfl); clear hd hold; simp only [ea] at hK; go_simp; refine (B4 W).mono ?_; (rintro e wx ⟨rfl, rfl⟩); go_simp; exact hK.out rfl _ _ (Below.refl _ _) rfl
    · intro vs W hW hW0 hd hne hold K hK hA hL; clear hne hA hL; have hC := hW; simp only [puts, Act.put, List.setIfInBounds_toArray, List.set_cons_zero, List.set_cons_succ, Nat.zero_add, Nat.reduceAdd] at hK ⊢; have e2 : vs 2 = _ := hd 2 (by kernel_rfl); have e5 : vs 5 = _ := hd 5 (by kernel_rfl); have e8 : vs 8 = _ := hd 8 (by kernel_rfl); have e11 : vs 11 = _ := hd 11 (by kernel_rfl); clear hd hold; simp only [e2, e5, e8, e11] at hK; go_simp; exact hK.out rfl _ _ (Below.refl _ _) rfl
    · intro vs W hW hW0 hd hne hold K hK hA hL; clear hK hA; have hC := hW; simp only [puts, Act.put, List.setIfInBounds_toArray, List.set_cons_zero, List.set_cons_succ, Nat.zero_add, Nat.reduceAdd] at hL ⊢; have ea : vs 12 = _ := hd 12 (by kernel_rfl); have h0 := hW0 (by kernel_rfl); have q1 := h0.box.cell 0 _ rfl; have q2 := h0.box.cell 1 _ rfl; have q3 := h0.box.cell 2 _ rfl; have q4 := h0.box.cell 3 _ rfl; have z1 := h0.box.free 0; have z2 := h0.box.free 1; have z3 := h0.box.free 2; have z4 := h0.box.free 3; have tb : Blk _ w.heap.size #[.int .i64 A, .int .i64 C, .int .i64 D, .int .i64 E] 57 := (((h0.box.set 0 (.int .i64 A)).set 1 (.int .i64 C)).set 2 (.int .i64 D)).set 3 (.int .i64 E); have hbt := (((But.set (b := w.heap.size) W 0 (.int .i64 A)).trans (But.set _ 1 (.int .i64 C))).trans (But.set _ 2 (.int .i64 D))).trans (But.set _ 3 (.int .i64 E)); have hN : RtW w ⟨A, C, D, E⟩ _ := ⟨tb, h0.out.but hbt (by omega), hbt.to h0.bel (Nat.le_refl _) h0.bel.size⟩; clear hd hold h0; simp only [ea] at hL; go_simp; refine hL.out rfl undef _ ⟨_, hN⟩ (fun h => by simp at h) hN ?_; exact claims_keep ⟨.inr is_keep, .inr is_keep, .inr is_keep, .inr is_keep, .inr is_keep, .inr is_keep, .inr is_keep, .inr is_keep, .inr is_keep, .inr is_keep, .inr is_keep, .inr is_keep, .inr is_keep, .inl rfl, trivial⟩
  · intro va WB hW hV _
    have hN : RtW w ⟨A, C, D, E⟩ WB := hV 13 (by decide)
    clear hV hW
    simp only [puts, Act.put, List.setIfInBounds_toArray, List.set_cons_zero, List.set_cons_succ, Nat.zero_add, Nat.reduceAdd]
    refine hK1 _ _ ?_
    have q1 := hN.box.cell 0 _ rfl
    have q2 := hN.box.cell 1 _ rfl
    have q3 := hN.box.cell 2 _ rfl
    have q4 := hN.box.cell 3 _ rfl
    have p1 := hN.out.cell 0 _ rfl
    have p2 := hN.out.cell 1 _ rfl
    have p3 := hN.out.cell 2 _ rfl
    have p4 := hN.out.cell 3 _ rfl
    have z1 := hN.out.free 0
    have z2 := hN.out.free 1
    have z3 := hN.out.free 2
    have z4 := hN.out.free 3
    have HN := Lib.hid hN
    clear hN B1 B2 B3 B4
    have hfin : ∀ W' u, (But (w.heap.size + 1) WB W') → u = Value.agg #[.int .i64 ((if D ≤ A ∨ E ≤ C then rc0 else ⟨A, C, D, E⟩ : Rc).a), .int .i64 ((if D ≤ A ∨ E ≤ C then rc0 else ⟨A, C, D, E⟩ : Rc).b), .int .i64 ((if D ≤ A ∨ E ≤ C then rc0 else ⟨A, C, D, E⟩ : Rc).c), .int .i64 ((if D ≤ A ∨ E ≤ C then rc0 else ⟨A, C, D, E⟩ : Rc).d)] → Q (.returned u) W' := by
      intro W' u hb hu
      rw [EQ.out]
      exact ⟨by rw [hu], hb.to HN.out.bel (by omega) HN.out.bel.size⟩
    have HFIN := Lib.hid hfin
    clear hfin
    by_cases h1 : D ≤ A
    · have g1 : decide (D ≤ A) = true := by simpa using h1
      rw [if_pos (.inl h1)] at HFIN
      clear h1
      go_wp2_with fail
      refine bodyPost_ret (results_c1 (by rfl) (by rfl) (load_blk ((((HN.out.out.set 0 (.int .i64 0)).set 1 (.int .i64 0)).set 2 (.int .i64 0)).set 3 (.int .i64 0)) (n := 4) rfl 57 _ Tryz.underlying57 rfl (by kernel_rfl))) (by rfl) ?_
      exact HFIN _ _ ((((But.set _ _ _).trans (But.set _ _ _)).trans (But.set _ _ _)).trans (But.set _ _ _)) rfl
    · have g1 : decide (D ≤ A) = false := by simpa using h1
      by_cases h2 : E ≤ C
      · have g2 : decide (E ≤ C) = true := by simpa using h2
        rw [if_pos (.inr h2)] at HFIN
        clear h1 h2
        go_wp2_with fail
        refine bodyPost_ret (results_c1 (by rfl) (by rfl) (load_blk ((((HN.out.out.set 0 (.int .i64 0)).set 1 (.int .i64 0)).set 2 (.int .i64 0)).set 3 (.int .i64 0)) (n := 4) rfl 57 _ Tryz.underlying57 rfl (by kernel_rfl))) (by rfl) ?_
        exact HFIN _ _ ((((But.set _ _ _).trans (But.set _ _ _)).trans (But.set _ _ _)).trans (But.set _ _ _)) rfl
      · have g2 : decide (E ≤ C) = false := by simpa using h2
        rw [if_neg (by rintro (h | h); exact h1 h; exact h2 h)] at HFIN
        clear h1 h2
        go_wp2_with fail
        refine bodyPost_ret (results_c1 (by rfl) (by rfl) (load_blk ((((HN.out.out.set 0 (.int .i64 A)).set 1 (.int .i64 C)).set 2 (.int .i64 D)).set 3 (.int .i64 E)) (n := 4) rfl 57 _ Tryz.underlying57 rfl (by kernel_rfl))) (by rfl) ?_
        exact HFIN _ _ ((((But.set _ _ _).trans (But.set _ _ _)).trans (But.set _ _ _)).trans (But.set _ _ _)) rfl
end Go.Proofs.YtigjjddblijpbaaGreatDoor
namespace Go.Proofs.YtigjjddblijpbaaGreatDoor
open Go Go.RowKit
set_option linter.unusedSimpArgs false
set_option linter.unusedVariables false

set_option maxRecDepth 100000 in
set_option maxHeartbeats 1600000 in
theorem rec_new (a b c d : Int) (w : World) : Calls Tryz.prog 34 #[.int .i64 a, .int .i64 b, .int .i64 c, .int .i64 d] w fun e w' => e = .returned (Rc.right ⟨a, b, c, d⟩).v ∧ Below w.heap.size w w' := by
  have RT := rec_right ⟨a, b, c, d⟩
  obtain ⟨⟨A, C, D, E⟩, eR⟩ : ∃ R, Rc.right ⟨a, b, c, d⟩ = R := ⟨_, rfl⟩
  rw [eR] at RT ⊢
  unfold Rc.v at RT ⊢
  dsimp only at RT ⊢
  clear eR
  go_enter Tryz.func34, Tryz.ntmps34
  go_upto_region 1 with fail
  refine wp_worldT (fun W => Blk W w.heap.size #[.int .i64 0, .int .i64 0, .int .i64 0, .int .i64 0] 57 ∧ Below w.heap.size w W) ⟨Blk.new _ _ _ _ rfl, (by repeat' (first | (with_reducible exact Below.refl _ _) | (with_reducible assumption) | (with_reducible refine below_alloc ?_ _ ?_) | (with_reducible refine below_set _ ?_ ?_) | (with_reducible refine Below.drew ?_) | (with_reducible refine below_dN ?_ _) | (apply below_thenA; assumption) | omega | (simp; done) | (simp; omega) | (simp [*]; done)))⟩ ?_
  rintro W1 ⟨t, hB⟩
  have HT := Lib.hid (And.intro t hB)
  clear t hB
  go_wp2_with (go_at_call 67; with_reducible refine (RT _).mono ?_; rintro e w2 ⟨rfl, hb2⟩; have t2 := HT.out.1.below hb2; have q1 := t2.cell 0 _ rfl; have q2 := t2.cell 1 _ rfl; have q3 := t2.cell 2 _ rfl; have q4 := t2.cell 3 _ rfl; have z1 := t2.free 0; have z2 := t2.free 1; have z3 := t2.free 2; have z4 := t2.free 3; have T2 := Lib.hid t2; clear t2)
  refine bodyPost_ret (results_c1 (by rfl) (by rfl) (load_blk ((((T2.out.set 0 (.int .i64 A)).set 1 (.int .i64 C)).set 2 (.int .i64 D)).set 3 (.int .i64 E)) (n := 4) rfl 57 _ Tryz.underlying57 rfl (by kernel_rfl))) (by rfl) ?_
  exact ⟨rfl, ((((But.set _ _ _).trans (But.set _ _ _)).trans (But.set _ _ _)).trans (But.set _ _ _)).to (HT.out.2.trans (hb2.mono HT.out.2.size)) (Nat.le_refl _) (by have := HT.out.2.size; have := hb2.size; omega)⟩
/-- Is it empty? -/
def Rc.emp (r : Rc) : Bool := decide (bnd r.c ≤ bnd r.a ∨ bnd r.d ≤ bnd r.b)
theorem Rc.emp_yes {r : Rc} (h : r.emp = true) : r.right = rc0 := by
  unfold Rc.emp at h
  unfold Rc.right
  rw [if_pos (by simpa using h)]
theorem Rc.emp_no {r : Rc} (h : r.emp = false) : r.right = ⟨bnd r.a, bnd r.b, bnd r.c, bnd r.d⟩ ∧ bnd r.a < bnd r.c ∧ bnd r.b < bnd r.d := by
  unfold Rc.emp at h
  have h' : ¬ (bnd r.c ≤ bnd r.a ∨ bnd r.d ≤ bnd r.b) := by simpa using h
  unfold Rc.right
  rw [if_neg h']
  exact ⟨rfl, by omega, by omega⟩
theorem rec_eql (a b c d : Int) (w : World) : (Op.equalIn 10000 57 (.agg #[.int .i64 a, .int .i64 b, .int .i64 c, .int .i64 d]) (.agg #[.int .i64 0, .int .i64 0, .int .i64 0, .int .i64 0])).run Tryz.prog w = .ok (decide (a = 0) && (decide (b = 0) && (decide (c = 0) && decide (d = 0)))) w := by
  rw [run_equalIn_struct w 9999 _ _ _ (by kernel_rfl) (by kernel_rfl)]
  have e : Tryz.prog.fieldsOf 57 = _ := (by unfold Program.fieldsOf; rw [Tryz.underlying57])
  rw [e]
  have I := fun (x : Int) (w : World) => run_equalIn_int (P := Tryz.prog) w 9998 3 .i64 .i64 x 0 Tryz.underlying3
  have P0 : ∀ w, (part 3 #[.int .i64 a, .int .i64 b, .int .i64 c, .int .i64 d] 0).run Tryz.prog w = .ok (.int .i64 a) w := fun w => run_part_plain w (by kernel_rfl) rfl
  have P1 : ∀ w, (part 3 #[.int .i64 a, .int .i64 b, .int .i64 c, .int .i64 d] 1).run Tryz.prog w = .ok (.int .i64 b) w := fun w => run_part_plain w (by kernel_rfl) rfl
  have P2 : ∀ w, (part 3 #[.int .i64 a, .int .i64 b, .int .i64 c, .int .i64 d] 2).run Tryz.prog w = .ok (.int .i64 c) w := fun w => run_part_plain w (by kernel_rfl) rfl
  have P3 : ∀ w, (part 3 #[.int .i64 a, .int .i64 b, .int .i64 c, .int .i64 d] 3).run Tryz.prog w = .ok (.int .i64 d) w := fun w => run_part_plain w (by kernel_rfl) rfl
  have Z : ∀ (i : Nat) w, i < 4 → (part 3 #[.int .i64 0, .int .i64 0, .int .i64 0, .int .i64 0] i).run Tryz.prog w = .ok (.int .i64 0) w := fun i w hi => run_part_plain w (by kernel_rfl) (by
    match i, hi with
    | 0, _ => rfl
    | 1, _ => rfl
    | 2, _ => rfl
    | 3, _ => rfl)
  have Z0 := fun w => Z 0 w (by omega)
  have Z1 := fun w => Z 1 w (by omega)
  have Z2 := fun w => Z 2 w (by omega)
  have Z3 := fun w => Z 3 w (by omega)
  simp only [Op.eqFields, ne_eq, Sem.run_bind, P0, P1, P2, P3, Z0, Z1, Z2, Z3, I, Result.andThen_ok, Sem.run_ite, Sem.run_pure]
  by_cases ha : a = 0 <;> by_cases hb : b = 0 <;> by_cases hc : c = 0 <;> by_cases hd : d = 0 <;> simp [ha, hb, hc, hd]
set_option maxRecDepth 100000 in
set_option maxHeartbeats 1600000 in
theorem rec_empty (r : Rc) (w : World) : Calls Tryz.prog 74 #[r.v] w fun e w' => e = .returned (.bool r.emp) ∧ Below w.heap.size w w' := by
  have RT := rec_right r
  have hq : (decide (r.right.a = 0) && (decide (r.right.b = 0) && (decide (r.right.c = 0) && decide (r.right.d = 0)))) = r.emp := by
    cases h : r.emp
    · obtain ⟨h1, h2, h3⟩ := Rc.emp_no h
      rw [h1]
      by_cases ha : bnd r.a = 0
      · have hc : ¬ bnd r.c = 0 := by omega
        simp [ha, hc]
      · simp [ha]
    · rw [Rc.emp_yes h]
      rfl
  obtain ⟨⟨A, C, D, E⟩, eR⟩ : ∃ R, r.right = R := ⟨_, rfl⟩
  have EQ := rec_eql A C D E
  rw [eR] at RT hq
  dsimp only at hq
  rw [hq] at EQ
  obtain ⟨B, eB⟩ : ∃ B, r.emp = B := ⟨_, rfl⟩
  rw [eB] at EQ ⊢
  unfold Rc.v at RT ⊢
  dsimp only at RT
  clear eR hq eB
  go_enter Tryz.func74, Tryz.ntmps74
  go_wp2_with (go_at_call 67; with_reducible refine (RT _).mono ?_; rintro e w2 ⟨rfl, hb2⟩)
  go_ret
  exact ⟨rfl, (show Below w.heap.size w (w.alloc _) from (by repeat' (first | (with_reducible exact Below.refl _ _) | (with_reducible assumption) | (with_reducible refine below_alloc ?_ _ ?_) | (with_reducible refine below_set _ ?_ ?_) | (with_reducible refine Below.drew ?_) | (with_reducible refine below_dN ?_ _) | (apply below_thenA; assumption) | omega | (simp; done) | (simp; omega) | (simp [*]; done)))).trans (hb2.mono (by simp))⟩
set_option maxRecDepth 100000 in
set_option maxHeartbeats 1600000 in
theorem rec_w (r : Rc) (w : World) : Calls Tryz.prog 82 #[r.v] w fun e w' => e = .returned (.int .i64 (r.right.c - r.right.a)) ∧ Below w.heap.size w w' := by
  have RT := rec_right r
  have hin := r.right_in
  obtain ⟨⟨A, C, D, E⟩, eR⟩ : ∃ R, r.right = R := ⟨_, rfl⟩
  rw [eR] at RT hin ⊢
  unfold Rc.v at RT ⊢
  dsimp only at RT hin ⊢
  obtain ⟨h1, h2, h3, h4⟩ := hin
  clear eR
  go_enter Tryz.func82, Tryz.ntmps82
  go_upto_region 1 with fail
  refine wp_worldT (fun W => Blk W w.heap.size #[.int .i64 r.a, .int .i64 r.b, .int .i64 r.c, .int .i64 r.d] 57 ∧ Below w.heap.size w W) ⟨Blk.new _ _ _ _ rfl, (by repeat' (first | (with_reducible exact Below.refl _ _) | (with_reducible assumption) | (with_reducible refine below_alloc ?_ _ ?_) | (with_reducible refine below_set _ ?_ ?_) | (with_reducible refine Below.drew ?_) | (with_reducible refine below_dN ?_ _) | (apply below_thenA; assumption) | omega | (simp; done) | (simp; omega) | (simp [*]; done)))⟩ ?_
  rintro W1 ⟨t, hB⟩
  have q1 := t.cell 0 _ rfl
  have q2 := t.cell 1 _ rfl
  have q3 := t.cell 2 _ rfl
  have q4 := t.cell 3 _ rfl
  have HT := Lib.hid (And.intro t hB)
  clear t hB
  go_upto_region 2 with (go_at_call 67; with_reducible refine (RT _).mono ?_; rintro e w2 ⟨rfl, hb2⟩; have t2 := HT.out.1.below hb2; have q1 := t2.cell 0 _ rfl; have q2 := t2.cell 1 _ rfl; have q3 := t2.cell 2 _ rfl; have q4 := t2.cell 3 _ rfl; have z1 := t2.free 0; have z2 := t2.free 1; have z3 := t2.free 2; have z4 := t2.free 3; have T2 := Lib.hid t2; clear t2)
  refine wp_worldT (fun W => Blk W w.heap.size #[.int .i64 A, .int .i64 C, .int .i64 D, .int .i64 E] 57 ∧ Below w.heap.size w W) ⟨(((T2.out.set 0 (.int .i64 A)).set 1 (.int .i64 C)).set 2 (.int .i64 D)).set 3 (.int .i64 E), ((((But.set _ _ _).trans (But.set _ _ _)).trans (But.set _ _ _)).trans (But.set _ _ _)).to (HT.out.2.trans (hb2.mono HT.out.2.size)) (Nat.le_refl _) (by have := HT.out.2.size; have := hb2.size; omega)⟩ ?_
  rintro W3 ⟨t3, hB3⟩
  have p1 := t3.cell 2 _ rfl
  have p2 := t3.cell 0 _ rfl
  have HB3 := Lib.hid hB3
  clear q1 q2 q3 q4 z1 z2 z3 z4 T2 t3 hB3 hb2 HT
  go_wp2_with fail
  go_ret
  exact ⟨rfl, HB3.out⟩
set_option maxRecDepth 100000 in
set_option maxHeartbeats 1600000 in
theorem rec_h (r : Rc) (w : World) : Calls Tryz.prog 83 #[r.v] w fun e w' => e = .returned (.int .i64 (r.right.d - r.right.b)) ∧ Below w.heap.size w w' := by
  have RT := rec_right r
  have hin := r.right_in
  obtain ⟨⟨A, C, D, E⟩, eR⟩ : ∃ R, r.right = R := ⟨_, rfl⟩
  rw [eR] at RT hin ⊢
  unfold Rc.v at RT ⊢
  dsimp only at RT hin ⊢
  obtain ⟨h1, h2, h3, h4⟩ := hin
  clear eR
  go_enter Tryz.func83, Tryz.ntmps83
  go_upto_region 1 with fail
  refine wp_worldT (fun W => Blk W w.heap.size #[.int .i64 r.a, .int .i64 r.b, .int .i64 r.c, .int .i64 r.d] 57 ∧ Below w.heap.size w W) ⟨Blk.new _ _ _ _ rfl, (by repeat' (first | (with_reducible exact Below.refl _ _) | (with_reducible assumption) | (with_reducible refine below_alloc ?_ _ ?_) | (with_reducible refine below_set _ ?_ ?_) | (with_reducible refine Below.drew ?_) | (with_reducible refine below_dN ?_ _) | (apply below_thenA; assumption) | omega | (simp; done) | (simp; omega) | (simp [*]; done)))⟩ ?_
  rintro W1 ⟨t, hB⟩
  have q1 := t.cell 0 _ rfl
  have q2 := t.cell 1 _ rfl
  have q3 := t.cell 2 _ rfl
  have q4 := t.cell 3 _ rfl
  have HT := Lib.hid (And.intro t hB)
  clear t hB
  go_upto_region 2 with (go_at_call 67; with_reducible refine (RT _).mono ?_; rintro e w2 ⟨rfl, hb2⟩; have t2 := HT.out.1.below hb2; have q1 := t2.cell 0 _ rfl; have q2 := t2.cell 1 _ rfl; have q3 := t2.cell 2 _ rfl; have q4 := t2.cell 3 _ rfl; have z1 := t2.free 0; have z2 := t2.free 1; have z3 := t2.free 2; have z4 := t2.free 3; have T2 := Lib.hid t2; clear t2)
  refine wp_worldT (fun W => Blk W w.heap.size #[.int .i64 A, .int .i64 C, .int .i64 D, .int .i64 E] 57 ∧ Below w.heap.size w W) ⟨(((T2.out.set 0 (.int .i64 A)).set 1 (.int .i64 C)).set 2 (.int .i64 D)).set 3 (.int .i64 E), ((((But.set _ _ _).trans (But.set _ _ _)).trans (But.set _ _ _)).trans (But.set _ _ _)).to (HT.out.2.trans (hb2.mono HT.out.2.size)) (Nat.le_refl _) (by have := HT.out.2.size; have := hb2.size; omega)⟩ ?_
  rintro W3 ⟨t3, hB3⟩
  have p1 := t3.cell 3 _ rfl
  have p2 := t3.cell 1 _ rfl
  have HB3 := Lib.hid hB3
  clear q1 q2 q3 q4 z1 z2 z3 z4 T2 t3 hB3 hb2 HT
  go_wp2_with fail
  go_ret
  exact ⟨rfl, HB3.out⟩
/-- What two rectangles share. -/
def Rc.and (r s : Rc) : Rc := Rc.right ⟨max r.right.a s.right.a, max r.right.b s.right.b, min r.right.c s.right.c, min r.right.d s.right.d⟩
/-- What And's world bears. -/
structure AnW (w : World) (r s : Rc) (W : World) : Prop where
  one : Blk W w.heap.size #[.int .i64 r.a, .int .i64 r.b, .int .i64 r.c, .int .i64 r.d] 57
  two : Blk W (w.heap.size + 1) #[.int .i64 s.a, .int .i64 s.b, .int .i64 s.c, .int .i64 s.d] 57
  out : Blk W (w.heap.size + 1 + 1) #[.int .i64 0, .int .i64 0, .int .i64 0, .int .i64 0] 57
  bel : Below w.heap.size w W
theorem AnW.below {w W W' : World} {r s : Rc} (h : AnW w r s W) (hb : Below W.heap.size W W') : AnW w r s W' := ⟨h.one.below hb, h.two.below hb, h.out.below hb, h.bel.trans (hb.mono h.bel.size)⟩
theorem AnW.drew {w W : World} {r s : Rc} (h : AnW w r s W) : AnW w r s W.drew := ⟨h.one.drew, h.two.drew, h.out.drew, h.bel.drew⟩
set_option maxRecDepth 100000 in
set_option maxHeartbeats 1600000 in
theorem rec_and (r s : Rc) (w : World) : Calls Tryz.prog 73 #[r.v, s.v] w fun e w' => e = .returned (r.and s).v ∧ Below w.heap.size w w' := by
  have R1 := rec_right r
  have R2 := rec_right s
  have NW := rec_new (max r.right.a s.right.a) (max r.right.b s.right.b) (min r.right.c s.right.c) (min r.right.d s.right.d)
  have eN : Rc.right ⟨max r.right.a s.right.a, max r.right.b s.right.b, min r.right.c s.right.c, min r.right.d s.right.d⟩ = r.and s := rfl
  rw [eN] at NW
  obtain ⟨⟨A, C, D, E⟩, e1⟩ : ∃ R, r.right = R := ⟨_, rfl⟩
  obtain ⟨⟨A', C', D', E'⟩, e2⟩ : ∃ R, s.right = R := ⟨_, rfl⟩
  obtain ⟨⟨X, Y, Z, U⟩, e3⟩ : ∃ R, r.and s = R := ⟨_, rfl⟩
  rw [e1] at R1
  rw [e2] at R2
  rw [e1, e2, e3] at NW
  rw [e3]
  obtain ⟨x, ex⟩ : ∃ x, max A A' = x := ⟨_, rfl⟩
  obtain ⟨y, ey⟩ : ∃ x, max C C' = x := ⟨_, rfl⟩
  obtain ⟨z, ez⟩ : ∃ x, min D D' = x := ⟨_, rfl⟩
  obtain ⟨u, eu⟩ : ∃ x, min E E' = x := ⟨_, rfl⟩
  unfold Rc.v at R1 R2 NW ⊢
  dsimp only at R1 R2 NW ⊢
  rw [ex, ey, ez, eu] at NW
  clear e1 e2 e3 eN
  go_enter Tryz.func73, Tryz.ntmps73
  go_upto_region 1 with fail
  refine wp_worldT (AnW w r s) ⟨((Blk.new _ _ _ _ rfl).alloc _).alloc _, (Blk.new _ _ _ _ (by simp)).alloc _, Blk.new _ _ _ _ (by simp), (by repeat' (first | (with_reducible exact Below.refl _ _) | (with_reducible assumption) | (with_reducible refine below_alloc ?_ _ ?_) | (with_reducible refine below_set _ ?_ ?_) | (with_reducible refine Below.drew ?_) | (with_reducible refine below_dN ?_ _) | (apply below_thenA; assumption) | omega | (simp; done) | (simp; omega) | (simp [*]; done)))⟩ ?_
  intro W1 hS
  go_upto_region 1 with (fail)
  rename_i K1 hK1
  refine wp_region_calm (fun w' => ∃ r s, AnW w r s w') [4, 5] (fun w' => AnW w r s w') [Is (.agg #[.int .i64 r.a, .int .i64 r.b, .int .i64 r.c, .int .i64 r.d]), Is (.agg #[.int .i64 A, .int .i64 C, .int .i64 D, .int .i64 E]), Is (.agg #[.int .i64 s.a, .int .i64 s.b, .int .i64 s.c, .int .i64 s.d]), Is (.agg #[.int .i64 (A'), .int .i64 (C'), .int .i64 (D'), .int .i64 (E')]), wldT (fun w' => ∃ t, AnW w ⟨A, C, D, E⟩ t w') (fun _ _ h hb => h.imp fun t h => h.below hb), wldT (fun w' => AnW w ⟨A, C, D, E⟩ ⟨A', C', D', E'⟩ w') (fun _ _ h hb => h.below hb)] [] (by kernel_rfl) (by kernel_rfl) (by kernel_rfl) (by kernel_rfl) ⟨_, _, hS.drew⟩ hS.drew ?_ ?_ ?_ ?_ ?_
  · rintro W W' hC hb
    exact hC.imp fun r h => h.imp fun s h => h.below hb
  · intro W W' hB h0 hb; exact h0.below hb
  · intro k vs W hk h
    exact absurd hk (by simp)
  · intro Q; clear hK1 hS
    refine ⟨?_, ?_, ?_, ?_, ?_, ?_, trivial⟩
    · intro vs W hW hW0 hd hne hold K hK hA hL; clear hne hA hL; have hC := hW; simp only [puts, Act.put, List.setIfInBounds_toArray, List.set_cons_zero, List.set_cons_succ, Nat.zero_add, Nat.reduceAdd] at hK ⊢; have h0 := hW0 (by kernel_rfl); have q1 := h0.one.cell 0 _ rfl; have q2 := h0.one.cell 1 _ rfl; have q3 := h0.one.cell 2 _ rfl; have q4 := h0.one.cell 3 _ rfl; clear hd hold h0; go_simp; exact hK.out rfl _ _ (Below.refl _ _) rfl
    · intro vs W hW hW0 hd hne hold K hK hA hL; clear hne hA hL; have hC := hW; simp only [puts, Act.put, List.setIfInBounds_toArray, List.set_cons_zero, List.set_cons_succ, Nat.zero_add, Nat.reduceAdd] at hK ⊢; have ea : vs 0 = _ := hd 0 (by kernel_rfl); clear hd hold; simp only [ea] at hK; go_simp; refine (R1 W).mono ?_; (rintro e wx ⟨rfl, hbx⟩); go_simp; exact hK.out rfl _ _ hbx rfl
    · intro vs W hW hW0 hd hne hold K hK hA hL; clear hne hA hL; have hC := hW; simp only [puts, Act.put, List.setIfInBounds_toArray, List.set_cons_zero, List.set_cons_succ, Nat.zero_add, Nat.reduceAdd] at hK ⊢; have h0 := hW0 (by kernel_rfl); have q1 := h0.two.cell 0 _ rfl; have q2 := h0.two.cell 1 _ rfl; have q3 := h0.two.cell 2 _ rfl; have q4 := h0.two.cell 3 _ rfl; clear hd hold h0; go_simp; exact hK.out rfl _ _ (Below.refl _ _) rfl
    · intro vs W hW hW0 hd hne hold K hK hA hL; clear hne hA hL; have hC := hW; simp only [puts, Act.put, List.setIfInBounds_toArray, List.set_cons_zero, List.set_cons_succ, Nat.zero_add, Nat.reduceAdd] at hK ⊢; have ea : vs 2 = _ := hd 2 (by kernel_rfl); clear hd hold; simp only [ea] at hK; go_simp; refine (R2 W).mono ?_; (rintro e wx ⟨rfl, hbx⟩); go_simp; exact hK.out rfl _ _ hbx rfl
    · intro vs W hW hW0 hd hne hold K hK hA hL; clear hK hA; have hC := hW; simp only [puts, Act.put, List.setIfInBounds_toArray, List.set_cons_zero, List.set_cons_succ, Nat.zero_add, Nat.reduceAdd] at hL ⊢; have ea : vs 1 = _ := hd 1 (by kernel_rfl); have h0 := hW0 (by kernel_rfl); have q1 := h0.one.cell 0 _ rfl; have q2 := h0.one.cell 1 _ rfl; have q3 := h0.one.cell 2 _ rfl; have q4 := h0.one.cell 3 _ rfl; have z1 := h0.one.free 0; have z2 := h0.one.free 1; have z3 := h0.one.free 2; have z4 := h0.one.free 3; have tb : Blk _ w.heap.size #[.int .i64 A, .int .i64 C, .int .i64 D, .int .i64 E] 57 := (((h0.one.set 0 (.int .i64 A)).set 1 (.int .i64 C)).set 2 (.int .i64 D)).set 3 (.int .i64 E); have hbt := (((But.set (b := w.heap.size) W 0 (.int .i64 A)).trans (But.set _ 1 (.int .i64 C))).trans (But.set _ 2 (.int .i64 D))).trans (But.set _ 3 (.int .i64 E)); have hN : AnW w ⟨A, C, D, E⟩ s _ := ⟨tb, h0.two.but hbt (by omega), h0.out.but hbt (by omega), hbt.to h0.bel (Nat.le_refl _) h0.bel.size⟩; clear hd hold h0; simp only [ea] at hL; go_simp; refine hL.out rfl undef _ ⟨_, _, hN⟩ (fun h => by simp at h) ⟨_, hN⟩ ?_; exact claims_keep_t ⟨.inr (.inr is_keep), .inr (.inr is_keep), .inr (.inr is_keep), .inr (.inr is_keep), .inl rfl, .inr (.inl (by kernel_rfl)), trivial⟩
    · intro vs W hW hW0 hd hne hold K hK hA hL; clear hK hA; have hC := hW; simp only [puts, Act.put, List.setIfInBounds_toArray, List.set_cons_zero, List.set_cons_succ, Nat.zero_add, Nat.reduceAdd] at hL ⊢; have ea : vs 3 = _ := hd 3 (by kernel_rfl); have h0 : ∃ t, AnW w ⟨A, C, D, E⟩ t W := hd 4 (by kernel_rfl); obtain ⟨t, h0⟩ := h0; have q1 := h0.two.cell 0 _ rfl; have q2 := h0.two.cell 1 _ rfl; have q3 := h0.two.cell 2 _ rfl; have q4 := h0.two.cell 3 _ rfl; have z1 := h0.two.free 0; have z2 := h0.two.free 1; have z3 := h0.two.free 2; have z4 := h0.two.free 3; have tb : Blk _ (w.heap.size + 1) #[.int .i64 (A'), .int .i64 (C'), .int .i64 (D'), .int .i64 (E')] 57 := (((h0.two.set 0 (.int .i64 (A'))).set 1 (.int .i64 (C'))).set 2 (.int .i64 (D'))).set 3 (.int .i64 (E')); have hbt := (((But.set (b := w.heap.size + 1) W 0 (.int .i64 (A'))).trans (But.set _ 1 (.int .i64 (C')))).trans (But.set _ 2 (.int .i64 (D')))).trans (But.set _ 3 (.int .i64 (E'))); have hN : AnW w ⟨A, C, D, E⟩ ⟨A', C', D', E'⟩ _ := ⟨h0.one.but hbt (by omega), tb, h0.out.but hbt (by omega), hbt.to h0.bel (by omega) h0.bel.size⟩; clear hd hold h0; simp only [ea] at hL; go_simp; refine hL.out rfl undef _ ⟨_, _, hN⟩ (fun h => by simp at h) hN ?_; exact claims_keep_t ⟨.inr (.inr is_keep), .inr (.inr is_keep), .inr (.inr is_keep), .inr (.inr is_keep), .inr (.inr fun _ => ⟨_, hN⟩), .inl rfl, trivial⟩
  · intro va WB hW hV _
    have hN : AnW w ⟨A, C, D, E⟩ ⟨A', C', D', E'⟩ WB := hV 5 (by decide)
    clear hV hW
    simp only [puts, Act.put, List.setIfInBounds_toArray, List.set_cons_zero, List.set_cons_succ, Nat.zero_add, Nat.reduceAdd]
    refine hK1 _ _ ?_
    have q1 := hN.one.cell 0 _ rfl
    have q2 := hN.one.cell 1 _ rfl
    have q3 := hN.one.cell 2 _ rfl
    have q4 := hN.one.cell 3 _ rfl
    have p1 := hN.two.cell 0 _ rfl
    have p2 := hN.two.cell 1 _ rfl
    have p3 := hN.two.cell 2 _ rfl
    have p4 := hN.two.cell 3 _ rfl
    have HN := Lib.hid hN
    clear hN R1 R2
    go_wp2_with (go_at_call 34; with_reducible refine (NW _).mono ?_; rintro e w2 ⟨rfl, hb2⟩; have t2 := HN.out.out.below hb2; have x1 := t2.cell 0 _ rfl; have x2 := t2.cell 1 _ rfl; have x3 := t2.cell 2 _ rfl; have x4 := t2.cell 3 _ rfl; have z1 := t2.free 0; have z2 := t2.free 1; have z3 := t2.free 2; have z4 := t2.free 3; have T2 := Lib.hid t2; clear t2)
    refine bodyPost_ret (results_c1 (by rfl) (by rfl) (load_blk ((((T2.out.set 0 (.int .i64 X)).set 1 (.int .i64 Y)).set 2 (.int .i64 Z)).set 3 (.int .i64 U)) (n := 4) rfl 57 _ Tryz.underlying57 rfl (by kernel_rfl))) (by rfl) ?_
    exact ⟨rfl, ((((But.set _ _ _).trans (But.set _ _ _)).trans (But.set _ _ _)).trans (But.set _ _ _)).to (HN.out.bel.trans (hb2.mono HN.out.bel.size)) (by omega) (by have := HN.out.bel.size; have := hb2.size; omega)⟩
end Go.Proofs.YtigjjddblijpbaaGreatDoor
namespace Go.Proofs.YtigjjddblijpbaaGreatDoor.Ex
open Go Go.RowKit
set_option linter.unusedSimpArgs false
set_option linter.unusedVariables false

noncomputable section
def bndF (n : Int) : Int :=
  match ltI n (-1073741824) with
  | true => -1073741824
  | false => match ltI 1073741824 n with
    | true => 1073741824
    | false => n
def rcV (a b c d : Int) : Value := .agg ⟨[.int .i64 a, .int .i64 b, .int .i64 c, .int .i64 d]⟩
def rightF (a b c d : Int) : Value :=
  match leI (bndF c) (bndF a) || leI (bndF d) (bndF b) with
  | true => rcV 0 0 0 0
  | false => rcV (bndF a) (bndF b) (bndF c) (bndF d)
def rightA (args : List Value) : Option Value :=
  match args with
  | [.agg ⟨[.int .i64 a, .int .i64 b, .int .i64 c, .int .i64 d]⟩] => some (rightF a b c d)
  | _ => none
def newA (args : List Value) : Option Value :=
  match args with
  | [.int .i64 a, .int .i64 b, .int .i64 c, .int .i64 d] => some (rightF a b c d)
  | _ => none
def ofA (args : List Value) : Option Value :=
  match args with
  | [.int .i64 n] => match leI (-17592186044416) n && leI n 17592186044416 with
    | true => some (.int .i64 n)
    | false => none
  | _ => none
def clipA (args : List Value) : Option Value :=
  match args with
  | [.int .i64 n] => match leI (-52776558133248) n && leI n 52776558133248 with
    | true => some (.int .i64 n)
    | false => none
  | _ => none
def floorA (args : List Value) : Option Value :=
  match args with
  | [.int .i64 n] => match leI (-4398046511104000) n && leI n 4398046511104000 with
    | true => some (.int .i64 (n / 64))
    | false => none
  | _ => none
def orF (g h : Nat → List Value → Option Value) : Nat → List Value → Option Value := fun f args => match g f args with
  | some v => some v
  | none => h f args
def atF (k : Nat) (g : List Value → Option Value) : Nat → List Value → Option Value := fun f args => match Nat.beq f k with
  | true => g args
  | false => none
/-- Functions on numbers alone. -/
def hotF : Nat → List Value → Option Value := orF (atF 67 rightA) (orF (atF 34 newA) (orF (atF 130 ofA) (orF (atF 177 clipA) (atF 214 floorA))))
end
section
variable {V : Ev} {P : Program}
theorem orF_ok {g h : Nat → List Value → Option Value} (a : PureOK V P g) (b : PureOK V P h) : PureOK V P (orF g h) := fun f args v hv => by
  unfold orF at hv
  split at hv
  · rename_i hg; cases hv; exact a _ _ _ hg
  · exact b _ _ _ hv
theorem atF_ok {k : Nat} {g : List Value → Option Value} (hent : ∀ args' w, (callFunc k args').run P w = .ok (.enter k args') w)
    (h : ∀ args v, g args = some v → ∀ E args', concL V.Y E args = some args' → ∃ v', conc V.Y E v = some v' ∧ ∀ w, V.K w → Calls P k ⟨args'⟩ w fun e w' => e = .returned v' ∧ Below w.heap.size w w') : PureOK V P (atF k g) := fun f args v hv => by
  unfold atF at hv
  split at hv
  · rename_i hf
    have := Nat.eq_of_beq_eq_true hf
    subst this
    exact ⟨hent, h args v hv⟩
  · cases hv
theorem bndF_eq (n : Int) : bndF n = Go.Proofs.YtigjjddblijpbaaGreatDoor.bnd n := by
  unfold bndF
  rw [ltI_eq, ltI_eq]
  unfold Go.Proofs.YtigjjddblijpbaaGreatDoor.bnd
  by_cases h1 : n < -1073741824
  · simp only [h1, decide_true]; omega
  · by_cases h2 : 1073741824 < n
    · simp only [h1, h2, decide_true, decide_false]; omega
    · simp only [h1, h2, decide_false]; omega
theorem rightF_eq (a b c d : Int) : rightF a b c d = (Rc.right ⟨a, b, c, d⟩).v := by
  unfold rightF Rc.right
  show _ = (if Go.Proofs.YtigjjddblijpbaaGreatDoor.bnd c ≤ Go.Proofs.YtigjjddblijpbaaGreatDoor.bnd a ∨ Go.Proofs.YtigjjddblijpbaaGreatDoor.bnd d ≤ Go.Proofs.YtigjjddblijpbaaGreatDoor.bnd b then rc0 else ⟨Go.Proofs.YtigjjddblijpbaaGreatDoor.bnd a, Go.Proofs.YtigjjddblijpbaaGreatDoor.bnd b, Go.Proofs.YtigjjddblijpbaaGreatDoor.bnd c, Go.Proofs.YtigjjddblijpbaaGreatDoor.bnd d⟩ : Rc).v
  rw [bndF_eq, bndF_eq, bndF_eq, bndF_eq, leI_eq, leI_eq]
  by_cases h : Go.Proofs.YtigjjddblijpbaaGreatDoor.bnd c ≤ Go.Proofs.YtigjjddblijpbaaGreatDoor.bnd a ∨ Go.Proofs.YtigjjddblijpbaaGreatDoor.bnd d ≤ Go.Proofs.YtigjjddblijpbaaGreatDoor.bnd b
  · rw [if_pos h]
    have : (decide (Go.Proofs.YtigjjddblijpbaaGreatDoor.bnd c ≤ Go.Proofs.YtigjjddblijpbaaGreatDoor.bnd a) || decide (Go.Proofs.YtigjjddblijpbaaGreatDoor.bnd d ≤ Go.Proofs.YtigjjddblijpbaaGreatDoor.bnd b)) = true := by simpa using h
    rw [this]; rfl
  · rw [if_neg h]
    have : (decide (Go.Proofs.YtigjjddblijpbaaGreatDoor.bnd c ≤ Go.Proofs.YtigjjddblijpbaaGreatDoor.bnd a) || decide (Go.Proofs.YtigjjddblijpbaaGreatDoor.bnd d ≤ Go.Proofs.YtigjjddblijpbaaGreatDoor.bnd b)) = false := by simpa using h
    rw [this]; rfl
theorem i1_inv {Y : Sy} {E : Lb} {n : Int} {l' : List Value} (h : concL Y E [.int .i64 n] = some l') : l' = [.int .i64 n] := by
  exact Option.some.inj (h.symm.trans (litL_conc rfl))
theorem i4_inv {Y : Sy} {E : Lb} {a b c d : Int} {l' : List Value} (h : concL Y E [.int .i64 a, .int .i64 b, .int .i64 c, .int .i64 d] = some l') : l' = [.int .i64 a, .int .i64 b, .int .i64 c, .int .i64 d] := by
  exact Option.some.inj (h.symm.trans (litL_conc rfl))
end
theorem hotF_ok {V : Ev} : PureOK V Tryz.prog hotF := by
  refine orF_ok (atF_ok (enters _ _ _ Tryz.func67 rfl) fun args v h E args' ha => ?_) (orF_ok (atF_ok (enters _ _ _ Tryz.func34 rfl) fun args v h E args' ha => ?_) (orF_ok (atF_ok (enters _ _ _ Tryz.func130 rfl) fun args v h E args' ha => ?_) (orF_ok (atF_ok (enters _ _ _ Tryz.func177 rfl) fun args v h E args' ha => ?_) (atF_ok (enters _ _ _ Tryz.func214 rfl) fun args v h E args' ha => ?_))))
  · unfold rightA at h
    split at h
    · rename_i a b c d
      cases h
      obtain ⟨x, t, h1, h2, rfl⟩ := concL_cons ha
      cases h2
      obtain ⟨l', h3, rfl⟩ := conc_agg_inv h1
      have := i4_inv h3
      subst this
      refine ⟨(Rc.right ⟨a, b, c, d⟩).v, by rw [rightF_eq]; exact conc_agg (by rfl), fun w _ => ?_⟩
      exact rec_right ⟨a, b, c, d⟩ w
    · cases h
  · unfold newA at h
    split at h
    · rename_i a b c d
      cases h
      have := i4_inv ha
      subst this
      refine ⟨(Rc.right ⟨a, b, c, d⟩).v, by rw [rightF_eq]; exact conc_agg (by rfl), fun w _ => ?_⟩
      exact rec_new a b c d w
    · cases h
  · unfold ofA at h
    split at h
    · rename_i n
      split at h
      · rename_i hb
        cases h
        rw [Bool.and_eq_true, leI_eq, leI_eq, decide_eq_true_eq, decide_eq_true_eq] at hb
        have := i1_inv ha
        subst this
        refine ⟨_, rfl, fun w _ => (fix_of n (by unfold IFit; omega) (by unfold LenB; omega) w).mono fun e w' h => ⟨h.1, by rw [h.2]; exact Below.refl _ _⟩⟩
      · cases h
    · cases h
  · unfold clipA at h
    split at h
    · rename_i n
      split at h
      · rename_i hb
        cases h
        rw [Bool.and_eq_true, leI_eq, leI_eq, decide_eq_true_eq, decide_eq_true_eq] at hb
        have := i1_inv ha
        subst this
        have hc : clip n = n := by unfold clip; omega
        refine ⟨_, rfl, fun w _ => (fix_clipped n (by unfold IFit; omega) w).mono fun e w' h => ⟨by rw [h.1, hc], by rw [h.2]; exact Below.refl _ _⟩⟩
      · cases h
    · cases h
  · unfold floorA at h
    split at h
    · rename_i n
      split at h
      · rename_i hb
        cases h
        rw [Bool.and_eq_true, leI_eq, leI_eq, decide_eq_true_eq, decide_eq_true_eq] at hb
        have := i1_inv ha
        subst this
        refine ⟨_, rfl, fun w _ => (fix_floor n (by unfold IFit; omega) w).mono fun e w' h => ⟨h.1, by rw [h.2]; exact Below.refl _ _⟩⟩
      · cases h
    · cases h
end Go.Proofs.YtigjjddblijpbaaGreatDoor.Ex
namespace Go.Proofs.YtigjjddblijpbaaGreatDoor.Ex
open Go Go.RowKit
set_option linter.unusedSimpArgs false
set_option linter.unusedVariables false

abbrev Fs := List (Nat × AO)
noncomputable section
def ofL : Fs → Hp → Hp
  | [], H => H
  | (l, o) :: fs, H => ofL fs (Tr.set D H l (some o))
def idF (l : Nat) : Nat := l
def allIn (H : Hp) : Fs → Bool
  | [] => true
  | (l, o) :: fs => match agree idF H l o with
    | true => allIn H fs
    | false => false
def eqRA : List Value → List Value → Bool
  | [], [] => true
  | a :: l, b :: l' => match eqR idF a b with
    | true => eqRA l l'
    | false => false
  | _, _ => false
def touL (nx nx' : Nat) (wr : List Nat) : Fs → Bool
  | [] => true
  | (l, _) :: fs => match memB l wr || (Nat.ble nx l && Nat.blt l nx') with
    | true => touL nx nx' wr fs
    | false => false
/-- A call: the function, the arguments, the first new name, what is known ahead; the result, what is known behind of what it touches, the first new name behind, what it writes. -/
structure Ck where
  f : Nat
  args : List Value
  nx : Nat
  pre : Fs
  v : Value
  post : Fs
  nx' : Nat
  wr : List Nat
/-- Is that what was reckoned? -/
def chk (c : Ck) (r : Option Res) : Bool :=
  match r with
  | none => false
  | some (v, H, n, w) => ((eqR idF c.v v && Nat.beq c.nx' n) && (subL w c.wr && subL c.wr w)) && (allIn H c.post && touL c.nx c.nx' c.wr c.post)
def findCk (f : Nat) (args : List Value) (H : Hp) (nx : Nat) : List Ck → Option (Option Res)
  | [] => none
  | c :: cs => match (Nat.beq f c.f && Nat.beq nx c.nx) && (eqRA c.args args && allIn H c.pre) with
    | true => some (some (c.v, ofL c.post (dropL H c.wr), c.nx', c.wr))
    | false => findCk f args H nx cs
def hkM (cs : List Ck) : Hk := fun _ f args H nx => findCk f args H nx cs
end
theorem ofL_get : ∀ {fs : Fs} {H : Hp} {l : Nat} {o : AO}, (ofL fs H).get l = some o → (l, o) ∈ fs ∨ H.get l = some o
  | [], H, l, o, h => .inr h
  | (k, x) :: fs, H, l, o, h => by
    rcases ofL_get (fs := fs) (H := Tr.set D H k (some x)) h with h1 | h1
    · exact .inl (List.mem_cons_of_mem _ h1)
    · rcases Tr.get_set _ _ _ _ _ _ h1 with ⟨rfl, e⟩ | ⟨_, h2⟩
      · cases e; exact .inl (List.mem_cons_self ..)
      · exact .inr h2
theorem allIn_spec {H : Hp} : ∀ {fs : Fs}, allIn H fs = true → ∀ l o, (l, o) ∈ fs → ∃ o', H.get l = some o' ∧ eqAO idF o o' = true
  | [], _, l, o, h => by cases h
  | (k, x) :: fs, h, l, o, hm => by
    unfold allIn at h
    split at h
    · rename_i ha
      cases hm with
      | head => exact agree_spec ha
      | tail _ hm => exact allIn_spec h l o hm
    · cases h
theorem touL_spec {nx nx' : Nat} {wr : List Nat} : ∀ {fs : Fs}, touL nx nx' wr fs = true → ∀ l o, (l, o) ∈ fs → l ∈ wr ∨ (nx ≤ l ∧ l < nx')
  | [], _, l, o, h => by cases h
  | (k, x) :: fs, h, l, o, hm => by
    unfold touL at h
    split at h
    · rename_i ha
      cases hm with
      | head =>
        rw [Bool.or_eq_true, Bool.and_eq_true, nble, nblt, decide_eq_true_eq, decide_eq_true_eq] at ha
        exact ha.imp (fun h => memB_iff.1 h) id
      | tail _ hm => exact touL_spec h l o hm
    · cases h
section
variable {Y : Sy} {E : Lb}
theorem eqR_id {v u w : Value} (h : eqR idF v u = true) (hu : conc Y E u = some w) : conc Y E v = some w := eqR_conc (E := E) h hu
theorem eqRA_conc : ∀ {l l' r : List Value}, eqRA l l' = true → concL Y E l' = some r → concL Y E l = some r
  | [], [], r, _, h => h
  | a :: l, b :: l', r, h, hc => by
    obtain ⟨x, t, h1, h2, rfl⟩ := concL_cons hc
    unfold eqRA at h
    split at h
    · rename_i hx; exact concL_cons' (eqR_id hx h1) (eqRA_conc h h2)
    · cases h
  | [], _ :: _, r, h, _ => by cases h
  | _ :: _, [], r, h, _ => by cases h
theorem eqAO_id {p : Nat × Nat} {w : World} {o o' : AO} (h : eqAO idF o o' = true) (hh : Holds Y E p w o') : Holds Y E p w o := eqAO_holds (E := E) h hh
end
/-- What is shown of a call that was reckoned ahead. -/
def Ck.Good (V : Ev) (P : Program) (c : Ck) : Prop :=
  c.nx ≤ c.nx' ∧ (∀ l o, (l, o) ∈ c.post → l ∈ c.wr ∨ (c.nx ≤ l ∧ l < c.nx')) ∧ (∀ args' w, (callFunc c.f args').run P w = .ok (.enter c.f args') w) ∧
  ∀ E w args', HR V E (ofL c.pre .e) w → (∀ l, c.nx ≤ l → E l = none) → concL V.Y E c.args = some args' →
    Calls P c.f ⟨args'⟩ w fun e w' => ∃ v' E' H', e = .returned v' ∧ conc V.Y E' c.v = some v' ∧ Step V E (ofL c.pre .e) c.nx w E' H' c.nx' c.wr w' ∧ ∀ l o, (l, o) ∈ c.post → ∃ o', H'.get l = some o' ∧ eqAO idF o o' = true
section
variable {V : Ev} {P : Program} {C : Cx}
theorem Step.same {E E' : Lb} {H H' : Hp} {nx nx' : Nat} {r r' : List Nat} {w w' : World} (h : Step V E H nx w E' H' nx' r w') (h1 : ∀ l, l ∈ r → l ∈ r') (h2 : ∀ l, l ∈ r' → l ∈ r) : Step V E H nx w E' H' nx' r' w' :=
  ⟨h.ext, h.out, h.le, h.hr, fun l hl hn => h.wl l (h2 l hl) hn, fun b hb hne => h.fr b hb (fun l p hl hn => hne l p (h1 l hl) hn), fun l p g1 g2 hp => (h.nw l p g1 g2 hp).imp id (fun ⟨m, q, h3, h4⟩ => ⟨m, q, h1 m h3, h4⟩), fun l o hl hm hn => h.syn l o hl (fun hm' => hm (h1 l hm')) hn, h.os, h.tape, h.output, h.size⟩
theorem chk_good {cl : Cl} (hcl : ClOK V P cl) {c : Ck} (h : chk c (cl c.f c.args (ofL c.pre .e) c.nx) = true) : c.Good V P := by
  cases hr : cl c.f c.args (ofL c.pre .e) c.nx with
  | none => rw [hr] at h; cases h
  | some r =>
    obtain ⟨v, H', n, w⟩ := r
    rw [hr] at h
    have h : (((eqR idF c.v v && Nat.beq c.nx' n) && (subL w c.wr && subL c.wr w)) && (allIn H' c.post && touL c.nx c.nx' c.wr c.post)) = true := h
    simp only [Bool.and_eq_true] at h
    obtain ⟨⟨⟨h1, h2⟩, h3, h4⟩, h5, h6⟩ := h
    have h2 := nb h2
    subst h2
    obtain ⟨g1, g2, g3⟩ := hcl _ _ _ _ _ _ _ _ hr
    refine ⟨g1, touL_spec h6, g2, fun E w0 args' hH hn ha => (g3 E w0 args' hH hn ha).mono fun e w' he => ?_⟩
    obtain ⟨v', E', rfl, h7, h8⟩ := he
    exact ⟨v', E', H', rfl, eqR_id h1 h7, h8.same (subL_spec h3) (subL_spec h4), allIn_spec h5⟩
theorem findCk_some {f : Nat} {args : List Value} {H : Hp} {nx : Nat} {r : Option Res} : ∀ {cs : List Ck}, findCk f args H nx cs = some r → ∃ c, c ∈ cs ∧ f = c.f ∧ nx = c.nx ∧ eqRA c.args args = true ∧ allIn H c.pre = true ∧ r = some (c.v, ofL c.post (dropL H c.wr), c.nx', c.wr)
  | [], h => by cases h
  | c :: cs, h => by
    unfold findCk at h
    split at h
    · rename_i hb
      cases h
      simp only [Bool.and_eq_true] at hb
      exact ⟨c, List.mem_cons_self .., nb hb.1.1, nb hb.1.2, hb.2.1, hb.2.2, rfl⟩
    · obtain ⟨c', h1, h2⟩ := findCk_some h
      exact ⟨c', List.mem_cons_of_mem _ h1, h2⟩
theorem hkM_s {cs : List Ck} (hg : ∀ c, c ∈ cs → c.Good V P) : HkS (hkM cs) := fun cl _ f args H nx v H' nx' wr h => by
  obtain ⟨c, hc, rfl, rfl, h3, h4, h5⟩ := findCk_some h
  cases h5
  obtain ⟨g1, g2, _⟩ := hg c hc
  refine ⟨g1, fun l o hl hm hn => ?_⟩
  rcases ofL_get hl with h6 | h6
  · rcases g2 l o h6 with h7 | h7
    · exact absurd h7 hm
    · omega
  · exact (dropL_get _ _ _ _ h6).2
theorem hkM_g {cs : List Ck} (hg : ∀ c, c ∈ cs → c.Good V P) : HkG V P (hkM cs) := fun cl _ _ f args H nx v H' nx' wr h => by
  obtain ⟨c, hc, rfl, rfl, h3, h4, h5⟩ := findCk_some h
  cases h5
  obtain ⟨g1, g2, g3, g4⟩ := hg c hc
  refine ⟨g1, g3, fun E w args' hH hn ha => ?_⟩
  have pre : ∀ l o, (ofL c.pre .e).get l = some o → ∃ o', H.get l = some o' ∧ eqAO idF o o' = true := fun l o hl => by
    rcases ofL_get hl with h6 | h6
    · exact allIn_spec h4 l o h6
    · cases h6
  have hP : HR V E (ofL c.pre .e) w := by
    refine ⟨fun l o hl => ?_, fun l l' o o' p p' hl hl' h5 h6 h7 => ?_, fun l o p hl hp => ?_, hH.sz, hH.k⟩
    · obtain ⟨o', h5, h6⟩ := pre l o hl
      obtain ⟨p, h7, h8⟩ := hH.has l o' h5
      exact ⟨p, h7, eqAO_id h6 h8⟩
    · obtain ⟨o1, g5, _⟩ := pre l o hl
      obtain ⟨o2, g6, _⟩ := pre l' o' hl'
      exact hH.inj l l' o1 o2 p p' g5 g6 h5 h6 h7
    · obtain ⟨o1, g5, _⟩ := pre l o hl
      exact hH.low l o1 p g5 hp
  refine (g4 E w args' hP hn (eqRA_conc h3 ha)).mono fun e w' he => ?_
  obtain ⟨v', E', H1, rfl, hv, st, hpost⟩ := he
  refine ⟨v', E', rfl, hv, ?_⟩
  have wlH : ∀ l, l ∈ c.wr → l < c.nx → ∃ o, H.get l = some o := fun l hl hln => by
    obtain ⟨o, ho⟩ := st.wl l hl hln
    obtain ⟨o', h5, _⟩ := pre l o ho
    exact ⟨o', h5⟩
  have facts : ∀ l o, (ofL c.post (dropL H c.wr)).get l = some o → (∃ o', H1.get l = some o' ∧ eqAO idF o o' = true ∧ (l ∈ c.wr ∨ (c.nx ≤ l ∧ l < c.nx'))) ∨ (H.get l = some o ∧ l ∉ c.wr) := fun l o hl => by
    rcases ofL_get hl with h6 | h6
    · obtain ⟨o', h7, h8⟩ := hpost l o h6
      exact .inl ⟨o', h7, h8, g2 l o h6⟩
    · obtain ⟨h7, h8⟩ := dropL_get _ _ _ _ h6
      exact .inr ⟨h8, h7⟩
  have old : ∀ l o, H.get l = some o → l ∉ c.wr → ∃ p, E l = some p ∧ E' l = some p ∧ p.1 < w.heap.size ∧ l < c.nx ∧ Holds V.Y E' p w' o := fun l o ho hm => by
    obtain ⟨p, h1, h2⟩ := hH.has l o ho
    have hl : l < c.nx := by
      by_cases h : l < c.nx
      · exact h
      · rw [hn l (by omega)] at h1; cases h1
    refine ⟨p, h1, st.ext l p h1, h2.lt, hl, (h2.ext st.ext).of_block (st.fr p.1 h2.lt (fun k q hk hkn hq e => ?_))⟩
    obtain ⟨o2, ho2⟩ := wlH k hk hkn
    have := hH.inj k l o2 o q p ho2 ho hq h1 e
    subst this
    exact hm hk
  have mixed : ∀ l l' o o' p p', H1.get l = some o → (l ∈ c.wr ∨ (c.nx ≤ l ∧ l < c.nx')) → H.get l' = some o' → l' ∉ c.wr → E' l = some p → E' l' = some p' → p.1 = p'.1 → l = l' := fun l l' o o' p p' ho ht ho' hm' hp hp' e => by
    obtain ⟨p2, k1, k2, k3, k4, _⟩ := old l' o' ho' hm'
    rw [hp'] at k2; cases k2
    by_cases hl : l < c.nx
    · have hm : l ∈ c.wr := by
        rcases ht with ht | ht
        · exact ht
        · omega
      obtain ⟨o3, h3⟩ := wlH l hm hl
      rw [st.out l (.inl hl)] at hp
      exact hH.inj l l' o3 o' p p' h3 ho' hp k1 e
    · by_cases hl2 : l < c.nx'
      · rcases st.nw l p (by omega) hl2 hp with h3 | ⟨k, q, h3, h4, h5, h6⟩
        · omega
        · obtain ⟨o3, h7⟩ := wlH k h3 h4
          have := hH.inj k l' o3 o' q p' h7 ho' h5 k1 (h6.trans e)
          subst this
          exact absurd h3 hm'
      · rw [st.out l (.inr (by omega)), hn l (by omega)] at hp
        cases hp
  refine ⟨st.ext, st.out, st.le, ⟨fun l o hl => ?_, fun l l' o o' p p' hl hl' hp hp' e => ?_, fun l o p hl hp => ?_, st.hr.sz, st.hr.k⟩, fun l hl hln => wlH l hl hln, st.fr, st.nw, fun l o hl hm ho => ?_, st.os, st.tape, st.output, st.size⟩
  · rcases facts l o hl with ⟨o', h1, h2, _⟩ | ⟨h1, h2⟩
    · obtain ⟨p, h4, h5⟩ := st.hr.has l o' h1
      exact ⟨p, h4, eqAO_id h2 h5⟩
    · obtain ⟨p, _, h4, _, _, h5⟩ := old l o h1 h2
      exact ⟨p, h4, h5⟩
  · rcases facts l o hl with ⟨o1, h1, h2, h3⟩ | ⟨h1, h2⟩ <;> rcases facts l' o' hl' with ⟨o1', h1', h2', h3'⟩ | ⟨h1', h2'⟩
    · exact st.hr.inj _ _ o1 o1' p p' h1 h1' hp hp' e
    · exact mixed l l' o1 o' p p' h1 h3 h1' h2' hp hp' e
    · exact (mixed l' l o1' o p' p h1' h3' h1 h2 hp' hp e.symm).symm
    · obtain ⟨q, k1, k2, _⟩ := old l o h1 h2
      obtain ⟨q', k1', k2', _⟩ := old l' o' h1' h2'
      rw [hp] at k2; cases k2
      rw [hp'] at k2'; cases k2'
      exact hH.inj l l' o o' p p' h1 h1' k1 k1' e
  · rcases facts l o hl with ⟨o', h1, h2, _⟩ | ⟨h1, h2⟩
    · exact st.hr.low _ _ p h1 hp
    · obtain ⟨q, k1, k2, _⟩ := old l o h1 h2
      rw [hp] at k2; cases k2
      exact hH.low l o p h1 k1
  · rcases facts l o hl with ⟨o', h1, h2, h3⟩ | ⟨h1, _⟩
    · rcases h3 with h3 | h3
      · exact absurd h3 hm
      · omega
    · exact h1
end
end Go.Proofs.YtigjjddblijpbaaGreatDoor.Ex
