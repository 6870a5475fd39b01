/-
  The statement StyleSets: the walk, where a number is another one.
-/
import Derived.Test.YtmkblfejoniccaaDoorYSyV
namespace Go.Proofs.YtmkblfejoniccaaDoor
open Go Go.RowKit
set_option linter.unusedSimpArgs false
set_option linter.unusedVariables false

set_option maxRecDepth 100000 in
set_option maxHeartbeats 6400000 in
theorem law_sets1 (wh aw : Int) (b : Nat) (pc : Bool) (n : Int) (B : Nat → Bool) (a : Nat) (ha : a < 10) (hb : b < 18446744073709551616) (hn : IFit n) (rw' : Int) (hw0 : wh.tmod 3 = rw') (hw : rw' = 1) (t : Int) (e1 : aw.tmod 10 = t) (e2 : IntKind.i64.wrap (t + 10) = t + 10) (e3 : (t + 10).tmod 10 = (a : Int)) (w : World) (hT : StyW w) :
    Calls Tryd.prog 9 #[.agg (cellsF 9 (seF wh aw b pc n B))] w fun e w' => e = .returned (.bool true) ∧ Below w.heap.size w w' := by
  have HT := Lib.hid hT
  have DF := sty_default
  have hd1 : ∀ i, (rawF defR i).oneCell' = true := rawF_one _
  have DS := defL_set B
  obtain ⟨RD, eRD⟩ : ∃ f, rawF defR = f := ⟨_, rfl⟩
  rw [eRD] at DF hd1 DS
  have SD := fun W (hW : StyW W) => sty_compute (defL B) (defL_fit B) W hW
  simp only [okF_out (defL_ok B), defL_ok B] at SD
  have RS := setR_num (defL B) a b pc n ha
  have BK := back_num (defL B) a b pc n ha
  have hyF := setR_fit (defL_fit B) 1 a b pc n hb hn
  have hyB : (setR (defL B) 1 a b pc n).B = B := rfl
  have hyC : (setR (defL B) 1 a b pc n).C = 0 := rfl
  have hD1 : ∀ i, (okF (defL B) i).oneCell' = true := fun i => styF_one _ _ _ _ _ _ i
  have hDa := And.intro ((okF_at (defL B) (i := a)).2.1 ha) (okF_at (defL B) (i := a)).2.2.1
  obtain ⟨v1, ev1⟩ : ∃ v, dM (defL B) a = v := ⟨_, rfl⟩
  obtain ⟨v2, ev2⟩ : ∃ v, dA (defL B) = v := ⟨_, rfl⟩
  rw [ev1, ev2] at hDa BK
  clear ev1 ev2
  obtain ⟨y, ey⟩ : ∃ y, setR (defL B) 1 a b pc n = y := ⟨_, rfl⟩
  rw [ey] at RS BK hyF hyB hyC
  have EQD := fun w => sty_self (fun i => (dL (defL B) i).1) (fun i => (dL (defL B) i).2.1) (dM (defL B)) (dA (defL B)) (defL B).W (defL B).C w
  have hEQ : styF (fun i => (dL (defL B) i).1) (fun i => (dL (defL B) i).2.1) (dM (defL B)) (dA (defL B)) (defL B).W (defL B).C = okF (defL B) := rfl
  rw [hEQ] at EQD
  obtain ⟨D, eD⟩ : ∃ D, okF (defL B) = D := ⟨_, rfl⟩
  obtain ⟨R0, eR0⟩ : ∃ R, rawF (defL B) = R := ⟨_, rfl⟩
  rw [eD] at hDa BK hD1 EQD
  simp only [eD, eR0] at SD
  rw [eR0] at RS DS
  have SY := fun W (hW : StyW W) => sty_compute y hyF W hW
  have RY := ref11_compute y hyF
  have SM : ∀ W, Calls Tryd.prog 32 #[.agg (cellsF 62 (okF y)), .agg (cellsF 61 (finR y)), .int .u8 y.C] W fun e w' => e = .returned (.bool true) ∧ Below W.heap.size W w' := same11 y
  rw [hyC] at SM
  have h1 : ∀ i, (outF y i).oneCell' = true := fun i => by
    unfold outF zerF
    split
    · exact styF_one _ _ _ _ _ _ i
    · exact styF_one _ _ _ _ _ _ i
  have h2 : ∀ i, (outR y i).oneCell' = true := fun i => by
    unfold outR finR
    split
    · exact rstF_one _ _ _ _ _ i
    · exact zerR_one i
  have hyes : dE y = 0 → outF y = okF y ∧ outR y = finR y := fun h => ⟨okF_out h, by unfold outR; rw [if_pos h]⟩
  have hno : dE y ≠ 0 → outF y = zerF := fun h => by unfold outF; rw [if_neg h]
  have BU := fun w => sets_build y wh aw b pc n w
  rw [hyB] at BU
  obtain ⟨X, eX⟩ : ∃ X, seF wh aw b pc n B = X := ⟨_, rfl⟩
  have x0 : X 0 = .int .i64 wh := by rw [← eX]; rfl
  have x1 : X 1 = .int .i64 aw := by rw [← eX]; rfl
  have x2 : X 2 = .int .u64 b := by rw [← eX]; rfl
  have x3 : X 3 = .bool pc := by rw [← eX]; rfl
  have x4 : X 4 = .int .i64 n := by rw [← eX]; rfl
  have x5 : (fun k => X (5 + k)) = fun k => (.bool (B k) : Value) := by
    rw [← eX]
    funext k
    unfold seF
    rw [if_neg (by omega), if_neg (by omega), if_neg (by omega), if_neg (by omega), if_neg (by omega), show 5 + k - 5 = k by omega]
  have DS2 : cellsF 65 (fun k => if 60 ≤ k ∧ k < 60 + 4 then (fun k => X (5 + k)) (k - 60) else RD k) = cellsF 65 R0 := by rw [x5]; exact DS
  have one5 : ∀ i, i < 4 → ((fun k => X (5 + k)) i).oneCell' = true := by rw [x5]; exact fun i _ => rfl
  have HDS := Lib.hid (And.intro DS2 one5)
  clear DS2 one5
  rw [eX] at BU ⊢
  obtain ⟨fO, eO⟩ : ∃ f, outF y = f := ⟨_, rfl⟩
  obtain ⟨fR, eR⟩ : ∃ f, outR y = f := ⟨_, rfl⟩
  obtain ⟨E, eE⟩ : ∃ f, dE y = f := ⟨_, rfl⟩
  rw [eO, eR, eE] at hyes
  rw [eO] at h1
  rw [eR] at h2
  rw [eO, eE] at hno
  simp only [eO, eE] at SY
  rw [eR, eE] at RY
  have FF := flo_fromS b
  have SF := sto_floS
  have HX := Lib.hid (And.intro x0 (And.intro x1 (And.intro x2 (And.intro x3 (And.intro x4 x5)))))
  have HD1 := Lib.hid (And.intro hd1 (And.intro h1 (And.intro h2 hD1)))
  have HSD := Lib.hid SD
  have HSY := Lib.hid SY
  have HRS := Lib.hid RS
  have HBK := Lib.hid BK
  have HYN := Lib.hid (And.intro hyes hno)
  have HBU := Lib.hid BU
  have HDA := Lib.hid hDa
  have HEQ := Lib.hid EQD
  clear hT hd1 h1 h2 DS SD SY RS BK hyes hno BU x0 x1 x2 x3 x4 x5 hDa eX eO eR eE eD eR0 eRD hyF hyB hyC hb hn ey hD1 EQD hEQ
  go_enter Tryd.func9, Tryd.ntmps9
  go_upto_region 1 with fail
  refine wp_worldS (fun W => Blk W w.heap.size (cellsF 9 X) 87 ∧ Below w.heap.size w W) ⟨Blk.new _ _ _ _ rfl, (by repeat' (first | (with_reducible exact Below.refl _ _) | (with_reducible assumption) | (with_reducible refine below_alloc ?_ _ ?_) | (with_reducible refine below_set _ ?_ ?_) | (with_reducible refine Below.drew ?_) | (with_reducible refine below_dN ?_ _) | (apply below_thenA; assumption) | omega | (simp; done) | (simp; omega) | (simp [*]; done)))⟩ ?_
  rintro W1 ⟨t1, hB1⟩
  have SP := speaks11 W1 (HT.out.below hB1)
  have HF := Lib.hid (And.intro t1 hB1)
  clear t1 hB1
  go_upto_region 3 with (go_at_call 28; with_reducible refine SP.mono ?_; rintro e w2 ⟨rfl, hb2⟩)
  have HF2 := Lib.hid (And.intro (HF.out.1.below hb2) (HF.out.2.trans (hb2.mono HF.out.2.size)))
  clear HF hb2 SP
  go_upto_region 4 with (first
    | (go_at_call 33; with_reducible refine (DF _).mono ?_; rintro e w3 ⟨rfl, hb3⟩)
    | (refine wpl_storeW (by rfl) 74 _ _ (by rfl) (b := w3.heap.size) (n := 65) (f := rawF (stR 0 false false 0)) (T := 74) (by rw [stR_zero]; exact Blk.new _ _ _ _ rfl) RD (fun i _ => HD1.out.1 i) (by kernel_rfl) (by rfl) (by rfl) ?_; intro W4 t4 b4; simp only [Act.put, List.setIfInBounds_toArray, List.set_cons_zero, List.set_cons_succ, Nat.zero_add, Nat.reduceAdd]))
  obtain ⟨x, ex⟩ : ∃ x, x = w.heap.size := ⟨_, rfl⟩
  obtain ⟨r, er⟩ : ∃ r, r = w3.heap.size := ⟨_, rfl⟩
  have hB3 := HF2.out.2.trans (hb3.mono HF2.out.2.size)
  have u3 := HF2.out.1.below hb3
  have hl3 := u3.lt
  rw [← ex] at u3 hl3
  rw [← er] at t4 b4 hl3
  have hwr : w.heap.size ≤ r := by rw [er]; exact hB3.size
  have hB4 : Below w.heap.size w W4 := b4.to (hB3.alloc hB3.size _) hwr (by have := hB3.size; simp; omega)
  have u4 := (u3.alloc (.cells (cellsF 65 (rawF (stR 0 false false 0))) 74)).but (by rw [stR_zero]; exact b4) (by omega)
  rw [← ex, ← er]
  have HR4 := Lib.hid (And.intro u4 (And.intro t4 hB4))
  have hxr : x ≠ r := by omega
  have HXR := Lib.hid (And.intro hxr hwr)
  clear t4 b4 hB3 u3 hl3 hB4 u4 hb3 hwr hxr HF2 ex er DF
  go_upto_region 5 with (first
    | (refine wpl_loadF (by rfl) 58 _ (by rfl) HR4.out.1 5 4 (by omega) _ Tryd.underlying58 rfl (by kernel_rfl) (by rfl) ?_; simp only [Act.put, List.setIfInBounds_toArray, List.set_cons_zero, List.set_cons_succ, Nat.zero_add, Nat.reduceAdd])
    | (refine wpl_storeP (by rfl) 58 _ _ (by rfl) HR4.out.2.1 60 4 (by omega) (fun k => X (5 + k)) R0 HDS.out.2 HDS.out.1 (by kernel_rfl) (by rfl) (by rfl) ?_; intro W5 t5 b5; simp only [Act.put, List.setIfInBounds_toArray, List.set_cons_zero, List.set_cons_succ, Nat.zero_add, Nat.reduceAdd]))
  have hB5 : Below w.heap.size w W5 := b5.to HR4.out.2.2 HXR.out.2 HR4.out.2.2.size
  have HR5 := Lib.hid (And.intro (HR4.out.1.but b5 HXR.out.1) (And.intro t5 hB5))
  clear t5 b5 hB5 HR4
  have CW := HSD.out W5 (HT.out.below HR5.out.2.2)
  go_upto_region 6 with (first
    | (refine wpl_loadA (by rfl) 74 _ (by rfl) HR5.out.2.1 _ Tryd.underlying74 rfl (by kernel_rfl) (by rfl) ?_; simp only [Act.put, List.setIfInBounds_toArray, List.set_cons_zero, List.set_cons_succ, Nat.zero_add, Nat.reduceAdd])
    | (go_at_call 29; with_reducible refine CW.mono ?_; rintro e w6 ⟨rfl, hb6⟩)
    | (refine wpl_storeW (by rfl) 66 _ _ (by rfl) (b := w6.heap.size) (n := 62) (f := zerF) (T := 66) (by rw [zerF_cells]; exact Blk.new _ _ _ _ rfl) D (fun i _ => HD1.out.2.2.2 i) (by kernel_rfl) (by rfl) (by rfl) ?_; intro W7 t7 b7; simp only [Act.put, List.setIfInBounds_toArray, List.set_cons_zero, List.set_cons_succ, Nat.zero_add, Nat.reduceAdd]))
  obtain ⟨d, ed⟩ : ∃ d, d = w6.heap.size := ⟨_, rfl⟩
  have hB6 := HR5.out.2.2.trans (hb6.mono HR5.out.2.2.size)
  have u6 := HR5.out.1.below hb6
  have r6 := HR5.out.2.1.below hb6
  have hl6 := u6.lt
  have hm6 := r6.lt
  rw [← ed] at t7 b7 hl6 hm6
  have hS7 : StW w x r d X R0 D W7 := ⟨(u6.alloc (.cells (cellsF 62 zerF) 66)).but (by rw [zerF_cells]; exact b7) (by omega), (r6.alloc (.cells (cellsF 62 zerF) 66)).but (by rw [zerF_cells]; exact b7) (by omega), t7,
    b7.to (hB6.alloc hB6.size _) (by rw [ed]; exact hB6.size) (by have := hB6.size; simp; omega), HXR.out.2, HXR.out.1, by omega⟩
  rw [← ed]
  have HS7 := Lib.hid hS7
  clear t7 b7 hB6 u6 r6 hl6 hm6 hb6 CW HSD HR5 ed hS7
  have c0 := HS7.out.inn.cellF (i := 0) (by omega)
  have c1 := HS7.out.inn.cellF (i := 1) (by omega)
  rw [HX.out.1] at c0
  rw [HX.out.2.1] at c1
  have i64 : (a : Int) < 10 := by omega
  subst hw
  have c2 := HS7.out.inn.cellF (i := 2) (by omega)
  rw [HX.out.2.2.1] at c2
  have q1 := HS7.out.raw.cellF (i := 38 + a) (by omega)
  have z1 := HS7.out.raw.free (38 + a)
  go_upto_region 15 with fail
  · refine wp_worldS (StW w x r d X (rawF y) D) (HS7.out.butr (But.set _ _ _) (by have := HS7.out.raw.set (38 + a) (.float .f64 b); rw [HRS.out] at this; exact this)) ?_
    intro W8 hS8
    have HS8 := Lib.hid hS8
    clear hS8 HS7 c0 c1 c2 q1 z1
    have c0 := HS8.out.inn.cellF (i := 0) (by omega)
    rw [HX.out.1] at c0
    go_upto_region 16 with fail
    obtain ⟨p, ep⟩ : ∃ p, p = W8.heap.size := ⟨_, rfl⟩
    rw [← ep]
    refine wp_worldS (StP w x r d p X (rawF y) D (lawF (U1 y 0))) ⟨HS8.out.alloc _, by rw [U1_zero]; exact Blk.new _ _ _ _ ep, by rw [ep]; exact HS8.out.bel.size, by have := HS8.out.inn.lt; omega, by have := HS8.out.raw.lt; omega, by have := HS8.out.dfl.lt; omega⟩ ?_
    intro W9 hS9
    clear HS8 ep c0
    go_wp2_with fail
    go_loopg [8] 19 (fun gk s8 wr => ∃ i : Nat, i ≤ 19 ∧ gk = 19 - i ∧ s8 = .int .i64 ((i : Int)) ∧ StP w x r d p X (rawF y) D (lawF (U1 y i)) wr)
    case atStart => exact ⟨0, by omega, rfl, rfl, hS9⟩
    case round =>
      clear hS9
      obtain ⟨i, hi, rfl, rfl, hS⟩ := hrel
      by_cases hik : i < 19
      · have ix : (i : Int) < 19 := by omega
        have FB := flo_bits (y.L i)
        have FS := U1_set y i hik
        have HSET := Lib.hid FS
        clear FS
        go_upto_region 19 with (fail)
        go_upto_region 19 with (fail)
        rename_i K19 hK19
        refine wp_region_calm (fun w' => ∃ F, StP w x r d p X (rawF y) D F w') [15, 18] (fun w' => StP w x r d p X (rawF y) D (lawF (U1 y i)) w') [Is (.int .i64 ((i : Int))), Is (.int .i64 ((i : Int))), Is (.int .i64 ((i : Int))), Is (.pointer (some ⟨r, 0, none⟩)), Is (.pointer (some ⟨r, i * 2, none⟩)), Is (.pointer (some ⟨r, i * 2, none⟩)), Is (.float .f64 (y.L i)), Is (.int .u64 (y.L i)), Is (.int .i64 ((i : Int))), Is (.pointer (some ⟨r, 0, none⟩)), Is (.pointer (some ⟨r, i * 2, none⟩)), Is (.pointer (some ⟨r, i * 2 + 1, none⟩)), Is (.bool (y.P i)), Is (.pointer (some ⟨p, 0, none⟩)), Is (.pointer (some ⟨p, i, none⟩)), wldS (fun w' => ∃ u, StP w x r d p X (rawF y) D (holeF (lawF (U1 y i)) i (.int .u64 (y.L i)) (19 + i) u) w') (fun _ _ h hb => h.imp fun u h => h.below hb), Is (.pointer (some ⟨p, 19, none⟩)), Is (.pointer (some ⟨p, 19 + i, none⟩)), wldS (fun w' => StP w x r d p X (rawF y) D (lawF (U1 y (i + 1))) w') (fun _ _ h hb => h.below hb)] [] (by kernel_rfl) (by kernel_rfl) (by kernel_rfl) (by kernel_rfl) ⟨_, hS.drew⟩ hS.drew ?_ ?_ ?_ ?_ ?_
        · rintro W W' hC hb
          exact hC.imp fun j h => h.below hb
        · intro W W' hB h0 hb; exact h0.below hb
        · intro k vs W hk h
          exact absurd hk (by simp)
        · intro Q; clear hK19 
          refine ⟨?_, ?_, ?_, ?_, ?_, ?_, ?_, ?_, ?_, ?_, ?_, ?_, ?_, ?_, ?_, ?_, ?_, ?_, ?_, trivial⟩
          · intro vs W hW hW0 hd hne hold K hK hA hL; clear hne hA hL; have hC := hW; simp only [puts, Act.put, List.setIfInBounds_toArray, List.set_cons_zero, List.set_cons_succ, Nat.zero_add, Nat.reduceAdd] at hK ⊢; clear hd hold; go_simp; exact hK.out rfl _ _ (Below.refl _ _) rfl
          · intro vs W hW hW0 hd hne hold K hK hA hL; clear hne hA hL; have hC := hW; simp only [puts, Act.put, List.setIfInBounds_toArray, List.set_cons_zero, List.set_cons_succ, Nat.zero_add, Nat.reduceAdd] at hK ⊢; clear hd hold; go_simp; exact hK.out rfl _ _ (Below.refl _ _) rfl
          · intro vs W hW hW0 hd hne hold K hK hA hL; clear hne hA hL; have hC := hW; simp only [puts, Act.put, List.setIfInBounds_toArray, List.set_cons_zero, List.set_cons_succ, Nat.zero_add, Nat.reduceAdd] at hK ⊢; clear hd hold; go_simp; exact hK.out rfl _ _ (Below.refl _ _) rfl
          · intro vs W hW hW0 hd hne hold K hK hA hL; clear hne hA hL; have hC := hW; simp only [puts, Act.put, List.setIfInBounds_toArray, List.set_cons_zero, List.set_cons_succ, Nat.zero_add, Nat.reduceAdd] at hK ⊢; clear hd hold; go_simp; exact hK.out rfl _ _ (Below.refl _ _) rfl
          · intro vs W hW hW0 hd hne hold K hK hA hL; clear hne hA hL; have hC := hW; simp only [puts, Act.put, List.setIfInBounds_toArray, List.set_cons_zero, List.set_cons_succ, Nat.zero_add, Nat.reduceAdd] at hK ⊢; have e3 : vs 3 = _ := hd 3 (by kernel_rfl); have e2 : vs 2 = _ := hd 2 (by kernel_rfl); clear hd hold; simp only [e3, e2] at hK; go_simp; exact hK.out rfl _ _ (Below.refl _ _) rfl
          · intro vs W hW hW0 hd hne hold K hK hA hL; clear hne hA hL; have hC := hW; simp only [puts, Act.put, List.setIfInBounds_toArray, List.set_cons_zero, List.set_cons_succ, Nat.zero_add, Nat.reduceAdd] at hK ⊢; have e4 : vs 4 = _ := hd 4 (by kernel_rfl); clear hd hold; simp only [e4] at hK; go_simp; exact hK.out rfl _ _ (Below.refl _ _) rfl
          · intro vs W hW hW0 hd hne hold K hK hA hL; clear hne hA hL; have hC := hW; simp only [puts, Act.put, List.setIfInBounds_toArray, List.set_cons_zero, List.set_cons_succ, Nat.zero_add, Nat.reduceAdd] at hK ⊢; have ea : vs 5 = _ := hd 5 (by kernel_rfl); obtain ⟨j, hCj⟩ := hC; have q1 := hCj.st.raw.cellF (i := i * 2) (by omega); rw [Nat.mul_comm i 2, (raw_len hik).1, Nat.mul_comm 2 i] at q1; clear hd hold hCj; simp only [ea] at hK; go_simp; exact hK.out rfl _ _ (Below.refl _ _) rfl
          · intro vs W hW hW0 hd hne hold K hK hA hL; clear hne hA hL; have hC := hW; simp only [puts, Act.put, List.setIfInBounds_toArray, List.set_cons_zero, List.set_cons_succ, Nat.zero_add, Nat.reduceAdd] at hK ⊢; have ea : vs 6 = _ := hd 6 (by kernel_rfl); clear hd hold; simp only [ea] at hK; go_simp; exact hK.out rfl _ _ (Below.refl _ _) rfl
          · intro vs W hW hW0 hd hne hold K hK hA hL; clear hne hA hL; have hC := hW; simp only [puts, Act.put, List.setIfInBounds_toArray, List.set_cons_zero, List.set_cons_succ, Nat.zero_add, Nat.reduceAdd] at hK ⊢; clear hd hold; go_simp; exact hK.out rfl _ _ (Below.refl _ _) rfl
          · intro vs W hW hW0 hd hne hold K hK hA hL; clear hne hA hL; have hC := hW; simp only [puts, Act.put, List.setIfInBounds_toArray, List.set_cons_zero, List.set_cons_succ, Nat.zero_add, Nat.reduceAdd] at hK ⊢; clear hd hold; go_simp; exact hK.out rfl _ _ (Below.refl _ _) rfl
          · intro vs W hW hW0 hd hne hold K hK hA hL; clear hne hA hL; have hC := hW; simp only [puts, Act.put, List.setIfInBounds_toArray, List.set_cons_zero, List.set_cons_succ, Nat.zero_add, Nat.reduceAdd] at hK ⊢; have e9 : vs 9 = _ := hd 9 (by kernel_rfl); have e8 : vs 8 = _ := hd 8 (by kernel_rfl); clear hd hold; simp only [e9, e8] at hK; go_simp; exact hK.out rfl _ _ (Below.refl _ _) rfl
          · intro vs W hW hW0 hd hne hold K hK hA hL; clear hne hA hL; have hC := hW; simp only [puts, Act.put, List.setIfInBounds_toArray, List.set_cons_zero, List.set_cons_succ, Nat.zero_add, Nat.reduceAdd] at hK ⊢; have e10 : vs 10 = _ := hd 10 (by kernel_rfl); clear hd hold; simp only [e10] at hK; go_simp; exact hK.out rfl _ _ (Below.refl _ _) rfl
          · intro vs W hW hW0 hd hne hold K hK hA hL; clear hne hA hL; have hC := hW; simp only [puts, Act.put, List.setIfInBounds_toArray, List.set_cons_zero, List.set_cons_succ, Nat.zero_add, Nat.reduceAdd] at hK ⊢; have ea : vs 11 = _ := hd 11 (by kernel_rfl); obtain ⟨j, hCj⟩ := hC; have q1 := hCj.st.raw.cellF (i := i * 2 + 1) (by omega); rw [Nat.mul_comm i 2, (raw_len hik).2, Nat.mul_comm 2 i] at q1; clear hd hold hCj; simp only [ea] at hK; go_simp; exact hK.out rfl _ _ (Below.refl _ _) rfl
          · intro vs W hW hW0 hd hne hold K hK hA hL; clear hne hA hL; have hC := hW; simp only [puts, Act.put, List.setIfInBounds_toArray, List.set_cons_zero, List.set_cons_succ, Nat.zero_add, Nat.reduceAdd] at hK ⊢; clear hd hold; go_simp; exact hK.out rfl _ _ (Below.refl _ _) rfl
          · intro vs W hW hW0 hd hne hold K hK hA hL; clear hne hA hL; have hC := hW; simp only [puts, Act.put, List.setIfInBounds_toArray, List.set_cons_zero, List.set_cons_succ, Nat.zero_add, Nat.reduceAdd] at hK ⊢; have e13 : vs 13 = _ := hd 13 (by kernel_rfl); have e0 : vs 0 = _ := hd 0 (by kernel_rfl); clear hd hold; simp only [e13, e0] at hK; go_simp; exact hK.out rfl _ _ (Below.refl _ _) rfl
          · intro vs W hW hW0 hd hne hold K hK hA hL; clear hK hA; have hC := hW; simp only [puts, Act.put, List.setIfInBounds_toArray, List.set_cons_zero, List.set_cons_succ, Nat.zero_add, Nat.reduceAdd] at hL ⊢; have ea : vs 14 = _ := hd 14 (by kernel_rfl); have eb : vs 7 = _ := hd 7 (by kernel_rfl); have h0 := hW0 (by kernel_rfl); have q1 := h0.box.cellF (i := i) (by omega); have z1 := h0.box.free i; have tb := h0.box.set i (.int .u64 (y.L i)); rw [hole_set (lawF (U1 y i)) (.int .u64 (y.L i)) (show i ≠ 19 + i by omega)] at tb; have hbt := But.set (b := p) W i (.int .u64 (y.L i)); have hN := h0.butp hbt tb; clear hd hold h0; simp only [ea, eb] at hL; go_simp; refine hL.out rfl undef _ ⟨_, hN⟩ (fun h => by simp at h) ⟨_, hN⟩ ?_; exact claims_keep_b ⟨.inr (.inr is_keep), .inr (.inr is_keep), .inr (.inr is_keep), .inr (.inr is_keep), .inr (.inr is_keep), .inr (.inr is_keep), .inr (.inr is_keep), .inr (.inr is_keep), .inr (.inr is_keep), .inr (.inr is_keep), .inr (.inr is_keep), .inr (.inr is_keep), .inr (.inr is_keep), .inr (.inr is_keep), .inr (.inr is_keep), .inl rfl, .inr (.inr is_keep), .inr (.inr is_keep), .inr (.inl (by kernel_rfl)), trivial⟩
          · intro vs W hW hW0 hd hne hold K hK hA hL; clear hne hA hL; have hC := hW; simp only [puts, Act.put, List.setIfInBounds_toArray, List.set_cons_zero, List.set_cons_succ, Nat.zero_add, Nat.reduceAdd] at hK ⊢; clear hd hold; go_simp; exact hK.out rfl _ _ (Below.refl _ _) rfl
          · intro vs W hW hW0 hd hne hold K hK hA hL; clear hne hA hL; have hC := hW; simp only [puts, Act.put, List.setIfInBounds_toArray, List.set_cons_zero, List.set_cons_succ, Nat.zero_add, Nat.reduceAdd] at hK ⊢; have e16 : vs 16 = _ := hd 16 (by kernel_rfl); have e1 : vs 1 = _ := hd 1 (by kernel_rfl); clear hd hold; simp only [e16, e1] at hK; go_simp; exact hK.out rfl _ _ (Below.refl _ _) rfl
          · intro vs W hW hW0 hd hne hold K hK hA hL; clear hK hA; have hC := hW; simp only [puts, Act.put, List.setIfInBounds_toArray, List.set_cons_zero, List.set_cons_succ, Nat.zero_add, Nat.reduceAdd] at hL ⊢; have ea : vs 17 = _ := hd 17 (by kernel_rfl); have eb : vs 12 = _ := hd 12 (by kernel_rfl); have h0 : ∃ u, StP w x r d p X (rawF y) D (holeF (lawF (U1 y i)) i (.int .u64 (y.L i)) (19 + i) u) W := hd 15 (by kernel_rfl); obtain ⟨u, h0⟩ := h0; have q1 := h0.box.cellF (i := 19 + i) (by omega); have z1 := h0.box.free (19 + i); have tb := h0.box.set (19 + i) (.bool (y.P i)); rw [hole_fill, HSET.out] at tb; have hbt := But.set (b := p) W (19 + i) (.bool (y.P i)); have hN := h0.butp hbt tb; clear hd hold h0; simp only [ea, eb] at hL; go_simp; refine hL.out rfl undef _ ⟨_, hN⟩ (fun h => by simp at h) hN ?_; exact claims_keep_b ⟨.inr (.inr is_keep), .inr (.inr is_keep), .inr (.inr is_keep), .inr (.inr is_keep), .inr (.inr is_keep), .inr (.inr is_keep), .inr (.inr is_keep), .inr (.inr is_keep), .inr (.inr is_keep), .inr (.inr is_keep), .inr (.inr is_keep), .inr (.inr is_keep), .inr (.inr is_keep), .inr (.inr is_keep), .inr (.inr is_keep), .inr (.inr fun h => Exists.elim h fun u h => ⟨_, StP.butp h hbt (by have := h.box.set (19 + i) (.bool (y.P i)); rw [hole_again] at this; exact this)⟩), .inr (.inr is_keep), .inr (.inr is_keep), .inl rfl, trivial⟩
        · intro va5 WB hW hV _
          have hS18 : StP w x r d p X (rawF y) D (lawF (U1 y (i + 1))) WB := hV 18 (by decide)
          clear hV hW
          simp only [puts, Act.put, List.setIfInBounds_toArray, List.set_cons_zero, List.set_cons_succ, Nat.zero_add, Nat.reduceAdd]
          refine hK19 _ _ ?_
          have HS18 := Lib.hid hS18
          clear hS18 hS
          go_wp2_with fail
          go_roundg (19 - (i + 1))
          case measure => go_light; omega
          case rel =>
            go_light
            exact ⟨i + 1, by omega, rfl, rfl, HS18.out⟩
      · have hi19 : i = 19 := by omega
        subst hi19
        have hS2 : StP w x r d p X (rawF y) D (lawF (U2 y 0)) wr := hS.butp (But.of (Below.refl _ _)) (by rw [← U1_end]; exact hS.box)
        clear hS
        go_wp2_with fail
        go_loopg [9] 10 (fun gk s9 wr => ∃ i : Nat, i ≤ 10 ∧ gk = 10 - i ∧ s9 = .int .i64 ((i : Int)) ∧ StP w x r d p X (rawF y) D (lawF (U2 y i)) wr)
        case atStart => exact ⟨0, by omega, rfl, rfl, hS2⟩
        case round =>
          clear hS2
          obtain ⟨i, hi, rfl, rfl, hS⟩ := hrel
          by_cases hik : i < 10
          · have ix : (i : Int) < 10 := by omega
            have FB := flo_bits (y.N i)
            have FS := U2_set y i hik
            have HSET := Lib.hid FS
            have HS := Lib.hid hS
            have q1 := hS.st.raw.cellF (i := 38 + i) (by omega)
            rw [raw_num hik] at q1
            have q2 := hS.box.cellF (i := 38 + i) (by omega)
            have z2 := hS.box.free (38 + i)
            clear hS FS
            go_wp2_with fail
            go_roundg (10 - (i + 1))
            case measure => go_light; omega
            case rel =>
              go_light
              have tb := HS.out.box.set (38 + i) (.int .u64 (y.N i))
              rw [HSET.out] at tb
              exact ⟨i + 1, by omega, rfl, rfl, HS.out.butp (But.set _ _ _) tb⟩
          · have hi10 : i = 10 := by omega
            subst hi10
            have HS := Lib.hid hS
            have CW := HSY.out wr (HT.out.below hS.st.bel)
            clear hS
            go_upto_region 25 with (first
              | (refine wpl_loadA (by rfl) 74 _ (by rfl) HS.out.st.raw _ Tryd.underlying74 rfl (by kernel_rfl) (by rfl) ?_; simp only [Act.put, List.setIfInBounds_toArray, List.set_cons_zero, List.set_cons_succ, Nat.zero_add, Nat.reduceAdd])
              | (go_at_call 29; with_reducible refine CW.mono ?_; rintro e w6 ⟨rfl, hb6⟩)
              | (refine wpl_storeW (by rfl) 66 _ _ (by rfl) (b := w6.heap.size) (n := 62) (f := zerF) (T := 66) (by rw [zerF_cells]; exact Blk.new _ _ _ _ rfl) fO (fun i _ => HD1.out.2.1 i) (by kernel_rfl) (by rfl) (by rfl) ?_; intro W7 t7 b7; simp only [Act.put, List.setIfInBounds_toArray, List.set_cons_zero, List.set_cons_succ, Nat.zero_add, Nat.reduceAdd]))
            obtain ⟨s, es⟩ : ∃ s, s = w6.heap.size := ⟨_, rfl⟩
            have hS6 := HS.out.below hb6
            have l1 := hS6.st.inn.lt
            have l2 := hS6.st.raw.lt
            have l3 := hS6.st.dfl.lt
            have l4 := hS6.box.lt
            rw [← es] at t7 b7 l1 l2 l3 l4
            have hws : w.heap.size ≤ s := by rw [es]; exact hS6.st.bel.size
            have hS7 := (hS6.st.alloc (.cells (cellsF 62 zerF) 66)).but (by rw [zerF_cells]; exact b7) (by omega) (by omega) (by omega) hws
            have hP7 := (hS6.box.alloc (.cells (cellsF 62 zerF) 66)).but (by rw [zerF_cells]; exact b7) (by omega)
            have hds : d ≠ s := by omega
            rw [← es]
            have HS7 := Lib.hid (And.intro hS7 (And.intro hP7 (And.intro t7 (And.intro hws hds))))
            clear t7 b7 es hS6 l1 l2 l3 l4 hws hS7 hP7 hds hb6 CW HS HSY
            go_upto_region 26 with (first
              | (refine wpl_loadF (by rfl) 54 _ (by rfl) HS7.out.2.1 0 19 (by omega) _ Tryd.underlying54 rfl (by kernel_rfl) (by rfl) ?_; simp only [Act.put, List.setIfInBounds_toArray, List.set_cons_zero, List.set_cons_succ, Nat.zero_add, Nat.reduceAdd])
              | (refine wpl_loadF (by rfl) 55 _ (by rfl) HS7.out.2.1 19 19 (by omega) _ Tryd.underlying55 rfl (by kernel_rfl) (by rfl) ?_; simp only [Act.put, List.setIfInBounds_toArray, List.set_cons_zero, List.set_cons_succ, Nat.zero_add, Nat.reduceAdd])
              | (refine wpl_loadF (by rfl) 56 _ (by rfl) HS7.out.2.1 38 10 (by omega) _ Tryd.underlying56 rfl (by kernel_rfl) (by rfl) ?_; simp only [Act.put, List.setIfInBounds_toArray, List.set_cons_zero, List.set_cons_succ, Nat.zero_add, Nat.reduceAdd])
              | (refine wpl_loadF (by rfl) 57 _ (by rfl) HS7.out.1.raw 48 12 (by omega) _ Tryd.underlying57 rfl (by kernel_rfl) (by rfl) ?_; simp only [Act.put, List.setIfInBounds_toArray, List.set_cons_zero, List.set_cons_succ, Nat.zero_add, Nat.reduceAdd])
              | (refine wpl_loadF (by rfl) 58 _ (by rfl) HS7.out.1.inn 5 4 (by omega) _ Tryd.underlying58 rfl (by kernel_rfl) (by rfl) ?_; simp only [Act.put, List.setIfInBounds_toArray, List.set_cons_zero, List.set_cons_succ, Nat.zero_add, Nat.reduceAdd])
              | (refine wpl_buildV (by rfl) 83 _ (by rfl) _ _ (by kernel_rfl) HBU.out ?_; simp only [Act.put, List.setIfInBounds_toArray, List.set_cons_zero, List.set_cons_succ, Nat.zero_add, Nat.reduceAdd])
              | (go_at_call 31; with_reducible refine (RY _).mono ?_; rintro e w8 ⟨rfl, hb8⟩)
              | (refine wpl_storeW (by rfl) 79 _ _ (by rfl) (b := w8.heap.size) (n := 61) (f := zerR) (T := 79) (by rw [zerR_cells]; exact Blk.new _ _ _ _ rfl) fR (fun i _ => HD1.out.2.2.1 i) (by kernel_rfl) (by rfl) (by rfl) ?_; intro W9 t9 b9; simp only [Act.put, List.setIfInBounds_toArray, List.set_cons_zero, List.set_cons_succ, Nat.zero_add, Nat.reduceAdd]))
            obtain ⟨m, em⟩ : ∃ m, m = w8.heap.size := ⟨_, rfl⟩
            have g1 := HS7.out.1.below hb8
            have g2 := HS7.out.2.2.1.below hb8
            have l1 := g1.inn.lt
            have l2 := g1.raw.lt
            have l3 := g1.dfl.lt
            have l4 := g2.lt
            rw [← em] at t9 b9 l1 l2 l3 l4
            have hwm : w.heap.size ≤ m := by rw [em]; exact g1.bel.size
            have hS9 := (g1.alloc (.cells (cellsF 61 zerR) 79)).but (by rw [zerR_cells]; exact b9) (by omega) (by omega) (by omega) hwm
            have hT9 := (g2.alloc (.cells (cellsF 61 zerR) 79)).but (by rw [zerR_cells]; exact b9) (by omega)
            rw [← em]
            have c0 := hS9.inn.cellF (i := 0) (by omega)
            rw [HX.out.1] at c0
            have HS9 := Lib.hid (And.intro hS9 (And.intro hT9 t9))
            have HDS7 := Lib.hid HS7.out.2.2.2
            clear t9 b9 em g1 g2 l1 l2 l3 l4 hwm hS9 hT9 hb8 RY HBU HS7
            by_cases hE : E = 0
            · subst hE
              obtain ⟨f1, f2⟩ := HYN.out.1 rfl
              rw [← f1, ← f2] at SM
              have HFO := Lib.hid f1
              clear f1 f2
              go_upto_region 36 with (first
                | (refine wpl_loadA (by rfl) 66 _ (by rfl) HS9.out.2.1 _ Tryd.underlying66 rfl (by kernel_rfl) (by rfl) ?_; simp only [Act.put, List.setIfInBounds_toArray, List.set_cons_zero, List.set_cons_succ, Nat.zero_add, Nat.reduceAdd])
                | (refine wpl_loadA (by rfl) 79 _ (by rfl) HS9.out.2.2 _ Tryd.underlying79 rfl (by kernel_rfl) (by rfl) ?_; simp only [Act.put, List.setIfInBounds_toArray, List.set_cons_zero, List.set_cons_succ, Nat.zero_add, Nat.reduceAdd])
                | (go_at_call 32; with_reducible refine (SM _).mono ?_; rintro e wa ⟨rfl, hba⟩; have hFi : FiW w d s D fO wa := ⟨HS9.out.1.dfl.below hba, HS9.out.2.1.below hba, HS9.out.1.bel.trans (hba.mono HS9.out.1.bel.size), HDS7.out.1, HDS7.out.2⟩; have HFI := Lib.hid hFi; have ca := (HS9.out.1.below hba).inn.cellF (i := 0) (by omega); rw [HX.out.1] at ca; clear hFi c0))
              go_upto_region 36 with (fail)
              rename_i K36 hK36
              refine wp_region_calm (fun w' => ∃ F, FiW w d s D F w') [9, 11] (fun w' => FiW w d s D fO w') [Is (.int .i64 ((a : Int))), Is (.int .i64 ((a : Int))), Is (.pointer (some ⟨d, 38, none⟩)), Is (.pointer (some ⟨d, 38 + a, none⟩)), Is (.int .i64 v1), Is (.pointer (some ⟨d, 48, none⟩)), Is (.bool v2), Is (.pointer (some ⟨s, 38, none⟩)), Is (.pointer (some ⟨s, 38 + a, none⟩)), wldS (fun w' => ∃ u, FiW w d s D (holeF fO (38 + a) (.int .i64 v1) 48 u) w') (fun _ _ h hb => h.imp fun u h => h.below hb), Is (.pointer (some ⟨s, 48, none⟩)), wldS (fun w' => FiW w d s D D w') (fun _ _ h hb => h.below hb)] [] (by kernel_rfl) (by kernel_rfl) (by kernel_rfl) (by kernel_rfl) ⟨_, HFI.out.drew⟩ HFI.out.drew ?_ ?_ ?_ ?_ ?_
              · rintro W W' hC hb
                exact hC.imp fun j h => h.below hb
              · intro W W' hB h0 hb; exact h0.below hb
              · intro k vs W hk h
                exact absurd hk (by simp)
              · intro Q; clear hK36 
                refine ⟨?_, ?_, ?_, ?_, ?_, ?_, ?_, ?_, ?_, ?_, ?_, ?_, trivial⟩
                · intro vs W hW hW0 hd hne hold K hK hA hL; clear hne hA hL; have hC := hW; simp only [puts, Act.put, List.setIfInBounds_toArray, List.set_cons_zero, List.set_cons_succ, Nat.zero_add, Nat.reduceAdd] at hK ⊢; clear hd hold; go_simp; exact hK.out rfl _ _ (Below.refl _ _) rfl
                · intro vs W hW hW0 hd hne hold K hK hA hL; clear hne hA hL; have hC := hW; simp only [puts, Act.put, List.setIfInBounds_toArray, List.set_cons_zero, List.set_cons_succ, Nat.zero_add, Nat.reduceAdd] at hK ⊢; clear hd hold; go_simp; exact hK.out rfl _ _ (Below.refl _ _) rfl
                · intro vs W hW hW0 hd hne hold K hK hA hL; clear hne hA hL; have hC := hW; simp only [puts, Act.put, List.setIfInBounds_toArray, List.set_cons_zero, List.set_cons_succ, Nat.zero_add, Nat.reduceAdd] at hK ⊢; clear hd hold; go_simp; exact hK.out rfl _ _ (Below.refl _ _) rfl
                · intro vs W hW hW0 hd hne hold K hK hA hL; clear hne hA hL; have hC := hW; simp only [puts, Act.put, List.setIfInBounds_toArray, List.set_cons_zero, List.set_cons_succ, Nat.zero_add, Nat.reduceAdd] at hK ⊢; have e2 : vs 2 = _ := hd 2 (by kernel_rfl); have e1 : vs 1 = _ := hd 1 (by kernel_rfl); clear hd hold; simp only [e2, e1] at hK; go_simp; exact hK.out rfl _ _ (Below.refl _ _) rfl
                · intro vs W hW hW0 hd hne hold K hK hA hL; clear hne hA hL; have hC := hW; simp only [puts, Act.put, List.setIfInBounds_toArray, List.set_cons_zero, List.set_cons_succ, Nat.zero_add, Nat.reduceAdd] at hK ⊢; have ea : vs 3 = _ := hd 3 (by kernel_rfl); obtain ⟨j, hCj⟩ := hC; have q1 := hCj.dfl.cellF (i := 38 + a) (by omega); rw [HDA.out.1] at q1; clear hd hold hCj; simp only [ea] at hK; go_simp; exact hK.out rfl _ _ (Below.refl _ _) rfl
                · intro vs W hW hW0 hd hne hold K hK hA hL; clear hne hA hL; have hC := hW; simp only [puts, Act.put, List.setIfInBounds_toArray, List.set_cons_zero, List.set_cons_succ, Nat.zero_add, Nat.reduceAdd] at hK ⊢; clear hd hold; go_simp; exact hK.out rfl _ _ (Below.refl _ _) rfl
                · intro vs W hW hW0 hd hne hold K hK hA hL; clear hne hA hL; have hC := hW; simp only [puts, Act.put, List.setIfInBounds_toArray, List.set_cons_zero, List.set_cons_succ, Nat.zero_add, Nat.reduceAdd] at hK ⊢; have ea : vs 5 = _ := hd 5 (by kernel_rfl); obtain ⟨j, hCj⟩ := hC; have q1 := hCj.dfl.cellF (i := 48) (by omega); rw [HDA.out.2] at q1; clear hd hold hCj; simp only [ea] at hK; go_simp; exact hK.out rfl _ _ (Below.refl _ _) rfl
                · intro vs W hW hW0 hd hne hold K hK hA hL; clear hne hA hL; have hC := hW; simp only [puts, Act.put, List.setIfInBounds_toArray, List.set_cons_zero, List.set_cons_succ, Nat.zero_add, Nat.reduceAdd] at hK ⊢; clear hd hold; go_simp; exact hK.out rfl _ _ (Below.refl _ _) rfl
                · intro vs W hW hW0 hd hne hold K hK hA hL; clear hne hA hL; have hC := hW; simp only [puts, Act.put, List.setIfInBounds_toArray, List.set_cons_zero, List.set_cons_succ, Nat.zero_add, Nat.reduceAdd] at hK ⊢; have e7 : vs 7 = _ := hd 7 (by kernel_rfl); have e0 : vs 0 = _ := hd 0 (by kernel_rfl); clear hd hold; simp only [e7, e0] at hK; go_simp; exact hK.out rfl _ _ (Below.refl _ _) rfl
                · intro vs W hW hW0 hd hne hold K hK hA hL; clear hK hA; have hC := hW; simp only [puts, Act.put, List.setIfInBounds_toArray, List.set_cons_zero, List.set_cons_succ, Nat.zero_add, Nat.reduceAdd] at hL ⊢; have ea : vs 8 = _ := hd 8 (by kernel_rfl); have eb : vs 4 = _ := hd 4 (by kernel_rfl); have h0 := hW0 (by kernel_rfl); have q1 := h0.sty.cellF (i := 38 + a) (by omega); have z1 := h0.sty.free (38 + a); have tb := h0.sty.set (38 + a) (.int .i64 v1); rw [hole_set fO (.int .i64 v1) (show 38 + a ≠ 48 by omega)] at tb; have hbt := But.set (b := s) W (38 + a) (.int .i64 v1); have hN := h0.but hbt tb; clear hd hold h0; simp only [ea, eb] at hL; go_simp; refine hL.out rfl undef _ ⟨_, hN⟩ (fun h => by simp at h) ⟨_, hN⟩ ?_; exact claims_keep_b ⟨.inr (.inr is_keep), .inr (.inr is_keep), .inr (.inr is_keep), .inr (.inr is_keep), .inr (.inr is_keep), .inr (.inr is_keep), .inr (.inr is_keep), .inr (.inr is_keep), .inr (.inr is_keep), .inl rfl, .inr (.inr is_keep), .inr (.inl (by kernel_rfl)), trivial⟩
                · intro vs W hW hW0 hd hne hold K hK hA hL; clear hne hA hL; have hC := hW; simp only [puts, Act.put, List.setIfInBounds_toArray, List.set_cons_zero, List.set_cons_succ, Nat.zero_add, Nat.reduceAdd] at hK ⊢; clear hd hold; go_simp; exact hK.out rfl _ _ (Below.refl _ _) rfl
                · intro vs W hW hW0 hd hne hold K hK hA hL; clear hK hA; have hC := hW; simp only [puts, Act.put, List.setIfInBounds_toArray, List.set_cons_zero, List.set_cons_succ, Nat.zero_add, Nat.reduceAdd] at hL ⊢; have ea : vs 10 = _ := hd 10 (by kernel_rfl); have eb : vs 6 = _ := hd 6 (by kernel_rfl); have h0 : ∃ u, FiW w d s D (holeF fO (38 + a) (.int .i64 v1) 48 u) W := hd 9 (by kernel_rfl); obtain ⟨u, h0⟩ := h0; have q1 := h0.sty.cellF (i := 48) (by omega); have z1 := h0.sty.free 48; have tb := h0.sty.set 48 (.bool v2); rw [hole_fill, HFO.out, HBK.out] at tb; have hbt := But.set (b := s) W 48 (.bool v2); have hN := h0.but hbt tb; clear hd hold h0; simp only [ea, eb] at hL; go_simp; refine hL.out rfl undef _ ⟨_, hN⟩ (fun h => by simp at h) hN ?_; exact claims_keep_b ⟨.inr (.inr is_keep), .inr (.inr is_keep), .inr (.inr is_keep), .inr (.inr is_keep), .inr (.inr is_keep), .inr (.inr is_keep), .inr (.inr is_keep), .inr (.inr is_keep), .inr (.inr is_keep), .inr (.inr fun h => Exists.elim h fun u h => ⟨_, FiW.but h hbt (by have := h.sty.set 48 (.bool v2); rw [hole_again] at this; exact this)⟩), .inr (.inr is_keep), .inl rfl, trivial⟩
              · intro va5 Wz hW hV _
                have hz : FiW w d s D D Wz := hV 11 (by decide)
                clear hV hW
                simp only [puts, Act.put, List.setIfInBounds_toArray, List.set_cons_zero, List.set_cons_succ, Nat.zero_add, Nat.reduceAdd]
                refine hK36 _ _ ?_
                have HZ := Lib.hid hz
                have EQ := HEQ.out
                clear hz
                go_wp2_with (first
                  | (refine wpl_loadA (by rfl) 66 _ (by rfl) HZ.out.sty _ Tryd.underlying66 rfl (by kernel_rfl) (by rfl) ?_; simp only [Act.put, List.setIfInBounds_toArray, List.set_cons_zero, List.set_cons_succ, Nat.zero_add, Nat.reduceAdd])
                  | (refine wpl_loadA (by rfl) 66 _ (by rfl) HZ.out.dfl _ Tryd.underlying66 rfl (by kernel_rfl) (by rfl) ?_; simp only [Act.put, List.setIfInBounds_toArray, List.set_cons_zero, List.set_cons_succ, Nat.zero_add, Nat.reduceAdd]))
                go_ret
                exact ⟨rfl, HZ.out.bel⟩
            · have z := HYN.out.2 hE
              have z0 : (E == 0) = false := by simpa using hE
              have z1 : (E != 0) = true := by simpa using hE
              have EQ : ∀ w, (Op.equalIn 10000 66 (.agg (cellsF 62 fO)) (.agg (cellsF 62 zerF))).run Tryd.prog w = .ok true w := fun w => by rw [z]; exact sty_self _ _ _ _ _ _ w
              have HE := Lib.hid hE
              have EQ2 := EQ
              simp only [zerF_cells] at EQ2
              clear z hE
              go_wp2_with (first
                | (refine wpl_loadA (by rfl) 66 _ (by rfl) HS9.out.2.1 _ Tryd.underlying66 rfl (by kernel_rfl) (by rfl) ?_; simp only [Act.put, List.setIfInBounds_toArray, List.set_cons_zero, List.set_cons_succ, Nat.zero_add, Nat.reduceAdd])
                | (refine wpl_buildV (by rfl) 66 _ (by rfl) #[] (.agg (cellsF 62 zerF)) (by rfl) (fun _ => by kernel_rfl) ?_; simp only [Act.put, List.setIfInBounds_toArray, List.set_cons_zero, List.set_cons_succ, Nat.zero_add, Nat.reduceAdd]))
              go_ret
              exact ⟨rfl, HS9.out.1.bel⟩
end Go.Proofs.YtmkblfejoniccaaDoor
