/-
  Layer 11 (style): told.
-/
import Derived.Test.YtmkblfejoniccaaDoorYSyQ
namespace Go.Proofs.YtmkblfejoniccaaDoor
open Go Go.RowKit
set_option linter.unusedSimpArgs false
set_option linter.unusedVariables false

/-- What told's world bears. -/
structure TdW (x : Rs) (w : World) (r o s : Nat) (F : Nat → Value) (W : World) : Prop where
  raw : Blk W r (cellsF 65 (lawF x)) 60
  out : Blk W o (cellsF 65 (rawF (stR 0 false false 0))) 74
  sty : Blk W s (cellsF 65 F) 74
  bel : Below w.heap.size w W
  olo : w.heap.size ≤ o
  slo : w.heap.size ≤ s
  nr : r ≠ s
  no : o ≠ s
theorem TdW.below {x : Rs} {w W W' : World} {r o s : Nat} {F : Nat → Value} (h : TdW x w r o s F W) (hb : Below W.heap.size W W') : TdW x w r o s F W' :=
  ⟨h.raw.below hb, h.out.below hb, h.sty.below hb, h.bel.trans (hb.mono h.bel.size), h.olo, h.slo, h.nr, h.no⟩
theorem TdW.drew {x : Rs} {w W : World} {r o s : Nat} {F : Nat → Value} (h : TdW x w r o s F W) : TdW x w r o s F W.drew :=
  ⟨h.raw.drew, h.out.drew, h.sty.drew, h.bel.drew, h.olo, h.slo, h.nr, h.no⟩
theorem TdW.but {x : Rs} {w W W' : World} {r o s : Nat} {F F' : Nat → Value} (h : TdW x w r o s F W) (hb : But s W W') (t : Blk W' s (cellsF 65 F') 74) : TdW x w r o s F' W' :=
  ⟨h.raw.but hb h.nr, h.out.but hb h.no, t, hb.to h.bel h.slo h.bel.size, h.olo, h.slo, h.nr, h.no⟩
set_option maxRecDepth 100000 in
set_option maxHeartbeats 3200000 in
theorem told11 (x : Rs) (w : World) : Calls Tryd.prog 30 #[.agg (cellsF 65 (lawF x))] w fun e w' => e = .returned (.agg (cellsF 65 (rawF x))) ∧ Below w.heap.size w w' := by
  have SF := sto_floS
  go_enter Tryd.func30, Tryd.ntmps30
  go_upto_region 1 with fail
  refine wp_worldS (fun W => Blk W w.heap.size (cellsF 65 (lawF x)) 60 ∧ Blk W (w.heap.size + 1) (cellsF 65 (rawF (stR 0 false false 0))) 74 ∧ Below w.heap.size w W) ⟨Blk.alloc (Blk.new _ _ _ _ rfl) _, by rw [stR_zero]; exact Blk.new _ _ _ _ (by simp), (by repeat' (first | (with_reducible exact Below.refl _ _) | (with_reducible assumption) | (with_reducible refine below_alloc ?_ _ ?_) | (with_reducible refine below_set _ ?_ ?_) | (with_reducible refine Below.drew ?_) | (with_reducible refine below_dN ?_ _) | (apply below_thenA; assumption) | omega | (simp; done) | (simp; omega) | (simp [*]; done)))⟩ ?_
  rintro W1 ⟨t1, t2, hB1⟩
  have BU : ∀ w, (Instr.build 74 #[(2, .agg (cellsF 12 (fun k => lawF x (48 + k)))), (3, .agg (cellsF 4 (fun k => lawF x (60 + k)))), (4, .int .u8 x.C)]).run Tryd.prog w = .ok (.agg (cellsF 65 (rawF (T1 x 0)))) w := fun w => by kernel_rfl
  have q64 := t1.cellF (i := 64) (by omega)
  rw [show lawF x 64 = .int .u8 x.C from rfl] at q64
  have HT1 := Lib.hid t1
  have HT2 := Lib.hid t2
  have HB1 := Lib.hid hB1
  have h01 : ∀ i, (rawF (T1 x 0) i).oneCell' = true := rawF_one _
  obtain ⟨F0, eF0⟩ : ∃ F, rawF (T1 x 0) = F := ⟨_, rfl⟩
  rw [eF0] at BU h01
  obtain ⟨FL, eFL⟩ : ∃ F, lawF x = F := ⟨_, rfl⟩
  rw [eFL] at BU HT1
  have H01 := Lib.hid h01
  have HBU := Lib.hid BU
  have HEF := Lib.hid (And.intro eF0 eFL)
  clear t1 t2 hB1 h01 BU eF0 eFL
  go_upto_region 2 with (first
    | (refine wpl_loadF (by rfl) 57 _ (by rfl) HT1.out 48 12 (by omega) _ Tryd.underlying57 rfl (by kernel_rfl) (by rfl) ?_; simp only [Act.put, List.setIfInBounds_toArray, List.set_cons_zero, List.set_cons_succ, Nat.zero_add, Nat.reduceAdd])
    | (refine wpl_loadF (by rfl) 58 _ (by rfl) HT1.out 60 4 (by omega) _ Tryd.underlying58 rfl (by kernel_rfl) (by rfl) ?_; simp only [Act.put, List.setIfInBounds_toArray, List.set_cons_zero, List.set_cons_succ, Nat.zero_add, Nat.reduceAdd])
    | (refine wpl_buildV (by rfl) 74 _ (by rfl) #[(2, .agg (cellsF 12 (fun k => FL (48 + k)))), (3, .agg (cellsF 4 (fun k => FL (60 + k)))), (4, .int .u8 x.C)] _ (by kernel_rfl) HBU.out ?_; simp only [Act.put, List.setIfInBounds_toArray, List.set_cons_zero, List.set_cons_succ, Nat.zero_add, Nat.reduceAdd])
    | (refine wpl_storeW (by rfl) 74 _ _ (by rfl) (b := W1.heap.size) (n := 65) (f := rawF (stR 0 false false 0)) (T := 74) (by rw [stR_zero]; exact Blk.new _ _ _ _ rfl) F0 (fun i _ => H01.out i) (by kernel_rfl) (by rfl) (by rfl) ?_; intro W3 t3 b3; simp only [Act.put, List.setIfInBounds_toArray, List.set_cons_zero, List.set_cons_succ, Nat.zero_add, Nat.reduceAdd]))
  rw [← HEF.out.1] at t3
  have ht1 := HT1.out
  rw [← HEF.out.2] at ht1
  clear HT1
  have HT1 := Lib.hid ht1
  clear ht1
  obtain ⟨s, es⟩ : ∃ s, s = W1.heap.size := ⟨_, rfl⟩
  obtain ⟨r, er⟩ : ∃ r, r = w.heap.size := ⟨_, rfl⟩
  obtain ⟨o, eo⟩ : ∃ o, o = w.heap.size + 1 := ⟨_, rfl⟩
  have hr1 := HT1.out.lt
  have ho1 := HT2.out.lt
  have hsz := HB1.out.size
  rw [← es] at t3 b3 hr1 ho1
  have hS0 : TdW x w r o s (rawF (T1 x 0)) W3 := ⟨by rw [er]; exact (HT1.out.alloc _).but b3 (by omega), by rw [eo]; exact (HT2.out.alloc _).but b3 (by omega), t3, b3.to (HB1.out.alloc hsz _) (by omega) (by simp; omega), by omega, by omega, by omega, by omega⟩
  rw [← es, ← eo, ← er]
  have ES := Lib.hid (And.intro es (And.intro er eo))
  clear t3 b3 es HT1 HT2 HB1 er eo hr1 ho1 hsz q64 HBU H01 HEF
  go_wp2_with fail
  go_loopg [4] 19 (fun gk s4 wr => ∃ i : Nat, i ≤ 19 ∧ gk = 19 - i ∧ s4 = .int .i64 ((i : Int)) ∧ TdW x w r o s (rawF (T1 x i)) wr)
  case atStart => exact ⟨0, by omega, rfl, rfl, hS0⟩
  case round =>
    clear hS0
    obtain ⟨i, hi, rfl, rfl, hS⟩ := hrel
    by_cases hik : i < 19
    · have ix : (i : Int) < 19 := by omega
      have FF := flo_fromS (x.L i)
      have FS := T1_set x i hik
      have HSET := Lib.hid FS
      clear FS
      go_upto_region 5 with (fail)
      go_upto_region 5 with (fail)
      rename_i K5 hK5
      refine wp_region_calm (fun w' => ∃ j, TdW x w r o s (rawF (T1 x j)) w') [13] (fun w' => TdW x w r o s (rawF (T1 x i)) w') [Is (.int .i64 ((i : Int))), Is (.int .i64 ((i : Int))), Is (.pointer (some ⟨r, 0, none⟩)), Is (.pointer (some ⟨r, i, none⟩)), Is (.int .u64 (x.L i)), Is (.float .f64 (x.L i)), Is (.int .i64 ((i : Int))), Is (.pointer (some ⟨r, 19, none⟩)), Is (.pointer (some ⟨r, 19 + i, none⟩)), Is (.bool (x.P i)), Is (.agg #[.float .f64 (x.L i), .bool (x.P i)]), Is (.pointer (some ⟨s, 0, none⟩)), Is (.pointer (some ⟨s, i * 2, none⟩)), wldS (fun w' => TdW x w r o s (rawF (T1 x (i + 1))) w') (fun _ _ h hb => h.below hb)] [] (by kernel_rfl) (by kernel_rfl) (by kernel_rfl) (by kernel_rfl) ⟨i, hS.drew⟩ hS.drew ?_ ?_ ?_ ?_ ?_
      · rintro W W' hC hb
        exact hC.imp fun j h => h.below hb
      · intro W W' hB h0 hb; exact h0.below hb
      · intro k vs W hk h
        exact absurd hk (by simp)
      · intro Q; clear hK5 
        refine ⟨?_, ?_, ?_, ?_, ?_, ?_, ?_, ?_, ?_, ?_, ?_, ?_, ?_, ?_, trivial⟩
        · intro vs W hW hW0 hd hne hold K hK hA hL; clear hne hA hL; have hC := hW; simp only [puts, Act.put, List.setIfInBounds_toArray, List.set_cons_zero, List.set_cons_succ, Nat.zero_add, Nat.reduceAdd] at hK ⊢; clear hd hold; go_simp; exact hK.out rfl _ _ (Below.refl _ _) rfl
        · intro vs W hW hW0 hd hne hold K hK hA hL; clear hne hA hL; have hC := hW; simp only [puts, Act.put, List.setIfInBounds_toArray, List.set_cons_zero, List.set_cons_succ, Nat.zero_add, Nat.reduceAdd] at hK ⊢; clear hd hold; go_simp; exact hK.out rfl _ _ (Below.refl _ _) rfl
        · intro vs W hW hW0 hd hne hold K hK hA hL; clear hne hA hL; have hC := hW; simp only [puts, Act.put, List.setIfInBounds_toArray, List.set_cons_zero, List.set_cons_succ, Nat.zero_add, Nat.reduceAdd] at hK ⊢; clear hd hold; go_simp; exact hK.out rfl _ _ (Below.refl _ _) rfl
        · intro vs W hW hW0 hd hne hold K hK hA hL; clear hne hA hL; have hC := hW; simp only [puts, Act.put, List.setIfInBounds_toArray, List.set_cons_zero, List.set_cons_succ, Nat.zero_add, Nat.reduceAdd] at hK ⊢; have e2 : vs 2 = _ := hd 2 (by kernel_rfl); have e1 : vs 1 = _ := hd 1 (by kernel_rfl); clear hd hold; simp only [e2, e1] at hK; go_simp; exact hK.out rfl _ _ (Below.refl _ _) rfl
        · intro vs W hW hW0 hd hne hold K hK hA hL; clear hne hA hL; have hC := hW; simp only [puts, Act.put, List.setIfInBounds_toArray, List.set_cons_zero, List.set_cons_succ, Nat.zero_add, Nat.reduceAdd] at hK ⊢; have ea : vs 3 = _ := hd 3 (by kernel_rfl); obtain ⟨j, hCj⟩ := hC; have q1 := hCj.raw.cellF (i := i) (by omega); rw [law_ref (by omega), (ref_len hik).1] at q1; clear hd hold hCj; simp only [ea] at hK; go_simp; exact hK.out rfl _ _ (Below.refl _ _) rfl
        · intro vs W hW hW0 hd hne hold K hK hA hL; clear hne hA hL; have hC := hW; simp only [puts, Act.put, List.setIfInBounds_toArray, List.set_cons_zero, List.set_cons_succ, Nat.zero_add, Nat.reduceAdd] at hK ⊢; have ea : vs 4 = _ := hd 4 (by kernel_rfl); clear hd hold; simp only [ea] at hK; go_simp; exact hK.out rfl _ _ (Below.refl _ _) rfl
        · intro vs W hW hW0 hd hne hold K hK hA hL; clear hne hA hL; have hC := hW; simp only [puts, Act.put, List.setIfInBounds_toArray, List.set_cons_zero, List.set_cons_succ, Nat.zero_add, Nat.reduceAdd] at hK ⊢; clear hd hold; go_simp; exact hK.out rfl _ _ (Below.refl _ _) rfl
        · intro vs W hW hW0 hd hne hold K hK hA hL; clear hne hA hL; have hC := hW; simp only [puts, Act.put, List.setIfInBounds_toArray, List.set_cons_zero, List.set_cons_succ, Nat.zero_add, Nat.reduceAdd] at hK ⊢; clear hd hold; go_simp; exact hK.out rfl _ _ (Below.refl _ _) rfl
        · intro vs W hW hW0 hd hne hold K hK hA hL; clear hne hA hL; have hC := hW; simp only [puts, Act.put, List.setIfInBounds_toArray, List.set_cons_zero, List.set_cons_succ, Nat.zero_add, Nat.reduceAdd] at hK ⊢; have e7 : vs 7 = _ := hd 7 (by kernel_rfl); have e6 : vs 6 = _ := hd 6 (by kernel_rfl); clear hd hold; simp only [e7, e6] at hK; go_simp; exact hK.out rfl _ _ (Below.refl _ _) rfl
        · intro vs W hW hW0 hd hne hold K hK hA hL; clear hne hA hL; have hC := hW; simp only [puts, Act.put, List.setIfInBounds_toArray, List.set_cons_zero, List.set_cons_succ, Nat.zero_add, Nat.reduceAdd] at hK ⊢; have ea : vs 8 = _ := hd 8 (by kernel_rfl); obtain ⟨j, hCj⟩ := hC; have q1 := hCj.raw.cellF (i := 19 + i) (by omega); rw [law_ref (by omega), (ref_len hik).2] at q1; clear hd hold hCj; simp only [ea] at hK; go_simp; exact hK.out rfl _ _ (Below.refl _ _) rfl
        · intro vs W hW hW0 hd hne hold K hK hA hL; clear hne hA hL; have hC := hW; simp only [puts, Act.put, List.setIfInBounds_toArray, List.set_cons_zero, List.set_cons_succ, Nat.zero_add, Nat.reduceAdd] at hK ⊢; have e5 : vs 5 = _ := hd 5 (by kernel_rfl); have e9 : vs 9 = _ := hd 9 (by kernel_rfl); clear hd hold; simp only [e5, e9] at hK; go_simp; exact hK.out rfl _ _ (Below.refl _ _) rfl
        · intro vs W hW hW0 hd hne hold K hK hA hL; clear hne hA hL; have hC := hW; simp only [puts, Act.put, List.setIfInBounds_toArray, List.set_cons_zero, List.set_cons_succ, Nat.zero_add, Nat.reduceAdd] at hK ⊢; clear hd hold; go_simp; exact hK.out rfl _ _ (Below.refl _ _) rfl
        · intro vs W hW hW0 hd hne hold K hK hA hL; clear hne hA hL; have hC := hW; simp only [puts, Act.put, List.setIfInBounds_toArray, List.set_cons_zero, List.set_cons_succ, Nat.zero_add, Nat.reduceAdd] at hK ⊢; have e11 : vs 11 = _ := hd 11 (by kernel_rfl); have e0 : vs 0 = _ := hd 0 (by kernel_rfl); clear hd hold; simp only [e11, e0] at hK; go_simp; exact hK.out rfl _ _ (Below.refl _ _) rfl
        · intro vs W hW hW0 hd hne hold K hK hA hL; clear hK hA; have hC := hW; simp only [puts, Act.put, List.setIfInBounds_toArray, List.set_cons_zero, List.set_cons_succ, Nat.zero_add, Nat.reduceAdd] at hL ⊢; have ea : vs 12 = _ := hd 12 (by kernel_rfl); have eb : vs 10 = _ := hd 10 (by kernel_rfl); have h0 := hW0 (by kernel_rfl); have q1 := h0.sty.cellF (i := i * 2) (by omega); have q2 := h0.sty.cellF (i := i * 2 + 1) (by omega); have z1 := h0.sty.free (i * 2); have z2 := h0.sty.free (i * 2 + 1); have tb := (h0.sty.set (i * 2) (.float .f64 (x.L i))).set (i * 2 + 1) (.bool (x.P i)); rw [HSET.out] at tb; have hbt := (But.set (b := s) W (i * 2) (.float .f64 (x.L i))).trans (But.set (b := s) _ (i * 2 + 1) (.bool (x.P i))); have hN := h0.but hbt tb; clear hd hold h0; simp only [ea, eb] at hL; go_simp; refine hL.out rfl undef _ ⟨_, hN⟩ (fun h => by simp at h) hN ?_; exact claims_keep ⟨.inr is_keep, .inr is_keep, .inr is_keep, .inr is_keep, .inr is_keep, .inr is_keep, .inr is_keep, .inr is_keep, .inr is_keep, .inr is_keep, .inr is_keep, .inr is_keep, .inr is_keep, .inl rfl, trivial⟩
      · intro va5 WB hW hV _
        have hS13 : TdW x w r o s (rawF (T1 x (i + 1))) WB := hV 13 (by decide)
        clear hV hW
        simp only [puts, Act.put, List.setIfInBounds_toArray, List.set_cons_zero, List.set_cons_succ, Nat.zero_add, Nat.reduceAdd]
        refine hK5 _ _ ?_
        have HS13 := Lib.hid hS13
        clear hS13 hS
        go_wp2_with fail
        go_roundg (19 - (i + 1))
        case measure => go_light; omega
        case rel =>
          go_light
          exact ⟨i + 1, by omega, rfl, rfl, HS13.out⟩
    · have hi19 : i = 19 := by omega
      subst hi19
      have hS2 : TdW x w r o s (rawF (T2 x 0)) wr := hS.but (But.of (Below.refl _ _)) (by rw [← T1_end]; exact hS.sty)
      clear hS
      go_wp2_with fail
      go_loopg [5] 10 (fun gk s5 wr => ∃ i : Nat, i ≤ 10 ∧ gk = 10 - i ∧ s5 = .int .i64 ((i : Int)) ∧ TdW x w r o s (rawF (T2 x i)) wr)
      case atStart => exact ⟨0, by omega, rfl, rfl, hS2⟩
      case round =>
        clear hS2
        obtain ⟨i, hi, rfl, rfl, hS⟩ := hrel
        by_cases hik : i < 10
        · have ix : (i : Int) < 10 := by omega
          have FF := flo_fromS (x.N i)
          have FS := T2_set x i hik
          have HSET := Lib.hid FS
          have HS := Lib.hid hS
          have q1 := hS.raw.cellF (i := 38 + i) (by omega)
          rw [law_ref (by omega), ref_num hik] at q1
          have q2 := hS.sty.cellF (i := 38 + i) (by omega)
          have z2 := hS.sty.free (38 + i)
          clear hS FS
          go_wp2_with fail
          go_roundg (10 - (i + 1))
          case measure => go_light; omega
          case rel =>
            go_light
            have tb := HS.out.sty.set (38 + i) (.float .f64 (x.N i))
            rw [HSET.out] at tb
            exact ⟨i + 1, by omega, rfl, rfl, HS.out.but (But.set _ _ _) tb⟩
        · have hi10 : i = 10 := by omega
          subst hi10
          have hS3 : TdW x w r o s (rawF x) wr := hS.but (But.of (Below.refl _ _)) (by rw [← T2_end]; exact hS.sty)
          have HS := Lib.hid hS3
          clear hS hS3
          go_wp2_with (first
            | (refine wpl_loadA (by rfl) 74 _ (by rfl) HS.out.sty _ Tryd.underlying74 rfl (by kernel_rfl) (by rfl) ?_; simp only [Act.put, List.setIfInBounds_toArray, List.set_cons_zero, List.set_cons_succ, Nat.zero_add, Nat.reduceAdd])
            | (refine wpl_storeF (by rfl) 74 _ _ (by rfl) HS.out.out 0 65 (by omega) (rawF x) (fun i _ => rawF_one _ i) (by kernel_rfl) (by rfl) (by rfl) ?_; simp only [Act.put, List.setIfInBounds_toArray, List.set_cons_zero, List.set_cons_succ, Nat.zero_add, Nat.reduceAdd])
            | (refine bodyPost_ret (results_c1 (by rfl) (by rfl) (by exact load_allF (HS.out.out.storeF (g := rawF x)) 74 _ Tryd.underlying74 rfl (by kernel_rfl))) (by rfl) ?_))
          exact (But.setCells _ _ _).to HS.out.bel HS.out.olo HS.out.bel.size
end Go.Proofs.YtmkblfejoniccaaDoor
