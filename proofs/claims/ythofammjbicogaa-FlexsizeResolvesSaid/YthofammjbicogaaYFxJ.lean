/-
  Package flexsize, each function by its contract. Tenth part: laid.
-/
import Derived.Test.YthofammjbicogaaYFxI
import Derived.Test.YthofammjbicogaaYFxT
namespace Go.Proofs.Ythofammjbicogaa
open Go.RowKit
set_option linter.unusedSimpArgs false
set_option linter.unusedVariables false

theorem step_appW {ops : Array Oper} {o : Oper} {a : Act} {K : Act → World → Prop} {Q : Exit → Act → World → Prop} {E : Prop} (hgd : o.guard = none) (s x : Operand)
    (ho : o.op = .call { callee := .builtin .append, args := #[s, x], argTypes := #[143, 143] }) (w : World) (H : Nat) (ao : Option Addr) (k cap : Nat) (vs : List Value) (hs : a.eval s = .slice ao k cap) (hown : OwnW w H 147 10 ao k cap vs)
    (ad : Addr) (c : Nat) (y : Fl) (hx : a.eval x = .slice (some ad) 1 c) (hnews : ∀ j u, y.vals[j]? = some u → w.cell? (ad.add j) = some u) (h63 : k ≤ 1000000) (hbase : H ≤ w.heap.size)
    (h : ∀ ao' cap' w', OwnW w' H 147 10 ao' (k + 1) cap' (vs ++ y.vals) → (∀ C a, C ≤ H → Below C a w → Below C a w') → (∀ b cs T2, Blk w b cs T2 → T2 ≠ 147 → Blk w' b cs T2) → w.heap.size ≤ w'.heap.size → K (a.put o.dst (.slice ao' (k + 1) cap')) w') :
    if Region.wanted o (yielded ops a.tmps) = true then Oper.wp Try.prog o a w K Q else E := by
  obtain ⟨i0, hi, hz0, hz1, hz2⟩ := info_parts (show (Try.prog.info? 147).map (fun i => (i.zero, i.size, i.bytes)) = some (some (.agg #[.int .i64 0, .int .i64 0, .int .i64 0, .bool false, .int .i64 0, .int .i64 0, .int .i64 0, .int .i64 0, .int .i64 0, .bool false]), 10, 80) by kernel_rfl)
  have hw : Region.wanted o (yielded ops a.tmps) = true := by simp [Region.wanted, hgd]
  rw [if_pos hw]
  refine wp_append_own w s x 143 ho H 147 i0 (.agg #[.int .i64 0, .int .i64 0, .int .i64 0, .bool false, .int .i64 0, .int .i64 0, .int .i64 0, .int .i64 0, .int .i64 0, .bool false]) 10 80 Try.underlying143 hi hz0 hz1 hz2 rfl (by decide) _ _ _ hs hown ad 1 c y.vals hx rfl hnews ?_ (by unfold maxLen; omega) (by omega) hbase ?_
  · intro u hu
    simp [Fl.vals] at hu
    rcases hu with rfl | rfl | rfl | rfl | rfl | rfl | rfl | rfl | rfl | rfl <;> rfl
  · intro v' w' h2 h3 _
    obtain ⟨ao', cap', rfl, ho', hb, hT, _⟩ := hown.app h2 h3 (by omega) hbase
    exact h ao' cap' w' ho' hb hT h3.size
def roomF : Int → Int → List Fx → Option (Int × Int)
  | r, s, [] => some (r, s)
  | r, s, x :: l => (subO r x.extra).bind fun r' => (addO s (x.lim x.base)).bind fun s' => roomF r' s' l
def newF (grows : Bool) (x : Fx) : Fl :=
  ⟨x, x.lim x.base, if grows then x.grow else x.shrink, ((if grows then x.grow else x.shrink) == 0) || (grows && decide (x.lim x.base < x.base)) || (!grows && decide (x.base < x.lim x.base))⟩
def laidO (avail : Int) (l : List Fx) : Option (Bool × Int × Int × List Fl) :=
  (roomF avail 0 l).bind fun q => (freeF q.1 (l.map (newF (decide (q.2 < q.1))))).map fun f => (decide (q.2 < q.1), q.1, f, l.map (newF (decide (q.2 < q.1))))
def LadAns (B n : Nat) (r : Option (Bool × Int × Int × List Fl)) (w : World) (e : Ending) (w' : World) : Prop :=
  (match r with | some (grows, room, first, st) => ∃ b ao cap, e = .returned (.pointer (some ⟨b, 0, none⟩)) ∧ B ≤ b ∧ Blk w' b #[.slice ao n cap, .bool grows, .int .i64 room, .int .i64 first] 145 ∧ OwnW w' B 147 10 ao n cap (flV st) | none => e = .panicked (gave 2)) ∧ Below B w w'
theorem LadAns.no {B n : Nat} {r : Option (Bool × Int × Int × List Fl)} {w w' : World} (hr : r = none) (h2 : Below B w w') : LadAns B n r w (.panicked (gave 2)) w' := by
  subst hr; exact ⟨rfl, h2⟩
/-- What a row of items holds at an index, cell by cell. -/
def FxAt (w : World) (g o : Nat) (x : Fx) : Prop :=
  w.cell? ⟨g, o, none⟩ = some (.int .i64 x.base) ∧ w.cell? ⟨g, o + 1, none⟩ = some (.int .i64 x.least) ∧ w.cell? ⟨g, o + 2, none⟩ = some (.int .i64 x.most) ∧ w.cell? ⟨g, o + 3, none⟩ = some (.bool x.bound) ∧ w.cell? ⟨g, o + 4, none⟩ = some (.int .i64 x.extra) ∧ w.cell? ⟨g, o + 5, none⟩ = some (.int .i64 x.grow) ∧ w.cell? ⟨g, o + 6, none⟩ = some (.int .i64 x.shrink)
theorem fx_at {w : World} {ao : Option Addr} {n : Nat} {l : List Fx} (h : RowV w ao n 7 (fxV l)) (hl : l.length = n) {i : Nat} (hi : i < n) : ∃ g off, ao = some ⟨g, off, none⟩ ∧ g < w.heap.size ∧ FxAt w g (off + i * 7) (l.getD i fx0) := by
  obtain ⟨g, off, e, hg, hc⟩ := h.at hi
  have hx := fun j hj => (hc j hj).trans (fxV_get l i j (by omega) hj)
  exact ⟨g, off, e, hg, hx 0 (by omega), hx 1 (by omega), hx 2 (by omega), hx 3 (by omega), hx 4 (by omega), hx 5 (by omega), hx 6 (by omega)⟩
theorem at_fx {P : Fx → Prop} {l : List Fx} (h : ∀ x ∈ l, P x) {j : Nat} (hj : j < l.length) : P (l.getD j fx0) := by
  have e : l.getD j fx0 = l[j] := by simp [List.getD, hj]
  rw [e]; exact h _ (List.getElem_mem hj)
theorem newF_fit (grows : Bool) {x : Fx} (h : FxFit x) : FlFit (newF grows x) := by
  refine ⟨h, lim_fit h h.1.1, ?_⟩
  unfold newF
  cases grows
  · exact h.2.2.2
  · exact h.2.2.1
/-- The first walk: the room without what edges take, and the sizes together. -/
def R1Rel (w wr : World) (b : Nat) (r : Int) : Prop := Blk wr b #[.slice none 0 0, .bool false, .int .i64 r, .int .i64 0] 145 ∧ Below w.heap.size w wr
set_option maxRecDepth 100000 in
set_option maxHeartbeats 6400000 in
theorem fx_laid (ao : Option Addr) (n cap : Nat) (l : List Fx) (avail : Int) (hn : n ≤ 1024) (hl : l.length = n) (hf : ∀ x ∈ l, FxFit x) (hav : LenB avail) (w : World) (hr : RowV w ao n 7 (fxV l)) :
    Calls Try.prog 98 #[.slice ao n cap, .int .i64 avail] w (LadAns w.heap.size n (laidO avail l) w) := by
  obtain ⟨i0, hi, hz0, hz1, hz2⟩ := info_parts (show (Try.prog.info? 147).map (fun i => (i.zero, i.size, i.bytes)) = some (some (.agg #[.int .i64 0, .int .i64 0, .int .i64 0, .bool false, .int .i64 0, .int .i64 0, .int .i64 0, .int .i64 0, .int .i64 0, .bool false]), 10, 80) by kernel_rfl)
  obtain ⟨D, eD⟩ : ∃ D, laidO avail l = D := ⟨_, rfl⟩
  rw [eD]
  unfold laidO at eD
  obtain ⟨Q, eQ⟩ : ∃ Q, Q = LadAns w.heap.size n D w := ⟨_, rfl⟩
  rw [← eQ]
  have EQ := Lib.hid eQ
  obtain ⟨R, eR⟩ : ∃ R, roomF avail 0 l = R := ⟨_, rfl⟩
  rw [eR] at eD
  have ED := Lib.hid eD
  have ER := Lib.hid eR
  have HF := Lib.hid hf
  have HL := Lib.hid hl
  have HR := Lib.hid hr
  have HAV := Lib.hid hav
  clear eQ eR eD hf hl hr hav
  go_enter Try.func98, Try.ntmps98
  go_wp2_with fail
  go_loopg [6, 17] n (fun gk s6 s17 wr => ∃ (j : Nat) (r s : Int), j ≤ n ∧ gk = n - j ∧ s6 = .int .i64 s ∧ s17 = .int .i64 ((j : Int)) ∧ LenB r ∧ LenB s ∧ roomF r s (l.drop j) = R ∧ Blk wr w.heap.size #[.slice none 0 0, .bool false, .int .i64 r, .int .i64 0] 145 ∧ Below w.heap.size w wr)
  case atStart => exact ⟨0, avail, 0, by omega, by omega, rfl, rfl, HAV.out, by unfold LenB; omega, by rw [List.drop_zero]; exact ER.out, Blk.new w _ _ _ rfl, (by repeat' (first | (with_reducible exact Below.refl _ _) | (with_reducible assumption) | (with_reducible refine below_alloc ?_ _ ?_) | (with_reducible refine below_set _ ?_ ?_) | (with_reducible refine Below.drew ?_) | (with_reducible refine below_dN ?_ _) | (apply below_thenA; assumption) | omega | (simp; done) | (simp; omega) | (simp [*]; done)))⟩
  case round =>
    obtain ⟨j, r, s, hj, rfl, rfl, rfl, hr1, hs1, hR, hT, hB⟩ := hrel
    have hltb := hT.lt
    have HT := Lib.hid hT
    have HRR := Lib.hid hR
    have HR1 := Lib.hid hr1
    have HS1 := Lib.hid hs1
    by_cases hjk : j < n
    · have ix : (j : Int) < (n : Int) := by omega
      have hjl : j < l.length := by rw [HL.out]; exact hjk
      obtain ⟨g, off, rfl, hg, hF⟩ := fx_at (HR.out.below hB) HL.out hjk
      have hfit := at_fx HF.out hjl
      have hst := HRR.out
      rw [drop_at fx0 hjl, roomF] at hst
      obtain ⟨x, ex⟩ : ∃ x, l.getD j fx0 = x := ⟨_, rfl⟩
      rw [ex] at hF hfit hst
      obtain ⟨h0, h1, h2, h3, h4, h5, h6⟩ := hF
      have HFIT := Lib.hid hfit
      have HST := Lib.hid hst
      have SU := fun W => fix_sub_o r x.extra hr1.fit hfit.2.1 W
      clear hT hR hr1 hs1 hfit hst ex
      go_upto_region 6 with (fail)
      clear h0 h1 h2 h3 h4 h5 h6
      have hbY : Below wr.heap.size wr (wr.alloc (.cells #[.int .i64 x.base, .int .i64 x.least, .int .i64 x.most, .bool x.bound, .int .i64 x.extra, .int .i64 x.grow, .int .i64 x.shrink] 85)) := (by repeat' (first | (with_reducible exact Below.refl _ _) | (with_reducible assumption) | (with_reducible refine below_alloc ?_ _ ?_) | (with_reducible refine below_set _ ?_ ?_) | (with_reducible refine Below.drew ?_) | (with_reducible refine below_dN ?_ _) | (apply below_thenA; assumption) | omega | (simp; done) | (simp; omega) | (simp [*]; done)))
      obtain ⟨Wy, eWy⟩ : ∃ W, wr.alloc (.cells #[.int .i64 x.base, .int .i64 x.least, .int .i64 x.most, .bool x.bound, .int .i64 x.extra, .int .i64 x.grow, .int .i64 x.shrink] 85) = W := ⟨_, rfl⟩
      have tY : Blk Wy wr.heap.size #[.int .i64 x.base, .int .i64 x.least, .int .i64 x.most, .bool x.bound, .int .i64 x.extra, .int .i64 x.grow, .int .i64 x.shrink] 85 := by rw [← eWy]; exact Blk.new wr _ _ _ rfl
      rw [eWy] at hbY ⊢
      clear eWy
      have hBY := hB.trans (hbY.mono hB.size)
      have tbY := HT.out.below hbY
      have y4 := tY.cell 4 _ rfl
      have b2 := tbY.cell 2 _ rfl
      have f2 := tbY.free 2
      have TY := Lib.hid tY
      have TBY := Lib.hid tbY
      have HBY := Lib.hid hBY
      clear tY tbY hBY hbY hB
      cases hS : subO r x.extra with
      | none =>
        have SU2 : ∀ W, Calls Try.prog 81 #[.int .i64 r, .int .i64 x.extra] W fun e w' => e = .panicked (gave 2) ∧ W = w' := fun W => by
          have := SU W
          rw [hS] at this; exact this.mono fun _ _ h => ⟨h.1, h.2.symm⟩
        clear SU
        have hno : D = none := by
          have h1 := HST.out
          rw [hS] at h1
          have h2 := ED.out
          rw [← h1] at h2
          exact h2.symm
        have HNO := Lib.hid hno
        clear hno hS y4 b2 f2
        go_upto_region 6 with (fail)
        rename_i K1 hK1
        refine wp_region_cl (fun w' => Blk w' w.heap.size #[.slice none 0 0, .bool false, .int .i64 r, .int .i64 0] 145 ∧ Blk w' wr.heap.size #[.int .i64 x.base, .int .i64 x.least, .int .i64 x.most, .bool x.bound, .int .i64 x.extra, .int .i64 x.grow, .int .i64 x.shrink] 85 ∧ Below w.heap.size w w') [] (fun w' => True) [Is (.pointer (some ⟨w.heap.size, 0, none⟩)), Is (.pointer (some ⟨w.heap.size, 0, none⟩)), Is (.pointer (some ⟨w.heap.size, 0, none⟩)), Is (.pointer (some ⟨w.heap.size, 2, none⟩)), Is (.int .i64 r), Is (.pointer (some ⟨wr.heap.size, 4, none⟩)), Is (.int .i64 x.extra), .own (fun _ _ => False) (fun _ _ _ h _ => h), .own (fun _ _ => False) (fun _ _ _ h _ => h), .own (fun _ _ => False) (fun _ _ _ h _ => h), .own (fun _ _ => False) (fun _ _ _ h _ => h)] [] (by kernel_rfl) (by kernel_rfl) (by kernel_rfl) (by kernel_rfl) ⟨TBY.out, TY.out, HBY.out.drew⟩ trivial ?_ ?_ ?_ ?_ ?_
        · rintro W W' ⟨hBx, tY, hBB⟩ hb
          exact ⟨hBx.below hb, tY.below hb, hBB.trans (hb.mono hBB.size)⟩
        · exact fun _ _ _ _ _ => trivial
        · intro k vs W hk h
          exact absurd hk (by simp)
        · clear hK1 
          refine ⟨?_, ?_, ?_, ?_, ?_, ?_, ?_, ?_, ?_, ?_, ?_, trivial⟩
          · intro vs W hW hW0 hd hne hold K hK hA hL; clear hne hA hL; have hBx := hW.1; have tY := hW.2.1; have hBB := hW.2.2; simp only [puts, Act.put, List.setIfInBounds_toArray, List.set_cons_zero, List.set_cons_succ, Nat.zero_add, Nat.reduceAdd] at hK ⊢; clear hd hold; go_simp; exact hK.out rfl _ _ (Below.refl _ _) rfl
          · intro vs W hW hW0 hd hne hold K hK hA hL; clear hne hA hL; have hBx := hW.1; have tY := hW.2.1; have hBB := hW.2.2; simp only [puts, Act.put, List.setIfInBounds_toArray, List.set_cons_zero, List.set_cons_succ, Nat.zero_add, Nat.reduceAdd] at hK ⊢; clear hd hold; go_simp; exact hK.out rfl _ _ (Below.refl _ _) rfl
          · intro vs W hW hW0 hd hne hold K hK hA hL; clear hne hA hL; have hBx := hW.1; have tY := hW.2.1; have hBB := hW.2.2; simp only [puts, Act.put, List.setIfInBounds_toArray, List.set_cons_zero, List.set_cons_succ, Nat.zero_add, Nat.reduceAdd] at hK ⊢; have e1 : vs 1 = _ := hd 1 (by kernel_rfl); clear hd hold; simp only [e1] at hK; go_simp; exact hK.out rfl _ _ (Below.refl _ _) rfl
          · intro vs W hW hW0 hd hne hold K hK hA hL; clear hne hA hL; have hBx := hW.1; have tY := hW.2.1; have hBB := hW.2.2; simp only [puts, Act.put, List.setIfInBounds_toArray, List.set_cons_zero, List.set_cons_succ, Nat.zero_add, Nat.reduceAdd] at hK ⊢; have e2 : vs 2 = _ := hd 2 (by kernel_rfl); clear hd hold; simp only [e2] at hK; go_simp; exact hK.out rfl _ _ (Below.refl _ _) rfl
          · intro vs W hW hW0 hd hne hold K hK hA hL; clear hne hA hL; have hBx := hW.1; have tY := hW.2.1; have hBB := hW.2.2; simp only [puts, Act.put, List.setIfInBounds_toArray, List.set_cons_zero, List.set_cons_succ, Nat.zero_add, Nat.reduceAdd] at hK ⊢; have eb : vs 3 = _ := hd 3 (by kernel_rfl); have q1 := hBx.cell 2 _ rfl; clear hd hold; simp only [eb] at hK; go_simp; exact hK.out rfl _ _ (Below.refl _ _) rfl
          · intro vs W hW hW0 hd hne hold K hK hA hL; clear hne hA hL; have hBx := hW.1; have tY := hW.2.1; have hBB := hW.2.2; simp only [puts, Act.put, List.setIfInBounds_toArray, List.set_cons_zero, List.set_cons_succ, Nat.zero_add, Nat.reduceAdd] at hK ⊢; clear hd hold; go_simp; exact hK.out rfl _ _ (Below.refl _ _) rfl
          · intro vs W hW hW0 hd hne hold K hK hA hL; clear hne hA hL; have hBx := hW.1; have tY := hW.2.1; have hBB := hW.2.2; simp only [puts, Act.put, List.setIfInBounds_toArray, List.set_cons_zero, List.set_cons_succ, Nat.zero_add, Nat.reduceAdd] at hK ⊢; have eb : vs 5 = _ := hd 5 (by kernel_rfl); have q1 := tY.cell 4 _ rfl; clear hd hold; simp only [eb] at hK; go_simp; exact hK.out rfl _ _ (Below.refl _ _) rfl
          · intro vs W hW hW0 hd hne hold K hK hA hL; clear hne hA hL; have hBx := hW.1; have tY := hW.2.1; have hBB := hW.2.2; simp only [puts, Act.put, List.setIfInBounds_toArray, List.set_cons_zero, List.set_cons_succ, Nat.zero_add, Nat.reduceAdd] at hK ⊢; have eb : vs 4 = _ := hd 4 (by kernel_rfl); have ed : vs 6 = _ := hd 6 (by kernel_rfl); clear hd hold hK; simp only [eb, ed]; go_simp; refine (SU2 W).mono ?_; (rintro e wx ⟨rfl, rfl⟩); go_simp; simp only [bodyPost]; exact ⟨trivial, by rw [EQ.out]; exact LadAns.no HNO.out hBB⟩
          · intro vs W hW hW0 hd hne hold K hK hA hL; clear hne hA hL; have hBx := hW.1; have tY := hW.2.1; have hBB := hW.2.2; simp only [puts, Act.put, List.setIfInBounds_toArray, List.set_cons_zero, List.set_cons_succ, Nat.zero_add, Nat.reduceAdd] at hK ⊢; exact absurd (show False from hd 7 (by kernel_rfl)) (fun h => h)
          · intro vs W hW hW0 hd hne hold K hK hA hL; clear hne hA hL; have hBx := hW.1; have tY := hW.2.1; have hBB := hW.2.2; simp only [puts, Act.put, List.setIfInBounds_toArray, List.set_cons_zero, List.set_cons_succ, Nat.zero_add, Nat.reduceAdd] at hK ⊢; exact absurd (show False from hd 7 (by kernel_rfl)) (fun h => h)
          · intro vs W hW hW0 hd hne hold K hK hA hL; clear hne hA hL; have hBx := hW.1; have tY := hW.2.1; have hBB := hW.2.2; simp only [puts, Act.put, List.setIfInBounds_toArray, List.set_cons_zero, List.set_cons_succ, Nat.zero_add, Nat.reduceAdd] at hK ⊢; exact absurd (show False from hd 7 (by kernel_rfl)) (fun h => h)
        · intro va WB hW hV _
          exact absurd (show False from hV 7 (by decide)) (fun h => h)
      | some r' =>
        have SU2 : ∀ W, Calls Try.prog 81 #[.int .i64 r, .int .i64 x.extra] W fun e w' => e = .returned (.int .i64 (r')) ∧ W = w' := fun W => by
          have := SU W
          rw [hS] at this; exact this.mono fun _ _ h => ⟨h.1, h.2.symm⟩
        have HSS := Lib.hid hS
        clear SU hS
        go_cut [] from 21 to 30 (fun wx => Blk wx w.heap.size #[.slice none 0 0, .bool false, .int .i64 (r'), .int .i64 0] 145 ∧ Blk wx wr.heap.size #[.int .i64 x.base, .int .i64 x.least, .int .i64 x.most, .bool x.bound, .int .i64 x.extra, .int .i64 x.grow, .int .i64 x.shrink] 85 ∧ Below w.heap.size w wx)
        case first =>
          go_region_with (go_at_call 81; refine (SU2 _).mono ?_; rintro e w5 ⟨rfl, rfl⟩)
          all_goals
            go_wp2_with fail
            go_meet
            case rel =>
              have q := TBY.out.set 2 (.int .i64 (r'))
              refine ⟨?_, ?_, ?_⟩
              · have q2 : Blk (Wy.setCell ⟨w.heap.size, 2, none⟩ (.int .i64 (r'))) w.heap.size #[.slice none 0 0, .bool false, .int .i64 (r'), .int .i64 0] 145 := by simpa using q
                exact q2
              · exact (TY.out.other (by omega) _ _)
              · have := HBY.out
                exact (show Below w.heap.size w (Wy.setCell ⟨w.heap.size, 2, none⟩ (.int .i64 (r'))) from (by repeat' (first | (with_reducible exact Below.refl _ _) | (with_reducible assumption) | (with_reducible refine below_alloc ?_ _ ?_) | (with_reducible refine below_set _ ?_ ?_) | (with_reducible refine Below.drew ?_) | (with_reducible refine below_dN ?_ _) | (apply below_thenA; assumption) | omega | (simp; done) | (simp; omega) | (simp [*]; done)))).drew
        case rest =>
          obtain ⟨tb6, tY6, hB6⟩ := hcut
          obtain ⟨w6, rfl⟩ : ∃ x, x = wc := ⟨_, rfl⟩
          have y0 := tY6.cell 0 _ rfl
          have y1 := tY6.cell 1 _ rfl
          have y2 := tY6.cell 2 _ rfl
          have y3 := tY6.cell 3 _ rfl
          have LO : ∀ W, Calls Try.prog 46 #[.agg #[.int .i64 x.least, .int .i64 x.most, .bool x.bound], .int .i64 x.base] W fun e w' => e = .returned (.int .i64 (x.lim x.base)) ∧ Below W.heap.size W w' := fun W => lim_of _ _ _ _ W
          have hlf := lim_fit HFIT.out HFIT.out.1.1
          obtain ⟨lt, elt⟩ : ∃ l, x.lim x.base = l := ⟨_, rfl⟩
          rw [elt] at LO hlf
          have hst := HST.out
          rw [HSS.out, Option.bind_some, elt] at hst
          have HST2 := Lib.hid hst
          have AD := fun g' W h => fix_add_o g' s lt HS1.out.fit hlf W h
          have TB6 := Lib.hid tb6
          have HB6 := Lib.hid hB6
          have hlr := subO_len HSS.out
          have HLR := Lib.hid hlr
          clear tb6 tY6 hB6 hst elt hlf y4 b2 f2 hlr
          go_wp2_with fail
          refine (LO _).mono ?_
          rintro e w7 ⟨rfl, hb7⟩
          have hB7 := HB6.out.trans (hb7.mono HB6.out.size)
          go_wp2_with fail
          have AD2 := AD w7.heap.size _ (Blk.new w7 _ _ _ rfl)
          have hb9 : Below w7.heap.size w7 (w7.alloc (.cells #[.int .i64 s, .int .i64 lt] 2)) := (by repeat' (first | (with_reducible exact Below.refl _ _) | (with_reducible assumption) | (with_reducible refine below_alloc ?_ _ ?_) | (with_reducible refine below_set _ ?_ ?_) | (with_reducible refine Below.drew ?_) | (with_reducible refine below_dN ?_ _) | (apply below_thenA; assumption) | omega | (simp; done) | (simp; omega) | (simp [*]; done)))
          have hB9 := hB7.trans (hb9.mono hB7.size)
          have hb69 := hb7.trans (hb9.mono hb7.size)
          cases hA2 : addO s lt with
          | none =>
            rw [hA2] at AD2
            have hno : D = none := by
              have h1 := HST2.out
              rw [hA2] at h1
              have h2 := ED.out
              rw [← h1] at h2
              exact h2.symm
            refine AD2.mono ?_
            rintro e w10 ⟨rfl, hb10⟩
            go_wp2_with fail
            simp only [bodyPost]
            exact ⟨trivial, by rw [EQ.out]; exact LadAns.no hno (hB9.trans (hb10.mono hB9.size))⟩
          | some s' =>
            rw [hA2] at AD2
            have hst2 := HST2.out
            rw [hA2, Option.bind_some] at hst2
            have HST3 := Lib.hid hst2
            have HS2 := Lib.hid (addO_len hA2)
            clear hst2 hA2
            refine AD2.mono ?_
            rintro e w10 ⟨rfl, hb10⟩
            have hb610 := hb69.trans (hb10.mono hb69.size)
            have hB10 := hB9.trans (hb10.mono hB9.size)
            clear AD2 AD LO hb9 hB9 hb69 hb10 hb7 hB7 y0 y1 y2 y3
            go_wp2_with fail
            go_roundg (n - (j + 1))
            case measure => omega
            case rel => exact ⟨j + 1, r', s', by omega, rfl, rfl, by go_num, HLR.out, HS2.out, HST3.out, TB6.out.below hb610, hB10⟩
    · obtain rfl : n = j := by omega
      have ix : ¬ (n : Int) < (n : Int) := by omega
      have hR2 := HRR.out
      rw [List.drop_eq_nil_of_le (by rw [HL.out]; omega), roomF] at hR2
      have hD2 := ED.out
      rw [← hR2, Option.bind_some] at hD2
      obtain ⟨gr, egr⟩ : ∃ b, decide (s < r) = b := ⟨_, rfl⟩
      rw [egr] at hD2
      have HD2 := Lib.hid hD2
      have b2 := HT.out.cell 2 _ rfl
      have b1 := HT.out.cell 1 _ rfl
      have f1 := HT.out.free 1
      clear hR hR2 hD2 hT hr1 hs1
      go_upto_region 10 with (fail)
      have tb1 : Blk (wr.setCell ⟨w.heap.size, 1, none⟩ (.bool gr)) w.heap.size #[.slice none 0 0, .bool gr, .int .i64 r, .int .i64 0] 145 := by
        have q := HT.out.set 1 (.bool gr)
        simpa using q
      have hB1 : Below w.heap.size w (wr.setCell ⟨w.heap.size, 1, none⟩ (.bool gr)) := (by repeat' (first | (with_reducible exact Below.refl _ _) | (with_reducible assumption) | (with_reducible refine below_alloc ?_ _ ?_) | (with_reducible refine below_set _ ?_ ?_) | (with_reducible refine Below.drew ?_) | (with_reducible refine below_dN ?_ _) | (apply below_thenA; assumption) | omega | (simp; done) | (simp; omega) | (simp [*]; done)))
      obtain ⟨w1, e1⟩ : ∃ x, wr.setCell ⟨w.heap.size, 1, none⟩ (.bool gr) = x := ⟨_, rfl⟩
      rw [e1] at tb1 hB1 ⊢
      have TB1 := Lib.hid tb1
      have HB1 := Lib.hid hB1
      clear e1 tb1 hB1 b1 b2 f1 egr hB hltb
      go_wp2_with fail
      go_loopg [51] n (fun gk s51 wx => ∃ (j : Nat) (aj : Option Addr) (cj : Nat), j ≤ n ∧ gk = n - j ∧ s51 = .int .i64 ((j : Int)) ∧ Blk wx w.heap.size #[.slice aj j cj, .bool gr, .int .i64 r, .int .i64 0] 145 ∧ OwnW wx w.heap.size 147 10 aj j cj (flV ((l.take j).map (newF gr))) ∧ Below w.heap.size w wx)
      case atStart => exact ⟨0, none, 0, by omega, by omega, rfl, TB1.out, OwnW.nil _ _ _ _, HB1.out⟩
      case round =>
        obtain ⟨j, aj, cj, hj, rfl, rfl, hT, hO, hB⟩ := hrel
        have hltb := hT.lt
        have HT := Lib.hid hT
        have HOO := Lib.hid hO
        by_cases hjk : j < n
        · have ix : (j : Int) < (n : Int) := by omega
          have hjl : j < l.length := by rw [HL.out]; exact hjk
          obtain ⟨g, off, rfl, hg, hF⟩ := fx_at (HR.out.below hB) HL.out hjk
          have htk : flV ((l.take (j + 1)).map (newF gr)) = flV ((l.take j).map (newF gr)) ++ (newF gr (l.getD j fx0)).vals := by
            rw [List.take_succ_eq_append_getElem hjl, List.map_append]
            simp [flV, List.getD, hjl]
          obtain ⟨x, ex⟩ : ∃ x, l.getD j fx0 = x := ⟨_, rfl⟩
          rw [ex] at hF htk
          obtain ⟨h0, h1, h2, h3, h4, h5, h6⟩ := hF
          have HTK := Lib.hid htk
          have LO : ∀ W, Calls Try.prog 46 #[.agg #[.int .i64 x.least, .int .i64 x.most, .bool x.bound], .int .i64 x.base] W fun e w' => e = .returned (.int .i64 (x.lim x.base)) ∧ Below W.heap.size W w' := fun W => lim_of _ _ _ _ W
          obtain ⟨lt, elt⟩ : ∃ l, x.lim x.base = l := ⟨_, rfl⟩
          rw [elt] at LO
          have ELT := Lib.hid elt
          clear hT hO htk ex elt
          go_upto_region 13 with (fail)
          clear h0 h1 h2 h3 h4 h5 h6
          have hbY : Below wr.heap.size wr (wr.alloc (.cells #[.int .i64 x.base, .int .i64 x.least, .int .i64 x.most, .bool x.bound, .int .i64 x.extra, .int .i64 x.grow, .int .i64 x.shrink] 85)) := (by repeat' (first | (with_reducible exact Below.refl _ _) | (with_reducible assumption) | (with_reducible refine below_alloc ?_ _ ?_) | (with_reducible refine below_set _ ?_ ?_) | (with_reducible refine Below.drew ?_) | (with_reducible refine below_dN ?_ _) | (apply below_thenA; assumption) | omega | (simp; done) | (simp; omega) | (simp [*]; done)))
          obtain ⟨Wy, eWy⟩ : ∃ W, wr.alloc (.cells #[.int .i64 x.base, .int .i64 x.least, .int .i64 x.most, .bool x.bound, .int .i64 x.extra, .int .i64 x.grow, .int .i64 x.shrink] 85) = W := ⟨_, rfl⟩
          have tY : Blk Wy wr.heap.size #[.int .i64 x.base, .int .i64 x.least, .int .i64 x.most, .bool x.bound, .int .i64 x.extra, .int .i64 x.grow, .int .i64 x.shrink] 85 := by rw [← eWy]; exact Blk.new wr _ _ _ rfl
          rw [eWy] at hbY ⊢
          clear eWy
          have hBY := hB.trans (hbY.mono hB.size)
          have tbY := HT.out.below hbY
          have oY := HOO.out.below hbY
          have y0 := tY.cell 0 _ rfl
          have y1 := tY.cell 1 _ rfl
          have y2 := tY.cell 2 _ rfl
          have y3 := tY.cell 3 _ rfl
          have y4 := tY.cell 4 _ rfl
          have y5 := tY.cell 5 _ rfl
          have y6 := tY.cell 6 _ rfl
          have hltY := tY.lt
          have hltY1 : wr.heap.size < Wy.heap.size + 1 := by omega
          have TY := Lib.hid tY
          have TBY := Lib.hid tbY
          have OY := Lib.hid oY
          have HBY := Lib.hid hBY
          clear tY tbY oY hBY hbY hB
          go_cut [11] from 55 to 63 (fun sv wx => ∃ bz, sv = .pointer (some ⟨bz, 0, none⟩) ∧ Wy.heap.size ≤ bz ∧ Blk wx bz #[.int .i64 x.base, .int .i64 x.least, .int .i64 x.most, .bool x.bound, .int .i64 x.extra, .int .i64 x.grow, .int .i64 x.shrink, .int .i64 lt, .int .i64 x.shrink, .bool false] 147 ∧ Below Wy.heap.size Wy wx)
          case first =>
            clear y0 y1 y2 y3 y4 y5 y6
            go_upto_region 13 with (fail)
            rename_i K1 hK1
            refine wp_region_calm (fun w' => Blk w' wr.heap.size #[.int .i64 x.base, .int .i64 x.least, .int .i64 x.most, .bool x.bound, .int .i64 x.extra, .int .i64 x.grow, .int .i64 x.shrink] 85 ∧ Below Wy.heap.size Wy w') [10] (fun w' => True) [Is (.agg #[.int .i64 x.base, .int .i64 x.least, .int .i64 x.most, .bool x.bound, .int .i64 x.extra, .int .i64 x.grow, .int .i64 x.shrink]), Is (.pointer (some ⟨wr.heap.size, 1, none⟩)), Is (.agg #[.int .i64 x.least, .int .i64 x.most, .bool x.bound]), Is (.pointer (some ⟨wr.heap.size, 0, none⟩)), Is (.int .i64 x.base), Is (.int .i64 lt), Is (.pointer (some ⟨wr.heap.size, 6, none⟩)), Is (.int .i64 x.shrink), Is (.agg #[.int .i64 x.base, .int .i64 x.least, .int .i64 x.most, .bool x.bound, .int .i64 x.extra, .int .i64 x.grow, .int .i64 x.shrink, .int .i64 lt, .int .i64 x.shrink, .bool false]), bxV Wy.heap.size 147 10, bxC 9 Wy.heap.size 147 #[.int .i64 x.base, .int .i64 x.least, .int .i64 x.most, .bool x.bound, .int .i64 x.extra, .int .i64 x.grow, .int .i64 x.shrink, .int .i64 lt, .int .i64 x.shrink, .bool false]] [9] (by kernel_rfl) (by kernel_rfl) (by kernel_rfl) (by kernel_rfl) ⟨TY.out, (Below.refl _ _).drew⟩ trivial ?_ ?_ ?_ ?_ ?_
            · rintro W W' ⟨tY, hBB⟩ hb
              exact ⟨tY.below hb, hBB.trans (hb.mono hBB.size)⟩
            · exact fun _ _ _ _ _ => trivial
            · intro k vs W hk h
              obtain rfl : k = 9 := (by simpa using hk) <;> (obtain ⟨b', cs', e', h1', h2', h3'⟩ := h; exact ⟨b', e', h2'.lt⟩)
            · intro Q; clear hK1 
              refine ⟨?_, ?_, ?_, ?_, ?_, ?_, ?_, ?_, ?_, ?_, ?_, trivial⟩
              · intro vs W hW hW0 hd hne hold K hK hA hL; clear hne hA hL; have tY := hW.1; have hBB := hW.2; simp only [puts, Act.put, List.setIfInBounds_toArray, List.set_cons_zero, List.set_cons_succ, Nat.zero_add, Nat.reduceAdd] at hK ⊢; have q0 := tY.cell 0 _ rfl; have q1 := tY.cell 1 _ rfl; have q2 := tY.cell 2 _ rfl; have q3 := tY.cell 3 _ rfl; have q4 := tY.cell 4 _ rfl; have q5 := tY.cell 5 _ rfl; have q6 := tY.cell 6 _ rfl; clear hd hold; go_simp; exact hK.out rfl _ _ (Below.refl _ _) rfl
              · intro vs W hW hW0 hd hne hold K hK hA hL; clear hne hA hL; have tY := hW.1; have hBB := hW.2; simp only [puts, Act.put, List.setIfInBounds_toArray, List.set_cons_zero, List.set_cons_succ, Nat.zero_add, Nat.reduceAdd] at hK ⊢; clear hd hold; go_simp; exact hK.out rfl _ _ (Below.refl _ _) rfl
              · intro vs W hW hW0 hd hne hold K hK hA hL; clear hne hA hL; have tY := hW.1; have hBB := hW.2; simp only [puts, Act.put, List.setIfInBounds_toArray, List.set_cons_zero, List.set_cons_succ, Nat.zero_add, Nat.reduceAdd] at hK ⊢; have eb : vs 1 = _ := hd 1 (by kernel_rfl); have q1 := tY.cell 1 _ rfl; have q2 := tY.cell 2 _ rfl; have q3 := tY.cell 3 _ rfl; clear hd hold; simp only [eb] at hK; go_simp; exact hK.out rfl _ _ (Below.refl _ _) rfl
              · intro vs W hW hW0 hd hne hold K hK hA hL; clear hne hA hL; have tY := hW.1; have hBB := hW.2; simp only [puts, Act.put, List.setIfInBounds_toArray, List.set_cons_zero, List.set_cons_succ, Nat.zero_add, Nat.reduceAdd] at hK ⊢; clear hd hold; go_simp; exact hK.out rfl _ _ (Below.refl _ _) rfl
              · intro vs W hW hW0 hd hne hold K hK hA hL; clear hne hA hL; have tY := hW.1; have hBB := hW.2; simp only [puts, Act.put, List.setIfInBounds_toArray, List.set_cons_zero, List.set_cons_succ, Nat.zero_add, Nat.reduceAdd] at hK ⊢; have eb : vs 3 = _ := hd 3 (by kernel_rfl); have q1 := tY.cell 0 _ rfl; clear hd hold; simp only [eb] at hK; go_simp; exact hK.out rfl _ _ (Below.refl _ _) rfl
              · intro vs W hW hW0 hd hne hold K hK hA hL; clear hne hA hL; have tY := hW.1; have hBB := hW.2; simp only [puts, Act.put, List.setIfInBounds_toArray, List.set_cons_zero, List.set_cons_succ, Nat.zero_add, Nat.reduceAdd] at hK ⊢; have eb : vs 2 = _ := hd 2 (by kernel_rfl); have ed : vs 4 = _ := hd 4 (by kernel_rfl); clear hd hold; simp only [eb, ed] at hK; go_simp; refine (LO W).mono ?_; (rintro e wx ⟨rfl, hbx⟩); go_simp; exact hK.out rfl _ _ hbx rfl
              · intro vs W hW hW0 hd hne hold K hK hA hL; clear hne hA hL; have tY := hW.1; have hBB := hW.2; simp only [puts, Act.put, List.setIfInBounds_toArray, List.set_cons_zero, List.set_cons_succ, Nat.zero_add, Nat.reduceAdd] at hK ⊢; clear hd hold; go_simp; exact hK.out rfl _ _ (Below.refl _ _) rfl
              · intro vs W hW hW0 hd hne hold K hK hA hL; clear hne hA hL; have tY := hW.1; have hBB := hW.2; simp only [puts, Act.put, List.setIfInBounds_toArray, List.set_cons_zero, List.set_cons_succ, Nat.zero_add, Nat.reduceAdd] at hK ⊢; have eb : vs 6 = _ := hd 6 (by kernel_rfl); have q1 := tY.cell 6 _ rfl; clear hd hold; simp only [eb] at hK; go_simp; exact hK.out rfl _ _ (Below.refl _ _) rfl
              · intro vs W hW hW0 hd hne hold K hK hA hL; clear hne hA hL; have tY := hW.1; have hBB := hW.2; simp only [puts, Act.put, List.setIfInBounds_toArray, List.set_cons_zero, List.set_cons_succ, Nat.zero_add, Nat.reduceAdd] at hK ⊢; have e0 : vs 0 = _ := hd 0 (by kernel_rfl); have e5 : vs 5 = _ := hd 5 (by kernel_rfl); have e7 : vs 7 = _ := hd 7 (by kernel_rfl); clear hd hold; simp only [e0, e5, e7] at hK; go_simp; exact hK.out rfl _ _ (Below.refl _ _) rfl
              · intro vs W hW hW0 hd hne hold K hK hA hL; clear hne hK hL; have tY := hW.1; have hBB := hW.2; simp only [puts, Act.put, List.setIfInBounds_toArray, List.set_cons_zero, List.set_cons_succ, Nat.zero_add, Nat.reduceAdd] at hA ⊢; clear hd hold; go_simp; exact hA.out W.heap.size _ ((Below.refl _ _).alloc (Nat.le_refl _) _) (Nat.le_refl _) ⟨W.heap.size, _, rfl, hBB.size, Blk.new _ _ _ _ rfl, rfl⟩
              · intro vs W hW hW0 hd hne hold K hK hA hL; clear hK hA; have tY := hW.1; have hBB := hW.2; simp only [puts, Act.put, List.setIfInBounds_toArray, List.set_cons_zero, List.set_cons_succ, Nat.zero_add, Nat.reduceAdd] at hL ⊢; have ec : vs 8 = _ := hd 8 (by kernel_rfl); (have hxb : BxV Wy.heap.size 147 10 (vs 9) W := hd 9 (by kernel_rfl)); obtain ⟨b, cs0, eb, hlb, t0, hsz⟩ := hxb; obtain ⟨z0, q0⟩ := t0.cellx 0 (by omega); have p0 := t0.free 0; obtain ⟨z1, q1⟩ := t0.cellx 1 (by omega); have p1 := t0.free 1; obtain ⟨z2, q2⟩ := t0.cellx 2 (by omega); have p2 := t0.free 2; obtain ⟨z3, q3⟩ := t0.cellx 3 (by omega); have p3 := t0.free 3; obtain ⟨z4, q4⟩ := t0.cellx 4 (by omega); have p4 := t0.free 4; obtain ⟨z5, q5⟩ := t0.cellx 5 (by omega); have p5 := t0.free 5; obtain ⟨z6, q6⟩ := t0.cellx 6 (by omega); have p6 := t0.free 6; obtain ⟨z7, q7⟩ := t0.cellx 7 (by omega); have p7 := t0.free 7; obtain ⟨z8, q8⟩ := t0.cellx 8 (by omega); have p8 := t0.free 8; obtain ⟨z9, q9⟩ := t0.cellx 9 (by omega); have p9 := t0.free 9; have tb := t0.set10 hsz (.int .i64 x.base) (.int .i64 x.least) (.int .i64 x.most) (.bool x.bound) (.int .i64 x.extra) (.int .i64 x.grow) (.int .i64 x.shrink) (.int .i64 lt) (.int .i64 x.shrink) (.bool false); have hbt := But.set10 (b := b) W (.int .i64 x.base) (.int .i64 x.least) (.int .i64 x.most) (.bool x.bound) (.int .i64 x.extra) (.int .i64 x.grow) (.int .i64 x.shrink) (.int .i64 lt) (.int .i64 x.shrink) (.bool false); clear hd hold; simp only [ec, eb] at hL; have HSZ := Lib.hid hsz; clear hsz; have HNE := Lib.hid hne; clear hne; go_simp; have hne := HNE.out; have hsz := HSZ.out; refine hL.out rfl undef _ ⟨tY.but hbt (by omega), hbt.to hBB (by omega) hBB.size⟩ (fun _ => trivial) ⟨b, eb, hlb, tb⟩ ?_; exact claims_keep ⟨.inr is_keep, .inr is_keep, .inr is_keep, .inr is_keep, .inr is_keep, .inr is_keep, .inr is_keep, .inr is_keep, .inr is_keep, .inr fun h => BxV.but h hbt t0 tb (by rw [hsz]; rfl), .inl rfl, trivial⟩
            · intro va WB hW hV _
              obtain ⟨tY2, hB2⟩ := hW
              have h10 : BxC Wy.heap.size 147 #[.int .i64 x.base, .int .i64 x.least, .int .i64 x.most, .bool x.bound, .int .i64 x.extra, .int .i64 x.grow, .int .i64 x.shrink, .int .i64 lt, .int .i64 x.shrink, .bool false] (va 9) WB := hV 10 (by decide)
              obtain ⟨bz, ez, hbz, tz⟩ := h10
              simp only [puts, Act.put, List.setIfInBounds_toArray, List.set_cons_zero, List.set_cons_succ, Nat.zero_add, Nat.reduceAdd, ez]
              refine hK1 _ _ ?_
              go_meet
              case rel => exact ⟨bz, rfl, hbz, tz, hB2⟩
          case rest =>
            obtain ⟨bz, rfl, hbz, tz, hbW⟩ := hcut
            obtain ⟨w5, rfl⟩ : ∃ x, x = wc := ⟨_, rfl⟩
            clear y0 y1 y2 y3 y4 y5 y6
            have tY5 := TY.out.below hbW
            have tb5 := TBY.out.below hbW
            have hlz := tz.lt
            have hz5 := hbW.size
            have hne1 : bz ≠ wr.heap.size := by omega
            have hne2 : bz ≠ w.heap.size := by have := TBY.out.lt; omega
            have c1 := tb5.cell 1 _ rfl
            have y5 := tY5.cell 5 _ rfl
            have z8 := tz.cell 8 _ rfl
            have f8 := tz.free 8
            cases gr
            · go_upto_region 16 with (fail)
              obtain ⟨wz, ewz⟩ : ∃ x, x = w5 := ⟨_, rfl⟩
              have hbtz : But bz w5 wz := by rw [ewz]; exact But.of (Below.refl _ _)
              have tzz : Blk wz bz #[.int .i64 x.base, .int .i64 x.least, .int .i64 x.most, .bool x.bound, .int .i64 x.extra, .int .i64 x.grow, .int .i64 x.shrink, .int .i64 lt, .int .i64 x.shrink, .bool false] 147 := by rw [ewz]; exact tz
              rw [← ewz]
              clear ewz
              clear tz f8 z8 c1 y5 hlz
              have tbz := tb5.but hbtz (by omega)
              have tYz := tY5.but hbtz (by omega)
              have c1 := tbz.cell 1 _ rfl
              have y0 := tYz.cell 0 _ rfl
              have z7 := tzz.cell 7 _ rfl
              have z8 := tzz.cell 8 _ rfl
              have z9 := tzz.cell 9 _ rfl
              have f9 := tzz.free 9
              have hBz : Below w.heap.size w wz := hbtz.to (HBY.out.trans (hbW.mono HBY.out.size)) (by omega) (HBY.out.trans (hbW.mono HBY.out.size)).size
              have oz : OwnW wz w.heap.size 147 10 aj j cj (flV ((l.take j).map (newF false))) := (OY.out.below hbW).but hbtz (fun g e => by have := (OY.out.ge e).2; omega)
              have hzz := hbtz.size
              have TBZ := Lib.hid tbz
              have TZZ := Lib.hid tzz
              have OZ := Lib.hid oz
              have HBZ := Lib.hid hBz
              have hge : ∀ g, (Value.slice aj j cj).ownBlock = some g → g ≠ bz := fun g e => by have := (OY.out.ge e).2; omega
              have HGE := Lib.hid hge
              clear tb5 tY5 hbtz tbz tYz tzz oz hBz hbW hge
              obtain ⟨fi, efi⟩ : ∃ b : Bool, ((x.shrink == 0) || decide (x.base < lt)) = b := ⟨_, rfl⟩
              have hnf : (newF false x).vals = [.int .i64 x.base, .int .i64 x.least, .int .i64 x.most, .bool x.bound, .int .i64 x.extra, .int .i64 x.grow, .int .i64 x.shrink, .int .i64 lt, .int .i64 x.shrink, .bool fi] := by
                unfold newF Fl.vals
                rw [← efi, ELT.out]
                simp
              have HNF := Lib.hid hnf
              clear hnf
              go_cut [] from 71 to 101 (fun wx => wz.setCell ⟨bz, 9, none⟩ (.bool fi) = wx)
              case first =>
                by_cases q0 : x.shrink = 0
                · have b1 : (x.shrink == 0) = true := by simp; exact q0
                  rw [b1, Bool.true_or] at efi
                  subst efi
                  clear q0
                  go_wp2
                  go_meet
                  case rel => rfl
                · have b1 : (x.shrink == 0) = false := by simp; exact q0
                  rw [b1, Bool.false_or] at efi
                  clear q0
                  cases fi
                  all_goals
                    go_wp2
                    go_meet
                    case rel => rfl
              case rest =>
                obtain ⟨wq, ewq⟩ : ∃ W, wz.setCell ⟨bz, 9, none⟩ (.bool fi) = W := ⟨_, rfl⟩
                rw [ewq] at hcut
                obtain rfl := hcut
                have tq : Blk wq bz #[.int .i64 x.base, .int .i64 x.least, .int .i64 x.most, .bool x.bound, .int .i64 x.extra, .int .i64 x.grow, .int .i64 x.shrink, .int .i64 lt, .int .i64 x.shrink, .bool fi] 147 := by
                  have q := TZZ.out.set 9 (.bool fi)
                  rw [← ewq]
                  simpa using q
                have hbq : But bz wz wq := by rw [← ewq]; exact But.set _ _ _
                have tbq := TBZ.out.but hbq (by omega)
                have hBq : Below w.heap.size w wq := hbq.to HBZ.out (by omega) HBZ.out.size
                have oq := OZ.out.but hbq (fun g e => HGE.out g e)
                have hzq := hbq.size
                have c0 := tbq.cell 0 _ rfl
                have z0 := tq.cell 0 _ rfl
                have z1 := tq.cell 1 _ rfl
                have z2 := tq.cell 2 _ rfl
                have z3 := tq.cell 3 _ rfl
                have z4 := tq.cell 4 _ rfl
                have z5 := tq.cell 5 _ rfl
                have z6 := tq.cell 6 _ rfl
                have z7' := tq.cell 7 _ rfl
                have z8' := tq.cell 8 _ rfl
                have z9' := tq.cell 9 _ rfl
                have hltq := tbq.lt
                have TBQ := Lib.hid tbq
                have OQ := Lib.hid oq
                have HBQ := Lib.hid hBq
                have hjm : j ≤ 1000000 := by omega
                have hwq : w.heap.size ≤ wq.heap.size + 1 := by omega
                clear ewq tq hbq tbq hBq oq y0 z7 z8 z9 f9 c1 efi
                go_upto_region 17 with (fail)
                go_region_law (refine step_appW rfl (.tmp 106) (.tmp 108) rfl _ w.heap.size aj j cj (flV ((l.take j).map (newF false))) rfl (OQ.out.drew.alloc _) ⟨wq.heap.size, 0, none⟩ 1 (newF false x) rfl (by rw [HNF.out]; exact World.news_of_block (Blk.new wq.drew #[.int .i64 x.base, .int .i64 x.least, .int .i64 x.most, .bool x.bound, .int .i64 x.extra, .int .i64 x.grow, .int .i64 x.shrink, .int .i64 lt, .int .i64 x.shrink, .bool fi] 147 _ rfl)) hjm (by simpa using hwq) ?_; intro ao' cap' w8 ho8 hbe8 hke8 hsz8; have tb8 := hke8 _ _ _ (TBQ.out.alloc _) (by decide); have d0 := tb8.cell 0 _ rfl; have g0 := tb8.free 0)
                all_goals
                  have tb9 : Blk (w8.setCell ⟨w.heap.size, 0, none⟩ (.slice ao' (j + 1) cap')) w.heap.size #[.slice ao' (j + 1) cap', .bool false, .int .i64 r, .int .i64 0] 145 := by
                    have q := tb8.set 0 (.slice ao' (j + 1) cap')
                    simpa using q
                  have hB8 := hbe8 _ _ (Nat.le_refl _) (HBQ.out.drew.alloc HBQ.out.size _)
                  have hB9 : Below w.heap.size w (w8.setCell ⟨w.heap.size, 0, none⟩ (.slice ao' (j + 1) cap')) := (by repeat' (first | (with_reducible exact Below.refl _ _) | (with_reducible assumption) | (with_reducible refine below_alloc ?_ _ ?_) | (with_reducible refine below_set _ ?_ ?_) | (with_reducible refine Below.drew ?_) | (with_reducible refine below_dN ?_ _) | (apply below_thenA; assumption) | omega | (simp; done) | (simp; omega) | (simp [*]; done)))
                  have o9 := OwnW.aside ho8 ⟨w.heap.size, 0, none⟩ (.slice ao' (j + 1) cap') (ho8.ne tb8 (by decide))
                  rw [← HTK.out] at o9
                  have TB9 := Lib.hid tb9
                  have HB9 := Lib.hid hB9
                  have O9 := Lib.hid o9
                  clear tb9 hB8 hB9 o9 tb8 ho8 hbe8 hke8
                  go_wp2_with fail
                  go_roundg (n - (j + 1))
                  case measure => omega
                  case rel => exact ⟨j + 1, ao', cap', by omega, rfl, by go_num, TB9.out, O9.out, HB9.out⟩
            · go_upto_region 16 with (fail)
              obtain ⟨wz, ewz⟩ : ∃ W, w5.setCell ⟨bz, 8, none⟩ (.int .i64 x.grow) = W := ⟨_, rfl⟩
              have hbtz : But bz w5 wz := by rw [← ewz]; exact But.set _ _ _
              have tzz : Blk wz bz #[.int .i64 x.base, .int .i64 x.least, .int .i64 x.most, .bool x.bound, .int .i64 x.extra, .int .i64 x.grow, .int .i64 x.shrink, .int .i64 lt, .int .i64 x.grow, .bool false] 147 := by
                have q := tz.set 8 (.int .i64 x.grow)
                rw [← ewz]
                simpa using q
              rw [ewz]
              clear ewz
              clear tz f8 z8 c1 y5 hlz
              have tbz := tb5.but hbtz (by omega)
              have tYz := tY5.but hbtz (by omega)
              have c1 := tbz.cell 1 _ rfl
              have y0 := tYz.cell 0 _ rfl
              have z7 := tzz.cell 7 _ rfl
              have z8 := tzz.cell 8 _ rfl
              have z9 := tzz.cell 9 _ rfl
              have f9 := tzz.free 9
              have hBz : Below w.heap.size w wz := hbtz.to (HBY.out.trans (hbW.mono HBY.out.size)) (by omega) (HBY.out.trans (hbW.mono HBY.out.size)).size
              have oz : OwnW wz w.heap.size 147 10 aj j cj (flV ((l.take j).map (newF true))) := (OY.out.below hbW).but hbtz (fun g e => by have := (OY.out.ge e).2; omega)
              have hzz := hbtz.size
              have TBZ := Lib.hid tbz
              have TZZ := Lib.hid tzz
              have OZ := Lib.hid oz
              have HBZ := Lib.hid hBz
              have hge : ∀ g, (Value.slice aj j cj).ownBlock = some g → g ≠ bz := fun g e => by have := (OY.out.ge e).2; omega
              have HGE := Lib.hid hge
              clear tb5 tY5 hbtz tbz tYz tzz oz hBz hbW hge
              obtain ⟨fi, efi⟩ : ∃ b : Bool, ((x.grow == 0) || decide (lt < x.base)) = b := ⟨_, rfl⟩
              have hnf : (newF true x).vals = [.int .i64 x.base, .int .i64 x.least, .int .i64 x.most, .bool x.bound, .int .i64 x.extra, .int .i64 x.grow, .int .i64 x.shrink, .int .i64 lt, .int .i64 x.grow, .bool fi] := by
                unfold newF Fl.vals
                rw [← efi, ELT.out]
                simp
              have HNF := Lib.hid hnf
              clear hnf
              go_cut [] from 71 to 101 (fun wx => wz.setCell ⟨bz, 9, none⟩ (.bool fi) = wx)
              case first =>
                by_cases q0 : x.grow = 0
                · have b1 : (x.grow == 0) = true := by simp; exact q0
                  rw [b1, Bool.true_or] at efi
                  subst efi
                  clear q0
                  go_wp2
                  go_meet
                  case rel => rfl
                · have b1 : (x.grow == 0) = false := by simp; exact q0
                  rw [b1, Bool.false_or] at efi
                  clear q0
                  cases fi
                  all_goals
                    go_wp2
                    go_meet
                    case rel => rfl
              case rest =>
                obtain ⟨wq, ewq⟩ : ∃ W, wz.setCell ⟨bz, 9, none⟩ (.bool fi) = W := ⟨_, rfl⟩
                rw [ewq] at hcut
                obtain rfl := hcut
                have tq : Blk wq bz #[.int .i64 x.base, .int .i64 x.least, .int .i64 x.most, .bool x.bound, .int .i64 x.extra, .int .i64 x.grow, .int .i64 x.shrink, .int .i64 lt, .int .i64 x.grow, .bool fi] 147 := by
                  have q := TZZ.out.set 9 (.bool fi)
                  rw [← ewq]
                  simpa using q
                have hbq : But bz wz wq := by rw [← ewq]; exact But.set _ _ _
                have tbq := TBZ.out.but hbq (by omega)
                have hBq : Below w.heap.size w wq := hbq.to HBZ.out (by omega) HBZ.out.size
                have oq := OZ.out.but hbq (fun g e => HGE.out g e)
                have hzq := hbq.size
                have c0 := tbq.cell 0 _ rfl
                have z0 := tq.cell 0 _ rfl
                have z1 := tq.cell 1 _ rfl
                have z2 := tq.cell 2 _ rfl
                have z3 := tq.cell 3 _ rfl
                have z4 := tq.cell 4 _ rfl
                have z5 := tq.cell 5 _ rfl
                have z6 := tq.cell 6 _ rfl
                have z7' := tq.cell 7 _ rfl
                have z8' := tq.cell 8 _ rfl
                have z9' := tq.cell 9 _ rfl
                have hltq := tbq.lt
                have TBQ := Lib.hid tbq
                have OQ := Lib.hid oq
                have HBQ := Lib.hid hBq
                have hjm : j ≤ 1000000 := by omega
                have hwq : w.heap.size ≤ wq.heap.size + 1 := by omega
                clear ewq tq hbq tbq hBq oq y0 z7 z8 z9 f9 c1 efi
                go_upto_region 17 with (fail)
                go_region_law (refine step_appW rfl (.tmp 106) (.tmp 108) rfl _ w.heap.size aj j cj (flV ((l.take j).map (newF true))) rfl (OQ.out.drew.alloc _) ⟨wq.heap.size, 0, none⟩ 1 (newF true x) rfl (by rw [HNF.out]; exact World.news_of_block (Blk.new wq.drew #[.int .i64 x.base, .int .i64 x.least, .int .i64 x.most, .bool x.bound, .int .i64 x.extra, .int .i64 x.grow, .int .i64 x.shrink, .int .i64 lt, .int .i64 x.grow, .bool fi] 147 _ rfl)) hjm (by simpa using hwq) ?_; intro ao' cap' w8 ho8 hbe8 hke8 hsz8; have tb8 := hke8 _ _ _ (TBQ.out.alloc _) (by decide); have d0 := tb8.cell 0 _ rfl; have g0 := tb8.free 0)
                all_goals
                  have tb9 : Blk (w8.setCell ⟨w.heap.size, 0, none⟩ (.slice ao' (j + 1) cap')) w.heap.size #[.slice ao' (j + 1) cap', .bool true, .int .i64 r, .int .i64 0] 145 := by
                    have q := tb8.set 0 (.slice ao' (j + 1) cap')
                    simpa using q
                  have hB8 := hbe8 _ _ (Nat.le_refl _) (HBQ.out.drew.alloc HBQ.out.size _)
                  have hB9 : Below w.heap.size w (w8.setCell ⟨w.heap.size, 0, none⟩ (.slice ao' (j + 1) cap')) := (by repeat' (first | (with_reducible exact Below.refl _ _) | (with_reducible assumption) | (with_reducible refine below_alloc ?_ _ ?_) | (with_reducible refine below_set _ ?_ ?_) | (with_reducible refine Below.drew ?_) | (with_reducible refine below_dN ?_ _) | (apply below_thenA; assumption) | omega | (simp; done) | (simp; omega) | (simp [*]; done)))
                  have o9 := OwnW.aside ho8 ⟨w.heap.size, 0, none⟩ (.slice ao' (j + 1) cap') (ho8.ne tb8 (by decide))
                  rw [← HTK.out] at o9
                  have TB9 := Lib.hid tb9
                  have HB9 := Lib.hid hB9
                  have O9 := Lib.hid o9
                  clear tb9 hB8 hB9 o9 tb8 ho8 hbe8 hke8
                  go_wp2_with fail
                  go_roundg (n - (j + 1))
                  case measure => omega
                  case rel => exact ⟨j + 1, ao', cap', by omega, rfl, by go_num, TB9.out, O9.out, HB9.out⟩
        · obtain rfl : n = j := by omega
          have ix : ¬ (n : Int) < (n : Int) := by omega
          have hO2 := HOO.out
          rw [List.take_of_length_le (by rw [HL.out]; omega)] at hO2
          have hfn : ∀ y ∈ l.map (newF gr), FlFit y := fun y hy => by
            obtain ⟨x, hx, rfl⟩ := List.mem_map.1 hy
            exact newF_fit gr (HF.out x hx)
          have FR := fx_free w.heap.size aj n cj (l.map (newF gr)) r (.bool gr) (.int .i64 0) (by omega) (by rw [List.length_map, HL.out]) hfn HR1.out.fit wr HT.out hO2.row
          have b3 := HT.out.cell 3 _ rfl
          have O2 := Lib.hid hO2
          have hD3 := HD2.out
          cases hfr : freeF r (l.map (newF gr)) with
          | none =>
            rw [hfr] at FR hD3
            replace FR := givo_none FR
            have HNO := Lib.hid hD3.symm
            clear hT hO hO2 hfn hD3 hfr
            go_wp2_with fail
            refine FR.mono ?_
            rintro e w8 ⟨rfl, hb8⟩
            go_wp2_with fail
            simp only [bodyPost]
            exact ⟨trivial, by rw [EQ.out]; exact LadAns.no HNO.out (hB.trans (hb8.mono hB.size))⟩
          | some f =>
            rw [hfr] at FR hD3
            replace FR := givo_some FR
            have HYES := Lib.hid hD3.symm
            clear hT hO hO2 hfn hD3 hfr
            go_wp2_with fail
            refine FR.mono ?_
            rintro e w8 ⟨rfl, hb8⟩
            have tb8 := HT.out.below hb8
            have o8 := O2.out.below hb8
            have hB8 := hB.trans (hb8.mono hB.size)
            have d3 := tb8.cell 3 _ rfl
            have g3 := tb8.free 3
            have tb9 : Blk (w8.setCell ⟨w.heap.size, 3, none⟩ (.int .i64 f)) w.heap.size #[.slice aj n cj, .bool gr, .int .i64 r, .int .i64 f] 145 := by
              have q := tb8.set 3 (.int .i64 f)
              simpa using q
            have hB9 : Below w.heap.size w (w8.setCell ⟨w.heap.size, 3, none⟩ (.int .i64 f)) := (by repeat' (first | (with_reducible exact Below.refl _ _) | (with_reducible assumption) | (with_reducible refine below_alloc ?_ _ ?_) | (with_reducible refine below_set _ ?_ ?_) | (with_reducible refine Below.drew ?_) | (with_reducible refine below_dN ?_ _) | (apply below_thenA; assumption) | omega | (simp; done) | (simp; omega) | (simp [*]; done)))
            have o9 := OwnW.aside o8 ⟨w.heap.size, 3, none⟩ (.int .i64 f) (o8.ne tb8 (by decide))
            have TB9 := Lib.hid tb9
            have HB9 := Lib.hid hB9
            have O9 := Lib.hid o9
            clear tb9 hB8 hB9 o9 tb8 o8 FR b3
            go_wp2_with fail
            rw [EQ.out, HYES.out]
            exact ⟨⟨w.heap.size, aj, cj, rfl, Nat.le_refl _, TB9.out, O9.out⟩, HB9.out⟩
end Go.Proofs.Ythofammjbicogaa
