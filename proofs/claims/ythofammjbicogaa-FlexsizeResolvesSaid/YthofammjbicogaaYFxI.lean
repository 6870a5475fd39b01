/-
  Package flexsize, each function by its contract. Ninth part: step.
-/
import Derived.Test.YthofammjbicogaaYFxH
namespace Go.Proofs.Ythofammjbicogaa
open Go.RowKit
set_option linter.unusedSimpArgs false
set_option linter.unusedVariables false

/-- Is an item fixed now? -/
def fixB (s lt tg : Int) : Bool := (s == 0) || (decide (0 < s) && decide (tg < lt)) || (decide (s < 0) && decide (lt < tg))
def stpF (s : Int) (x : Fl) : Fl := if x.fi then x else if fixB s (x.it.lim x.tg) x.tg then { x with tg := x.it.lim x.tg, fi := true } else x
def stepO (grows : Bool) (room first : Int) (st : List Fl) : Option (List Fl) := (targetsO grows room first st).map fun q => q.2.map (stpF q.1)
def StpAns (B b n : Nat) (ao : Option Addr) (cap : Nat) (bx : Array Value) (r : Option (List Fl)) (w : World) (e : Ending) (w' : World) : Prop :=
  (match r with | some st' => e = .returned (.tuple #[]) ∧ OwnW w' B 147 10 ao n cap (flV st') | none => e = .panicked (gave 2)) ∧ Blk w' b bx 145 ∧ Below B w w'
theorem tgsF_len : ∀ {l : List Fl} {ps : List Int} {s t : Int} {m : List Fl}, tgsF l ps s = some (t, m) → m.length = l.length
  | [], ps, s, t, m, h => by cases h; rfl
  | x :: l, ps, s, t, m, h => by
    rw [tgsF] at h
    split at h
    · cases h1 : tgsF l ps.tail s with
      | none => rw [h1] at h; cases h
      | some q =>
        obtain ⟨q1, q2⟩ := q
        rw [h1] at h
        cases h
        simp [tgsF_len h1]
    · cases h0 : tgO x (ps.headD 0) s with
      | none => rw [h0] at h; cases h
      | some r =>
        rw [h0, Option.bind_some] at h
        cases h1 : tgsF l ps.tail r.2 with
        | none => rw [h1] at h; cases h
        | some q =>
          obtain ⟨q1, q2⟩ := q
          rw [h1] at h
          cases h
          simp [tgsF_len h1]
theorem targetsO_len {grows : Bool} {room first t : Int} {st m : List Fl} (h : targetsO grows room first st = some (t, m)) : m.length = st.length := by
  unfold targetsO at h
  cases h1 : sharedO grows room first st with
  | none => rw [h1] at h; cases h
  | some q =>
    rw [h1, Option.bind_some] at h
    cases h2 : splO q.1 q.2 st.length with
    | none => rw [h2] at h; cases h
    | some ps =>
      rw [h2, Option.bind_some] at h
      exact tgsF_len h
theorem app_get {done l : List Fl} {y : Fl} {j : Nat} (hd : done.length = j) : ((done ++ [y]) ++ l).getD j fl0 = y := by
  subst hd
  rw [List.append_assoc]
  simp [List.getD]
theorem map_take {s : Int} {st : List Fl} {j : Nat} (hj : j < st.length) : (st.take (j + 1)).map (stpF s) = (st.take j).map (stpF s) ++ [stpF s (st.getD j fl0)] := by
  rw [List.take_succ_eq_append_getElem hj, List.map_append]
  simp [List.getD, hj]
set_option maxRecDepth 100000 in
set_option maxHeartbeats 6400000 in
theorem fx_step (Bo b : Nat) (ao : Option Addr) (n cap : Nat) (st : List Fl) (grows : Bool) (room first : Int) (hn : n ≤ 1024) (hl : st.length = n) (hf : ∀ x ∈ st, FlMay x ∧ 0 ≤ x.it.base) (hro : LenB room) (hfi : IFit first) (w : World) (hBw : Bo ≤ w.heap.size)
    (tb : Blk w b #[.slice ao n cap, .bool grows, .int .i64 room, .int .i64 first] 145) (ho : OwnW w Bo 147 10 ao n cap (flV st)) :
    Calls Try.prog 100 #[.pointer (some ⟨b, 0, none⟩)] w (StpAns Bo b n ao cap #[.slice ao n cap, .bool grows, .int .i64 room, .int .i64 first] (stepO grows room first st) w) := by
  have TG := fx_targets Bo b ao n cap st grows room first hn hl hf hro hfi w hBw tb ho
  have hlb := tb.lt
  unfold stepO
  obtain ⟨D, eD⟩ : ∃ D, targetsO grows room first st = D := ⟨_, rfl⟩
  rw [eD] at TG ⊢
  have hlen : ∀ t m, D = some (t, m) → m.length = n := fun t m e => by rw [← hl]; exact targetsO_len (eD.trans e)
  clear eD hf hro hfi
  cases D with
  | none =>
    have TG2 : Calls Try.prog 110 #[.pointer (some ⟨b, 0, none⟩)] w (fun e w' => e = .panicked (gave 2) ∧ Blk w' b #[.slice ao n cap, .bool grows, .int .i64 room, .int .i64 first] 145 ∧ Below Bo w w') := TG
    clear TG hlen tb ho
    go_enter Try.func100, Try.ntmps100
    go_wp2_with (go_at_call 110; with_reducible refine TG2.mono ?_; rintro e w1 ⟨rfl, tb1, hb1⟩)
    simp only [bodyPost]
    exact ⟨trivial, rfl, tb1, hb1⟩
  | some q =>
    obtain ⟨s, m⟩ := q
    have hml := hlen s m rfl
    have TG2 : Calls Try.prog 110 #[.pointer (some ⟨b, 0, none⟩)] w (fun e w' => (e = .returned (.int .i64 s) ∧ OwnW w' Bo 147 10 ao n cap (flV m)) ∧ Blk w' b #[.slice ao n cap, .bool grows, .int .i64 room, .int .i64 first] 145 ∧ Below Bo w w') := TG
    have hgl : ∀ g, ao = some ⟨g, 0, none⟩ → 0 < n → g < w.heap.size := fun g e h => by
      obtain ⟨g', e', _, h3⟩ := ho.head h
      rw [e] at e'
      cases e'
      exact h3
    have HGL := Lib.hid hgl
    obtain ⟨Q, eQ⟩ : ∃ Q, Q = StpAns Bo b n ao cap #[.slice ao n cap, .bool grows, .int .i64 room, .int .i64 first] ((some (s, m)).map fun q => q.2.map (stpF q.1)) w := ⟨_, rfl⟩
    rw [← eQ]
    have EQ := Lib.hid eQ
    have HL := Lib.hid hml
    clear TG hlen tb ho hgl eQ hml hl
    go_enter Try.func100, Try.ntmps100
    go_wp2_with fail
    refine TG2.mono ?_
    rintro e w1 ⟨⟨rfl, o1⟩, tb1, hB1⟩
    have c0 := tb1.cell 0 _ rfl
    have hz1 := hB1.size
    have TB1 := Lib.hid tb1
    have O1 := Lib.hid o1
    have HB1 := Lib.hid hB1
    clear TG2 o1 tb1 hB1
    go_wp2_with fail
    go_loopg [13] n (fun gk s13 wr => ∃ (j : Nat), j ≤ n ∧ gk = n - j ∧ s13 = .int .i64 ((j : Int)) ∧ OwnW wr Bo 147 10 ao n cap (flV ((m.take j).map (stpF s) ++ m.drop j)) ∧ Blk wr b #[.slice ao n cap, .bool grows, .int .i64 room, .int .i64 first] 145 ∧ Below Bo w wr ∧ w.heap.size ≤ wr.heap.size)
    case atStart => exact ⟨0, by omega, by omega, rfl, by simpa using O1.out, TB1.out, HB1.out, hz1⟩
    case round =>
      clear c0
      obtain ⟨j, hj, rfl, rfl, hO, hT, hB, hsz⟩ := hrel
      have c0 := hT.cell 0 _ rfl
      have hltb := hT.lt
      have HT := Lib.hid hT
      have HOO := Lib.hid hO
      clear hT hO
      by_cases hjk : j < n
      · have ix : (j : Int) < (n : Int) := by omega
        have hjm : j < m.length := by rw [HL.out]; exact hjk
        have hdl : ((m.take j).map (stpF s)).length = j := by rw [List.length_map, List.length_take]; omega
        obtain ⟨g, rfl, hgB, hglt⟩ := HOO.out.head (by omega)
        have hgw := HGL.out g rfl (by omega)
        obtain ⟨g', off', e', _, hF⟩ := fl_at HOO.out.row (by rw [mid_len hdl (by omega)]; exact HL.out) hjk
        obtain ⟨rfl, rfl⟩ : g = g' ∧ 0 = off' := by simpa using e'
        rw [mid_get hdl hjm, Nat.zero_add] at hF
        have hst := map_take (s := s) hjm
        have hms := mid_same (done := (m.take j).map (stpF s)) hjm
        have hset := fun y => mid_set (done := (m.take j).map (stpF s)) hdl hjm y
        have hbg : b ≠ g := fun e => HOO.out.ne HT.out (by decide) (by rw [e]; simp [Value.ownBlock])
        obtain ⟨x, ex⟩ : ∃ x, m.getD j fl0 = x := ⟨_, rfl⟩
        rw [ex] at hF hst hms
        obtain ⟨h0, h1, h2, h3, h4, h5, h6, h7, h8, h9⟩ := hF
        have HST := Lib.hid hst
        have HMS := Lib.hid hms
        have HSET := Lib.hid hset
        have HDL := Lib.hid hdl
        have HJM := Lib.hid hjm
        have EX := Lib.hid ex
        clear hst hms hset hdl hjm ex e'
        have HNX := Lib.hid (fun (w' : World) (y : Fl) (hy : stpF s x = y) (h : OwnW w' Bo 147 10 (some ⟨g, 0, none⟩) n cap (flV (((m.take j).map (stpF s) ++ [y]) ++ m.drop (j + 1)))) => show OwnW w' Bo 147 10 (some ⟨g, 0, none⟩) n cap (flV ((m.take (j + 1)).map (stpF s) ++ m.drop (j + 1))) by rw [HST.out, hy]; exact h)
        cases hx : x.fi
        · rw [hx] at h9
          have HX := Lib.hid hx
          clear hx
          have LO : ∀ W, Calls Try.prog 46 #[.agg #[.int .i64 x.it.least, .int .i64 x.it.most, .bool x.it.bound], .int .i64 x.tg] W fun e w' => e = .returned (.int .i64 (x.it.lim x.tg)) ∧ Below W.heap.size W w' := fun W => lim_of _ _ _ _ W
          obtain ⟨lt, elt⟩ : ∃ l, x.it.lim x.tg = l := ⟨_, rfl⟩
          rw [elt] at LO
          have hsx : stpF s x = if fixB s lt x.tg then { x with tg := lt, fi := true } else x := by
            unfold stpF
            rw [HX.out, if_neg (by simp), elt]
          have HSX := Lib.hid hsx
          clear hsx elt
          go_upto_region 5 with (fail)
          clear h0 h1 h2 h3 h4 h5 h6 h8 h9
          have hbY : Below wr.heap.size wr (wr.alloc (.cells #[.int .i64 x.it.base, .int .i64 x.it.least, .int .i64 x.it.most, .bool x.it.bound, .int .i64 x.it.extra, .int .i64 x.it.grow, .int .i64 x.it.shrink, .int .i64 x.tg, .int .i64 x.fa, .bool false] 147)) := (by repeat' (first | (with_reducible exact Below.refl _ _) | (with_reducible assumption) | (with_reducible refine below_alloc ?_ _ ?_) | (with_reducible refine below_set _ ?_ ?_) | (with_reducible refine Below.drew ?_) | (with_reducible refine below_dN ?_ _) | (apply below_thenA; assumption) | omega | (simp; done) | (simp; omega) | (simp [*]; done)))
          obtain ⟨Wy, eWy⟩ : ∃ W, wr.alloc (.cells #[.int .i64 x.it.base, .int .i64 x.it.least, .int .i64 x.it.most, .bool x.it.bound, .int .i64 x.it.extra, .int .i64 x.it.grow, .int .i64 x.it.shrink, .int .i64 x.tg, .int .i64 x.fa, .bool false] 147) = W := ⟨_, rfl⟩
          have tY : Blk Wy wr.heap.size #[.int .i64 x.it.base, .int .i64 x.it.least, .int .i64 x.it.most, .bool x.it.bound, .int .i64 x.it.extra, .int .i64 x.it.grow, .int .i64 x.it.shrink, .int .i64 x.tg, .int .i64 x.fa, .bool false] 147 := by rw [← eWy]; exact Blk.new wr _ _ _ rfl
          rw [eWy] at hbY ⊢
          clear eWy h7
          have hBY := hB.trans (hbY.mono (Nat.le_trans hBw hsz))
          have y1 := tY.cell 1 _ rfl
          have y2 := tY.cell 2 _ rfl
          have y3 := tY.cell 3 _ rfl
          have y7 := tY.cell 7 _ rfl
          go_wp2_with fail
          refine (LO _).mono ?_
          rintro e w7 ⟨rfl, hb7⟩
          have hb67 := hbY.trans (hb7.mono hbY.size)
          have tY7 := tY.below hb7
          have tb7 := HT.out.below hb67
          have o7 := HOO.out.below hb67
          have hB7 := hBY.trans (hb7.mono (Nat.le_trans hBw hBY.size))
          have hz7 := hb67.size
          clear c0 y1 y2 y3 y7 hbY hBY tY hb7 hb67 hB LO
          have c0 := tb7.cell 0 _ rfl
          have y7 := tY7.cell 7 _ rfl
          have TB7 := Lib.hid tb7
          have O7 := Lib.hid o7
          have HB7 := Lib.hid hB7
          clear tb7 o7 hB7 tY7
          go_upto_region 6 with (fail)
          go_cut [47] from 26 to 47 (fun sv wx => sv = .bool (fixB s lt x.tg) ∧ w7 = wx)
          case first =>
            clear c0
            by_cases s0 : s = 0
            · have b1 : (s == 0) = true := by simp; exact s0
              have hr : fixB s lt x.tg = true := by unfold fixB; rw [b1]; rfl
              have HRR := Lib.hid hr
              clear s0 hr
              go_wp2
              go_meet
              case rel => exact ⟨by rw [HRR.out], rfl⟩
            · have b1 : (s == 0) = false := by simp; exact s0
              by_cases sp : 0 < s
              · have b2 : decide (0 < s) = true := decide_eq_true sp
                have b3 : decide (s < 0) = false := decide_eq_false (by omega)
                obtain ⟨c, ec⟩ : ∃ c, decide (x.tg < lt) = c := ⟨_, rfl⟩
                have hr : fixB s lt x.tg = c := by unfold fixB; rw [b1, b2, b3, ec]; cases c <;> rfl
                have HRR := Lib.hid hr
                clear s0 sp hr
                cases c
                all_goals
                  go_wp2
                  go_meet
                  case rel => exact ⟨by rw [HRR.out], rfl⟩
              · have b2 : decide (0 < s) = false := decide_eq_false sp
                have b3 : decide (s < 0) = true := decide_eq_true (by omega)
                obtain ⟨c, ec⟩ : ∃ c, decide (lt < x.tg) = c := ⟨_, rfl⟩
                have hr : fixB s lt x.tg = c := by unfold fixB; rw [b1, b2, b3, ec]; cases c <;> rfl
                have HRR := Lib.hid hr
                clear s0 sp hr
                cases c
                all_goals
                  go_wp2
                  go_meet
                  case rel => exact ⟨by rw [HRR.out], rfl⟩
          case rest =>
            obtain ⟨rfl, rfl⟩ := hcut
            cases hfx : fixB s lt x.tg
            · have hy : stpF s x = x := by rw [HSX.out, hfx]; rfl
              have HY := Lib.hid hy
              clear hfx hy
              go_wp2_with fail
              go_roundg (n - (j + 1))
              case measure => omega
              case rel => exact ⟨j + 1, by omega, rfl, by go_num, HNX.out _ _ HY.out (by rw [← HMS.out]; exact O7.out), TB7.out, HB7.out, by omega⟩
            · have hy : stpF s x = { x with tg := lt, fi := true } := by rw [HSX.out, hfx]; rfl
              have HY := Lib.hid hy
              clear hfx hy
              go_upto_region 7 with (fail)
              obtain ⟨g', off', e', _, hF⟩ := fl_at O7.out.row (by rw [mid_len HDL.out (Nat.le_of_lt HJM.out)]; exact HL.out) hjk
              obtain ⟨rfl, rfl⟩ : g = g' ∧ 0 = off' := by simpa using e'
              rw [mid_get HDL.out HJM.out, EX.out, Nat.zero_add] at hF
              have h7 := hF.2.2.2.2.2.2.2.1
              have h9 := hF.2.2.2.2.2.2.2.2.2
              have hf7 := O7.out.free (j * 10 + 7)
              have hf9 := O7.out.free (j * 10 + 9)
              clear hF e' y7
              have hgo : ∀ wx, (w7.setCell ⟨g, j * 10 + 7, none⟩ (.int .i64 lt)).setCell ⟨g, j * 10 + 9, none⟩ (.bool true) = wx → OwnW wx Bo 147 10 (some ⟨g, 0, none⟩) n cap (flV ((m.take (j + 1)).map (stpF s) ++ m.drop (j + 1))) ∧ Blk wx b #[.slice (some ⟨g, 0, none⟩) n cap, .bool grows, .int .i64 room, .int .i64 first] 145 ∧ Below Bo w wx ∧ w.heap.size ≤ wx.heap.size := fun wx e => by
                have hB7 := HB7.out
                have e1 := flV_tg (st := (m.take j).map (stpF s) ++ m.drop j) (j := j) (by rw [mid_len HDL.out (Nat.le_of_lt HJM.out), HL.out]; exact hjk) lt
                rw [mid_get HDL.out HJM.out, EX.out, HSET.out] at e1
                have hdl2 : ((m.take j).map (stpF s) ++ [{ x with tg := lt }]).length = j + 1 := by rw [List.length_append, HDL.out]; rfl
                have e2 := flV_fi (st := ((m.take j).map (stpF s) ++ [{ x with tg := lt }]) ++ m.drop (j + 1)) (j := j) (by rw [mid_len hdl2 (by rw [HL.out]; omega), HL.out]; exact hjk) true
                have e3 : (((m.take j).map (stpF s) ++ [{ x with tg := lt }]) ++ m.drop (j + 1)).getD j fl0 = { x with tg := lt } := by
                  exact app_get HDL.out
                have e4 : (((m.take j).map (stpF s) ++ [{ x with tg := lt }]) ++ m.drop (j + 1)).set j { x with tg := lt, fi := true } = ((m.take j).map (stpF s) ++ [{ x with tg := lt, fi := true }]) ++ m.drop (j + 1) := by
                  rw [List.append_assoc, List.set_append_right _ _ (by rw [HDL.out]; exact Nat.le_refl _), HDL.out, Nat.sub_self, List.append_assoc]
                  rfl
                rw [e3, e4] at e2
                subst e
                refine ⟨HNX.out _ _ HY.out ?_, (TB7.out.other hbg _ _).other hbg _ _, (by repeat' (first | (with_reducible exact Below.refl _ _) | (with_reducible assumption) | (with_reducible refine below_alloc ?_ _ ?_) | (with_reducible refine below_set _ ?_ ?_) | (with_reducible refine Below.drew ?_) | (with_reducible refine below_dN ?_ _) | (apply below_thenA; assumption) | omega | (simp; done) | (simp; omega) | (simp [*]; done))), by simpa using (show w.heap.size ≤ w7.heap.size by omega)⟩
                rw [e2, e1]
                exact (O7.out.put _).put _
              have HGO := Lib.hid hgo
              clear hgo
              go_region_with (fail)
              all_goals
                go_wp2_with fail
                go_roundg (n - (j + 1))
                case measure => omega
                case rel =>
                  obtain ⟨q1, q2, q3, q4⟩ := HGO.out _ rfl
                  exact ⟨j + 1, by omega, rfl, by go_num, q1, q2, q3.drew, q4⟩
        · rw [hx] at h9
          have hy : stpF s x = x := by unfold stpF; rw [hx]; rfl
          have HY := Lib.hid hy
          clear hx hy
          go_wp2_with fail
          go_roundg (n - (j + 1))
          case measure => omega
          case rel =>
            have hbn : Below wr.heap.size wr (wr.alloc (.cells #[.int .i64 x.it.base, .int .i64 x.it.least, .int .i64 x.it.most, .bool x.it.bound, .int .i64 x.it.extra, .int .i64 x.it.grow, .int .i64 x.it.shrink, .int .i64 x.tg, .int .i64 x.fa, .bool true] 147)) := (by repeat' (first | (with_reducible exact Below.refl _ _) | (with_reducible assumption) | (with_reducible refine below_alloc ?_ _ ?_) | (with_reducible refine below_set _ ?_ ?_) | (with_reducible refine Below.drew ?_) | (with_reducible refine below_dN ?_ _) | (apply below_thenA; assumption) | omega | (simp; done) | (simp; omega) | (simp [*]; done)))
            exact ⟨j + 1, by omega, rfl, by go_num, HNX.out _ _ HY.out (by rw [← HMS.out]; exact HOO.out.below hbn), HT.out.below hbn, hB.trans (hbn.mono (Nat.le_trans hBw hsz)), by have := hbn.size; omega⟩
      · obtain rfl : n = j := by omega
        have ix : ¬ (n : Int) < (n : Int) := by omega
        have hO2 := HOO.out
        rw [List.drop_eq_nil_of_le (by rw [HL.out]; omega), List.append_nil, List.take_of_length_le (by rw [HL.out]; omega)] at hO2
        have HO3 := Lib.hid hO2
        clear hO2
        go_wp2_with fail
        go_end0
        rw [EQ.out]
        exact ⟨⟨rfl, HO3.out⟩, HT.out, hB⟩
end Go.Proofs.Ythofammjbicogaa
