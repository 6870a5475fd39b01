/-
  Package flexsize, each function by its contract. Eighth part: targets, walked.
-/
import Derived.Test.YthofammjbicogaaYFxG
namespace Go.Proofs.Ythofammjbicogaa
open Go.RowKit
set_option linter.unusedSimpArgs false
set_option linter.unusedVariables false

def Sli2 (B : Nat) (x y : Int) (v : Value) (w : World) : Prop := ∃ b, v = .slice (some ⟨b, 0, none⟩) 2 2 ∧ B ≤ b ∧ Blk w b #[.int .i64 x, .int .i64 y] 2
def sli2C (B : Nat) (x y : Int) : Cl := .own (Sli2 B x y) (fun _ _ _ h hb => by obtain ⟨b, e, h1, h2⟩ := h; exact ⟨b, e, h1, h2.below hb⟩)
theorem TgtAns.no {B b n : Nat} {ao : Option Addr} {cap : Nat} {bx : Array Value} {r : Option (Int × List Fl)} {w w' : World} (hr : r = none) (h1 : Blk w' b bx 145) (h2 : Below B w w') : TgtAns B b n ao cap bx r w (.panicked (gave 2)) w' := by
  subst hr; exact ⟨rfl, h1, h2⟩
theorem tgs_step {st : List Fl} {ps : List Int} {s : Int} {done : List Fl} {j : Nat} (hj : j < st.length) : (tgsF (st.drop j) (ps.drop j) s).map (fun r => (r.1, done ++ r.2)) =
    if (st.getD j fl0).fi then (tgsF (st.drop (j + 1)) (ps.drop (j + 1)) s).map (fun r => (r.1, (done ++ [st.getD j fl0]) ++ r.2))
    else (tgO (st.getD j fl0) (ps.getD j 0) s).bind fun q => (tgsF (st.drop (j + 1)) (ps.drop (j + 1)) q.2).map fun r => (r.1, (done ++ [{ st.getD j fl0 with tg := q.1 }]) ++ r.2) := by
  rw [drop_at fl0 hj, tgsF, (drop_head ps j).1, (drop_head ps j).2]
  split
  · rw [Option.map_map]
    congr 1
    funext r
    simp
  · cases tgO (st.getD j fl0) (ps.getD j 0) s with
    | none => rfl
    | some q =>
      rw [Option.bind_some, Option.bind_some, Option.map_map]
      congr 1
      funext r
      simp
theorem mid_get {st done : List Fl} {j : Nat} (hd : done.length = j) (hj : j < st.length) : (done ++ st.drop j).getD j fl0 = st.getD j fl0 := by
  rw [drop_at fl0 hj]
  subst hd
  simp [List.getD]
theorem mid_set {st done : List Fl} {j : Nat} (hd : done.length = j) (hj : j < st.length) (x : Fl) : (done ++ st.drop j).set j x = (done ++ [x]) ++ st.drop (j + 1) := by
  rw [drop_at fl0 hj, List.set_append_right _ _ (by omega), hd, Nat.sub_self, List.set_cons_zero, List.append_assoc]
  rfl
theorem mid_same {st done : List Fl} {j : Nat} (hj : j < st.length) : done ++ st.drop j = (done ++ [st.getD j fl0]) ++ st.drop (j + 1) := by
  rw [drop_at fl0 hj, List.append_assoc]
  rfl
theorem mid_len {st done : List Fl} {j : Nat} (hd : done.length = j) (hj : j ≤ st.length) : (done ++ st.drop j).length = st.length := by
  rw [List.length_append, List.length_drop]; omega
theorem shared_fit {grows : Bool} {room first t : Int} {st : List Fl} {ws : List Int} (hro : LenB room) (h : sharedO grows room first st = some (t, ws)) : LenB t ∧ wgtsO grows st = some ws := by
  unfold sharedO at h
  cases h1 : freeF room st with
  | none => rw [h1] at h; cases h
  | some out =>
    rw [h1, Option.bind_some] at h
    cases h2 : wgtsO grows st with
    | none => rw [h2] at h; cases h
    | some ys =>
      rw [h2, Option.bind_some] at h
      cases h3 : partO first (facS st) out with
      | none => rw [h3] at h; cases h
      | some u =>
        rw [h3] at h
        cases h
        refine ⟨?_, rfl⟩
        have ho := freeF_len st room hro out h1
        unfold partO at h3
        split at h3
        · split at h3
          · rename_i hl
            cases h3
            split
            · exact (lenB_iff _).1 hl
            · exact ho
          · cases h3
        · cases h3; exact ho
theorem addO_len {a b t : Int} (h : addO a b = some t) : LenB t := by
  unfold addO at h
  split at h
  · rename_i hh
    simp only [Bool.and_eq_true] at hh
    cases h
    exact (lenB_iff _).1 hh.2
  · cases h
theorem subO_len {a b t : Int} (h : subO a b = some t) : LenB t := by
  unfold subO at h
  split at h
  · rename_i hh
    cases h
    exact (lenB_iff _).1 hh
  · cases h
theorem parts_fit {t : Int} {ws : List Int} {n i : Nat} (ht : LenB t) (hn : Nonneg ws) (hi : i < n) : IFit ((partsN t (pre ws n) ws n).getD i 0) := by
  rw [partsN_get _ _ _ _ _ hi]
  unfold shareAt
  have a1 := bound_abs (t := t) (pre_nonneg hn (i + 1)) (pre_mono hn (show i + 1 ≤ n by omega))
  have a2 := bound_abs (t := t) (pre_nonneg hn i) (pre_mono hn (show i ≤ n by omega))
  obtain ⟨x, ex⟩ : ∃ x, t * pre ws (i + 1) / pre ws n = x := ⟨_, rfl⟩
  obtain ⟨y, ey⟩ : ∃ x, t * pre ws i / pre ws n = x := ⟨_, rfl⟩
  rw [ex] at a1 ⊢
  rw [ey] at a2 ⊢
  unfold LenB at ht
  unfold IFit
  rcases Int.le_total 0 t with h | h
  · have := a1.1 h; have := a2.1 h; omega
  · have := a1.2 h; have := a2.2 h; omega
theorem tgO_yes {x : Fl} {p s t d s' : Int} (h1 : addO x.it.base p = some t) (h2 : subO (x.it.lim t) t = some d) (h3 : addO s d = some s') : tgO x p s = some (t, s') := by
  unfold tgO
  rw [h1, Option.bind_some, h2, Option.bind_some, h3]
  rfl
set_option maxRecDepth 100000 in
set_option maxHeartbeats 6400000 in
theorem fx_targets (Bo b : Nat) (ao : Option Addr) (n cap : Nat) (st : List Fl) (grows : Bool) (room first : Int) (hn : n ≤ 1024) (hl : st.length = n) (hf : ∀ x ∈ st, FlMay x ∧ 0 ≤ x.it.base) (hro : LenB room) (hfi : IFit first) (w : World) (hBw : Bo ≤ w.heap.size)
    (tb : Blk w b #[.slice ao n cap, .bool grows, .int .i64 room, .int .i64 first] 145) (ho : OwnW w Bo 147 10 ao n cap (flV st)) :
    Calls Try.prog 110 #[.pointer (some ⟨b, 0, none⟩)] w (TgtAns Bo b n ao cap #[.slice ao n cap, .bool grows, .int .i64 room, .int .i64 first] (targetsO grows room first st) w) := by
  have SH := fx_shared b ao n cap st grows room first hn hl (fun x hx => (hf x hx).1) hro hfi w tb ho.row
  have hlb := tb.lt
  obtain ⟨D, eD⟩ : ∃ D, targetsO grows room first st = D := ⟨_, rfl⟩
  rw [eD]
  unfold targetsO at eD
  obtain ⟨Q, eQ⟩ : ∃ Q, Q = TgtAns Bo b n ao cap #[.slice ao n cap, .bool grows, .int .i64 room, .int .i64 first] D w := ⟨_, rfl⟩
  rw [← eQ]
  have EQ := Lib.hid eQ
  have HF := Lib.hid hf
  have HL := Lib.hid hl
  have TB := Lib.hid tb
  have HO := Lib.hid ho
  clear eQ
  cases hsh : sharedO grows room first st with
  | none =>
    rw [hsh] at eD SH
    have SH2 : Calls Try.prog 116 #[.pointer (some ⟨b, 0, none⟩)] w (fun e w' => e = .panicked (gave 2) ∧ Below w.heap.size w w') := SH
    have HD := Lib.hid eD.symm
    clear SH hsh eD tb ho hf hl
    go_enter Try.func110, Try.ntmps110
    go_wp2_with (go_at_call 116; with_reducible refine SH2.mono ?_; rintro e w1 ⟨rfl, hb1⟩)
    simp only [bodyPost]
    exact ⟨trivial, by rw [EQ.out]; exact TgtAns.no HD.out (TB.out.below hb1) (hb1.mono hBw)⟩
  | some q =>
    obtain ⟨t, ws⟩ := q
    obtain ⟨ht, hws⟩ := shared_fit hro hsh
    obtain ⟨hwl, hwb⟩ := wgtsO_bnd hf hws
    obtain ⟨hnn, hft⟩ := nonneg_mem hwb
    rw [hl] at hwl
    rw [hsh] at eD SH
    rw [Option.bind_some, hl] at eD
    have hE := shE_small (t := t) hn hnn
    have SPn := fun a1 c1 W r => sh_split t a1 n c1 ws (by omega) ht.fit hft W r
    have HTL := Lib.hid ht
    have HNN := Lib.hid hnn
    clear hsh hws hwl hwb hnn hft ht tb ho hf hl
    cases hsp : splO t ws n with
    | none =>
      rw [hsp] at eD hE
      rw [show (if (none : Option (List Int)).isSome = true then (0 : Int) else 2) = 2 from rfl] at hE
      have HD := Lib.hid eD.symm
      have SP := fun a1 c1 W (r : RowI W a1 n ws) => (SPn a1 c1 W r).mono (R' := fun e w' => ∃ a2 m2 c2, e = .returned (.tuple #[.slice a2 m2 c2, .int .i64 2]) ∧ Below W.heap.size W w') fun e w' h => by
        obtain ⟨a2, m2, c2, ys, h1, _, _, _, _, _, h7⟩ := h
        rw [hE] at h1
        exact ⟨a2, m2, c2, h1, h7⟩
      clear SPn hE eD hsp
      go_enter Try.func110, Try.ntmps110
      go_wp2_with fail
      refine SH.mono ?_
      rintro e w1 ⟨⟨a1, c1, rfl, r1, hc1, hm1⟩, hb1⟩
      have SP1 := SP a1 c1 w1 r1
      go_wp2_with fail
      refine SP1.mono ?_
      rintro e w2 ⟨a2, m2, c2, rfl, hb2⟩
      have hb12 := hb1.trans (hb2.mono hb1.size)
      go_wp2_with (go_at_call 86; with_reducible refine (fix_fail2 _).mono ?_; rintro e w3 ⟨rfl, rfl⟩)
      simp only [bodyPost]
      exact ⟨trivial, by rw [EQ.out]; exact TgtAns.no HD.out (TB.out.below hb12) (hb12.mono hBw)⟩
    | some ps =>
      have HPF := Lib.hid (show ∀ i, i < n → IFit (ps.getD i 0) from fun i hi => by
        unfold splO at hsp
        split at hsp
        · cases hsp; exact parts_fit HTL.out HNN.out hi
        · cases hsp)
      have hps : ps = partsN t (pre ws n) ws n := by
        unfold splO at hsp
        split at hsp
        · cases hsp; rfl
        · cases hsp
      rw [hsp] at eD hE
      rw [show (if (some ps : Option (List Int)).isSome = true then (0 : Int) else 2) = 0 from rfl] at hE
      rw [Option.bind_some] at eD
      have ED := Lib.hid eD
      have SP := fun a1 c1 W (r : RowI W a1 n ws) => (SPn a1 c1 W r).mono (R' := fun e w' => ∃ a2 c2, e = .returned (.tuple #[.slice a2 n c2, .int .i64 0]) ∧ RowI w' a2 n ps ∧ n ≤ c2 ∧ (∀ g off, a2 = some ⟨g, off, none⟩ → W.heap.size ≤ g) ∧ Below W.heap.size W w') fun e w' h => by
        obtain ⟨a2, m2, c2, ys, h1, h2, h3, h4, h5, _, h7⟩ := h
        obtain ⟨rfl, rfl⟩ := h5 hE
        rw [hE] at h1
        rw [← hps] at h2
        exact ⟨a2, c2, h1, h2, h3, h4.2, h7⟩
      clear SPn hE eD hsp hps
      go_enter Try.func110, Try.ntmps110
      go_wp2_with fail
      refine SH.mono ?_
      rintro e w1 ⟨⟨a1, c1, rfl, r1, hc1, hm1⟩, hb1⟩
      have SP1 := SP a1 c1 w1 r1
      go_wp2_with fail
      refine SP1.mono ?_
      rintro e w2 ⟨a2, c2, rfl, r2, hc2, hg2, hb2⟩
      have hb12 := hb1.trans (hb2.mono hb1.size)
      have hB2 := hb12.mono hBw
      have tb2 := TB.out.below hb12
      have ho2 := HO.out.below hb12
      have c0 := tb2.cell 0 _ rfl
      have hs1 := hb1.size
      have hs2 := hb2.size
      have TB2 := Lib.hid tb2
      have HO2 := Lib.hid ho2
      have HB2 := Lib.hid hB2
      have R2 := Lib.hid r2
      have HG2 := Lib.hid hg2
      have hgl : ∀ g, ao = some ⟨g, 0, none⟩ → 0 < n → g < w.heap.size := fun g e h => by
        obtain ⟨g', e', _, h3⟩ := HO.out.head h
        rw [e] at e'
        cases e'
        exact h3
      have HGL := Lib.hid hgl
      clear SH SP SP1 r1 hc1 hm1 hb1 hb2 hb12 hB2 tb2 ho2 r2 hg2 hgl
      go_wp2_with (go_at_call 86; with_reducible refine (fix_fail0 _).mono ?_; rintro e w3 ⟨rfl, rfl⟩)
      go_loopg [7, 29] n (fun gk s7 s29 wr => ∃ (j : Nat) (s : Int) (done : List Fl), j ≤ n ∧ gk = n - j ∧ s7 = .int .i64 s ∧ s29 = .int .i64 ((j : Int)) ∧ LenB s ∧ done.length = j ∧ (tgsF (st.drop j) (ps.drop j) s).map (fun r => (r.1, done ++ r.2)) = D ∧ OwnW wr Bo 147 10 ao n cap (flV (done ++ st.drop j)) ∧ Blk wr b #[.slice ao n cap, .bool grows, .int .i64 room, .int .i64 first] 145 ∧ RowI wr a2 n ps ∧ Below Bo w wr ∧ w.heap.size ≤ wr.heap.size)
      case atStart => exact ⟨0, 0, [], by omega, by omega, rfl, rfl, by unfold LenB; omega, rfl, by rw [List.drop_zero, List.drop_zero, ← ED.out]; simp, by rw [List.drop_zero]; exact HO2.out, TB2.out, R2.out, HB2.out, by omega⟩
      case round =>
        clear c0
        obtain ⟨j, s, done, hj, rfl, rfl, rfl, hs, hdl, hD, hO, hT, hR, hB, hsz⟩ := hrel
        have c0 := hT.cell 0 _ rfl
        have hltb := hT.lt
        have HD := Lib.hid hD
        have HT := Lib.hid hT
        have HR := Lib.hid hR
        have HOO := Lib.hid hO
        have HS := Lib.hid hs
        have HDL := Lib.hid hdl
        clear hD hT hR hO hs hdl
        by_cases hjk : j < n
        · have ix : (j : Int) < (n : Int) := by omega
          have hjst : j < st.length := by rw [HL.out]; exact hjk
          obtain ⟨g, rfl, hgB, hglt⟩ := HOO.out.head (by omega)
          have hgw := HGL.out g rfl (by omega)
          obtain ⟨g', off', e', _, hF⟩ := fl_at HOO.out.row (by rw [mid_len HDL.out (by omega)]; exact HL.out) hjk
          obtain ⟨rfl, rfl⟩ : g = g' ∧ 0 = off' := by simpa using e'
          rw [mid_get HDL.out hjst, Nat.zero_add] at hF
          have hstep := tgs_step (ps := ps) (s := s) (done := done) hjst
          rw [HD.out] at hstep
          have hmay := at_fit HF.out (j := j) hjst
          obtain ⟨x, ex⟩ : ∃ x, st.getD j fl0 = x := ⟨_, rfl⟩
          rw [ex] at hF hstep hmay
          obtain ⟨h0, h1, h2, h3, h4, h5, h6, h7, h8, h9⟩ := hF
          have HSTEP := Lib.hid hstep
          have HMAY := Lib.hid hmay
          have EX := Lib.hid ex
          have HJST := Lib.hid hjst
          clear hstep hmay ex hjst e'
          cases hx : x.fi
          · rw [hx] at h9
            have HX := Lib.hid hx
            clear hx
            obtain ⟨g2, off2, rfl, hg2l, hcp⟩ := HR.out.at hjk
            have hg2w := HG2.out g2 off2 rfl
            have hpf := HPF.out j hjk
            obtain ⟨p, ep⟩ : ∃ p, ps.getD j 0 = p := ⟨_, rfl⟩
            rw [ep] at hcp hpf
            have hst2 := HSTEP.out
            rw [HX.out, if_neg (by simp), ep] at hst2
            have HCG := Lib.hid (show ∀ W, RowI W (some ⟨g2, off2, none⟩) n ps → W.cell? ⟨g2, off2 + j, none⟩ = some (.int .i64 p) from fun W h => by
              obtain ⟨ga, oa, ea, _, hc⟩ := h.at hjk
              obtain ⟨rfl, rfl⟩ : g2 = ga ∧ off2 = oa := by simpa using ea
              rw [ep] at hc; exact hc)
            have HST := Lib.hid hst2
            have hbg : b ≠ g := fun e => HOO.out.ne HT.out (by decide) (by rw [e]; simp [Value.ownBlock])
            clear hst2 ep
            have AD := fun g' W h => fix_add_o g' x.it.base p HMAY.out.1.1.1.1.1 hpf W h
            go_upto_region 9 with (fail)
            clear c0 h0 h1 h2 h3 h4 h5 h6 h7 h8 h9 hpf
            obtain ⟨Wy, eWy⟩ : ∃ W, wr.alloc (.cells #[.int .i64 x.it.base, .int .i64 x.it.least, .int .i64 x.it.most, .bool x.it.bound, .int .i64 x.it.extra, .int .i64 x.it.grow, .int .i64 x.it.shrink, .int .i64 x.tg, .int .i64 x.fa, .bool false] 147) = W := ⟨_, rfl⟩
            rw [eWy]
            have tY : Blk Wy wr.heap.size #[.int .i64 x.it.base, .int .i64 x.it.least, .int .i64 x.it.most, .bool x.it.bound, .int .i64 x.it.extra, .int .i64 x.it.grow, .int .i64 x.it.shrink, .int .i64 x.tg, .int .i64 x.fa, .bool false] 147 := by rw [← eWy]; exact Blk.new wr _ _ _ rfl
            have hbY : Below wr.heap.size wr Wy := by rw [← eWy]; exact (by repeat' (first | (with_reducible exact Below.refl _ _) | (with_reducible assumption) | (with_reducible refine below_alloc ?_ _ ?_) | (with_reducible refine below_set _ ?_ ?_) | (with_reducible refine Below.drew ?_) | (with_reducible refine below_dN ?_ _) | (apply below_thenA; assumption) | omega | (simp; done) | (simp; omega) | (simp [*]; done)))
            have hzY := tY.lt
            have TBY := Lib.hid (HT.out.below hbY)
            have RY := Lib.hid (HR.out.below hbY)
            have OY := Lib.hid (HOO.out.below hbY)
            have BY := Lib.hid (hB.trans (hbY.mono (Nat.le_trans hBw hsz)))
            have y0 := tY.cell 0 _ rfl
            have cpY := HCG.out Wy RY.out
            have TY := Lib.hid tY
            clear hcp tY hbY eWy
            cases hA : addO x.it.base p with
            | none =>
              have A5 : ∀ g' W, Blk W g' #[.int .i64 x.it.base, .int .i64 p] 2 → Calls Try.prog 57 #[.slice (some ⟨g', 0, none⟩) 2 2] W fun e w' => e = .panicked (gave 2) ∧ Below W.heap.size W w' := fun g' W h => by
                have := AD g' W h
                rw [hA] at this; exact this
              have hno : D = none := by rw [HST.out]; unfold tgO; rw [hA]; rfl
              have HNO := Lib.hid hno
              clear AD hA hno cpY y0
              go_upto_region 9 with (fail)
              rename_i K1 hK1
              refine wp_region_cl (fun w' => Blk w' b #[.slice (some ⟨g, 0, none⟩) n cap, .bool grows, .int .i64 room, .int .i64 first] 145 ∧ Blk w' wr.heap.size #[.int .i64 x.it.base, .int .i64 x.it.least, .int .i64 x.it.most, .bool x.it.bound, .int .i64 x.it.extra, .int .i64 x.it.grow, .int .i64 x.it.shrink, .int .i64 x.tg, .int .i64 x.fa, .bool false] 147 ∧ RowI w' (some ⟨g2, off2, none⟩) n ps ∧ Below Bo w w' ∧ Wy.heap.size ≤ w'.heap.size) [] (fun w' => True) [Is (.pointer (some ⟨wr.heap.size, 0, none⟩)), Is (.pointer (some ⟨wr.heap.size, 0, none⟩)), Is (.int .i64 x.it.base), Is (.slice (some ⟨g2, off2, none⟩) n c2), Is (.int .i64 ((j : Int))), Is (.pointer (some ⟨g2, off2 + j, none⟩)), Is (.int .i64 p), sli2C 0 x.it.base p, .own (fun _ _ => False) (fun _ _ _ h _ => h), .own (fun _ _ => False) (fun _ _ _ h _ => h)] [] (by kernel_rfl) (by kernel_rfl) (by kernel_rfl) (by kernel_rfl) ⟨TBY.out, TY.out, RowI.drew RY.out, BY.out.drew, Nat.le_refl _⟩ trivial ?_ ?_ ?_ ?_ ?_
              · rintro W W' ⟨hBx, tY, hRp, hBB, hl⟩ hb
                exact ⟨hBx.below hb, tY.below hb, hRp.below hb, hBB.trans (hb.mono (Nat.le_trans hBw hBB.size)), Nat.le_trans hl hb.size⟩
              · exact fun _ _ _ _ _ => trivial
              · intro k vs W hk h
                exact absurd hk (by simp)
              · clear hK1 
                refine ⟨?_, ?_, ?_, ?_, ?_, ?_, ?_, ?_, ?_, ?_, trivial⟩
                · intro vs W hW hW0 hd hne hold K hK hA hL; clear hne hA hL; have hBx := hW.1; have tY := hW.2.1; have hRp := hW.2.2.1; have hBB := hW.2.2.2.1; have hl := hW.2.2.2.2; simp only [puts, Act.put, List.setIfInBounds_toArray, List.set_cons_zero, List.set_cons_succ, Nat.zero_add, Nat.reduceAdd] at hK ⊢; clear hd hold; go_simp; exact hK.out rfl _ _ (Below.refl _ _) rfl
                · intro vs W hW hW0 hd hne hold K hK hA hL; clear hne hA hL; have hBx := hW.1; have tY := hW.2.1; have hRp := hW.2.2.1; have hBB := hW.2.2.2.1; have hl := hW.2.2.2.2; simp only [puts, Act.put, List.setIfInBounds_toArray, List.set_cons_zero, List.set_cons_succ, Nat.zero_add, Nat.reduceAdd] at hK ⊢; have e0 : vs 0 = _ := hd 0 (by kernel_rfl); clear hd hold; simp only [e0] at hK; go_simp; exact hK.out rfl _ _ (Below.refl _ _) rfl
                · intro vs W hW hW0 hd hne hold K hK hA hL; clear hne hA hL; have hBx := hW.1; have tY := hW.2.1; have hRp := hW.2.2.1; have hBB := hW.2.2.2.1; have hl := hW.2.2.2.2; simp only [puts, Act.put, List.setIfInBounds_toArray, List.set_cons_zero, List.set_cons_succ, Nat.zero_add, Nat.reduceAdd] at hK ⊢; have eb : vs 1 = _ := hd 1 (by kernel_rfl); have q1 := tY.cell 0 _ rfl; clear hd hold; simp only [eb] at hK; go_simp; exact hK.out rfl _ _ (Below.refl _ _) rfl
                · intro vs W hW hW0 hd hne hold K hK hA hL; clear hne hA hL; have hBx := hW.1; have tY := hW.2.1; have hRp := hW.2.2.1; have hBB := hW.2.2.2.1; have hl := hW.2.2.2.2; simp only [puts, Act.put, List.setIfInBounds_toArray, List.set_cons_zero, List.set_cons_succ, Nat.zero_add, Nat.reduceAdd] at hK ⊢; clear hd hold; go_simp; exact hK.out rfl _ _ (Below.refl _ _) rfl
                · intro vs W hW hW0 hd hne hold K hK hA hL; clear hne hA hL; have hBx := hW.1; have tY := hW.2.1; have hRp := hW.2.2.1; have hBB := hW.2.2.2.1; have hl := hW.2.2.2.2; simp only [puts, Act.put, List.setIfInBounds_toArray, List.set_cons_zero, List.set_cons_succ, Nat.zero_add, Nat.reduceAdd] at hK ⊢; clear hd hold; go_simp; exact hK.out rfl _ _ (Below.refl _ _) rfl
                · intro vs W hW hW0 hd hne hold K hK hA hL; clear hne hA hL; have hBx := hW.1; have tY := hW.2.1; have hRp := hW.2.2.1; have hBB := hW.2.2.2.1; have hl := hW.2.2.2.2; simp only [puts, Act.put, List.setIfInBounds_toArray, List.set_cons_zero, List.set_cons_succ, Nat.zero_add, Nat.reduceAdd] at hK ⊢; have e3 : vs 3 = _ := hd 3 (by kernel_rfl); have e4 : vs 4 = _ := hd 4 (by kernel_rfl); clear hd hold; simp only [e3, e4] at hK; go_simp; exact hK.out rfl _ _ (Below.refl _ _) rfl
                · intro vs W hW hW0 hd hne hold K hK hA hL; clear hne hA hL; have hBx := hW.1; have tY := hW.2.1; have hRp := hW.2.2.1; have hBB := hW.2.2.2.1; have hl := hW.2.2.2.2; simp only [puts, Act.put, List.setIfInBounds_toArray, List.set_cons_zero, List.set_cons_succ, Nat.zero_add, Nat.reduceAdd] at hK ⊢; have q := HCG.out W hRp; have eb : vs 5 = _ := hd 5 (by kernel_rfl); clear hd hold; simp only [eb] at hK; go_simp; exact hK.out rfl _ _ (Below.refl _ _) rfl
                · intro vs W hW hW0 hd hne hold K hK hA hL; clear hne hA hL; have hBx := hW.1; have tY := hW.2.1; have hRp := hW.2.2.1; have hBB := hW.2.2.2.1; have hl := hW.2.2.2.2; simp only [puts, Act.put, List.setIfInBounds_toArray, List.set_cons_zero, List.set_cons_succ, Nat.zero_add, Nat.reduceAdd] at hK ⊢; have eb : vs 2 = _ := hd 2 (by kernel_rfl); have ed : vs 6 = _ := hd 6 (by kernel_rfl); clear hd hold; simp only [eb, ed] at hK; go_simp; exact hK.out rfl _ _ ((Below.refl _ _).alloc (Nat.le_refl _) _) ⟨W.heap.size, rfl, Nat.zero_le _, Blk.new _ _ _ _ rfl⟩
                · intro vs W hW hW0 hd hne hold K hK hA hL; clear hne hA hL; have hBx := hW.1; have tY := hW.2.1; have hRp := hW.2.2.1; have hBB := hW.2.2.2.1; have hl := hW.2.2.2.2; simp only [puts, Act.put, List.setIfInBounds_toArray, List.set_cons_zero, List.set_cons_succ, Nat.zero_add, Nat.reduceAdd] at hK ⊢; have h9 : Sli2 0 x.it.base p (vs 7) W := hd 7 (by kernel_rfl); obtain ⟨b', eb, hlb', tb'⟩ := h9; clear hd hold hK; simp only [eb]; go_simp; refine (A5 b' W tb').mono ?_; (rintro e wx ⟨rfl, hbx⟩); go_simp; simp only [bodyPost]; exact ⟨trivial, by rw [EQ.out]; exact TgtAns.no HNO.out (hBx.below hbx) (hBB.trans (hbx.mono (Nat.le_trans hBw hBB.size)))⟩
                · intro vs W hW hW0 hd hne hold K hK hA hL; clear hne hA hL; have hBx := hW.1; have tY := hW.2.1; have hRp := hW.2.2.1; have hBB := hW.2.2.2.1; have hl := hW.2.2.2.2; simp only [puts, Act.put, List.setIfInBounds_toArray, List.set_cons_zero, List.set_cons_succ, Nat.zero_add, Nat.reduceAdd] at hK ⊢; exact absurd (show False from hd 8 (by kernel_rfl)) (fun h => h)
              · intro va WB hW hV _
                exact absurd (show False from hV 8 (by decide)) (fun h => h)
            | some tt =>
              have A5 : ∀ g' W, Blk W g' #[.int .i64 x.it.base, .int .i64 p] 2 → Calls Try.prog 57 #[.slice (some ⟨g', 0, none⟩) 2 2] W fun e w' => e = .returned (.int .i64 tt) ∧ Below W.heap.size W w' := fun g' W h => by
                have := AD g' W h
                rw [hA] at this; exact this
              have HA := Lib.hid hA
              clear AD hA
              go_cut [10] from 37 to 45 (fun sv wx => sv = .int .i64 tt ∧ Below Wy.heap.size Wy wx)
              case first =>
                go_region_with (go_at_call 57; refine (A5 _ _ (Blk.drew (Blk.new _ _ _ _ rfl))).mono ?_; rintro e w5 ⟨rfl, hb⟩)
                all_goals
                  go_wp2_with fail
                  go_meet
                  case rel => exact ⟨rfl, Below.trans (by repeat' (first | (with_reducible exact Below.refl _ _) | (with_reducible assumption) | (with_reducible refine below_alloc ?_ _ ?_) | (with_reducible refine below_set _ ?_ ?_) | (with_reducible refine Below.drew ?_) | (with_reducible refine below_dN ?_ _) | (apply below_thenA; assumption) | omega | (simp; done) | (simp; omega) | (simp [*]; done))) (hb.mono (by simp))⟩
              case rest =>
                obtain ⟨rfl, hb5⟩ := hcut
                obtain ⟨w5, rfl⟩ : ∃ x, x = wc := ⟨_, rfl⟩
                have tb5 := TBY.out.below hb5
                have O5 := OY.out.below hb5
                have ty5 := TY.out.below hb5
                have r5 := RY.out.below hb5
                have hB5 : Below Bo w w5 := BY.out.trans (hb5.mono (Nat.le_trans hBw BY.out.size))
                have hz5 := hb5.size
                have c05 := tb5.cell 0 _ rfl
                obtain ⟨g', off', e', _, hF5⟩ := fl_at O5.row (by rw [mid_len HDL.out (Nat.le_of_lt HJST.out)]; exact HL.out) hjk
                obtain ⟨rfl, rfl⟩ : g = g' ∧ 0 = off' := by simpa using e'
                rw [mid_get HDL.out HJST.out, EX.out, Nat.zero_add] at hF5
                have h7 := hF5.2.2.2.2.2.2.2.1
                have hf7 := O5.free (j * 10 + 7)
                obtain ⟨w6, eW6⟩ : ∃ W, w5.setCell ⟨g, j * 10 + 7, none⟩ (.int .i64 tt) = W := ⟨_, rfl⟩
                have tb6 : Blk w6 b #[.slice (some ⟨g, 0, none⟩) n cap, .bool grows, .int .i64 room, .int .i64 first] 145 := by rw [← eW6]; exact tb5.other hbg _ _
                have ty6 : Blk w6 wr.heap.size #[.int .i64 x.it.base, .int .i64 x.it.least, .int .i64 x.it.most, .bool x.it.bound, .int .i64 x.it.extra, .int .i64 x.it.grow, .int .i64 x.it.shrink, .int .i64 x.tg, .int .i64 x.fa, .bool false] 147 := by rw [← eW6]; exact ty5.other (by omega) _ _
                have r6 : RowI w6 (some ⟨g2, off2, none⟩) n ps := by rw [← eW6]; exact r5.but (But.set _ _ _) (fun g' o' e => by cases e; omega)
                have O6 : OwnW w6 Bo 147 10 (some ⟨g, 0, none⟩) n cap (flV ((done ++ [{ x with tg := tt }]) ++ st.drop (j + 1))) := by
                  have e := flV_tg (st := done ++ st.drop j) (j := j) (by rw [mid_len HDL.out (Nat.le_of_lt HJST.out), HL.out]; exact hjk) tt
                  rw [mid_get HDL.out HJST.out, EX.out, mid_set HDL.out HJST.out] at e
                  rw [← eW6, e]
                  exact O5.put _
                have hB6 : Below Bo w w6 := by rw [← eW6]; exact (by repeat' (first | (with_reducible exact Below.refl _ _) | (with_reducible assumption) | (with_reducible refine below_alloc ?_ _ ?_) | (with_reducible refine below_set _ ?_ ?_) | (with_reducible refine Below.drew ?_) | (with_reducible refine below_dN ?_ _) | (apply below_thenA; assumption) | omega | (simp; done) | (simp; omega) | (simp [*]; done)))
                have hz6 : w6.heap.size = w5.heap.size := by rw [← eW6]; simp
                have y1 := ty6.cell 1 _ rfl
                have y2 := ty6.cell 2 _ rfl
                have y3 := ty6.cell 3 _ rfl
                have LO : ∀ W, Calls Try.prog 46 #[.agg #[.int .i64 x.it.least, .int .i64 x.it.most, .bool x.it.bound], .int .i64 tt] W fun e w' => e = .returned (.int .i64 (x.it.lim tt)) ∧ Below W.heap.size W w' := fun W => lim_of _ _ _ _ W
                have htt := addO_len HA.out
                have hlf := lim_fit HMAY.out.1.1.1 htt.fit
                obtain ⟨lt, elt⟩ : ∃ l, x.it.lim tt = l := ⟨_, rfl⟩
                rw [elt] at LO hlf
                have SU := fun W => fix_sub_o lt tt hlf htt.fit W
                have ELT := Lib.hid elt
                have TB6 := Lib.hid tb6
                have R6 := Lib.hid r6
                have OO6 := Lib.hid O6
                have HB6 := Lib.hid hB6
                clear cpY y0 tb5 O5 ty5 r5 hB5 hF5 e' tb6 ty6 r6 O6 hB6 htt hlf elt A5
                go_wp2_with fail
                refine (LO _).mono ?_
                rintro e w7 ⟨rfl, hb7⟩
                have hB7 := HB6.out.trans (hb7.mono (Nat.le_trans hBw HB6.out.size))
                cases hS : subO lt tt with
                | none =>
                  have SU2 : ∀ W, Calls Try.prog 81 #[.int .i64 lt, .int .i64 tt] W fun e w' => e = .panicked (gave 2) ∧ w' = W := fun W => by
                    have := SU W
                    rw [hS] at this; exact this
                  have hno : D = none := by rw [HST.out]; unfold tgO; rw [HA.out, Option.bind_some, ELT.out, hS]; rfl
                  have HNO := Lib.hid hno
                  clear SU hS hno
                  go_wp2_with (go_at_call 81; with_reducible refine (SU2 _).mono ?_; rintro e w8 ⟨rfl, rfl⟩)
                  simp only [bodyPost]
                  exact ⟨trivial, by rw [EQ.out]; exact TgtAns.no HNO.out (TB6.out.below hb7) hB7⟩
                | some d =>
                  have SU2 : ∀ W, Calls Try.prog 81 #[.int .i64 lt, .int .i64 tt] W fun e w' => e = .returned (.int .i64 d) ∧ W = w' := fun W => by
                    have := SU W
                    rw [hS] at this; exact this.mono fun _ _ h => ⟨h.1, h.2.symm⟩
                  have hdl2 := subO_len hS
                  have AD := fun g' W h => fix_add_o g' s d HS.out.fit hdl2.fit W h
                  have HSS := Lib.hid hS
                  clear SU hS hdl2
                  go_wp2_with (go_at_call 81; with_reducible refine (SU2 _).mono ?_; rintro e w8 ⟨rfl, rfl⟩)
                  have AD2 := AD w7.heap.size _ (Blk.new w7 _ _ _ rfl)
                  have hb9 : Below w7.heap.size w7 (w7.alloc (.cells #[.int .i64 s, .int .i64 d] 2)) := (by repeat' (first | (with_reducible exact Below.refl _ _) | (with_reducible assumption) | (with_reducible refine below_alloc ?_ _ ?_) | (with_reducible refine below_set _ ?_ ?_) | (with_reducible refine Below.drew ?_) | (with_reducible refine below_dN ?_ _) | (apply below_thenA; assumption) | omega | (simp; done) | (simp; omega) | (simp [*]; done)))
                  have hB9 := hB7.trans (hb9.mono (Nat.le_trans hBw hB7.size))
                  have hb69 := hb7.trans (hb9.mono hb7.size)
                  cases hA2 : addO s d with
                  | none =>
                    rw [hA2] at AD2
                    have hno : D = none := by rw [HST.out]; unfold tgO; rw [HA.out, Option.bind_some, ELT.out, HSS.out, Option.bind_some, hA2]; rfl
                    refine AD2.mono ?_
                    rintro e w10 ⟨rfl, hb10⟩
                    go_wp2_with fail
                    simp only [bodyPost]
                    exact ⟨trivial, by rw [EQ.out]; exact TgtAns.no hno (TB6.out.below (hb69.trans (hb10.mono hb69.size))) (hB9.trans (hb10.mono (Nat.le_trans hBw hB9.size)))⟩
                  | some s' =>
                    rw [hA2] at AD2
                    have hyes : D = (tgsF (st.drop (j + 1)) (ps.drop (j + 1)) s').map fun r => (r.1, (done ++ [{ x with tg := tt }]) ++ r.2) := by
                      rw [HST.out, tgO_yes HA.out (by rw [ELT.out]; exact HSS.out) hA2, Option.bind_some]
                    have HY := Lib.hid hyes
                    have HS2 := Lib.hid (addO_len hA2)
                    clear hyes hA2
                    refine AD2.mono ?_
                    rintro e w10 ⟨rfl, hb10⟩
                    have hb610 := hb69.trans (hb10.mono hb69.size)
                    have hB10 := hB9.trans (hb10.mono (Nat.le_trans hBw hB9.size))
                    have hz10 := hb610.size
                    clear AD2 AD SU2 LO hb9 hB9 hb69 hb10 hb7 hB7 y1 y2 y3
                    go_wp2_with fail
                    go_roundg (n - (j + 1))
                    case measure => omega
                    case rel => exact ⟨j + 1, s', done ++ [{ x with tg := tt }], by omega, rfl, rfl, by go_num, HS2.out, by rw [List.length_append, HDL.out]; rfl, HY.out.symm, OO6.out.below hb610, TB6.out.below hb610, R6.out.below hb610, hB10, by omega⟩
          · rw [hx] at h9
            have HX := Lib.hid hx
            clear hx
            go_wp2_with fail
            go_roundg (n - (j + 1))
            case measure => omega
            case rel =>
              have hbn : Below wr.heap.size wr (wr.alloc (.cells #[.int .i64 x.it.base, .int .i64 x.it.least, .int .i64 x.it.most, .bool x.it.bound, .int .i64 x.it.extra, .int .i64 x.it.grow, .int .i64 x.it.shrink, .int .i64 x.tg, .int .i64 x.fa, .bool true] 147)) := (by repeat' (first | (with_reducible exact Below.refl _ _) | (with_reducible assumption) | (with_reducible refine below_alloc ?_ _ ?_) | (with_reducible refine below_set _ ?_ ?_) | (with_reducible refine Below.drew ?_) | (with_reducible refine below_dN ?_ _) | (apply below_thenA; assumption) | omega | (simp; done) | (simp; omega) | (simp [*]; done)))
              exact ⟨j + 1, s, done ++ [x], by omega, rfl, rfl, by go_num, HS.out, by rw [List.length_append, HDL.out]; rfl, by have := HSTEP.out; rw [HX.out, if_pos rfl] at this; exact this.symm, by have := HOO.out.below hbn; rw [mid_same HJST.out, EX.out] at this; exact this, HT.out.below hbn, HR.out.below hbn, hB.trans (hbn.mono (Nat.le_trans hBw hsz)), by have := hbn.size; omega⟩
        · obtain rfl : n = j := by omega
          have ix : ¬ (n : Int) < (n : Int) := by omega
          have hD2 : D = some (s, done) := by
            have := HD.out
            rw [List.drop_eq_nil_of_le (by rw [HL.out]; omega)] at this
            rw [← this]
            simp [tgsF]
          have hO2 := HOO.out
          rw [List.drop_eq_nil_of_le (by rw [HL.out]; omega), List.append_nil] at hO2
          have HO3 := Lib.hid hO2
          have HD3 := Lib.hid hD2
          clear hO2 hD2
          go_wp2_with fail
          rw [EQ.out, HD3.out]
          exact ⟨⟨rfl, HO3.out⟩, HT.out, hB⟩
end Go.Proofs.Ythofammjbicogaa
