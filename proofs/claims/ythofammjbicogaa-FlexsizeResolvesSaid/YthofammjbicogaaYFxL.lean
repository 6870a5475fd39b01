/-
  Package flexsize, each function by its contract. Eleventh part: Resolve.
-/
import Derived.Test.YthofammjbicogaaYFxK
namespace Go.Proofs.Ythofammjbicogaa
open Go.RowKit
set_option linter.unusedSimpArgs false
set_option linter.unusedVariables false

theorem roomF_fit : ∀ {l : List Fx} {r s : Int} {q : Int × Int}, LenB r → roomF r s l = some q → LenB q.1
  | [], r, s, q, h, e => by cases e; exact h
  | x :: l, r, s, q, h, e => by
    rw [roomF] at e
    cases h1 : subO r x.extra with
    | none => rw [h1] at e; cases e
    | some r' =>
      rw [h1, Option.bind_some] at e
      cases h2 : addO s (x.lim x.base) with
      | none => rw [h2] at e; cases e
      | some s' =>
        rw [h2, Option.bind_some] at e
        exact roomF_fit (subO_len h1) e
theorem laidO_fit {avail : Int} {l : List Fx} {grows : Bool} {room first : Int} {st : List Fl} (ha : LenB avail) (h : laidO avail l = some (grows, room, first, st)) : LenB room ∧ LenB first ∧ st = l.map (newF grows) := by
  unfold laidO at h
  cases h1 : roomF avail 0 l with
  | none => rw [h1] at h; cases h
  | some q =>
    rw [h1, Option.bind_some] at h
    cases h2 : freeF q.1 (l.map (newF (decide (q.2 < q.1)))) with
    | none => rw [h2] at h; cases h
    | some f =>
      rw [h2] at h
      cases h
      have hr := roomF_fit ha h1
      exact ⟨hr, freeF_len _ _ hr _ h2, rfl⟩
def rsC (avail : Int) (l : List Fx) : Int := if 1024 < l.length then 8 else if l.all Fx.may then (if (resO avail l).isSome then 0 else 2) else 1
def RsAns (n : Nat) (avail : Int) (l : List Fx) (w : World) (e : Ending) (w' : World) : Prop :=
  (rsC avail l = 0 → ∃ ao cap xs, resO avail l = some xs ∧ e = .returned (.slice ao n cap) ∧ RowI w' ao n xs ∧ (n ≤ cap ∧ cap ≤ maxLen) ∧ ∀ g off, ao = some ⟨g, off, none⟩ → w.heap.size ≤ g ∧ g < w'.heap.size) ∧ (rsC avail l ≠ 0 → e = .panicked (gave (rsC avail l))) ∧ Below w.heap.size w w'
theorem RsAns.no {n : Nat} {avail c : Int} {l : List Fx} {w w' : World} (hc : rsC avail l = c) (h0 : c ≠ 0) (hb : Below w.heap.size w w') : RsAns n avail l w (.panicked (gave c)) w' := by
  subst hc
  exact ⟨fun h => absurd h h0, fun _ => rfl, hb⟩
theorem all_step {l : List Fx} {j : Nat} (hj : j < l.length) : (l.drop j).all Fx.may = ((l.getD j fx0).may && (l.drop (j + 1)).all Fx.may) := by
  rw [drop_at fx0 hj, List.all_cons]
set_option maxRecDepth 100000 in
set_option maxHeartbeats 6400000 in
theorem fx_resolve (ao : Option Addr) (n cap : Nat) (l : List Fx) (avail : Int) (hn : n ≤ 1000000) (hl : l.length = n) (hf : ∀ x ∈ l, FxFit x) (hav : IFit avail) (w : World) (hr : RowV w ao n 7 (fxV l)) :
    Calls Try.prog 76 #[.slice ao n cap, .int .i64 avail] w (RsAns n avail l w) := by
  obtain ⟨i0, hi, hz0, hz1, hz2⟩ := info_parts (show (Try.prog.info? 2).map (fun i => (i.zero, i.size, i.bytes)) = some (some (.int .i64 0), 1, 8) by kernel_rfl)
  obtain ⟨Q, eQ⟩ : ∃ Q, Q = RsAns n avail l w := ⟨_, rfl⟩
  rw [← eQ]
  have EQ := Lib.hid eQ
  have HF := Lib.hid hf
  have HL := Lib.hid hl
  have HR := Lib.hid hr
  have HAV := Lib.hid hav
  clear eQ hf hl hr hav
  by_cases h8 : 1024 < n
  · have ix : (1024 : Int) < (n : Int) := by omega
    have hc : rsC avail l = 8 := by unfold rsC; rw [HL.out, if_pos h8]
    have HC := Lib.hid hc
    clear hc h8
    go_enter Try.func76, Try.ntmps76
    go_wp2_with (go_at_call 86; with_reducible refine (fix_fail 8 (by decide) _).mono ?_; rintro e w3 ⟨rfl, rfl⟩)
    simp only [bodyPost]
    exact ⟨trivial, by rw [EQ.out]; exact RsAns.no HC.out (by decide) (Below.refl _ _)⟩
  · have ix8 : ¬ (1024 : Int) < (n : Int) := by omega
    obtain ⟨A, eA⟩ : ∃ A, l.all Fx.may = A := ⟨_, rfl⟩
    have EA := Lib.hid eA
    clear eA
    go_enter Try.func76, Try.ntmps76
    go_wp2_with fail
    go_loopg [17] n (fun gk s17 wr => ∃ (j : Nat), j ≤ n ∧ gk = n - j ∧ s17 = .int .i64 ((j : Int)) ∧ (l.drop j).all Fx.may = A ∧ Below w.heap.size w wr)
    case atStart => exact ⟨0, by omega, by omega, rfl, by rw [List.drop_zero]; exact EA.out, Below.refl _ _⟩
    case round =>
      obtain ⟨j, hj, rfl, rfl, hA, hB⟩ := hrel
      have HA := Lib.hid hA
      clear hA
      by_cases hjk : j < n
      · have ix : (j : Int) < (n : Int) := by omega
        have hjl : j < l.length := by rw [HL.out]; exact hjk
        obtain ⟨g, off, rfl, hg, hF⟩ := fx_at (HR.out.below hB) HL.out hjk
        have hal := all_step hjl
        rw [HA.out] at hal
        obtain ⟨x, ex⟩ : ∃ x, l.getD j fx0 = x := ⟨_, rfl⟩
        rw [ex] at hF hal
        obtain ⟨h0, h1, h2, h3, h4, h5, h6⟩ := hF
        have HAL := Lib.hid hal
        have MA := fun W => fx_may x W
        obtain ⟨m, em⟩ : ∃ m, x.may = m := ⟨_, rfl⟩
        rw [em] at MA
        unfold Fx.val at MA
        have EM := Lib.hid em
        clear hal ex em hjl
        have hbY : Below wr.heap.size wr (wr.alloc (.cells #[.int .i64 x.base, .int .i64 x.least, .int .i64 x.most, .bool x.bound, .int .i64 x.extra, .int .i64 x.grow, .int .i64 x.shrink] 85)) := (by repeat' (first | (with_reducible exact Below.refl _ _) | (with_reducible assumption) | (with_reducible refine below_alloc ?_ _ ?_) | (with_reducible refine below_set _ ?_ ?_) | (with_reducible refine Below.drew ?_) | (with_reducible refine below_dN ?_ _) | (apply below_thenA; assumption) | omega | (simp; done) | (simp; omega) | (simp [*]; done)))
        cases m
        · go_wp2_with (first
            | (go_at_call 97; with_reducible refine (MA _).mono ?_; rintro e w3 ⟨rfl, hb3⟩)
            | (go_at_call 86; with_reducible refine (fix_fail 1 (by decide) _).mono ?_; rintro e w4 ⟨rfl, rfl⟩))
          simp only [bodyPost]
          have hc : rsC avail l = 1 := by
            have hA2 : A = false := by rw [HAL.out, EM.out]; rfl
            unfold rsC
            rw [HL.out, if_neg h8, EA.out, hA2]
            rfl
          exact ⟨trivial, by rw [EQ.out]; exact RsAns.no hc (by decide) (hB.trans ((hbY.trans (hb3.mono hbY.size)).mono hB.size))⟩
        · have hA2 : (l.drop (j + 1)).all Fx.may = A := by have := HAL.out; rw [EM.out, Bool.true_and] at this; exact this.symm
          have HA2 := Lib.hid hA2
          clear hA2
          go_wp2_with (go_at_call 97; with_reducible refine (MA _).mono ?_; rintro e w3 ⟨rfl, hb3⟩)
          go_roundg (n - (j + 1))
          case measure => omega
          case rel => exact ⟨j + 1, by omega, rfl, by go_num, HA2.out, hB.trans ((hbY.trans (hb3.mono hbY.size)).mono hB.size)⟩
      · obtain rfl : n = j := by omega
        have ix : ¬ (n : Int) < (n : Int) := by omega
        have hA2 : A = true := by
          have := HA.out
          rw [List.drop_eq_nil_of_le (by rw [HL.out]; omega)] at this
          exact this.symm
        subst hA2
        have hrc : rsC avail l = if (resO avail l).isSome then 0 else 2 := by
          unfold rsC
          rw [HL.out, if_neg h8, EA.out, if_pos rfl]
        obtain ⟨w0, rfl⟩ : ∃ x, x = wr := ⟨_, rfl⟩
        have hws := hB.size
        cases hla : lenB avail
        · have hc : rsC avail l = 2 := by rw [hrc]; unfold resO; rw [hla]; rfl
          have HC := Lib.hid hc
          have OF := fun W => fix_of_no avail HAV.out (fun q => by rw [(lenB_iff _).2 q] at hla; cases hla) W
          clear hc hrc hla
          go_wp2_with (go_at_call 56; with_reducible refine (OF _).mono ?_; rintro e w4 ⟨rfl, rfl⟩)
          simp only [bodyPost]
          exact ⟨trivial, by rw [EQ.out]; exact RsAns.no HC.out (by decide) hB⟩
        · have hLA := (lenB_iff _).1 hla
          have OF : ∀ W, Calls Try.prog 56 #[.int .i64 avail] W fun e w' => e = .returned (.int .i64 avail) ∧ W = w' := fun W => (fix_of avail HAV.out hLA W).mono fun _ _ h => ⟨h.1, h.2.symm⟩
          have LA := fx_laid ao n cap l avail (by omega) HL.out HF.out hLA w0 (HR.out.below hB)
          have hres : resO avail l = (laidO avail l).bind fun q => (loopF q.1 q.2.1 q.2.2.1 l.length q.2.2.2).bind outF := by unfold resO; rw [hla, if_pos rfl]
          have hfit := fun gr ro fi st (h : laidO avail l = some (gr, ro, fi, st)) => laidO_fit hLA h
          clear hla hLA
          cases hlo : laidO avail l with
          | none =>
            have hc : rsC avail l = 2 := by rw [hrc, hres, hlo]; rfl
            have HC := Lib.hid hc
            rw [hlo] at LA
            have LA2 : Calls Try.prog 98 #[.slice ao n cap, .int .i64 avail] w0 (fun e w' => e = .panicked (gave 2) ∧ Below w0.heap.size w0 w') := LA
            clear hc hrc hres hfit LA hlo
            go_wp2_with (first
              | (go_at_call 56; with_reducible refine (OF _).mono ?_; rintro e w4 ⟨rfl, rfl⟩)
              | (go_at_call 98; with_reducible refine LA2.mono ?_; rintro e w5 ⟨rfl, hb5⟩))
            simp only [bodyPost]
            exact ⟨trivial, by rw [EQ.out]; exact RsAns.no HC.out (by decide) (hB.trans (hb5.mono hB.size))⟩
          | some q =>
            obtain ⟨gr, ro, fi, st⟩ := q
            obtain ⟨f1, f2, f3⟩ := hfit gr ro fi st hlo
            rw [hlo] at LA hres
            rw [Option.bind_some] at hres
            have hwf : ∀ y ∈ st, FlWf y := fun y hy => by
              rw [f3] at hy
              obtain ⟨x, hx, rfl⟩ := List.mem_map.1 hy
              exact newF_wf gr (HF.out x hx) (List.all_eq_true.1 EA.out x hx)
            have hsl : st.length = n := by rw [f3, List.length_map, HL.out]
            rw [HL.out] at hres
            obtain ⟨E, eE⟩ : ∃ E, loopF gr ro fi n st = E := ⟨_, rfl⟩
            have hres2 : resO avail l = E.bind outF := by rw [hres, eE]
            have HRES := Lib.hid hres2
            have HRC := Lib.hid hrc
            have HF1 := Lib.hid f1
            have HF2 := Lib.hid f2
            have HWF := Lib.hid hwf
            have HSL := Lib.hid hsl
            have EE := Lib.hid eE
            clear hrc hres hres2 hfit hlo f1 f2 f3 hwf hsl eE
            go_wp2_with (go_at_call 56; with_reducible refine (OF _).mono ?_; rintro e w4 ⟨rfl, rfl⟩)
            refine LA.mono ?_
            rintro e w1 ⟨⟨b, a1, c1, rfl, hb0, tb, ho⟩, hb1⟩
            have hB1 := hB.trans (hb1.mono hB.size)
            have hs1 := hb1.size
            have TB := Lib.hid tb
            have HO := Lib.hid ho
            have HB1 := Lib.hid hB1
            clear tb ho LA OF hb1
            go_wp2_with fail
            go_loopg [] n (fun gk wx => ∃ (k : Nat) (m : List Fl), gk = k ∧ m.length = n ∧ (∀ y ∈ m, FlWf y) ∧ cntF m ≤ k ∧ loopF gr ro fi k m = E ∧ Blk wx b #[.slice a1 n c1, .bool gr, .int .i64 ro, .int .i64 fi] 145 ∧ OwnW wx w0.heap.size 147 10 a1 n c1 (flV m) ∧ Below w.heap.size w wx ∧ w0.heap.size ≤ wx.heap.size)
            case atStart => exact ⟨n, st, rfl, HSL.out, HWF.out, by have := cnt_len st; rw [HSL.out] at this; exact this, EE.out, TB.out, HO.out, HB1.out, hs1⟩
            case round =>
              obtain ⟨k, m, hgk, hml, hwf, hcn, hE, hT, hO, hB2, hzw⟩ := hrel
              have DN := fx_done b a1 n c1 m (.bool gr) (.int .i64 ro) (.int .i64 fi) (by omega) hml wr hT hO.row
              obtain ⟨d, ed⟩ : ∃ d, doneF m = d := ⟨_, rfl⟩
              rw [ed] at DN
              have HT := Lib.hid hT
              have HOO := Lib.hid hO
              have HML := Lib.hid hml
              have HWFm := Lib.hid hwf
              have HEE := Lib.hid hE
              have EDD := Lib.hid ed
              clear hT hO hml hwf hE ed
              cases d
              · have hk : 0 < k := by have := (done_cnt (m := m)).1 EDD.out; omega
                obtain ⟨k', rfl⟩ : ∃ k', k = k' + 1 := ⟨k - 1, by omega⟩
                have hE2 := HEE.out
                rw [loopF, EDD.out, if_neg (by simp)] at hE2
                have HE2 := Lib.hid hE2
                clear hE2
                go_wp2_with fail
                refine DN.mono ?_
                rintro e w3 ⟨rfl, hb3⟩
                have hz3 := hb3.size
                have ST := fx_step w0.heap.size b a1 n c1 m gr ro fi (by omega) HML.out HWFm.out HF1.out HF2.out.fit w3 (by omega) (HT.out.below hb3) (HOO.out.below hb3)
                have hB3 := hB2.trans (hb3.mono hB2.size)
                clear DN
                cases hst : stepO gr ro fi m with
                | none =>
                  rw [hst] at ST
                  have ST2 : Calls Try.prog 100 #[.pointer (some ⟨b, 0, none⟩)] w3 (fun e w' => e = .panicked (gave 2) ∧ Blk w' b #[.slice a1 n c1, .bool gr, .int .i64 ro, .int .i64 fi] 145 ∧ Below w0.heap.size w3 w') := ST
                  have hc : rsC avail l = 2 := by
                    have h1 := HE2.out
                    rw [hst, Option.bind_none] at h1
                    rw [HRC.out, HRES.out, ← h1]
                    rfl
                  have HC := Lib.hid hc
                  clear ST hc hst
                  go_wp2_with (go_at_call 100; with_reducible refine ST2.mono ?_; rintro e w5 ⟨rfl, tb5, hb5⟩)
                  simp only [bodyPost]
                  exact ⟨trivial, by rw [EQ.out]; exact RsAns.no HC.out (by decide) (hB3.trans (hb5.mono hws))⟩
                | some m2 =>
                  rw [hst] at ST
                  have ST2 : Calls Try.prog 100 #[.pointer (some ⟨b, 0, none⟩)] w3 (fun e w' => (e = .returned (.tuple #[]) ∧ OwnW w' w0.heap.size 147 10 a1 n c1 (flV m2)) ∧ Blk w' b #[.slice a1 n c1, .bool gr, .int .i64 ro, .int .i64 fi] 145 ∧ Below w0.heap.size w3 w') := ST
                  have hlt := stepO_lt hst EDD.out
                  have hwf2 := stepO_wf hst HWFm.out
                  have hE3 := HE2.out
                  rw [hst, Option.bind_some] at hE3
                  have HE3 := Lib.hid hE3
                  have HW2 := Lib.hid hwf2
                  clear ST hst hE3 hwf2
                  go_wp2_with fail
                  refine ST2.mono ?_
                  rintro e w5 ⟨⟨rfl, o5⟩, tb5, hb5⟩
                  have hB5 := hB3.trans (hb5.mono hws)
                  have hz5 := hb5.size
                  have O5 := Lib.hid o5
                  have TB5 := Lib.hid tb5
                  have HB5 := Lib.hid hB5
                  clear ST2 o5 tb5 hb5 hB5 hB3 hb3
                  go_wp2_with fail
                  go_roundg k'
                  case measure => omega
                  case rel => exact ⟨k', m2, rfl, by rw [HW2.out.2]; exact HML.out, HW2.out.1, by omega, HE3.out, TB5.out, O5.out, HB5.out, by omega⟩
              · have hE2 : E = some m := by
                  have h1 := HEE.out
                  cases k with
                  | zero => rw [loopF] at h1; exact h1.symm
                  | succ k' => rw [loopF, EDD.out, if_pos rfl] at h1; exact h1.symm
                have hres3 := HRES.out
                rw [hE2, Option.bind_some] at hres3
                have HR3 := Lib.hid hres3
                clear hE2 hres3
                go_wp2_with fail
                refine DN.mono ?_
                rintro e w3 ⟨rfl, hb3⟩
                have tb3 := HT.out.below hb3
                have o3 := HOO.out.below hb3
                have hB3 := hB2.trans (hb3.mono hB2.size)
                have hz3 := hb3.size
                have c0 := tb3.cell 0 _ rfl
                have TB3 := Lib.hid tb3
                have R3 := Lib.hid o3.row
                have HB3 := Lib.hid hB3
                clear DN tb3 o3 hB3 hb3
                go_wp2_with fail
                go_loopg [8, 40] n (fun gk s8 s40 wx => ∃ (j : Nat) (aj : Option Addr) (cj : Nat) (ys : List Int), j ≤ n ∧ gk = n - j ∧ s8 = .slice aj j cj ∧ s40 = .int .i64 ((j : Int)) ∧ outF (m.take j) = some ys ∧ OwnI wx w3.heap.size aj j cj ys ∧ Below w3.heap.size w3 wx)
                case atStart => exact ⟨0, none, 0, [], by omega, by omega, rfl, rfl, by simp [outF], OwnI.nil _ _, Below.refl _ _⟩
                case round =>
                  clear c0
                  obtain ⟨j, aj, cj, ys, hj, rfl, rfl, rfl, hw, ho, hB4⟩ := hrel
                  have hsz := hB4.size
                  have hsh := ho.shape
                  have HW := Lib.hid hw
                  clear hw
                  by_cases hjk : j < n
                  · have ix : (j : Int) < (n : Int) := by omega
                    obtain ⟨g, off, rfl, hg, hF⟩ := fl_at (R3.out.below hB4) HML.out hjk
                    have hft := outF_take (st := m) (j := j) (by rw [HML.out]; exact hjk)
                    have hfit := at_fit HWFm.out (j := j) (by rw [HML.out]; exact hjk)
                    rw [HW.out, Option.bind_some] at hft
                    obtain ⟨x, ex⟩ : ∃ x, m.getD j fl0 = x := ⟨_, rfl⟩
                    rw [ex] at hF hft hfit
                    obtain ⟨h0, h1, h2, h3, h4, h5, h6, h7, h8', h9⟩ := hF
                    have htf := hfit.1.1.2.1
                    have HFT := Lib.hid hft
                    have hbW : Below wr.heap.size wr (wr.alloc (.cells #[.int .i64 x.it.base, .int .i64 x.it.least, .int .i64 x.it.most, .bool x.it.bound, .int .i64 x.it.extra, .int .i64 x.it.grow, .int .i64 x.it.shrink, .int .i64 x.tg, .int .i64 x.fa, .bool x.fi] 147)) := (by repeat' (first | (with_reducible exact Below.refl _ _) | (with_reducible assumption) | (with_reducible refine below_alloc ?_ _ ?_) | (with_reducible refine below_set _ ?_ ?_) | (with_reducible refine Below.drew ?_) | (with_reducible refine below_dN ?_ _) | (apply below_thenA; assumption) | omega | (simp; done) | (simp; omega) | (simp [*]; done)))
                    have hoW := ho.below hbW
                    obtain ⟨y, ey⟩ : ∃ y, x.tg = y := ⟨_, rfl⟩
                    rw [ey] at h7 htf hbW hoW
                    have EY := Lib.hid ey
                    clear hft hfit ex ey
                    cases hly : lenB y
                    · have OF := fun W => fix_of_no y htf (fun q => by rw [(lenB_iff _).2 q] at hly; cases hly) W
                      have hc : rsC avail l = 2 := by
                        have e1 : outF (m.take (j + 1)) = none := by rw [HFT.out, EY.out, hly]; rfl
                        have := outF_none e1 (n - (j + 1))
                        rw [List.take_of_length_le (by rw [HML.out]; omega)] at this
                        rw [HRC.out, HR3.out, this]
                        rfl
                      have HC := Lib.hid hc
                      clear hc hly
                      go_wp2_with (go_at_call 56; with_reducible refine (OF _).mono ?_; rintro e w4 ⟨rfl, rfl⟩)
                      simp only [bodyPost]
                      exact ⟨trivial, by rw [EQ.out]; exact RsAns.no HC.out (by decide) (HB3.out.trans ((hB4.trans (hbW.mono hsz)).mono HB3.out.size))⟩
                    · have OF : ∀ W, Calls Try.prog 56 #[.int .i64 y] W fun e w' => e = .returned (.int .i64 y) ∧ W = w' := fun W => (fix_of y htf ((lenB_iff _).1 hly) W).mono fun _ _ h => ⟨h.1, h.2.symm⟩
                      have hft2 : outF (m.take (j + 1)) = some (ys ++ [y]) := by rw [HFT.out, EY.out, hly]; rfl
                      have HF2' := Lib.hid hft2
                      have hB5 := hB4.trans (hbW.mono hsz)
                      clear hft2 hly
                      go_wp2_with fail
                      refine (OF _).mono ?_
                      rintro e w4 ⟨rfl, rfl⟩
                      obtain ⟨w4, e4⟩ : ∃ W, wr.alloc (.cells #[.int .i64 x.it.base, .int .i64 x.it.least, .int .i64 x.it.most, .bool x.it.bound, .int .i64 x.it.extra, .int .i64 x.it.grow, .int .i64 x.it.shrink, .int .i64 y, .int .i64 x.fa, .bool x.fi] 147) = W := ⟨_, rfl⟩
                      rw [e4] at hoW hB5 ⊢
                      have hs4 := hB5.size
                      clear e4 hbW OF hB4 ho h0 h1 h2 h3 h4 h5 h6 h7 h8' h9
                      go_wp2_with (at_builtin; refine wpList_append_own _ rfl _ _ 31 rfl w3.heap.size 2 i0 (.int .i64 0) 1 8 Try.underlying31 hi hz0 hz1 hz2 rfl (by decide) _ _ _ rfl (hoW.1.alloc _) ⟨w4.heap.size, 0, none⟩ 1 1 [.int .i64 y] rfl rfl ?c1 ?c2 ?c3 ?c4 ?c5 ?_)
                      case c1 =>
                        intro j u hj
                        match j, hj with
                        | 0, hj => simp at hj; subst hj; simp [Addr.add]
                      case c2 => intro u hu; simp at hu; subst hu; rfl
                      case c3 => unfold maxLen; omega
                      case c4 => omega
                      case c5 => simp; omega
                      intro v' w5 hown' hgrow _
                      obtain ⟨ao', cap', rfl, ho', _, hB'⟩ := hoW.grown hown' hgrow (by omega)
                      have hB6 := hB' _ _ (Nat.le_refl _) hB5
                      clear hown' hgrow hB' hB5 hoW
                      go_wp2_with fail
                      go_roundg (n - (j + 1))
                      case measure => omega
                      case rel => exact ⟨j + 1, ao', cap', ys ++ [y], by omega, rfl, rfl, by go_num, HF2'.out, ho', hB6⟩
                  · obtain rfl : n = j := by omega
                    have ix : ¬ (n : Int) < (n : Int) := by omega
                    have hy := HW.out
                    rw [List.take_of_length_le (by rw [HML.out]; omega)] at hy
                    have hres4 := HR3.out
                    rw [hy] at hres4
                    have hc : rsC avail l = 0 := by rw [HRC.out, hres4]; rfl
                    have HC := Lib.hid hc
                    have HR4 := Lib.hid hres4
                    clear hy hc hres4
                    go_wp2_with fail
                    rw [EQ.out]
                    refine ⟨fun _ => ⟨aj, cj, ys, HR4.out, rfl, ho.row, hsh, fun g off e => ?_⟩, fun h => absurd HC.out h, HB3.out.trans (hB4.mono HB3.out.size)⟩
                    have h1 := ho.from g off e
                    subst e
                    have h2 := (ho.ge (g := g) (by simp [Value.ownBlock])).2
                    exact ⟨by have := HB3.out.size; omega, h2⟩
end Go.Proofs.Ythofammjbicogaa
