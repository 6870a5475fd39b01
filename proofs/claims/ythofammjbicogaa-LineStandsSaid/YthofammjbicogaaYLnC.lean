/-
  Package line: half, spread.
-/
import Derived.Test.YthofammjbicogaaYLnB
import Derived.Test.YthofammjbicogaaYFlM
namespace Go.Proofs.Ythofammjbicogaa
open Go.RowKit
set_option linter.unusedSimpArgs false
set_option linter.unusedVariables false

set_option maxRecDepth 100000 in
theorem ln_half (n : Int) (hn : LenB n) (w : World) : Calls Try.prog 84 #[.int .i64 n] w fun e w' => e = .returned (.int .i64 (n / 2)) ∧ w' = w := by
  have h1 := hn.1
  have h2 := hn.2
  go_enter Try.func84, Try.ntmps84
  go_wp2_with fail
  go_ret
  exact ⟨rfl, rfl⟩
def sprAt (F text : Int) : Int := if text = 2 then F else if text = 3 then F / 2 else 0
def sprB (F : Int) (m : Nat) (text : Int) (last : Bool) : Bool := decide (text = 4) && decide (0 < F) && !last && decide (1 < m)
def sprL (F : Int) (m : Nat) (text : Int) (last : Bool) : List Int := if sprB F m text last then evL F (m - 1) ++ [0] else List.replicate m 0
def SprAns (F : Int) (m : Nat) (text : Int) (last : Bool) (w : World) (e : Ending) (w' : World) : Prop :=
  (lenB F = false → e = .panicked (gave 2)) ∧ (lenB F = true → ∃ g, e = .returned (.tuple #[.int .i64 (sprAt F text), .slice (some ⟨g, 0, none⟩) m m]) ∧ w.heap.size ≤ g ∧ BlkI w' g (sprL F m text last)) ∧ Below w.heap.size w w'
theorem sh_even_at (t P : Int) (p : Nat) (hP : P = (p : Int)) (hp2 : p ≤ 1024) (ht : lenB t = true) (w : World) :
    Calls Try.prog 85 #[.int .i64 t, .int .i64 P] w fun e w' => ∃ ao cap, e = .returned (.tuple #[.slice ao p cap, .int .i64 0]) ∧ RowI w' ao p (evL t p) ∧ Below w.heap.size w w' := by
  subst hP
  have hL := (lenB_iff t).1 ht
  have SP := sh_even t p hp2 hL.fit w
  unfold SplitAns at SP
  rw [shE_one hp2 ht, one_pre p p (Nat.le_refl _)] at SP
  refine SP.mono ?_
  rintro e w1 ⟨ao, m, cap, ys, rfl, r1, a1, a2, h1, -, hb⟩
  obtain ⟨e2, rfl⟩ := h1 (by first | trivial | rfl)
  obtain rfl := e2.symm
  exact ⟨ao, cap, rfl, r1, hb⟩
theorem splice_head (ps : List Int) : splice (i64s (List.replicate (ps.length + 1) 0)) 0 (i64s ps) = i64s (ps ++ [0]) := by
  unfold splice
  rw [i64s_len]
  have e1 : (i64s (List.replicate (ps.length + 1) 0)).take 0 = [] := rfl
  have e2 : (i64s (List.replicate (ps.length + 1) 0)).drop (0 + ps.length) = i64s [0] := by
    unfold i64s
    rw [← List.map_drop, List.drop_replicate, show ps.length + 1 - (0 + ps.length) = 1 by omega]
    rfl
  rw [e1, e2]
  simp [i64s]
set_option maxRecDepth 100000 in
set_option maxHeartbeats 3200000 in
theorem ln_spread (a b m : Nat) (W H avail text : Int) (last : Bool) (ha : a ≤ 1000) (hb1 : b ≤ 1000) (hm : b = a + m) (hm1 : 1 ≤ m) (hW : IFit W) (hav : IFit avail) (w : World) :
    Calls Try.prog 55 #[.agg #[.int .i64 ((a : Int)), .int .i64 ((b : Int)), .int .i64 W, .int .i64 H], .bool last, .int .i64 avail, .int .i64 text] w (SprAns (avail - W) m text last w) := by
  obtain ⟨i0, hi, hz0, hz1, hz2⟩ := info_parts (show (Try.prog.info? 2).map (fun i => (i.zero, i.size, i.bytes)) = some (some (.int .i64 0), 1, 8) by kernel_rfl)
  have SB := fun W' => fix_sub avail W hav hW W'
  obtain ⟨F, eF⟩ : ∃ F, avail - W = F := ⟨_, rfl⟩
  rw [eF] at SB ⊢
  obtain ⟨Q, eQ⟩ : ∃ Q : Ending → World → Prop, Q = SprAns F m text last w := ⟨_, rfl⟩
  rw [← eQ]
  have EQ := Lib.hid eQ
  have hbm : (b : Int) - (a : Int) = (m : Int) := by omega
  have hm1000 : m ≤ 1000 := by omega
  obtain ⟨W0, eW⟩ : ∃ W0, w.alloc (.cells #[.int .i64 ((a : Int)), .int .i64 ((b : Int)), .int .i64 W, .int .i64 H] 36) = W0 := ⟨_, rfl⟩
  have t4 : Blk W0 w.heap.size #[.int .i64 ((a : Int)), .int .i64 ((b : Int)), .int .i64 W, .int .i64 H] 36 := by rw [← eW]; exact Blk.new w _ _ _ rfl
  have hB0 : Below w.heap.size w W0 := by rw [← eW]; exact (by repeat' (first | (with_reducible exact Below.refl _ _) | (with_reducible assumption) | (with_reducible refine below_alloc ?_ _ ?_) | (with_reducible refine below_set _ ?_ ?_) | (with_reducible refine Below.drew ?_) | (with_reducible refine below_dN ?_ _) | (apply below_thenA; assumption) | omega | (simp; done) | (simp; omega) | (simp [*]; done)))
  have c0 := t4.cell 0 _ rfl
  have c1 := t4.cell 1 _ rfl
  have HM := Lib.hid hm
  clear eQ eF hm
  go_enter Try.func55, Try.ntmps55
  go_wp2_with (at_make; refine wpList_make_full _ rfl _ _ 31 rfl W0.heap.size 2 i0 (.int .i64 0) 1 Try.underlying31 hi hz0 hz1 _ _ _ _ m rfl rfl rfl rfl (by rw [hz2]; omega) (by unfold maxLen; omega) (Nat.le_refl _) ?_)
  intro w2 hown hgr
  have hb2 : Below W0.heap.size W0 w2 := (Below.refl _ W0).grown hgr (Nat.le_refl _) (fun _ h => by cases h)
  have tg : BlkI w2 W0.heap.size (List.replicate m 0) := BlkI.made hown
  have t5 := t4.below hb2
  have hsz0 := hB0.size
  have hB2 := hB0.trans (hb2.mono hsz0)
  have c2 := t5.cell 2 _ rfl
  obtain ⟨gg, egg⟩ : ∃ g, W0.heap.size = g := ⟨_, rfl⟩
  rw [egg] at tg hsz0 ⊢
  have HSZ := Lib.hid hsz0
  clear hown hgr hb2 t4 t5 hB0 eW egg c0 c1 hsz0 hbm
  cases hL : lenB F with
  | false =>
    have SB2 := (SB w2).mono fun e w' h => (⟨h.2.1 (by unfold lenE; rw [hL]; decide), h.2.2⟩ : _ ∧ _)
    rw [show lenE F = 2 by unfold lenE; rw [hL]; rfl] at SB2
    have HLL := Lib.hid hL
    clear SB hL
    go_wp2_with fail
    refine SB2.mono ?_
    rintro e w3 ⟨rfl, hb⟩
    have hB3 := hB2.trans (hb.mono hB2.size)
    go_wp2_with fail
    simp only [bodyPost]
    exact ⟨trivial, by rw [EQ.out]; exact ⟨fun _ => rfl, (fun h => by rw [HLL.out] at h; cases h), hB3⟩⟩
  | true =>
    have SB2 := (SB w2).mono fun e w' h => (⟨h.1 (by unfold lenE; rw [hL]; rfl), h.2.2⟩ : _ ∧ _)
    rw [show lenN F = F by unfold lenN; rw [hL]; rfl] at SB2
    have hfin : ∀ w' x, Below w.heap.size w w' → x = sprAt F text → BlkI w' gg (sprL F m text last) → Q (.returned (.tuple #[.int .i64 x, .slice (some ⟨gg, 0, none⟩) m m])) w' := fun w' x h1 h2 h3 => by
      rw [EQ.out, h2]
      exact ⟨(fun h => by rw [hL] at h; cases h), (fun _ => ⟨gg, rfl, HSZ.out, h3⟩), h1⟩
    have HFIN := Lib.hid hfin
    have hLL := (lenB_iff F).1 hL
    have HF := fun W' => ln_half F hLL W'
    have EV := fun W' (h : 1 < m) => sh_even_at F ((m : Int) - 1) (m - 1) (by omega) (by omega) hL W'
    have HLL := Lib.hid hLL
    clear SB hL hfin hLL
    go_wp2_with fail
    refine SB2.mono ?_
    rintro e w3 ⟨rfl, hb⟩
    have hB3 := hB2.trans (hb.mono hB2.size)
    have tg3 := BlkI.below tg hb
    clear hb hB2 tg SB2 c2
    by_cases h2 : text = 2
    · subst h2
      clear HF EV
      go_wp2_with fail
      exact HFIN.out _ _ hB3 rfl (by unfold sprL sprB; exact tg3)
    by_cases h3 : text = 3
    · subst h3
      clear EV h2
      go_wp2_with fail
      refine (HF _).mono ?_
      rintro e w4 ⟨rfl, rfl⟩
      go_wp2_with fail
      exact HFIN.out _ _ hB3 rfl (by unfold sprL sprB; exact tg3)
    have hat : (0 : Int) = sprAt F text := by unfold sprAt; rw [if_neg h2, if_neg h3]
    have HAT := Lib.hid hat
    have h2b : (text == 2) = false := by simpa using h2
    have h3b : (text == 3) = false := by simpa using h3
    clear HF h2 h3 hat
    by_cases h4 : text = 4
    · have h4b : (text == 4) = true := by simpa using h4
      by_cases hF0 : 0 < F
      · cases last with
        | true =>
          clear EV
          go_wp2_with fail
          refine HFIN.out _ _ hB3 HAT.out ?_
          unfold sprL sprB
          rw [if_neg (by simp)]
          exact tg3
        | false =>
          by_cases h1m : 1 < m
          · have im : (1 : Int) < (m : Int) := by omega
            have EV2 := EV w3 h1m
            have H4 := Lib.hid h4
            clear EV h4
            go_wp2_with fail
            refine EV2.mono ?_
            rintro e w4 ⟨ap, cp, rfl, hp, hb⟩
            have hB4 := hB3.trans (hb.mono hB3.size)
            have tg4 := BlkI.below tg3 hb
            have hplen : (evL F (m - 1)).length = m - 1 := hp.1
            have HP := Lib.hid hp
            have HT := Lib.hid tg4
            have HPL := Lib.hid hplen
            have hgw := HSZ.out
            clear hb hB3 tg3 EV2 hp tg4 hplen
            go_wp2_with (first
              | (go_at_call 86; with_reducible refine (fix_fail0 _).mono ?_; rintro e w5 ⟨rfl, rfl⟩)
              | (refine wpList_copy_splice rfl _ _ 31 31 rfl 2 Try.underlying31 (by kernel_rfl) (some ⟨gg, 0, none⟩) ap m m (m - 1) cp rfl rfl gg 0 (i64s (List.replicate m 0)) 2 HT.out (i64s (evL F (m - 1))) ?b1 ?b2 ?b3 (i64s_cell _) w.heap.size w hB4 hgw ?_))
            case b1 => rw [i64s_len, HPL.out]; exact (Nat.min_eq_left (by omega)).symm
            case b2 => intro _; have := row_news HP.out (show 0 < m - 1 by omega); first | exact this | exact ⟨rfl, this⟩
            case b3 => rw [i64s_len, i64s_len, HPL.out, List.length_replicate]; omega
            intro w6 hg6 hB6
            have hg7 : BlkI w6 gg (sprL F m text false) := by
              unfold BlkI Blk
              rw [hg6.out]
              unfold sprL sprB
              rw [if_pos (by simp [H4.out, hF0, h1m])]
              have e1 := splice_head (evL F (m - 1))
              rw [HPL.out, show m - 1 + 1 = m by omega] at e1
              rw [e1]
            have HG7 := Lib.hid hg7
            clear hg6 hg7 hB4
            go_wp2_with fail
            exact HFIN.out _ _ hB6 HAT.out HG7.out
          · have im : ¬ (1 : Int) < (m : Int) := by omega
            clear EV
            go_wp2_with fail
            refine HFIN.out _ _ hB3 HAT.out ?_
            unfold sprL sprB
            rw [if_neg (by simp [h1m])]
            exact tg3
      · clear EV
        go_wp2_with fail
        refine HFIN.out _ _ hB3 HAT.out ?_
        unfold sprL sprB
        rw [if_neg (by simp; omega)]
        exact tg3
    · have h4b : (text == 4) = false := by simpa using h4
      clear EV
      go_wp2_with fail
      refine HFIN.out _ _ hB3 HAT.out ?_
      unfold sprL sprB
      rw [if_neg (by simp [h4])]
      exact tg3
end Go.Proofs.Ythofammjbicogaa
