/-
  Package line: Fill, Least.
-/
import Derived.Test.YthofammjbicogaaYLnA
namespace Go.Proofs.Ythofammjbicogaa
open Go.RowKit
set_option linter.unusedSimpArgs false
set_option linter.unusedVariables false

theorem itV_take : ∀ (l : List It) (m : Nat), (itV l).take (m * 4) = itV (l.take m)
  | [], m => by simp [itV]
  | x :: l, 0 => rfl
  | x :: l, m + 1 => by
    have e : itV (x :: l) = [.int .i64 x.w, .int .i64 x.s, .int .i64 x.h, .bool x.b] ++ itV l := rfl
    have e2 : itV ((x :: l).take (m + 1)) = [.int .i64 x.w, .int .i64 x.s, .int .i64 x.h, .bool x.b] ++ itV (l.take m) := rfl
    rw [e, e2, ← itV_take l m, show (m + 1) * 4 = m * 4 + 1 + 1 + 1 + 1 by omega]
    rfl
theorem itV_drop : ∀ (l : List It) (m : Nat), (itV l).drop (m * 4) = itV (l.drop m)
  | [], m => by simp [itV]
  | x :: l, 0 => rfl
  | x :: l, m + 1 => by
    have e : itV (x :: l) = [.int .i64 x.w, .int .i64 x.s, .int .i64 x.h, .bool x.b] ++ itV l := rfl
    rw [e, show (m + 1) * 4 = m * 4 + 1 + 1 + 1 + 1 by omega]
    exact itV_drop l m
theorem row_sub {w : World} {g off k a b : Nat} {l : List It} (h : RowV w (some ⟨g, off, none⟩) k 4 (itV l)) (hl : l.length = k) (hab : a < b) (hb : b ≤ k) : RowV w (some ⟨g, off + a * 4, none⟩) (b - a) 4 (itV (subL l a b)) := by
  refine ⟨by rw [itV_len, subL_len l (by omega)], fun _ => ?_⟩
  obtain ⟨g', off', e, hg, hc⟩ := h.2 (by omega)
  obtain ⟨rfl, rfl⟩ : g = g' ∧ off = off' := by simpa using e
  refine ⟨g, off + a * 4, rfl, hg, fun i hi => ?_⟩
  rw [Nat.add_assoc, hc _ (by omega)]
  unfold subL
  rw [← itV_take, ← itV_drop, List.getElem?_take_of_lt (by omega), List.getElem?_drop]
def FillAns (r : Option (List Ln)) (w : World) (e : Ending) (w' : World) : Prop :=
  (∀ L, r = some L → ∃ ao c, e = .returned (.slice ao L.length c) ∧ OwnW w' w.heap.size 36 4 ao L.length c (lnV L)) ∧ (r = none → e = .panicked (gave 2)) ∧ Below w.heap.size w w'
theorem FillAns.yes {L : List Ln} {ao : Option Addr} {c : Nat} {w w' : World} (h : OwnW w' w.heap.size 36 4 ao L.length c (lnV L)) (hb : Below w.heap.size w w') : FillAns (some L) w (.returned (.slice ao L.length c)) w' :=
  ⟨fun L' e => by obtain rfl := Option.some.inj e; exact ⟨ao, c, rfl, h⟩, fun h => by simp at h, hb⟩
theorem FillAns.no {w w' : World} (hb : Below w.heap.size w w') : FillAns none w (.panicked (gave 2)) w' := ⟨fun L' e => by simp at e, fun _ => rfl, hb⟩
theorem lnV_one (x : Ln) : lnV [x] = [.int .i64 ((x.f : Int)), .int .i64 ((x.t : Int)), .int .i64 x.w, .int .i64 x.h] := rfl
/-- What follows behind a line's end. -/
def fillK (l : List It) (avail low : Int) (d a : Nat) (out : List Ln) (X : Option (Nat × Int)) : Option (List Ln) :=
  match X with
  | none => none
  | some (t, w2) => fillF l avail low d t (out ++ [⟨a, t, w2, hiF l low a (t - a)⟩])
theorem fill_go {l : List It} {avail low : Int} {d a : Nat} {out : List Ln} (h : a < l.length) {s : Int} (hs : wd l a (seg l a) = some s) : fillF l avail low (d + 1) a out = fillK l avail low d a out (extF l avail a l.length (seg l a) s) := by
  show (if a < l.length then _ else _) = _
  rw [if_pos h, hs]
  rfl
theorem fill_err {l : List It} {avail low : Int} {d a : Nat} {out : List Ln} (h : a < l.length) (hs : wd l a (seg l a) = none) : fillF l avail low (d + 1) a out = none := by
  show (if a < l.length then _ else _) = _
  rw [if_pos h, hs]
theorem fill_end {l : List It} {avail low : Int} {d a : Nat} {out : List Ln} (h : l.length ≤ a) : fillF l avail low d a out = some out := by
  cases d with
  | zero => rfl
  | succ d =>
    show (if a < l.length then _ else _) = _
    rw [if_neg (by omega)]
theorem ext_end {l : List It} {avail : Int} {a d t : Nat} {w : Int} (h : l.length ≤ t) : extF l avail a d t w = some (t, w) := by
  cases d with
  | zero => rfl
  | succ d =>
    show (if t < l.length then _ else _) = _
    rw [if_neg (by omega)]
theorem ext_err {l : List It} {avail : Int} {a d t : Nat} {w : Int} (h : t < l.length) (hs : wd l a (seg l t) = none) : extF l avail a (d + 1) t w = none := by
  show (if t < l.length then _ else _) = _
  rw [if_pos h, hs]
theorem ext_stop {l : List It} {avail : Int} {a d t : Nat} {w m : Int} (h : t < l.length) (hs : wd l a (seg l t) = some m) (hm : avail < m) : extF l avail a (d + 1) t w = some (t, w) := by
  show (if t < l.length then _ else _) = _
  rw [if_pos h, hs]
  exact if_pos hm
theorem ext_more {l : List It} {avail : Int} {a d t : Nat} {w m : Int} (h : t < l.length) (hs : wd l a (seg l t) = some m) (hm : ¬ avail < m) : extF l avail a (d + 1) t w = extF l avail a d (seg l t) m := by
  show (if t < l.length then _ else _) = _
  rw [if_pos h, hs]
  exact if_neg hm
theorem least_go {l : List It} {d a : Nat} {out : Int} (h : a < l.length) {s : Int} (hs : wd l a (seg l a) = some s) : leastF l (d + 1) a out = leastF l d (seg l a) (if a = 0 ∨ out < s then s else out) := by
  show (if a < l.length then _ else _) = _
  rw [if_pos h, hs]
theorem least_err {l : List It} {d a : Nat} {out : Int} (h : a < l.length) (hs : wd l a (seg l a) = none) : leastF l (d + 1) a out = none := by
  show (if a < l.length then _ else _) = _
  rw [if_pos h, hs]
theorem least_end {l : List It} {d a : Nat} {out : Int} (h : l.length ≤ a) : leastF l d a out = some out := by
  cases d with
  | zero => rfl
  | succ d =>
    show (if a < l.length then _ else _) = _
    rw [if_neg (by omega)]
theorem width_yes {r : Option Int} {s : Int} {w : World} {e : Ending} {w' : World} (h : WdAns r w e w') (hs : r = some s) : e = .returned (.int .i64 s) ∧ Below w.heap.size w w' := by
  subst hs
  exact ⟨h.1 rfl, h.2.2⟩
theorem width_no {r : Option Int} {w : World} {e : Ending} {w' : World} (h : WdAns r w e w') (hs : r = none) : e = .panicked (gave 2) ∧ Below w.heap.size w w' := by
  subst hs
  exact ⟨h.2.1 (by decide), h.2.2⟩
set_option maxRecDepth 100000 in
set_option maxHeartbeats 6400000 in
theorem ln_fill (ao : Option Addr) (k cap : Nat) (avail low : Int) (l : List It) (hk : k ≤ 1000) (hcap : k ≤ cap) (hl : l.length = k) (hf : ItFit l) (w : World) (hr : RowV w ao k 4 (itV l)) :
    Calls Try.prog 22 #[.slice ao k cap, .int .i64 avail, .int .i64 low] w (FillAns (fillR l avail low) w) := by
  obtain ⟨j0, ji, jz0, jz1, jz2⟩ := info_parts (show (Try.prog.info? 36).map (fun i => (i.zero, i.size, i.bytes)) = some (some (.agg #[.int .i64 0, .int .i64 0, .int .i64 0, .int .i64 0]), 4, 32) by kernel_rfl)
  obtain ⟨R, eR⟩ : ∃ R, fillR l avail low = R := ⟨_, rfl⟩
  rw [eR]
  have eR2 : fillF l avail low k 0 [] = R := by rw [← hl]; exact eR
  obtain ⟨Q, eQ⟩ : ∃ Q : Ending → World → Prop, Q = FillAns R w := ⟨_, rfl⟩
  rw [← eQ]
  have EQ := Lib.hid eQ
  have HRW := Lib.hid hr
  have HF := Lib.hid hf
  have HL := Lib.hid hl
  have ER := Lib.hid eR2
  clear eQ hr hf hl eR eR2
  go_enter Try.func22, Try.ntmps22
  go_wp2_with fail
  go_loopg [7, 8] k (fun gk s7 s8 wr => ∃ (d a : Nat) (out : List Ln) (aj : Option Addr) (cj : Nat), a ≤ k ∧ gk = k - a ∧ s7 = .slice aj out.length cj ∧ s8 = .int .i64 ((a : Int)) ∧ k - a ≤ d ∧ fillF l avail low d a out = R ∧ OwnW wr w.heap.size 36 4 aj out.length cj (lnV out) ∧ Below w.heap.size w wr ∧ out.length ≤ a)
  case atStart => exact ⟨k, 0, [], none, 0, by omega, by omega, rfl, rfl, by omega, ER.out, OwnW.nil _ _ _ _, Below.refl _ _, by simp⟩
  case round =>
    obtain ⟨d, a, out, aj, cj, hak, rfl, rfl, rfl, hd, er, ho, hB, hoa⟩ := hrel
    have hsB := hB.size
    by_cases ha : a < k
    · have ix : (a : Int) < (k : Int) := by omega
      have hal : a < l.length := by rw [HL.out]; exact ha
      have hsg := seg_up hal
      obtain ⟨g, off, rfl, hg, _⟩ := HRW.out.2 (show 0 < k by omega)
      have HV := HRW
      obtain ⟨d, rfl⟩ : ∃ d', d = d' + 1 := ⟨d - 1, by omega⟩
      have SG := fun f W (hf : f ≤ k) (hW : RowV W (some ⟨g, off, none⟩) k 4 (itV l)) => ln_segment (some ⟨g, off, none⟩) k cap f l hk HL.out hf W hW
      have WD := fun b W (hb : b ≤ k) (hab : a < b) (hW : RowV W (some ⟨g, off, none⟩) k 4 (itV l)) => ln_width (some ⟨g, off + a * 4, none⟩) (b - a) (cap - a) (subL l a b) (by omega) (subL_len l (by rw [HL.out]; exact hb)) (subL_fit HF.out a b) W (row_sub hW HL.out hab hb)
      have hca : ¬ cap = a := by omega
      obtain ⟨t, et⟩ : ∃ t, seg l a = t := ⟨_, rfl⟩
      have SG1 := SG a wr hak (HRW.out.below hB)
      rw [et] at hsg SG1
      rw [HL.out] at hsg
      have hat := hsg.1
      have htk := hsg.2
      have WD1 := WD t wr htk hat (HRW.out.below hB)
      rw [wd_sub l (by omega)] at WD1
      have HAL := Lib.hid hal
      have ET := Lib.hid et
      have ER := Lib.hid er
      have HSG := Lib.hid SG
      have HWD := Lib.hid WD
      have iat : (a : Int) ≤ (t : Int) := by omega
      have itc : (t : Int) ≤ (cap : Int) := by omega
      have iak : (a : Int) ≤ (k : Int) := by omega
      clear hal et er SG WD hsg hg
      cases hw1 : wd l a t with
      | none =>
        have WD2 := WD1.mono fun _ _ h => width_no h hw1
        have hno : R = none := by rw [← ER.out]; exact fill_err HAL.out (by rw [ET.out]; exact hw1)
        have HNO := Lib.hid hno
        clear WD1 hw1 hno
        go_wp2_with fail
        refine SG1.mono ?_
        rintro e w2 ⟨rfl, rfl⟩
        go_wp2_with fail
        refine WD2.mono ?_
        rintro e w3 ⟨rfl, hb⟩
        have hB3 := hB.trans (hb.mono hsB)
        clear hb WD2 hB
        go_wp2_with fail
        simp only [bodyPost]
        exact ⟨trivial, by rw [EQ.out, HNO.out]; exact FillAns.no hB3⟩
      | some s =>
        have WD2 := WD1.mono fun _ _ h => width_yes h hw1
        have hR := fill_go (d := d) (out := out) (avail := avail) (low := low) HAL.out (s := s) (by rw [ET.out]; exact hw1)
        rw [ER.out, ET.out, HL.out] at hR
        obtain ⟨X, eX⟩ : ∃ X, extF l avail a k t s = X := ⟨_, rfl⟩
        rw [eX] at hR
        have HR := Lib.hid hR.symm
        have EX0 := Lib.hid eX
        clear WD1 hw1 hR eX
        go_wp2_with fail
        refine SG1.mono ?_
        rintro e w2 ⟨rfl, rfl⟩
        go_wp2_with fail
        refine WD2.mono ?_
        rintro e w3 ⟨rfl, hb⟩
        have hB3 := hB.trans (hb.mono hsB)
        have ho3 := ho.below hb
        clear hb WD2 hB SG1 ho
        go_wp2_with fail
        go_loopg [9, 10] (k - t) (fun gk s9 s10 wr => ∃ (d2 t : Nat) (x : Int), a < t ∧ t ≤ k ∧ gk = k - t ∧ s9 = .int .i64 ((t : Int)) ∧ s10 = .int .i64 x ∧ k - t ≤ d2 ∧ extF l avail a d2 t x = X ∧ OwnW wr w.heap.size 36 4 aj out.length cj (lnV out) ∧ Below w.heap.size w wr)
        case atStart => exact ⟨k, t, s, hat, htk, rfl, rfl, rfl, by omega, EX0.out, ho3, hB3⟩
        case round =>
          clear hB3 ho3 hsB EX0 ET hat htk iat itc
          obtain ⟨d2, t, x, hat, htk, rfl, rfl, rfl, hd2, ex, ho, hB⟩ := hrel
          have hsB := hB.size
          have iat : (a : Int) ≤ (t : Int) := by omega
          have itc : (t : Int) ≤ (cap : Int) := by omega
          by_cases ht : t < k
          · have it1 : (t : Int) < (k : Int) := by omega
            have htl : t < l.length := by rw [HL.out]; exact ht
            obtain ⟨d2, rfl⟩ : ∃ d', d2 = d' + 1 := ⟨d2 - 1, by omega⟩
            have hsg := seg_up htl
            have SG1 := HSG.out t wr htk (HRW.out.below hB)
            obtain ⟨u, eu⟩ : ∃ u, seg l t = u := ⟨_, rfl⟩
            rw [eu] at hsg SG1
            rw [HL.out] at hsg
            have htu := hsg.1
            have huk := hsg.2
            have WD1 := HWD.out u wr huk (by omega) (HRW.out.below hB)
            rw [wd_sub l (by omega)] at WD1
            have EU := Lib.hid eu
            have EXX := Lib.hid ex
            have iau : (a : Int) ≤ (u : Int) := by omega
            have iuc : (u : Int) ≤ (cap : Int) := by omega
            clear hsg eu ex
            cases hw1 : wd l a u with
            | none =>
              have WD2 := WD1.mono fun _ _ h => width_no h hw1
              have hno : X = none := by rw [← EXX.out]; exact ext_err htl (by rw [EU.out]; exact hw1)
              have hno2 : R = none := by rw [← HR.out, hno]; rfl
              have HNO := Lib.hid hno2
              clear WD1 hw1 hno hno2 htl
              go_wp2_with fail
              refine SG1.mono ?_
              rintro e w4 ⟨rfl, rfl⟩
              go_wp2_with fail
              refine WD2.mono ?_
              rintro e w4 ⟨rfl, hb⟩
              have hB4 := hB.trans (hb.mono hsB)
              clear hb WD2 hB
              go_wp2_with fail
              simp only [bodyPost]
              exact ⟨trivial, by rw [EQ.out, HNO.out]; exact FillAns.no hB4⟩
            | some m =>
              have WD2 := WD1.mono fun _ _ h => width_yes h hw1
              by_cases hm : avail < m
              · have hex : X = some (t, x) := by rw [← EXX.out]; exact ext_stop htl (by rw [EU.out]; exact hw1) hm
                have EX := Lib.hid hex
                clear WD1 hw1 hex htl
                go_wp2_with fail
                refine SG1.mono ?_
                rintro e w4 ⟨rfl, rfl⟩
                go_wp2_with fail
                refine WD2.mono ?_
                rintro e w4 ⟨rfl, hb⟩
                have hB4 := hB.trans (hb.mono hsB)
                have ho4 := ho.below hb
                clear hb WD2 hB SG1 ho hsB
                have hB := hB4
                have ho := ho4
                have hsB := hB.size
                clear hB4 ho4
                -- the line is appended
                have hfk : fillF l avail low d t (out ++ [⟨a, t, x, hiF l low a (t - a)⟩]) = R := by have := HR.out; rw [EX.out] at this; exact this
                have HFK := Lib.hid hfk
                have HG0 := fun W (h : RowV W (some ⟨g, off + a * 4, none⟩) (t - a) 4 (itV (subL l a t))) => ln_high (some ⟨g, off + a * 4, none⟩) (t - a) (cap - a) low (subL l a t) (by omega) (subL_len l (by rw [HL.out]; omega)) W h
                rw [hiF_sub l low a t (t - a) (Nat.le_refl _)] at HG0
                have HG := HG0 _ (row_sub (HV.out.below hB) HL.out hat htk)
                obtain ⟨hh, ehh⟩ : ∃ h, hiF l low a (t - a) = h := ⟨_, rfl⟩
                rw [ehh] at HG
                have EHH := Lib.hid ehh
                clear hfk ehh HG0
                go_wp2_with fail
                refine HG.mono ?_
                rintro e w5 ⟨rfl, hb⟩
                have ho5 := ho.below hb
                have hB5 := hB.trans (hb.mono hB.size)
                have hs5 := hB5.size
                clear hb HG ho hB
                go_wp2_with (at_builtin; refine wpList_append_own _ rfl _ _ 44 rfl w.heap.size 36 j0 (.agg #[.int .i64 0, .int .i64 0, .int .i64 0, .int .i64 0]) 4 32 Try.underlying44 ji jz0 jz1 jz2 rfl (by decide) _ _ _ rfl (ho5.alloc _) ⟨w5.heap.size, 0, none⟩ 1 1 [.int .i64 ((a : Int)), .int .i64 ((t : Int)), .int .i64 x, .int .i64 hh] rfl rfl ?c1 ?c2 ?c3 ?c4 ?c5 ?_)
                case c1 =>
                  intro j u hj
                  match j, hj with
                  | 0, hj => simp at hj; subst hj; simp [Addr.add]
                  | 1, hj => simp at hj; subst hj; simp [Addr.add]
                  | 2, hj => simp at hj; subst hj; simp [Addr.add]
                  | 3, hj => simp at hj; subst hj; simp [Addr.add]
                case c2 => intro u hu; simp at hu; rcases hu with rfl | rfl | rfl | rfl <;> rfl
                case c3 => unfold maxLen; omega
                case c4 => omega
                case c5 => simp; omega
                intro v' w6 hown' hgrow _
                obtain ⟨ao', cap', rfl, ho', _, hB'⟩ := OwnW.grown ho5 hown' hgrow hs5
                have hB6 := hB' _ _ (Nat.le_refl _) hB5
                clear hown' hgrow hB' ho5 hB5
                go_wp2_with fail
                go_roundg (k - t)
                case measure => omega
                case rel => exact ⟨d, t, out ++ [⟨a, t, x, hiF l low a (t - a)⟩], ao', cap', by omega, rfl, by rw [List.length_append]; rfl, rfl, by omega, HFK.out, by rw [lnV_app, lnV_one, EHH.out, List.length_append]; exact ho', hB6, by rw [List.length_append]; show out.length + 1 ≤ t; omega⟩
              · have hex : extF l avail a d2 u m = X := by rw [← EXX.out]; exact (ext_more htl (by rw [EU.out]; exact hw1) hm).symm ▸ by rw [EU.out]
                have EX := Lib.hid hex
                clear WD1 hw1 hex htl
                go_wp2_with fail
                refine SG1.mono ?_
                rintro e w4 ⟨rfl, rfl⟩
                go_wp2_with fail
                refine WD2.mono ?_
                rintro e w4 ⟨rfl, hb⟩
                have hB4 := hB.trans (hb.mono hsB)
                have ho4 := ho.below hb
                clear hb WD2 hB SG1 ho hsB
                go_wp2_with fail
                go_roundg (k - u)
                case measure => omega
                case rel => exact ⟨d2, u, m, by omega, huk, rfl, rfl, rfl, by omega, EX.out, ho4, hB4⟩
          · have it1 : ¬ (t : Int) < (k : Int) := by omega
            have hex : X = some (t, x) := by rw [← ex]; exact ext_end (by rw [HL.out]; omega)
            have EX := Lib.hid hex
            clear ex hex
            -- the line is appended
            have hfk : fillF l avail low d t (out ++ [⟨a, t, x, hiF l low a (t - a)⟩]) = R := by have := HR.out; rw [EX.out] at this; exact this
            have HFK := Lib.hid hfk
            have HG0 := fun W (h : RowV W (some ⟨g, off + a * 4, none⟩) (t - a) 4 (itV (subL l a t))) => ln_high (some ⟨g, off + a * 4, none⟩) (t - a) (cap - a) low (subL l a t) (by omega) (subL_len l (by rw [HL.out]; omega)) W h
            rw [hiF_sub l low a t (t - a) (Nat.le_refl _)] at HG0
            have HG := HG0 _ (row_sub (HV.out.below hB) HL.out hat htk)
            obtain ⟨hh, ehh⟩ : ∃ h, hiF l low a (t - a) = h := ⟨_, rfl⟩
            rw [ehh] at HG
            have EHH := Lib.hid ehh
            clear hfk ehh HG0
            go_wp2_with fail
            refine HG.mono ?_
            rintro e w5 ⟨rfl, hb⟩
            have ho5 := ho.below hb
            have hB5 := hB.trans (hb.mono hB.size)
            have hs5 := hB5.size
            clear hb HG ho hB
            go_wp2_with (at_builtin; refine wpList_append_own _ rfl _ _ 44 rfl w.heap.size 36 j0 (.agg #[.int .i64 0, .int .i64 0, .int .i64 0, .int .i64 0]) 4 32 Try.underlying44 ji jz0 jz1 jz2 rfl (by decide) _ _ _ rfl (ho5.alloc _) ⟨w5.heap.size, 0, none⟩ 1 1 [.int .i64 ((a : Int)), .int .i64 ((t : Int)), .int .i64 x, .int .i64 hh] rfl rfl ?c1 ?c2 ?c3 ?c4 ?c5 ?_)
            case c1 =>
              intro j u hj
              match j, hj with
              | 0, hj => simp at hj; subst hj; simp [Addr.add]
              | 1, hj => simp at hj; subst hj; simp [Addr.add]
              | 2, hj => simp at hj; subst hj; simp [Addr.add]
              | 3, hj => simp at hj; subst hj; simp [Addr.add]
            case c2 => intro u hu; simp at hu; rcases hu with rfl | rfl | rfl | rfl <;> rfl
            case c3 => unfold maxLen; omega
            case c4 => omega
            case c5 => simp; omega
            intro v' w6 hown' hgrow _
            obtain ⟨ao', cap', rfl, ho', _, hB'⟩ := OwnW.grown ho5 hown' hgrow hs5
            have hB6 := hB' _ _ (Nat.le_refl _) hB5
            clear hown' hgrow hB' ho5 hB5
            go_wp2_with fail
            go_roundg (k - t)
            case measure => omega
            case rel => exact ⟨d, t, out ++ [⟨a, t, x, hiF l low a (t - a)⟩], ao', cap', by omega, rfl, by rw [List.length_append]; rfl, rfl, by omega, HFK.out, by rw [lnV_app, lnV_one, EHH.out, List.length_append]; exact ho', hB6, by rw [List.length_append]; show out.length + 1 ≤ t; omega⟩
    · obtain rfl : a = k := by omega
      have ix : ¬ (a : Int) < (a : Int) := by omega
      have hR : R = some out := by rw [← er]; exact fill_end (by rw [HL.out]; exact Nat.le_refl _)
      subst hR
      go_wp2_with fail
      rw [EQ.out]
      exact FillAns.yes ho hB
set_option maxRecDepth 100000 in
set_option maxHeartbeats 3200000 in
theorem ln_least (ao : Option Addr) (k cap : Nat) (l : List It) (hk : k ≤ 1000) (hcap : k ≤ cap) (hl : l.length = k) (hf : ItFit l) (w : World) (hr : RowV w ao k 4 (itV l)) :
    Calls Try.prog 26 #[.slice ao k cap] w (WdAns (leastR l) w) := by
  obtain ⟨R, eR⟩ : ∃ R, leastR l = R := ⟨_, rfl⟩
  rw [eR]
  have eR2 : leastF l k 0 0 = R := by rw [← hl]; exact eR
  obtain ⟨Q, eQ⟩ : ∃ Q : Ending → World → Prop, Q = WdAns R w := ⟨_, rfl⟩
  rw [← eQ]
  have EQ := Lib.hid eQ
  have HRW := Lib.hid hr
  have HF := Lib.hid hf
  have HL := Lib.hid hl
  have ER := Lib.hid eR2
  clear eQ hr hf hl eR eR2
  go_enter Try.func26, Try.ntmps26
  go_wp2_with fail
  go_loopg [3, 4] k (fun gk s3 s4 wr => ∃ (d a : Nat) (o : Int), a ≤ k ∧ gk = k - a ∧ s3 = .int .i64 o ∧ s4 = .int .i64 ((a : Int)) ∧ k - a ≤ d ∧ leastF l d a o = R ∧ Below w.heap.size w wr)
  case atStart => exact ⟨k, 0, 0, by omega, by omega, rfl, rfl, by omega, ER.out, Below.refl _ _⟩
  case round =>
    obtain ⟨d, a, o, hak, rfl, rfl, rfl, hd, er, hB⟩ := hrel
    have hsB := hB.size
    by_cases ha : a < k
    · have ix : (a : Int) < (k : Int) := by omega
      have hal : a < l.length := by rw [HL.out]; exact ha
      have hsg := seg_up hal
      obtain ⟨g, off, rfl, hg, _⟩ := HRW.out.2 (show 0 < k by omega)
      obtain ⟨d, rfl⟩ : ∃ d', d = d' + 1 := ⟨d - 1, by omega⟩
      have hca : ¬ cap = a := by omega
      have SG1 := ln_segment (some ⟨g, off, none⟩) k cap a l hk HL.out hak wr (HRW.out.below hB)
      obtain ⟨t, et⟩ : ∃ t, seg l a = t := ⟨_, rfl⟩
      rw [et] at hsg SG1
      rw [HL.out] at hsg
      have hat := hsg.1
      have htk := hsg.2
      have WD1 := ln_width (some ⟨g, off + a * 4, none⟩) (t - a) (cap - a) (subL l a t) (by omega) (subL_len l (by rw [HL.out]; exact htk)) (subL_fit HF.out a t) wr (row_sub (HRW.out.below hB) HL.out hat htk)
      rw [wd_sub l (by omega)] at WD1
      have HAL := Lib.hid hal
      have ET := Lib.hid et
      have ER := Lib.hid er
      have iat : (a : Int) ≤ (t : Int) := by omega
      have itc : (t : Int) ≤ (cap : Int) := by omega
      have iak : (a : Int) ≤ (k : Int) := by omega
      clear hal et er hsg hg
      cases hw1 : wd l a t with
      | none =>
        have WD2 := WD1.mono fun _ _ h => width_no h hw1
        have hno : R = none := by rw [← ER.out]; exact least_err HAL.out (by rw [ET.out]; exact hw1)
        have HNO := Lib.hid hno
        clear WD1 hw1 hno
        go_wp2_with fail
        refine SG1.mono ?_
        rintro e w2 ⟨rfl, rfl⟩
        go_wp2_with fail
        refine WD2.mono ?_
        rintro e w3 ⟨rfl, hb⟩
        have hB3 := hB.trans (hb.mono hsB)
        clear hb WD2 hB
        go_wp2_with fail
        simp only [bodyPost]
        exact ⟨trivial, by rw [EQ.out]; exact WdAns.no HNO.out hB3⟩
      | some s =>
        have WD2 := WD1.mono fun _ _ h => width_yes h hw1
        have hR := least_go (d := d) (out := o) HAL.out (s := s) (by rw [ET.out]; exact hw1)
        rw [ER.out, ET.out] at hR
        have HR := Lib.hid hR.symm
        clear WD1 hw1 hR
        go_wp2_with fail
        refine SG1.mono ?_
        rintro e w2 ⟨rfl, rfl⟩
        go_wp2_with fail
        refine WD2.mono ?_
        rintro e w3 ⟨rfl, hb⟩
        have hB3 := hB.trans (hb.mono hsB)
        clear hb WD2 hB SG1
        by_cases ha0 : a = 0
        · have ia0 : (a : Int) = 0 := by omega
          have hR2 : leastF l d t s = R := by have := HR.out; rw [if_pos (.inl ha0)] at this; exact this
          have HR2 := Lib.hid hR2
          clear hR2 ha0
          go_wp2_with fail
          go_roundg (k - t)
          case measure => omega
          case rel => exact ⟨d, t, s, htk, rfl, rfl, rfl, by omega, HR2.out, hB3⟩
        · have ia0 : ((a : Int) == 0) = false := by simpa using ha0
          by_cases hos : o < s
          · have hR2 : leastF l d t s = R := by have := HR.out; rw [if_pos (.inr hos)] at this; exact this
            have HR2 := Lib.hid hR2
            clear hR2 ha0
            go_wp2_with fail
            go_roundg (k - t)
            case measure => omega
            case rel => exact ⟨d, t, s, htk, rfl, rfl, rfl, by omega, HR2.out, hB3⟩
          · have hR2 : leastF l d t o = R := by have := HR.out; rw [if_neg (fun h => h.elim ha0 hos)] at this; exact this
            have HR2 := Lib.hid hR2
            clear hR2 ha0
            go_wp2_with fail
            go_roundg (k - t)
            case measure => omega
            case rel => exact ⟨d, t, o, htk, rfl, rfl, rfl, by omega, HR2.out, hB3⟩
    · obtain rfl : a = k := by omega
      have ix : ¬ (a : Int) < (a : Int) := by omega
      have hR : R = some o := by rw [← er]; exact least_end (by rw [HL.out]; exact Nat.le_refl _)
      have HR := Lib.hid hR
      clear hR er
      go_wp2_with fail
      rw [EQ.out]
      exact WdAns.yes HR.out hB
end Go.Proofs.Ythofammjbicogaa
