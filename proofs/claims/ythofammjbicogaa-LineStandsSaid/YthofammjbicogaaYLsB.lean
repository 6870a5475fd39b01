/-
  Layer 13: lines of small items, in plain numbers.
-/
import Derived.Test.YthofammjbicogaaYLnB
namespace Go.Proofs.Ythofammjbicogaa
open Go.RowKit
set_option linter.unusedSimpArgs false
set_option linter.unusedVariables false

def ItSm (l : List It) : Prop := ∀ i, (0 ≤ (l.getD i it0).w ∧ (l.getD i it0).w ≤ 65535) ∧ (0 ≤ (l.getD i it0).s ∧ (l.getD i it0).s ≤ 65535) ∧ (0 ≤ (l.getD i it0).h ∧ (l.getD i it0).h ≤ 65535)
theorem ItSm.fit {l : List It} (h : ItSm l) : ItFit l := fun i => by
  have := h i
  unfold IFit; omega
def wsF (l : List It) (a b : Nat) : Nat → Int
  | 0 => 0
  | j + 1 => wsF l a b j + ((l.getD (a + j) it0).w + (if a + j + 1 < b then (l.getD (a + j) it0).s else 0))
def ws (l : List It) (a b : Nat) : Int := wsF l a b (b - a)
theorem at_nn {l : List It} (h : ItSm l) (b i : Nat) : 0 ≤ (l.getD i it0).w + (if i + 1 < b then (l.getD i it0).s else 0) ∧ (l.getD i it0).w + (if i + 1 < b then (l.getD i it0).s else 0) ≤ 131070 := by
  have := h i
  split <;> omega
theorem wsF_bnd {l : List It} (h : ItSm l) (a b : Nat) : ∀ j : Nat, 0 ≤ wsF l a b j ∧ wsF l a b j ≤ 131070 * (j : Int)
  | 0 => by simp [wsF]
  | j + 1 => by
    have h1 := wsF_bnd h a b j
    have h2 := at_nn h b (a + j)
    unfold wsF
    push_cast
    omega
theorem wd_wsF {l : List It} (h : ItSm l) (a b : Nat) : ∀ j : Nat, j ≤ 1000 → addP 0 (pts l a b j) = some (wsF l a b j)
  | 0, _ => rfl
  | j + 1, hj => by
    have h1 := wd_wsF h a b j (by omega)
    have h2 := wsF_bnd h a b j
    have h3 := h (a + j)
    unfold pts wsF
    rw [addP_app, h1]
    show addP (wsF l a b j) (ptAt l b (a + j)) = _
    obtain ⟨t, et⟩ : ∃ t, wsF l a b j = t := ⟨_, rfl⟩
    rw [et] at h2 ⊢
    unfold ptAt
    have e1 : lenB (t + (l.getD (a + j) it0).w) = true := (lenB_iff _).2 (by unfold LenB; omega)
    split
    · have e2 : lenB (t + (l.getD (a + j) it0).w + (l.getD (a + j) it0).s) = true := (lenB_iff _).2 (by unfold LenB; omega)
      unfold addP
      rw [if_pos e1]
      unfold addP
      rw [if_pos e2, Int.add_assoc]
      rfl
    · unfold addP
      rw [if_pos e1, Int.add_zero]
      rfl
theorem wd_ws {l : List It} (h : ItSm l) {a b : Nat} (hb : b ≤ 1000) : wd l a b = some (ws l a b) := wd_wsF h a b (b - a) (by omega)
theorem ws_bnd {l : List It} (h : ItSm l) (a b : Nat) : 0 ≤ ws l a b ∧ ws l a b ≤ 131070 * ((b - a : Nat) : Int) := wsF_bnd h a b _
theorem wsF_sub (l : List It) (a b : Nat) : ∀ j, j ≤ b - a → wsF (subL l a b) 0 (b - a) j = wsF l a b j
  | 0, _ => rfl
  | j + 1, h => by
    unfold wsF
    rw [wsF_sub l a b j (by omega), Nat.zero_add, subL_get l (by omega)]
    by_cases h1 : j + 1 < b - a
    · rw [if_pos h1, if_pos (by omega)]
    · rw [if_neg h1, if_neg (by omega)]
theorem ws_sub (l : List It) (a b : Nat) : ws (subL l a b) 0 (b - a) = ws l a b := by
  unfold ws
  rw [Nat.sub_zero]
  exact wsF_sub l a b _ (Nat.le_refl _)
theorem wsF_up {l : List It} (h : ItSm l) (a : Nat) {b b' : Nat} (hb : b ≤ b') : ∀ j, wsF l a b j ≤ wsF l a b' j
  | 0 => Int.le_refl _
  | j + 1 => by
    have h1 := wsF_up h a hb j
    have h2 := h (a + j)
    unfold wsF
    split
    · rw [if_pos (by omega)]; omega
    · split <;> omega
theorem wsF_more {l : List It} (h : ItSm l) (a b j : Nat) : ∀ d, wsF l a b j ≤ wsF l a b (j + d)
  | 0 => Int.le_refl _
  | d + 1 => by
    have h1 := wsF_more h a b j d
    have h2 := at_nn h b (a + (j + d))
    have e : wsF l a b (j + (d + 1)) = wsF l a b (j + d) + ((l.getD (a + (j + d)) it0).w + (if a + (j + d) + 1 < b then (l.getD (a + (j + d)) it0).s else 0)) := rfl
    rw [e]
    omega
theorem ws_up {l : List It} (h : ItSm l) {a b b' : Nat} (hb : b ≤ b') : ws l a b ≤ ws l a b' := by
  unfold ws
  have h1 := wsF_up h a hb (b - a)
  have h2 := wsF_more h a b' (b - a) (b' - a - (b - a))
  rw [show b - a + (b' - a - (b - a)) = b' - a by omega] at h2
  omega
theorem wsF_left (l : List It) (a b : Nat) : ∀ j, wsF l a b (j + 1) = ((l.getD a it0).w + (if a + 1 < b then (l.getD a it0).s else 0)) + wsF l (a + 1) b j
  | 0 => by simp [wsF]
  | j + 1 => by
    have h1 := wsF_left l a b j
    show wsF l a b (j + 1) + _ = _ + (wsF l (a + 1) b j + _)
    rw [h1, show a + (j + 1) = a + 1 + j by omega]
    omega
theorem ws_left1 {l : List It} (h : ItSm l) (a b : Nat) : ws l (a + 1) b ≤ ws l a b := by
  unfold ws
  by_cases hb : a + 1 ≤ b
  · have e := wsF_left l a b (b - (a + 1))
    rw [show b - (a + 1) + 1 = b - a by omega] at e
    have h2 := at_nn h b a
    omega
  · rw [show b - (a + 1) = 0 by omega]
    exact (wsF_bnd h a b _).1
theorem ws_left {l : List It} (h : ItSm l) (a b : Nat) : ∀ d, ws l (a + d) b ≤ ws l a b
  | 0 => Int.le_refl _
  | d + 1 => Int.le_trans (ws_left1 h (a + d) b) (ws_left h a b d)
theorem ws_in {l : List It} (h : ItSm l) {a b : Nat} (hb : b ≤ l.length) : ws l a b ≤ ws l 0 l.length := by
  have h1 := ws_left h 0 b a
  rw [Nat.zero_add] at h1
  have h2 := ws_up h (a := 0) hb
  omega
theorem seg_spec (l : List It) : ∀ d i, l.length - i = d → i < l.length → (∀ k, i ≤ k → k + 1 < seg l i → (l.getD k it0).b = false) ∧ (seg l i < l.length → (l.getD (seg l i - 1) it0).b = true)
  | 0, i, hd, h => by omega
  | d + 1, i, hd, h => by
    cases hb : (l.getD i it0).b
    · rw [seg_next h hb]
      by_cases h1 : i + 1 < l.length
      · obtain ⟨p1, p2⟩ := seg_spec l d (i + 1) (by omega) h1
        refine ⟨fun k hk hk2 => ?_, p2⟩
        by_cases e : k = i
        · rw [e]; exact hb
        · exact p1 k (by omega) hk2
      · rw [seg_end (by omega)]
        refine ⟨fun k hk hk2 => ?_, fun h => absurd h (by omega)⟩
        omega
    · rw [seg_brk h hb]
      exact ⟨fun k hk hk2 => by omega, fun _ => hb⟩
def Start (l : List It) (a : Nat) : Prop := a = 0 ∨ (0 < a ∧ (l.getD (a - 1) it0).b = true)
theorem Start.after {l : List It} {c a : Nat} (hc : c < a) (ha : a < l.length) (h : Start l a) (hcl : c < l.length) : seg l c ≤ a := by
  rcases h with rfl | ⟨h0, hb⟩
  · omega
  · refine Nat.le_of_not_lt fun hlt => ?_
    have := (seg_spec l _ c rfl hcl).1 (a - 1) (by omega) (by omega)
    rw [this] at hb
    cases hb
theorem Start.seg {l : List It} {c : Nat} (hc : c < l.length) (hs : seg l c < l.length) : Start l (seg l c) :=
  .inr ⟨by have := seg_up hc; omega, (seg_spec l _ c rfl hc).2 hs⟩
theorem least_spec {l : List It} (h : ItSm l) (hk : l.length ≤ 1000) : ∀ (d c : Nat) (out : Int), l.length - c ≤ d → 0 ≤ out → out ≤ ws l 0 l.length → ∃ r, leastF l d c out = some r ∧ (∀ a, c ≤ a → a < l.length → Start l a → ws l a (seg l a) ≤ r) ∧ (c ≠ 0 → out ≤ r) ∧ 0 ≤ r ∧ r ≤ ws l 0 l.length
  | 0, c, out, hd, h0, h1 => ⟨out, rfl, fun a ha hb => by omega, fun _ => Int.le_refl _, h0, h1⟩
  | d + 1, c, out, hd, h0, h1 => by
    by_cases hc : c < l.length
    · have hs := seg_up hc
      have hw := wd_ws h (a := c) (b := seg l c) (by omega)
      rw [least_go hc hw]
      have hb1 := ws_bnd h c (seg l c)
      have hb2 := ws_in h (a := c) hs.2
      obtain ⟨o2, eo⟩ : ∃ o, (if c = 0 ∨ out < ws l c (seg l c) then ws l c (seg l c) else out) = o := ⟨_, rfl⟩
      rw [eo]
      have g1 : 0 ≤ o2 ∧ o2 ≤ ws l 0 l.length ∧ ws l c (seg l c) ≤ o2 ∧ (c ≠ 0 → out ≤ o2) := by
        rw [← eo]
        split
        · rename_i hh
          exact ⟨hb1.1, hb2, Int.le_refl _, fun hc0 => by rcases hh with hh | hh; exact absurd hh hc0; omega⟩
        · rename_i hh
          exact ⟨h0, h1, by omega, fun _ => Int.le_refl _⟩
      obtain ⟨r, e, p1, p2, p3, p4⟩ := least_spec h hk d (seg l c) o2 (by omega) g1.1 g1.2.1
      have p2' := p2 (by omega)
      refine ⟨r, e, fun a ha hal hst => ?_, fun hc0 => Int.le_trans (g1.2.2.2 hc0) p2', p3, p4⟩
      by_cases hac : a = c
      · rw [hac]; omega
      · exact p1 a (Start.after (by omega) hal hst hc) hal hst
    · exact ⟨out, least_end (by omega), fun a ha hb => by omega, fun _ => Int.le_refl _, h0, h1⟩
theorem ext_spec {l : List It} (h : ItSm l) (hk : l.length ≤ 1000) (room : Int) (a : Nat) : ∀ (d t : Nat), t ≤ l.length → 0 < t → (t < l.length → (l.getD (t - 1) it0).b = true) → l.length - t ≤ d → ∃ t2, extF l room a d t (ws l a t) = some (t2, ws l a t2) ∧ t ≤ t2 ∧ t2 ≤ l.length ∧ (t2 ≠ t → ws l a t2 ≤ room) ∧ (t2 < l.length → room < ws l a (seg l t2)) ∧ (t2 < l.length → (l.getD (t2 - 1) it0).b = true)
  | 0, t, ht, h0, hb, hd => ⟨t, rfl, Nat.le_refl _, ht, fun h => absurd rfl h, fun h => by omega, hb⟩
  | d + 1, t, ht, h0, hb, hd => by
    by_cases hl : t < l.length
    · have hs := seg_up hl
      have hw := wd_ws h (a := a) (b := seg l t) (by omega)
      by_cases hm : room < ws l a (seg l t)
      · exact ⟨t, ext_stop hl hw hm, Nat.le_refl _, ht, fun h => absurd rfl h, fun _ => hm, hb⟩
      · rw [ext_more hl hw hm]
        obtain ⟨t2, e, p1, p2, p3, p4, p5⟩ := ext_spec h hk room a d (seg l t) hs.2 (by omega) (seg_spec l _ t rfl hl).2 (by omega)
        refine ⟨t2, e, by omega, p2, fun _ => ?_, p4, p5⟩
        by_cases e2 : t2 = seg l t
        · rw [e2]; omega
        · exact p3 e2
    · exact ⟨t, ext_end (by omega), Nat.le_refl _, ht, fun h => absurd rfl h, fun h => absurd h hl, hb⟩
def FillOk (l : List It) (room least : Int) : Nat → List Ln → Prop
  | a, [] => l.length ≤ a
  | a, x :: L => x.f = a ∧ a < x.t ∧ x.t ≤ l.length ∧ x.w = ws l a x.t ∧ (x.t < l.length → (l.getD (x.t - 1) it0).b = true) ∧ (x.t ≠ seg l a → x.w ≤ room) ∧ x.w ≤ max room least ∧ (x.t < l.length → room < ws l a (seg l x.t)) ∧ FillOk l room least x.t L
theorem fill_spec {l : List It} (h : ItSm l) (hk : l.length ≤ 1000) (room low least : Int) (hle : ∀ a, a < l.length → Start l a → ws l a (seg l a) ≤ least) : ∀ (d a : Nat) (out : List Ln), a ≤ l.length → (a < l.length → Start l a) → l.length - a ≤ d → ∃ L, fillF l room low d a out = some (out ++ L) ∧ FillOk l room least a L
  | 0, a, out, ha, hst, hd => ⟨[], by simp [fillF], by show l.length ≤ a; omega⟩
  | d + 1, a, out, ha, hst, hd => by
    by_cases hl : a < l.length
    · have hs := seg_up hl
      have hw := wd_ws h (a := a) (b := seg l a) (by omega)
      obtain ⟨t2, e, p1, p2, p3, p4, p5⟩ := ext_spec h hk room a l.length (seg l a) hs.2 (by omega) (seg_spec l _ a rfl hl).2 (by omega)
      have e2 : fillF l room low (d + 1) a out = fillF l room low d t2 (out ++ [⟨a, t2, ws l a t2, hiF l low a (t2 - a)⟩]) := by
        rw [fillF, if_pos hl, hw]
        simp only [e]
      obtain ⟨L, eL, hL⟩ := fill_spec h hk room low least hle d t2 (out ++ [⟨a, t2, ws l a t2, hiF l low a (t2 - a)⟩]) p2 (fun h2 => .inr ⟨by omega, p5 h2⟩) (by omega)
      refine ⟨⟨a, t2, ws l a t2, hiF l low a (t2 - a)⟩ :: L, by rw [e2, eL, List.append_assoc]; rfl, rfl, by show a < t2; omega, p2, rfl, p5, p3, ?_, p4, hL⟩
      show ws l a t2 ≤ max room least
      by_cases e3 : t2 = seg l a
      · have := hle a hl (hst hl)
        rw [e3]; omega
      · have := p3 e3; omega
    · exact ⟨[], by rw [fill_end (by omega), List.append_nil], by show l.length ≤ a; omega⟩
/-- What is to be known of lines of small items. -/
theorem greedy_plain {l : List It} (h : ItSm l) (hk : l.length ≤ 1000) (room : Int) : ∃ L least, fillR l room 0 = some L ∧ leastR l = some least ∧ wd l 0 l.length = some (ws l 0 l.length) ∧ least ≤ ws l 0 l.length ∧ FillOk l room least 0 L ∧ (ws l 0 l.length ≤ room → L.length ≤ 1) := by
  obtain ⟨least, e1, p1, _, _, p4⟩ := least_spec h hk l.length 0 0 (by omega) (Int.le_refl _) (ws_bnd h 0 l.length).1
  obtain ⟨L, e2, hL⟩ := fill_spec h hk room 0 least (fun a ha hs => p1 a (Nat.zero_le _) ha hs) l.length 0 [] (Nat.zero_le _) (fun _ => .inl rfl) (by omega)
  rw [List.nil_append] at e2
  refine ⟨L, least, e2, e1, wd_ws h hk, p4, hL, fun hr => ?_⟩
  match L, hL with
  | [], _ => simp
  | [_], _ => simp
  | x :: y :: L, hL =>
    obtain ⟨_, _, q3, _, _, _, _, q8, q9⟩ := hL
    obtain ⟨_, r2, r3, _⟩ := q9
    have h1 := q8 (by omega)
    have h2 := ws_in h (a := 0) (seg_up (show x.t < l.length by omega)).2
    omega
end Go.Proofs.Ythofammjbicogaa
