/-
  LineStands: the closure of Fill; both closures under Try.
-/
import Derived.Test.YthofammjbicogaaYLsG
namespace Go.Proofs.Ythofammjbicogaa
open Go.RowKit
set_option linter.unusedSimpArgs false
set_option linter.unusedVariables false

set_option maxRecDepth 100000 in
set_option maxHeartbeats 1600000 in
theorem sta1 (b7 b4 b9 : Nat) (ao : Option Addr) (k cap : Nat) (l : List It) (avail : Int) (hk : k ≤ 1000) (hcap : k ≤ cap) (hl : l.length = k) (hf : ItFit l) (L : List Ln) (hL : fillR l avail 0 = some L) (W : World) (hr : RowV W ao k 4 (itV l)) (h7 : Blk W b7 #[.slice ao k cap] 26) (h4 : Blk W b4 #[.int .i64 avail] 2) (v : Value) (h9 : Blk W b9 #[v] 44) (B : Nat) (hB : B < W.heap.size) (l1 : b9 ≤ B) :
    Calls Try.prog 21 #[.pointer (some ⟨b7, 0, none⟩), .pointer (some ⟨b4, 0, none⟩), .pointer (some ⟨b9, 0, none⟩)] W fun e W' => e = .returned (.tuple #[]) ∧ FillRel b9 L B W' ∧ ButL [b9] W W' := by
  have FL := ln_fill ao k cap avail 0 l hk hcap hl hf W hr
  rw [hL] at FL
  obtain ⟨Q, eQ⟩ : ∃ Q : Ending → World → Prop, Q = fun e W' => e = .returned (.tuple #[]) ∧ FillRel b9 L B W' ∧ ButL [b9] W W' := ⟨_, rfl⟩
  rw [← eQ]
  have EQ := Lib.hid eQ
  have H9 := Lib.hid h9
  have c7 := h7.cell 0 _ rfl
  have c4 := h4.cell 0 _ rfl
  clear eQ hr h7 h4 h9 hL
  go_enter Try.func21, Try.ntmps21
  go_wp2_with fail
  refine FL.mono ?_
  rintro e w1 ⟨s1, -, hb⟩
  obtain ⟨a1, c1, rfl, ho⟩ := s1 _ rfl
  have q9 := H9.out.below hb
  have d9 := q9.cell 0 _ rfl
  have g9 := q9.free 0
  have hfr := ho.from
  have hR : FillRel b9 L B (w1.setCell ⟨b9, 0, none⟩ (.slice a1 L.length c1)) := ⟨a1, c1, q9.set1 rfl _, ho.row.but (But.set _ _ _) (fun g off e => by have := hfr g off e; omega), fun g off e => by have := hfr g off e; omega⟩
  have hT : ButL [b9] W (w1.setCell ⟨b9, 0, none⟩ (.slice a1 L.length c1)) := (ButL.of hb).trans (ButL.set _ _ _ (by simp))
  have HR := Lib.hid hR
  have HT := Lib.hid hT
  clear hR hT hb ho FL s1 q9
  go_wp2_with fail
  go_end0
  rw [EQ.out]
  exact ⟨rfl, HR.out, HT.out⟩
theorem try_sta1 (b7 b4 b9 : Nat) (ao : Option Addr) (k cap : Nat) (l : List It) (avail : Int) (hk : k ≤ 1000) (hcap : k ≤ cap) (hl : l.length = k) (hf : ItFit l) (L : List Ln) (hL : fillR l avail 0 = some L) (w : World) (hr : RowV w ao k 4 (itV l)) (h7 : Blk w b7 #[.slice ao k cap] 26) (h4 : Blk w b4 #[.int .i64 avail] 2) (v : Value) (h9 : Blk w b9 #[v] 44) :
    Calls Try.prog 16 #[.func (.func 21) #[] #[.pointer (some ⟨b7, 0, none⟩), .pointer (some ⟨b4, 0, none⟩), .pointer (some ⟨b9, 0, none⟩)]] w fun e w' => e = .returned (.int .i64 0) ∧ FillRel b9 L w.heap.size w' ∧ ButL [b9] w w' := by
  have h9l := h9.lt
  refine (try_rel 21 _ 0 [b9] w (FillRel b9 L w.heap.size) (fun b hb => by simp at hb; omega) (fun W W' h hb => h.but hb (by omega)) (fun w => enters_of Try.func21 (by kernel_rfl) rfl _ w)
    (fun W hb hlt => (sta1 b7 b4 b9 ao k cap l avail hk hcap hl hf L hL W (hr.below hb) (h7.below hb) (h4.below hb) _ (h9.below hb) w.heap.size hlt (by omega)).mono fun e W' h => ⟨fun _ => ⟨h.1, h.2.1⟩, fun h => absurd rfl h, h.2.2⟩)).mono ?_
  rintro e w' ⟨rfl, h1, h2⟩
  exact ⟨rfl, h1 rfl, h2⟩
theorem try_sta2 (b0 b1 b2 b3 b4 b5 b6 : Nat) (ao : Option Addr) (k cap : Nat) (l : List It) (F T ww hh room text more : Int) (LA LB : List Int) (hm0 : 0 ≤ more) (hm1 : more ≤ 255) (hr0 : 0 ≤ room) (hr1 : room ≤ 65535)
    (OA : ∀ W, RowV W ao k 4 (itV l) → Calls Try.prog 18 #[.slice ao k cap, .agg #[.int .i64 F, .int .i64 T, .int .i64 ww, .int .i64 hh], .int .i64 room, .int .i64 text] W (OffAns (some LA) W))
    (OB : ∀ W, RowV W ao k 4 (itV l) → Calls Try.prog 18 #[.slice ao k cap, .agg #[.int .i64 F, .int .i64 T, .int .i64 ww, .int .i64 hh], .int .i64 (room + more), .int .i64 text] W (OffAns (some LB) W))
    (m0 : b0 ≠ b5) (m1 : b1 ≠ b5) (m2 : b2 ≠ b5) (m3 : b3 ≠ b5) (m4 : b4 ≠ b5) (n0 : b0 ≠ b6) (n1 : b1 ≠ b6) (n2 : b2 ≠ b6) (n3 : b3 ≠ b6) (n4 : b4 ≠ b6) (n56 : b5 ≠ b6) (w : World) (hao : ∀ g off, ao = some ⟨g, off, none⟩ → g ≠ b5 ∧ g ≠ b6)
    (hG : StaB b0 b1 b2 b3 b4 b5 b6 ao k cap l F T ww hh room text more w w) :
    Calls Try.prog 16 #[.func (.func 23) #[] #[.pointer (some ⟨b0, 0, none⟩), .pointer (some ⟨b1, 0, none⟩), .pointer (some ⟨b2, 0, none⟩), .pointer (some ⟨b3, 0, none⟩), .pointer (some ⟨b4, 0, none⟩), .pointer (some ⟨b5, 0, none⟩), .pointer (some ⟨b6, 0, none⟩)]] w fun e w' => e = .returned (.int .i64 0) ∧ (OffRel b5 LA w.heap.size w' ∧ OffRel b6 LB w.heap.size w') ∧ ButL [b5, b6] w w' := by
  obtain ⟨v5, h5⟩ := hG.t5
  obtain ⟨v6, h6⟩ := hG.t6
  have l5 := h5.lt
  have l6 := h6.lt
  refine (try_rel 23 _ 0 [b5, b6] w (fun W => OffRel b5 LA w.heap.size W ∧ OffRel b6 LB w.heap.size W) (fun b hb => by simp at hb; omega) (fun W W' h hb => ⟨h.1.but hb (by omega), h.2.but hb (by omega)⟩) (fun w => enters_of Try.func23 (by kernel_rfl) rfl _ w)
    (fun W hb hlt => (sta2 b0 b1 b2 b3 b4 b5 b6 ao k cap l F T ww hh room text more LA LB hm0 hm1 hr0 hr1 OA OB m0 m1 m2 m3 m4 n0 n1 n2 n3 n4 n56 w.heap.size W hlt (by omega) (by omega) hao ⟨ButL.of (Below.refl _ _), hG.t0.below hb, hG.t1.below hb, hG.t2.below hb, hG.t3.below hb, hG.t4.below hb, hG.row.below hb, ⟨v5, h5.below hb⟩, v6, h6.below hb⟩).mono fun e W' h => ⟨fun _ => ⟨h.1, h.2.1⟩, fun h => absurd rfl h, h.2.2⟩)).mono ?_
  rintro e w' ⟨rfl, h1, h2⟩
  exact ⟨rfl, h1 rfl, h2⟩
end Go.Proofs.Ythofammjbicogaa
