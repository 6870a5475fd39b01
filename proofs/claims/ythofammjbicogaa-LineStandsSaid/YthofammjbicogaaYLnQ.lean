/-
  Layer 13: Offsets of any line, the program's and the reference's; the law's closure.
-/
import Derived.Test.YthofammjbicogaaYLnP
import Derived.Test.YthofammjbicogaaYLnK
namespace Go.Proofs.Ythofammjbicogaa
open Go.RowKit
set_option linter.unusedSimpArgs false
set_option linter.unusedVariables false

def offP (l : List It) (F T W av tx : Int) : Option (List Int) :=
  if 0 ≤ F ∧ F < T ∧ T ≤ (l.length : Int) then offR l F.toNat T.toNat W av tx else some []
theorem ln_off (ao : Option Addr) (k cap : Nat) (F T W H av tx : Int) (l : List It) (hk : k ≤ 1000) (hcap : k ≤ cap) (hl : l.length = k) (hf : ItFit l) (hW : IFit W) (hav : IFit av) (w : World) (hr : RowV w ao k 4 (itV l)) :
    Calls Try.prog 18 #[.slice ao k cap, .agg #[.int .i64 F, .int .i64 T, .int .i64 W, .int .i64 H], .int .i64 av, .int .i64 tx] w (OffAns (offP l F T W av tx) w) := by
  unfold offP
  rw [hl]
  split
  · rename_i h
    obtain ⟨a, rfl⟩ : ∃ a : Nat, F = (a : Int) := ⟨F.toNat, by omega⟩
    obtain ⟨b, rfl⟩ : ∃ b : Nat, T = (b : Int) := ⟨T.toNat, by omega⟩
    rw [Int.toNat_natCast, Int.toNat_natCast]
    exact ln_offsets_ok ao k cap a b W H av tx l hk hcap hl hf (by omega) (by omega) hW hav w hr
  · rename_i h
    refine (ln_offsets_no ao k cap F T W H av tx (by omega) w).mono ?_
    rintro e w' ⟨rfl, hb⟩
    exact OffAns.yes (L := []) (OwnI.nil _ _) hb
def farP (l : List It) (F T W av : Int) : Prop := (0 ≤ F ∧ F < T ∧ T ≤ (l.length : Int)) ∧ ¬ (LenB av ∧ LenB W)
theorem r13_off_f (ao : Option Addr) (k cap : Nat) (F T W H av tx : Int) (l : List It) (hl : l.length = k) (hW : IFit (-W)) (hav : IFit av) (h : farP l F T W av) (w : World) :
    Calls Try.prog 19 #[.slice ao k cap, .agg #[.int .i64 F, .int .i64 T, .int .i64 W, .int .i64 H], .int .i64 av, .int .i64 tx] w fun e w' => e = .returned (.tuple #[.slice none 0 0, .int .i64 (-1)]) ∧ Below w.heap.size w w' := by
  unfold farP at h
  rw [hl] at h
  obtain ⟨h, hn⟩ := h
  obtain ⟨a, rfl⟩ : ∃ a : Nat, F = (a : Int) := ⟨F.toNat, by omega⟩
  obtain ⟨b, rfl⟩ : ∃ b : Nat, T = (b : Int) := ⟨T.toNat, by omega⟩
  exact r13_off_far ao k cap a b W H av tx (by omega) (by omega) hav hW hn w
theorem r13_off (ao : Option Addr) (k cap : Nat) (F T W H av tx : Int) (l : List It) (hk : k ≤ 1000) (hl : l.length = k) (hf : ItFit l) (h : ¬ farP l F T W av) (w : World) (hr : RowV w ao k 4 (itV l)) :
    Calls Try.prog 19 #[.slice ao k cap, .agg #[.int .i64 F, .int .i64 T, .int .i64 W, .int .i64 H], .int .i64 av, .int .i64 tx] w (ROffAns (offP l F T W av tx) w) := by
  unfold farP at h
  unfold offP
  rw [hl] at h ⊢
  split
  · rename_i h1
    have h2 : LenB av ∧ LenB W := Classical.byContradiction fun x => h ⟨h1, x⟩
    obtain ⟨a, rfl⟩ : ∃ a : Nat, F = (a : Int) := ⟨F.toNat, by omega⟩
    obtain ⟨b, rfl⟩ : ∃ b : Nat, T = (b : Int) := ⟨T.toNat, by omega⟩
    rw [Int.toNat_natCast, Int.toNat_natCast]
    cases hL : lenB (av - W) with
    | true => exact r13_off_yes ao k cap a b W H av tx l hk hl hf (by omega) (by omega) h2.2 h2.1 hL w hr
    | false =>
      refine (r13_off_two ao k cap a b W H av tx (by omega) (by omega) h2.1 h2.2 hL w).mono ?_
      rintro e w' ⟨rfl, hb⟩
      exact ROffAns.no (by unfold offR; rw [hL]; rfl) hb
  · rename_i h1
    refine (r13_off_no ao k cap F T W H av tx (by omega) w).mono ?_
    rintro e w' ⟨rfl, hb⟩
    exact ROffAns.yes (L := []) (OwnI.nil _ _) hb
def eI (r : Option (List Int)) : Int := if r.isSome then 0 else 2
def OffRel (b : Nat) (L : List Int) (B : Nat) (W : World) : Prop :=
  ∃ a c, Blk W b #[.slice a L.length c] 31 ∧ RowI W a L.length L ∧ (∀ g off, a = some ⟨g, off, none⟩ → B < g)
theorem OffRel.but {b : Nat} {L : List Int} {B : Nat} {W W' : World} (h : OffRel b L B W) (hb : But B W W') (h1 : b < B) : OffRel b L B W' := by
  obtain ⟨a, c, q1, q2, q3⟩ := h
  exact ⟨a, c, q1.but hb (by omega), q2.but hb (fun g off e => by have := q3 g off e; omega), q3⟩
section
variable (b3 b1 b5 b6 b7 : Nat) (ao : Option Addr) (k cap : Nat) (l : List It) (v : Value) (F T W av tx wx ax : Int)
set_option maxRecDepth 100000 in
set_option maxHeartbeats 1600000 in
theorem off1_yes (hk : k ≤ 1000) (hcap : k ≤ cap) (hl : l.length = k) (hf : ItFit l) (hW : IFit W) (hav : IFit av) (L : List Int) (hL : offP l F T W av tx = some L) (w : World) (hr : RowV w ao k 4 (itV l)) (h3 : Blk w b3 #[.slice ao k cap] 26) (h1 : Blk w b1 #[v, .int .i64 F, .int .i64 T, .int .i64 wx, .int .i64 ax, .int .i64 tx] 24) (h5 : Blk w b5 #[.int .i64 W] 2) (h6 : Blk w b6 #[.int .i64 av] 2) (u : Value) (h7 : Blk w b7 #[u] 31) (B : Nat) (hB : B < w.heap.size) (l1 : b7 ≤ B) :
    Calls Try.prog 17 #[.pointer (some ⟨b3, 0, none⟩), .pointer (some ⟨b1, 0, none⟩), .pointer (some ⟨b5, 0, none⟩), .pointer (some ⟨b6, 0, none⟩), .pointer (some ⟨b7, 0, none⟩)] w fun e W' => e = .returned (.tuple #[]) ∧ OffRel b7 L B W' ∧ ButL [b7] w W' := by
  have FL := ln_off ao k cap F T W 0 av tx l hk hcap hl hf hW hav w hr
  rw [hL] at FL
  obtain ⟨Q, eQ⟩ : ∃ Q : Ending → World → Prop, Q = fun e W' => e = .returned (.tuple #[]) ∧ OffRel b7 L B W' ∧ ButL [b7] w W' := ⟨_, rfl⟩
  rw [← eQ]
  have EQ := Lib.hid eQ
  have H9 := Lib.hid h7
  have c3 := h3.cell 0 _ rfl
  have c1 := h1.cell 1 _ rfl
  have c2 := h1.cell 2 _ rfl
  have c5 := h1.cell 5 _ rfl
  have c5' := h5.cell 0 _ rfl
  have c6 := h6.cell 0 _ rfl
  clear eQ hr h7 h3 h1 h5 h6 hL
  go_enter Try.func17, Try.ntmps17
  go_wp2_with fail
  refine FL.mono ?_
  rintro e w1 ⟨s1, -, hb⟩
  obtain ⟨a1, c1, rfl, ho⟩ := s1 _ rfl
  have q9 := H9.out.below hb
  have d9 := q9.cell 0 _ rfl
  have g9 := q9.free 0
  have hfr := ho.from
  have hR : OffRel b7 L B (w1.setCell ⟨b7, 0, none⟩ (.slice a1 L.length c1)) := ⟨a1, c1, q9.set1 rfl _, ho.row.but (But.set _ _ _) (fun g off e => by have := hfr g off e; omega), fun g off e => by have := hfr g off e; omega⟩
  have hT : ButL [b7] w (w1.setCell ⟨b7, 0, none⟩ (.slice a1 L.length c1)) := (ButL.of hb).trans (ButL.set _ _ _ (by simp))
  have HR := Lib.hid hR
  have HT := Lib.hid hT
  clear hR hT hb ho FL s1 q9
  go_wp2_with fail
  go_end0
  rw [EQ.out]
  exact ⟨rfl, HR.out, HT.out⟩
set_option maxRecDepth 100000 in
set_option maxHeartbeats 1600000 in
theorem off1_no (hk : k ≤ 1000) (hcap : k ≤ cap) (hl : l.length = k) (hf : ItFit l) (hW : IFit W) (hav : IFit av) (hL : offP l F T W av tx = none) (w : World) (hr : RowV w ao k 4 (itV l)) (h3 : Blk w b3 #[.slice ao k cap] 26) (h1 : Blk w b1 #[v, .int .i64 F, .int .i64 T, .int .i64 wx, .int .i64 ax, .int .i64 tx] 24) (h5 : Blk w b5 #[.int .i64 W] 2) (h6 : Blk w b6 #[.int .i64 av] 2) :
    Calls Try.prog 17 #[.pointer (some ⟨b3, 0, none⟩), .pointer (some ⟨b1, 0, none⟩), .pointer (some ⟨b5, 0, none⟩), .pointer (some ⟨b6, 0, none⟩), .pointer (some ⟨b7, 0, none⟩)] w fun e W' => e = .panicked (gave 2) ∧ Below w.heap.size w W' := by
  have FL := ln_off ao k cap F T W 0 av tx l hk hcap hl hf hW hav w hr
  rw [hL] at FL
  have c3 := h3.cell 0 _ rfl
  have c1 := h1.cell 1 _ rfl
  have c2 := h1.cell 2 _ rfl
  have c5 := h1.cell 5 _ rfl
  have c5' := h5.cell 0 _ rfl
  have c6 := h6.cell 0 _ rfl
  clear hr h3 h1 h5 h6 hL
  go_enter Try.func17, Try.ntmps17
  go_wp2_with fail
  refine FL.mono ?_
  rintro e w1 ⟨-, s2, hb⟩
  obtain rfl := s2 rfl
  clear FL s2
  go_wp2_with fail
  simp only [bodyPost]
  refine ⟨trivial, ?_, hb⟩
  first | rfl | trivial
theorem try_off (hk : k ≤ 1000) (hcap : k ≤ cap) (hl : l.length = k) (hf : ItFit l) (hW : IFit W) (hav : IFit av) (w : World) (hr : RowV w ao k 4 (itV l)) (h3 : Blk w b3 #[.slice ao k cap] 26) (h1 : Blk w b1 #[v, .int .i64 F, .int .i64 T, .int .i64 wx, .int .i64 ax, .int .i64 tx] 24) (h5 : Blk w b5 #[.int .i64 W] 2) (h6 : Blk w b6 #[.int .i64 av] 2) (h7 : Blk w b7 #[.slice none 0 0] 31) :
    Calls Try.prog 16 #[.func (.func 17) #[] #[.pointer (some ⟨b3, 0, none⟩), .pointer (some ⟨b1, 0, none⟩), .pointer (some ⟨b5, 0, none⟩), .pointer (some ⟨b6, 0, none⟩), .pointer (some ⟨b7, 0, none⟩)]] w fun e w' => e = .returned (.int .i64 (eI (offP l F T W av tx))) ∧ OffRel b7 ((offP l F T W av tx).getD []) w.heap.size w' ∧ ButL [b7] w w' := by
  have hen : ∀ w, (callFunc 17 #[.pointer (some ⟨b3, 0, none⟩), .pointer (some ⟨b1, 0, none⟩), .pointer (some ⟨b5, 0, none⟩), .pointer (some ⟨b6, 0, none⟩), .pointer (some ⟨b7, 0, none⟩)]).run Try.prog w = .ok (.enter 17 #[.pointer (some ⟨b3, 0, none⟩), .pointer (some ⟨b1, 0, none⟩), .pointer (some ⟨b5, 0, none⟩), .pointer (some ⟨b6, 0, none⟩), .pointer (some ⟨b7, 0, none⟩)]) w := fun w => enters_of Try.func17 (by kernel_rfl) rfl _ w
  cases hL : offP l F T W av tx with
  | some L =>
    have h7l := h7.lt
    refine (try_rel 17 _ 0 [b7] w (OffRel b7 L w.heap.size) (fun b hb => by simp at hb; omega) (fun W W' h hb => h.but hb (by omega)) hen
      (fun W' hb hlt => (off1_yes b3 b1 b5 b6 b7 ao k cap l v F T W av tx wx ax hk hcap hl hf hW hav L hL W' (hr.below hb) (h3.below hb) (h1.below hb) (h5.below hb) (h6.below hb) _ (h7.below hb) w.heap.size hlt (by omega)).mono fun e W' h => ⟨fun _ => ⟨h.1, h.2.1⟩, fun h => absurd rfl h, h.2.2⟩)).mono ?_
    rintro e w' ⟨rfl, h1, h2⟩
    exact ⟨rfl, h1 rfl, h2⟩
  | none =>
    refine (try_rel 17 _ 2 [] w (fun _ => True) (fun b hb => by simp at hb) (fun _ _ _ _ => trivial) hen
      (fun W' hb hlt => (off1_no b3 b1 b5 b6 b7 ao k cap l v F T W av tx wx ax hk hcap hl hf hW hav hL W' (hr.below hb) (h3.below hb) (h1.below hb) (h5.below hb) (h6.below hb)).mono fun e W' h => ⟨fun h => by simp at h, fun _ => h.1, ButL.of h.2⟩)).mono ?_
    rintro e w' ⟨rfl, _, h2⟩
    refine ⟨rfl, ⟨none, 0, h7.butl h2 (by simp), RowI.nil _ _, fun g off e => by simp at e⟩, ⟨h2.os, h2.tape, h2.output, h2.size, fun k hk _ => h2.block k hk (by simp)⟩⟩
end
end Go.Proofs.Ythofammjbicogaa
