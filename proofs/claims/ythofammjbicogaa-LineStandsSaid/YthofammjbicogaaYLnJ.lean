/-
  The law LineFills.
-/
import Derived.Test.YthofammjbicogaaYLnI
namespace Go.Proofs.Ythofammjbicogaa
open Go.RowKit
set_option linter.unusedSimpArgs false
set_option linter.unusedVariables false

def eL (r : Option (List Ln)) : Int := if r.isSome then 0 else 2
set_option maxRecDepth 100000 in
theorem ln_most (ao : Option Addr) (k cap : Nat) (l : List It) (hk : k ≤ 1000) (hl : l.length = k) (hf : ItFit l) (w : World) (hr : RowV w ao k 4 (itV l)) :
    Calls Try.prog 28 #[.slice ao k cap] w (WdAns (wd l 0 k) w) := by
  have W1 := ln_width ao k cap l hk hl hf w hr
  cases hw : wd l 0 k with
  | none =>
    have W2 := W1.mono fun _ _ h => width_no h hw
    clear W1 hw
    go_enter Try.func28, Try.ntmps28
    go_wp2_with fail
    refine W2.mono ?_
    rintro e w1 ⟨rfl, hb⟩
    go_wp2_with fail
    simp only [bodyPost]
    exact ⟨trivial, WdAns.no rfl hb⟩
  | some s =>
    have W2 := W1.mono fun _ _ h => width_yes h hw
    clear W1 hw
    go_enter Try.func28, Try.ntmps28
    go_wp2_with fail
    refine W2.mono ?_
    rintro e w1 ⟨rfl, hb⟩
    go_wp2_with fail
    go_ret
    exact WdAns.yes rfl hb
def FillRel (b : Nat) (L : List Ln) (B : Nat) (W : World) : Prop :=
  ∃ a c, Blk W b #[.slice a L.length c] 44 ∧ RowV W a L.length 4 (lnV L) ∧ (∀ g off, a = some ⟨g, off, none⟩ → B < g)
theorem FillRel.but {b : Nat} {L : List Ln} {B : Nat} {W W' : World} (h : FillRel b L B W) (hb : But B W W') (h1 : b < B) : FillRel b L B W' := by
  obtain ⟨a, c, q1, q2, q3⟩ := h
  exact ⟨a, c, q1.but hb (by omega), q2.but hb (fun g off e => by have := q3 g off e; omega), q3⟩
section
variable (b7 b4 b5 b9 : Nat) (ao : Option Addr) (k cap : Nat) (l : List It) (avail low : Int)
set_option maxRecDepth 100000 in
set_option maxHeartbeats 1600000 in
theorem fills1_yes (hk : k ≤ 1000) (hcap : k ≤ cap) (hl : l.length = k) (hf : ItFit l) (L : List Ln) (hL : fillR l avail low = some L) (W : World) (hr : RowV W ao k 4 (itV l)) (h7 : Blk W b7 #[.slice ao k cap] 26) (h4 : Blk W b4 #[.int .i64 avail] 2) (h5 : Blk W b5 #[.int .i64 low] 2) (v : Value) (h9 : Blk W b9 #[v] 44) (B : Nat) (hB : B < W.heap.size) (l1 : b9 ≤ B) :
    Calls Try.prog 24 #[.pointer (some ⟨b7, 0, none⟩), .pointer (some ⟨b4, 0, none⟩), .pointer (some ⟨b5, 0, none⟩), .pointer (some ⟨b9, 0, none⟩)] W fun e W' => e = .returned (.tuple #[]) ∧ FillRel b9 L B W' ∧ ButL [b9] W W' := by
  have FL := ln_fill ao k cap avail low l hk hcap hl hf W hr
  rw [hL] at FL
  obtain ⟨Q, eQ⟩ : ∃ Q : Ending → World → Prop, Q = fun e W' => e = .returned (.tuple #[]) ∧ FillRel b9 L B W' ∧ ButL [b9] W W' := ⟨_, rfl⟩
  rw [← eQ]
  have EQ := Lib.hid eQ
  have H9 := Lib.hid h9
  have c7 := h7.cell 0 _ rfl
  have c4 := h4.cell 0 _ rfl
  have c5 := h5.cell 0 _ rfl
  clear eQ hr h7 h4 h5 h9 hL
  go_enter Try.func24, Try.ntmps24
  go_wp2_with fail
  refine FL.mono ?_
  rintro e w1 ⟨s1, -, hb⟩
  obtain ⟨a1, c1, rfl, ho⟩ := s1 _ rfl
  have q9 := H9.out.below hb
  have d9 := q9.cell 0 _ rfl
  have g9 := q9.free 0
  have hfr := ho.from
  have hR : FillRel b9 L B (w1.setCell ⟨b9, 0, none⟩ (.slice a1 L.length c1)) := ⟨a1, c1, q9.set1 rfl _, ho.row.but (But.set _ _ _) (fun g off e => by have := hfr g off e; omega), fun g off e => by have := hfr g off e; omega⟩
  have hT : ButL [b9] W (w1.setCell ⟨b9, 0, none⟩ (.slice a1 L.length c1)) := (ButL.of hb).trans (ButL.set _ _ _ (by simp))
  have HR := Lib.hid hR
  have HT := Lib.hid hT
  clear hR hT hb ho FL s1 q9
  go_wp2_with fail
  go_end0
  rw [EQ.out]
  exact ⟨rfl, HR.out, HT.out⟩
set_option maxRecDepth 100000 in
set_option maxHeartbeats 1600000 in
theorem fills1_no (hk : k ≤ 1000) (hcap : k ≤ cap) (hl : l.length = k) (hf : ItFit l) (hL : fillR l avail low = none) (W : World) (hr : RowV W ao k 4 (itV l)) (h7 : Blk W b7 #[.slice ao k cap] 26) (h4 : Blk W b4 #[.int .i64 avail] 2) (h5 : Blk W b5 #[.int .i64 low] 2) :
    Calls Try.prog 24 #[.pointer (some ⟨b7, 0, none⟩), .pointer (some ⟨b4, 0, none⟩), .pointer (some ⟨b5, 0, none⟩), .pointer (some ⟨b9, 0, none⟩)] W fun e W' => e = .panicked (gave 2) ∧ Below W.heap.size W W' := by
  have FL := ln_fill ao k cap avail low l hk hcap hl hf W hr
  rw [hL] at FL
  have c7 := h7.cell 0 _ rfl
  have c4 := h4.cell 0 _ rfl
  have c5 := h5.cell 0 _ rfl
  clear hr h7 h4 h5 hL
  go_enter Try.func24, Try.ntmps24
  go_wp2_with fail
  refine FL.mono ?_
  rintro e w1 ⟨-, s2, hb⟩
  obtain rfl := s2 rfl
  clear FL s2
  go_wp2_with fail
  simp only [bodyPost]
  refine ⟨trivial, ?_, hb⟩
  first | rfl | trivial
theorem try_fill (hk : k ≤ 1000) (hcap : k ≤ cap) (hl : l.length = k) (hf : ItFit l) (w : World) (hr : RowV w ao k 4 (itV l)) (h7 : Blk w b7 #[.slice ao k cap] 26) (h4 : Blk w b4 #[.int .i64 avail] 2) (h5 : Blk w b5 #[.int .i64 low] 2) (h9 : Blk w b9 #[.slice none 0 0] 44) :
    Calls Try.prog 16 #[.func (.func 24) #[] #[.pointer (some ⟨b7, 0, none⟩), .pointer (some ⟨b4, 0, none⟩), .pointer (some ⟨b5, 0, none⟩), .pointer (some ⟨b9, 0, none⟩)]] w fun e w' => e = .returned (.int .i64 (eL (fillR l avail low))) ∧ FillRel b9 ((fillR l avail low).getD []) w.heap.size w' ∧ ButL [b9] w w' := by
  have hen : ∀ w, (callFunc 24 #[.pointer (some ⟨b7, 0, none⟩), .pointer (some ⟨b4, 0, none⟩), .pointer (some ⟨b5, 0, none⟩), .pointer (some ⟨b9, 0, none⟩)]).run Try.prog w = .ok (.enter 24 #[.pointer (some ⟨b7, 0, none⟩), .pointer (some ⟨b4, 0, none⟩), .pointer (some ⟨b5, 0, none⟩), .pointer (some ⟨b9, 0, none⟩)]) w := fun w => enters_of Try.func24 (by kernel_rfl) rfl _ w
  cases hL : fillR l avail low with
  | some L =>
    have h9l := h9.lt
    refine (try_rel 24 _ 0 [b9] w (FillRel b9 L w.heap.size) (fun b hb => by simp at hb; omega) (fun W W' h hb => h.but hb (by omega)) hen
      (fun W hb hlt => (fills1_yes b7 b4 b5 b9 ao k cap l avail low hk hcap hl hf L hL W (hr.below hb) (h7.below hb) (h4.below hb) (h5.below hb) _ (h9.below hb) w.heap.size hlt (by omega)).mono fun e W' h => ⟨fun _ => ⟨h.1, h.2.1⟩, fun h => absurd rfl h, h.2.2⟩)).mono ?_
    rintro e w' ⟨rfl, h1, h2⟩
    exact ⟨rfl, h1 rfl, h2⟩
  | none =>
    refine (try_rel 24 _ 2 [] w (fun _ => True) (fun b hb => by simp at hb) (fun _ _ _ _ => trivial) hen
      (fun W hb hlt => (fills1_no b7 b4 b5 b9 ao k cap l avail low hk hcap hl hf hL W (hr.below hb) (h7.below hb) (h4.below hb) (h5.below hb)).mono fun e W' h => ⟨fun h => by simp at h, fun _ => h.1, ButL.of h.2⟩)).mono ?_
    rintro e w' ⟨rfl, _, h2⟩
    refine ⟨rfl, ⟨none, 0, h9.butl h2 (by simp), RowV.nil _ _ _, fun g off e => by simp at e⟩, ⟨h2.os, h2.tape, h2.output, h2.size, fun k hk _ => h2.block k hk (by simp)⟩⟩
set_option maxRecDepth 100000 in
set_option maxHeartbeats 1600000 in
theorem fills2 (hk : k ≤ 1000) (hcap : k ≤ cap) (hl : l.length = k) (hf : ItFit l) (b10 : Nat) (W : World) (hr : RowV W ao k 4 (itV l)) (h7 : Blk W b7 #[.slice ao k cap] 26) (v : Value) (h10 : Blk W b10 #[v] 2) :
    Calls Try.prog 25 #[.pointer (some ⟨b7, 0, none⟩), .pointer (some ⟨b10, 0, none⟩)] W (Puts b10 0 (oN (leastR l)) (oE (leastR l)) W) := by
  have FL := ln_least ao k cap l hk hcap hl hf W hr
  have c7 := h7.cell 0 _ rfl
  have H10 := Lib.hid h10
  clear hr h7 h10
  cases hR : leastR l with
  | none =>
    have F2 := FL.mono fun _ _ h => width_no h hR
    clear FL hR
    go_enter Try.func25, Try.ntmps25
    go_wp2_with fail
    refine F2.mono ?_
    rintro e w1 ⟨rfl, hb⟩
    go_wp2_with fail
    simp only [bodyPost]
    exact ⟨trivial, fun h => by simp [oE] at h, fun _ => ⟨rfl, hb⟩⟩
  | some s =>
    have F2 := FL.mono fun _ _ h => width_yes h hR
    clear FL hR
    go_enter Try.func25, Try.ntmps25
    go_wp2_with fail
    refine F2.mono ?_
    rintro e w1 ⟨rfl, hb⟩
    have q := H10.out.below hb
    have q1 := q.cell 0 _ rfl
    have q2 := q.free 0
    have HB := Lib.hid hb
    clear F2 q hb
    go_wp2_with fail
    go_end0
    exact ⟨fun _ => ⟨rfl, w1, HB.out, rfl⟩, fun h => absurd rfl h⟩
set_option maxRecDepth 100000 in
set_option maxHeartbeats 1600000 in
theorem fills3 (hk : k ≤ 1000) (hcap : k ≤ cap) (hl : l.length = k) (hf : ItFit l) (b11 : Nat) (W : World) (hr : RowV W ao k 4 (itV l)) (h7 : Blk W b7 #[.slice ao k cap] 26) (v : Value) (h11 : Blk W b11 #[v] 2) :
    Calls Try.prog 27 #[.pointer (some ⟨b7, 0, none⟩), .pointer (some ⟨b11, 0, none⟩)] W (Puts b11 0 (oN (wd l 0 k)) (oE (wd l 0 k)) W) := by
  have FL := ln_most ao k cap l hk hl hf W hr
  have c7 := h7.cell 0 _ rfl
  have H10 := Lib.hid h11
  clear hr h7 h11
  cases hR : wd l 0 k with
  | none =>
    have F2 := FL.mono fun _ _ h => width_no h hR
    clear FL hR
    go_enter Try.func27, Try.ntmps27
    go_wp2_with fail
    refine F2.mono ?_
    rintro e w1 ⟨rfl, hb⟩
    go_wp2_with fail
    simp only [bodyPost]
    exact ⟨trivial, fun h => by simp [oE] at h, fun _ => ⟨rfl, hb⟩⟩
  | some s =>
    have F2 := FL.mono fun _ _ h => width_yes h hR
    clear FL hR
    go_enter Try.func27, Try.ntmps27
    go_wp2_with fail
    refine F2.mono ?_
    rintro e w1 ⟨rfl, hb⟩
    have q := H10.out.below hb
    have q1 := q.cell 0 _ rfl
    have q2 := q.free 0
    have HB := Lib.hid hb
    clear F2 q hb
    go_wp2_with fail
    go_end0
    exact ⟨fun _ => ⟨rfl, w1, HB.out, rfl⟩, fun h => absurd rfl h⟩
end
theorem puts_cells (r : Option Int) : (if oE r = 0 then (#[.int .i64 0] : Array Value).setIfInBounds 0 (.int .i64 (oN r)) else #[.int .i64 0]) = #[.int .i64 (oN r)] := by
  cases r <;> rfl
/-- What the reference's Fill leaves. -/
theorem r13_fill2 {r : Option (List Ln)} {w : World} {e : Ending} {w' : World} (h : R13Ans r w e w') : ∃ ao c, e = .returned (.tuple #[.slice ao (r.getD []).length c, .int .i64 (eL r)]) ∧ RowV w' ao (r.getD []).length 4 (lnV (r.getD [])) ∧ Below w.heap.size w w' := by
  cases r with
  | none => exact ⟨none, 0, h.2.1 rfl, RowV.nil _ _ _, h.2.2⟩
  | some L =>
    obtain ⟨a, c, e1, e2⟩ := h.1 L rfl
    exact ⟨a, c, e1, e2.row, h.2.2⟩
theorem fillF_len {l : List It} {avail low : Int} : ∀ (d a : Nat) (out L : List Ln), a ≤ l.length → out.length ≤ a → fillF l avail low d a out = some L → L.length ≤ l.length
  | 0, a, out, L, ha, h, hL => by
    obtain rfl : out = L := by simpa [fillF] using hL
    omega
  | d + 1, a, out, L, ha, h, hL => by
    unfold fillF at hL
    split at hL
    · rename_i hal
      split at hL
      · cases hL
      · split at hL
        · cases hL
        · rename_i s hs _ t w2 hx
          have h1 := seg_up hal
          have h2 := ext_up _ _ _ t w2 h1.2 hx
          exact fillF_len d t _ L h2.2 (by rw [List.length_append]; show out.length + 1 ≤ t; omega) hL
    · obtain rfl : out = L := by simpa using hL
      omega
theorem fillR_len (l : List It) (avail low : Int) : ((fillR l avail low).getD []).length ≤ l.length := by
  cases h : fillR l avail low with
  | none => simp
  | some L => exact fillF_len l.length 0 [] L (by omega) (by simp) h
end Go.Proofs.Ythofammjbicogaa
