/-
  The laws of layer 12: speaks.
-/
import Derived.Test.YtgmnboacehopfaaYWoB
import Derived.Test.YtgmnboacehopfaaYVaC
namespace Go.Proofs.Ytgmnboacehopfaa
open Go.RowKit
set_option linter.unusedSimpArgs false
set_option linter.unusedVariables false

theorem row_blk {w : World} {b : Nat} {x : Rw} {T : TypeId} (t : Blk w b #[.float .f64 x.w, .float .f64 x.s, .bool x.br] T) : RowV w (some ⟨b, 0, none⟩) 1 3 ([x].flatMap Rw.vals) := by
  refine ⟨rfl, fun _ => ⟨b, 0, rfl, t.lt, fun i hi => ?_⟩⟩
  rw [Nat.zero_add]
  match i, hi with
  | 0, _ => exact t.cell 0 _ rfl
  | 1, _ => exact t.cell 1 _ rfl
  | 2, _ => exact t.cell 2 _ rfl
theorem dw1 (b : Nat) (W : World) (t : Blk W b #[.float .f64 4609434218613702656, .float .f64 9223372036854775808, .bool true] 34) : Calls Try.prog 10 #[.slice (some ⟨b, 0, none⟩) 1 1] W fun e w' => ∃ g off c, e = .returned (.tuple #[.slice (some ⟨g, off, none⟩) 1 c, .int .i64 0]) ∧ w'.cell? ⟨g, off, none⟩ = some (.int .i64 96) ∧ w'.cell? ⟨g, off + 1, none⟩ = some (.int .i64 0) ∧ w'.cell? ⟨g, off + 2, none⟩ = some (.bool true) ∧ g < w'.heap.size ∧ Below W.heap.size W w' := by
  have q := words_decode (some ⟨b, 0, none⟩) 1 1 [⟨4609434218613702656, 9223372036854775808, true⟩] rfl (by omega) (fun x hx => by simp at hx; subst hx; exact ⟨by decide, by decide⟩) W (row_blk (x := ⟨4609434218613702656, 9223372036854775808, true⟩) t)
  refine q.mono fun e w' h => ?_
  obtain ⟨a, m, c, rfl, h1, -, hB⟩ := h
  have hk : ([⟨4609434218613702656, 9223372036854775808, true⟩] : List Rw).all okR = true := by kernel_rfl
  obtain ⟨rfl, o⟩ := h1 (by omega) hk
  have hv : (([⟨4609434218613702656, 9223372036854775808, true⟩] : List Rw).map woF).flatMap Wo.vals = [.int .i64 96, .int .i64 0, .bool true] := by kernel_rfl
  rw [hv] at o
  obtain ⟨g, off, rfl, hg, hc⟩ := o.row.at (i := 0) (by omega)
  have e0 := hc 0 (by omega)
  have e1 := hc 1 (by omega)
  have e2 := hc 2 (by omega)
  exact ⟨g, off, c, by rw [if_neg (by omega), if_pos hk], by simpa using e0, by simpa using e1, by simpa using e2, hg, hB⟩
theorem dw2 (b : Nat) (W : World) (t : Blk W b #[.float .f64 9221120237041090561, .float .f64 0, .bool false] 34) : Calls Try.prog 10 #[.slice (some ⟨b, 0, none⟩) 1 1] W fun e w' => ∃ a c, e = .returned (.tuple #[.slice a 0 c, .int .i64 4]) ∧ Below W.heap.size W w' := by
  have q := words_decode (some ⟨b, 0, none⟩) 1 1 [⟨9221120237041090561, 0, false⟩] rfl (by omega) (fun x hx => by simp at hx; subst hx; exact ⟨by decide, by decide⟩) W (row_blk (x := ⟨9221120237041090561, 0, false⟩) t)
  refine q.mono fun e w' h => ?_
  obtain ⟨a, m, c, rfl, -, h2, hB⟩ := h
  have hk : ([⟨9221120237041090561, 0, false⟩] : List Rw).all okR = false := by kernel_rfl
  obtain rfl := h2 (.inr hk)
  exact ⟨a, c, by rw [if_neg (by omega), if_neg (by rw [hk]; simp)], hB⟩
set_option maxRecDepth 100000 in
set_option maxHeartbeats 1600000 in
theorem math_copy (w : World) : Calls Try.prog 25 #[.float .f64 0, .float .f64 13830554455654793216] w fun e w' => e = .returned (.float .f64 9223372036854775808) ∧ w' = w := by
  have F0 : ∀ w, (callFunc 42 #[.float .f64 0]).run Try.prog w = .ok (.value (.int .u64 0)) w := flo_bits 0
  have F1 : ∀ w, (callFunc 42 #[.float .f64 13830554455654793216]).run Try.prog w = .ok (.value (.int .u64 13830554455654793216)) w := flo_bits 13830554455654793216
  have F2 : ∀ w, (callFunc 9 #[.int .u64 9223372036854775808]).run Try.prog w = .ok (.value (.float .f64 9223372036854775808)) w := flo_from 9223372036854775808
  have b1 : bits .andNot .u64 0 9223372036854775808 = 0 := by kernel_rfl
  have b2 : bits .and .u64 13830554455654793216 9223372036854775808 = 9223372036854775808 := by kernel_rfl
  have b3 : bits .or .u64 0 9223372036854775808 = 9223372036854775808 := by kernel_rfl
  go_enter Try.func25, Try.ntmps25
  go_wp2_with fail
  go_ret
  exact ⟨rfl, rfl⟩
set_option maxRecDepth 100000 in
set_option maxHeartbeats 1600000 in
theorem speaks12 (w : World) : Calls Try.prog 8 #[] w fun e w' => e = .returned (.bool true) ∧ Below w.heap.size w w' := by
  have SF := sto_flo
  go_enter Try.func8, Try.ntmps8
  go_upto_region 2 with (first
    | (go_at_call 25; with_reducible refine (math_copy _).mono ?_; rintro e w1 ⟨rfl, rfl⟩)
    | (go_at_call 10; with_reducible refine (dw1 _ _ (Blk.new _ _ _ _ rfl)).mono ?_; rintro e w2 ⟨g, off, c, rfl, c0, c1, c2, hg, hb2⟩))
  have hB2 := below_step0 hb2
  have hs2 := hB2.size
  have C0 := Lib.hid (show ∀ W, Below w2.heap.size w2 W → W.cell? ⟨g, off, none⟩ = some (.int .i64 96) ∧ W.cell? ⟨g, off + 1, none⟩ = some (.int .i64 0) ∧ W.cell? ⟨g, off + 2, none⟩ = some (.bool true) from fun W h => ⟨(h.cell (p := ⟨g, off, none⟩) hg).trans c0, (h.cell (p := ⟨g, off + 1, none⟩) hg).trans c1, (h.cell (p := ⟨g, off + 2, none⟩) hg).trans c2⟩)
  clear hb2 c0 c1 c2 hg
  go_upto_region 3 with (first
    | (go_at_call 26; with_reducible refine (math_nan _).mono ?_; rintro e w3 ⟨rfl, rfl⟩)
    | (go_at_call 10; with_reducible refine (dw2 _ _ (Blk.new _ _ _ _ rfl)).mono ?_; rintro e w4 ⟨a4, c4, rfl, hb4⟩))
  have hB4 := below_step0 hb4
  obtain ⟨c0, c1, c2⟩ := C0.out w4 hB4
  go_wp2_with fail
  go_ret
  exact ⟨rfl, hB2.trans (hB4.mono hs2)⟩
end Go.Proofs.Ytgmnboacehopfaa
