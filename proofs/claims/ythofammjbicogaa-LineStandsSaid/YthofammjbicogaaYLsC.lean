/-
  Layer 13: the laws' wide; LineGreedy's closure.
-/
import Derived.Test.YthofammjbicogaaYLsA
import Derived.Test.YthofammjbicogaaYLsB
import Derived.Test.YthofammjbicogaaYLnJ
namespace Go.Proofs.Ythofammjbicogaa
open Go.RowKit
set_option linter.unusedSimpArgs false
set_option linter.unusedVariables false

set_option maxRecDepth 100000 in
set_option maxHeartbeats 1600000 in
theorem law13_wide (ao : Option Addr) (n cap : Nat) (l : List It) (hn : n ≤ 1000) (hl : l.length = n) (hs : ItSm l) (w : World) (hr : RowV w ao n 4 (itV l)) :
    Calls Try.prog 33 #[.slice ao n cap] w fun e w' => e = .returned (.int .i64 (ws l 0 n)) ∧ w' = w := by
  have HL := Lib.hid hl
  have HR := Lib.hid hr
  have HS := Lib.hid hs
  obtain ⟨Q, eQ⟩ : ∃ Q : Ending → World → Prop, Q = fun e w' => e = .returned (.int .i64 (ws l 0 n)) ∧ w' = w := ⟨_, rfl⟩
  rw [← eQ]
  have EQ := Lib.hid eQ
  clear hl hr hs eQ
  go_enter Try.func33, Try.ntmps33
  go_wp2_with fail
  go_loopg [3, 4] n (fun gk s3 s4 wr => ∃ (j : Nat) (t : Int), j ≤ n ∧ gk = n - j ∧ s3 = .int .i64 t ∧ s4 = .int .i64 ((j : Int)) ∧ t = wsF l 0 n j ∧ w = wr)
  case atStart => exact ⟨0, 0, by omega, by omega, rfl, rfl, rfl, rfl⟩
  case round =>
    obtain ⟨j, t, hj, rfl, rfl, rfl, et, rfl⟩ := hrel
    by_cases hjn : j < n
    · have ix : (j : Int) < (n : Int) := by omega
      obtain ⟨g, off, rfl, hg, hcx⟩ := HR.out.at hjn
      have hgv := itV_get l j (by rw [HL.out]; exact hjn)
      have c0 := hcx 0 (by omega)
      have c1 := hcx 1 (by omega)
      rw [hgv.1, Nat.add_zero] at c0
      rw [hgv.2.1] at c1
      have hb := wsF_bnd HS.out 0 n j
      rw [← et] at hb
      have hsj := HS.out j
      have est : wsF l 0 n (j + 1) = t + ((l.getD j it0).w + (if j + 1 < n then (l.getD j it0).s else 0)) := by
        rw [et]
        show wsF l 0 n j + ((l.getD (0 + j) it0).w + (if 0 + j + 1 < n then (l.getD (0 + j) it0).s else 0)) = _
        rw [Nat.zero_add]
      obtain ⟨x, ex⟩ : ∃ x, (l.getD j it0).w = x := ⟨_, rfl⟩
      obtain ⟨y, ey⟩ : ∃ x, (l.getD j it0).s = x := ⟨_, rfl⟩
      rw [ex] at c0 est hsj
      rw [ey] at c1 est hsj
      obtain ⟨⟨x0, x1⟩, ⟨y0, y1⟩, _⟩ := hsj
      obtain ⟨t1, t2⟩ := hb
      have EST := Lib.hid est
      clear hcx hgv ex ey et est
      obtain ⟨u, eu⟩ : ∃ u, t + x = u := ⟨_, rfl⟩
      have hu1 : 0 ≤ u := by omega
      have hu2 : u ≤ 131070 * (j : Int) + 65535 := by omega
      have wu : IntKind.i64.wrap u = u := by simp [IntKind.wrap, IntKind.bits, IntKind.signed]; omega
      by_cases hj1 : j + 1 < n
      · have ij : (j : Int) + 1 < (n : Int) := by omega
        obtain ⟨u2, eu2⟩ : ∃ q, u + y = q := ⟨_, rfl⟩
        have wu2 : IntKind.i64.wrap u2 = u2 := by simp [IntKind.wrap, IntKind.bits, IntKind.signed]; omega
        have e2 : u2 = wsF l 0 n (j + 1) := by rw [EST.out, if_pos hj1]; omega
        have E2 := Lib.hid e2
        clear e2
        go_wp2_with fail
        go_roundg (n - (j + 1))
        case measure => omega
        case rel => exact ⟨j + 1, u2, by omega, rfl, by first | rfl | go_num, by go_num, E2.out, rfl⟩
      · have ij : ¬ (j : Int) + 1 < (n : Int) := by omega
        have e2 : u = wsF l 0 n (j + 1) := by rw [EST.out, if_neg hj1]; omega
        have E2 := Lib.hid e2
        clear e2
        go_wp2_with fail
        go_roundg (n - (j + 1))
        case measure => omega
        case rel => exact ⟨j + 1, u, by omega, rfl, by first | rfl | go_num, by go_num, E2.out, rfl⟩
    · obtain rfl : j = n := by omega
      have ix : ¬ (j : Int) < (j : Int) := by omega
      have ET := Lib.hid et
      clear et
      go_wp2_with fail
      rw [EQ.out]
      exact ⟨by rw [ET.out]; rfl, rfl⟩
end Go.Proofs.Ythofammjbicogaa
