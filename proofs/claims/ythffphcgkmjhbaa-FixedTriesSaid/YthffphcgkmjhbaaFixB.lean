/-
  The functions of package fixed, each by its contract. Second part: Part, Px, Sub, Add, Try.
-/
import Derived.Test.YthffphcgkmjhbaaFixA
import Derived.Deep.LoopGhost
namespace Go.Proofs.Ythffphcgkmjhbaa
open Go.RowKit
set_option linter.unusedSimpArgs false
set_option linter.unusedVariables false

theorem assert_gave (c : Int) (w : World) : (Instr.typeAssert (Value.iface 154 (.int .i64 c)) 20 154 true).run Try.prog w = .ok (.tuple #[.int .i64 c, .bool true]) w := by kernel_rfl
theorem LenB.fit {n : Int} (h : LenB n) : IFit n := by unfold LenB at h; unfold IFit; omega
set_option maxRecDepth 100000 in
set_option maxHeartbeats 1600000 in
/-- The deferred function of Try, where nothing has given up. -/
theorem fix_try1_idle (p : Addr) (w : World) :
    CallsD Try.prog 117 #[.pointer (some p)] .returning w fun e u' w' => e = .returned (.tuple #[]) ∧ u' = .returning ∧ w' = w := by
  refine callsD_of_wpS Try.func117 rfl fun c₀ cs hu => ?_
  have e0 : (#[Value.pointer (some p)] ++ Array.replicate (Try.f117.ntmps - #[Value.pointer (some p)].size) undef : Array Value) = #[.pointer (some p), undef, undef, undef, undef, undef, undef, undef, undef, undef, undef] := by rw [Try.ntmps117]; rfl
  rw [e0]
  apply wpS_seq
  apply wpS_region
  simp [wpOpsS, go_sem, recoverD, hu, Try.ntmps117, Exit.thenS]
  refine wpS_of_wp ?_
  go_wp2
  cases c₀
  simp_all [bodyPostS, results, Try.results117]
set_option maxRecDepth 100000 in
set_option maxHeartbeats 1600000 in
/-- The deferred function of Try, where something has given up. -/
theorem fix_try1_caught (p : Addr) (c : Int) (older : List PanicEntry) (w : World) (x : Value) (hc : w.cell? p = some x) (hz : w.frozen? p = false) :
    CallsD Try.prog 117 #[.pointer (some p)] (.panicking ({ v := .iface 154 (.int .i64 c), recovered := false } :: older)) w fun e u' w' =>
      e = .returned (.tuple #[]) ∧ u' = .panicking ({ v := .iface 154 (.int .i64 c), recovered := true } :: older) ∧ w' = w.setCell p (.int .i64 c) := by
  refine callsD_of_wpS Try.func117 rfl fun c₀ cs hu => ?_
  have e0 : (#[Value.pointer (some p)] ++ Array.replicate (Try.f117.ntmps - #[Value.pointer (some p)].size) undef : Array Value) = #[.pointer (some p), undef, undef, undef, undef, undef, undef, undef, undef, undef, undef] := by rw [Try.ntmps117]; rfl
  rw [e0]
  apply wpS_seq
  apply wpS_region
  simp [wpOpsS, go_sem, recoverD, hu, Try.ntmps117, Exit.thenS]
  refine wpS_of_wp ?_
  have ha := assert_gave c
  go_wp2
  cases c₀
  simp_all [bodyPostS, results, Try.results117]
set_option maxRecDepth 100000 in
set_option maxHeartbeats 1600000 in
/-- Try: what the function gives up with, or 0. -/
theorem fix_try (F : Nat) (cap : Array Value) (w : World) (R : Int → World → Prop) (hen : ∀ w, (callFunc F cap).run Try.prog w = .ok (.enter F cap) w)
    (h : Calls Try.prog F cap (w.alloc (.cells #[.int .i64 0] 58)) fun e w1 => w1.cell? ⟨w.heap.size, 0, none⟩ = some (.int .i64 0) ∧ w1.frozen? ⟨w.heap.size, 0, none⟩ = false ∧
      ((e = .returned (.tuple #[]) ∧ R 0 w1) ∨ (∃ c, e = .panicked (gave c) ∧ R c w1))) :
    Calls Try.prog 60 #[.func (.func F) #[] cap] w fun e w' => ∃ c w1, R c w1 ∧ e = .returned (.int .i64 c) ∧ w' = w1.setCell ⟨w.heap.size, 0, none⟩ (.int .i64 c) := by
  have hmf : ∀ (fn : Fn) (first cap : Array Value) (w : World), (Instr.makeFunc fn first cap).run Try.prog w = .ok (.func fn first cap) w := fun _ _ _ _ => rfl
  have hnn : ∀ w : World, (binOp BinOp.eql 1 (Value.func (Fn.func F) #[] cap) Value.nilFunc).run Try.prog w = .ok (.bool false) w := fun _ => by kernel_rfl
  go_enter_defers Try.func60, Try.ntmps60
  go_wp2_with fail
  refine h.mono ?_
  rintro e w1 ⟨e1, e2, h1⟩
  have e3 : ∀ v, (w1.setCell ⟨w.heap.size, 0, none⟩ v).cell? ⟨w.heap.size, 0, none⟩ = some v := fun v => World.cell?_setCell_same _ _ v e1
  rcases h1 with ⟨rfl, hR⟩ | ⟨c, rfl, hR⟩
  · go_wp2_with fail
    refine leaves_cons (f := 117) (args := #[.pointer (some ⟨w.heap.size, 0, none⟩)]) (by simp) (by simp [go_sem]) ?_
    refine (fix_try1_idle ⟨w.heap.size, 0, none⟩ _).mono ?_
    rintro e u' w'' ⟨rfl, rfl, rfl⟩
    simp only [Leaves, settle, results, Try.results60]
    simp [go_sem, e3]
    exact ⟨0, w1, hR, rfl, rfl⟩
  · refine leaves_cons (f := 117) (args := #[.pointer (some ⟨w.heap.size, 0, none⟩)]) (by simp) (by simp [go_sem]) ?_
    refine (fix_try1_caught ⟨w.heap.size, 0, none⟩ c [] w1 _ e1 e2).mono ?_
    rintro e u' w'' ⟨rfl, rfl, rfl⟩
    simp only [Leaves, settle, results, Try.results60]
    simp [go_sem, e3]
    simp only [Leaves, results, Try.results60]
    simp [go_sem, e3]
    exact ⟨c, w1, hR, rfl, rfl⟩

set_option maxRecDepth 100000 in
set_option maxHeartbeats 1600000 in
theorem fix_part (a n d : Int) (ha : IFit a) (hn : IFit n) (hd : IFit d) (h0 : d ≠ 0) (hL : LenB (fq (a * n) d)) (w : World) :
    Calls Try.prog 72 #[.int .i64 a, .int .i64 n, .int .i64 d] w fun e w' => e = .returned (.int .i64 (fq (a * n) d)) ∧ Below w.heap.size w w' := by
  have MD := wide_muldiv_fit a n d ha hn hd ⟨h0, hL.fit⟩
  have hne : (d == 0) = false := by simp [h0]
  obtain ⟨F, eF⟩ : ∃ F, fq (a * n) d = F := ⟨_, rfl⟩
  rw [eF] at MD hL ⊢
  have hF := hL.fit
  clear eF h0
  go_enter Try.func72, Try.ntmps72
  go_wp2_with (first
    | (go_at_call 36; with_reducible refine (MD _).mono ?_; rintro e w1 ⟨rfl, hb1⟩)
    | (go_at_call 68; with_reducible refine (fix_of F hF hL _).mono ?_; rintro e w2 ⟨rfl, rfl⟩))
  go_ret
  exact ⟨rfl, hb1⟩
set_option maxRecDepth 100000 in
set_option maxHeartbeats 1600000 in
theorem fix_part_zero (a n : Int) (w : World) :
    Calls Try.prog 72 #[.int .i64 a, .int .i64 n, .int .i64 0] w fun e w' => e = .panicked (gave 3) ∧ w' = w := by
  go_enter Try.func72, Try.ntmps72
  go_wp2_with (go_at_call 62; with_reducible refine (fix_fail3 _).mono ?_; rintro e w2 ⟨rfl, rfl⟩)
  simp [bodyPost]
set_option maxRecDepth 100000 in
set_option maxHeartbeats 1600000 in
theorem fix_part_no (a n d : Int) (ha : IFit a) (hn : IFit n) (hd : IFit d) (h0 : d ≠ 0) (hL : ¬ LenB (fq (a * n) d)) (w : World) :
    Calls Try.prog 72 #[.int .i64 a, .int .i64 n, .int .i64 d] w fun e w' => e = .panicked (gave 2) ∧ Below w.heap.size w w' := by
  have hne : (d == 0) = false := by simp [h0]
  by_cases hF : IFit (fq (a * n) d)
  · have MD := wide_muldiv_fit a n d ha hn hd ⟨h0, hF⟩
    obtain ⟨F, eF⟩ : ∃ F, fq (a * n) d = F := ⟨_, rfl⟩
    rw [eF] at MD hL hF
    clear eF h0
    go_enter Try.func72, Try.ntmps72
    go_wp2_with (first
      | (go_at_call 36; with_reducible refine (MD _).mono ?_; rintro e w1 ⟨rfl, hb1⟩)
      | (go_at_call 68; with_reducible refine (fix_of_no F hF hL _).mono ?_; rintro e w2 ⟨rfl, rfl⟩))
    simp [bodyPost]; exact hb1
  · have MD := wide_muldiv_no a n d ha hn hd (fun x => hF x.2)
    clear h0
    go_enter Try.func72, Try.ntmps72
    go_wp2_with (first
      | (go_at_call 36; with_reducible refine (MD _).mono ?_; rintro e w1 ⟨rfl, hb1⟩)
      | (go_at_call 62; with_reducible refine (fix_fail2 _).mono ?_; rintro e w2 ⟨rfl, rfl⟩))
    simp [bodyPost]; exact hb1
theorem fq_one (a : Int) : fq a 1 = a := by unfold fq; rw [if_neg (by decide), Int.ediv_one]
set_option maxRecDepth 100000 in
set_option maxHeartbeats 1600000 in
theorem fix_px (a : Int) (ha : IFit a) (hL : LenB (a * 64)) (w : World) :
    Calls Try.prog 76 #[.int .i64 a] w fun e w' => e = .returned (.int .i64 (a * 64)) ∧ Below w.heap.size w w' := by
  have PT := fix_part a 64 1 ha (by unfold IFit; omega) (by unfold IFit; omega) (by decide) (by rw [fq_one]; exact hL)
  rw [fq_one] at PT
  obtain ⟨F, eF⟩ : ∃ F, a * 64 = F := ⟨_, rfl⟩
  rw [eF] at PT ⊢
  clear eF hL
  go_enter Try.func76, Try.ntmps76
  go_wp2_with (go_at_call 72; with_reducible refine (PT _).mono ?_; rintro e w1 ⟨rfl, hb1⟩)
  go_ret
  exact ⟨rfl, hb1⟩

/-- A slice's numbers. -/
def IntsAt (w : World) (g off k : Nat) (xs : List Int) : Prop := xs.length = k ∧ (∀ i, i < k → IFit (xs.getD i 0)) ∧ ∀ i, i < k → w.cell? ⟨g, off + i, none⟩ = some (.int .i64 (xs.getD i 0))
/-- The sum, each sum on the way a length. -/
def addS : Int → List Int → Option Int
  | s, [] => some s
  | s, x :: xs => if -17592186044416 ≤ s + clip x ∧ s + clip x ≤ 17592186044416 then addS (s + clip x) xs else none
def AddAns (r : Option Int) (w : World) (e : Ending) (w' : World) : Prop := (match r with | some t => e = .returned (.int .i64 t) | none => e = .panicked (gave 2)) ∧ w' = w
theorem addS_cons_yes {s x : Int} {xs : List Int} (h : LenB (s + clip x)) : addS s (x :: xs) = addS (s + clip x) xs := by rw [addS]; exact if_pos ⟨h.1, h.2⟩
theorem addS_cons_no {s x : Int} {xs : List Int} (h : ¬ LenB (s + clip x)) : addS s (x :: xs) = none := by rw [addS]; exact if_neg (fun x => h ⟨x.1, x.2⟩)
set_option maxRecDepth 100000 in
set_option maxHeartbeats 1600000 in
theorem fix_add (g off k cap : Nat) (xs : List Int) (r : Option Int) (hk : k ≤ 1000000) (hr : addS 0 xs = r) (w : World) (hx : IntsAt w g off k xs) :
    Calls Try.prog 64 #[.slice (some ⟨g, off, none⟩) k cap] w (AddAns r w) := by
  obtain ⟨hl, hf, hc⟩ := hx
  have HL := Lib.hid hl
  have HF := Lib.hid hf
  have HC := Lib.hid hc
  have HR := Lib.hid hr
  clear hl hf hc hr
  go_enter Try.func64, Try.ntmps64
  go_wp2_with fail
  go_loopg [3, 8] k (fun gk s3 s8 wr => ∃ (j : Nat) (s : Int), j ≤ k ∧ gk = k - j ∧ s3 = .int .i64 s ∧ s8 = .int .i64 ((j : Int)) ∧ LenB s ∧ addS s (xs.drop j) = r ∧ w = wr)
  case atStart => exact ⟨0, 0, by omega, by omega, rfl, rfl, by unfold LenB; omega, HR.out, rfl⟩
  case round =>
    obtain ⟨j, s, hj, rfl, rfl, rfl, hs, hd, rfl⟩ := hrel
    have HD := Lib.hid hd
    clear hd
    by_cases hjk : j < k
    · have ix : (j : Int) < (k : Int) := by omega
      have hcx := HC.out j hjk
      have hfx := HF.out j hjk
      obtain ⟨x, ex⟩ : ∃ x, xs.getD j 0 = x := ⟨_, rfl⟩
      have ed : xs.drop j = x :: xs.drop (j + 1) := by
        have : j < xs.length := by rw [HL.out]; exact hjk
        rw [List.drop_eq_getElem_cons this, ← ex]; simp [List.getD, this]
      rw [ex] at hcx hfx
      have HE := Lib.hid ed
      have CL := fix_clipped x hfx
      obtain ⟨y, ey⟩ : ∃ y, clip x = y := ⟨_, rfl⟩
      have y1 := clip_lo x
      have y2 := clip_hi x
      rw [ey] at CL y1 y2
      have hs1 := hs.1
      have hs2 := hs.2
      have EY := Lib.hid ey
      clear ex ed ey
      have ht : IFit (s + y) := by unfold IFit; omega
      by_cases hL : LenB (s + y)
      · go_wp2_with (first
          | (go_at_call 118; with_reducible refine (CL _).mono ?_; rintro e w1 ⟨rfl, rfl⟩)
          | (go_at_call 68; with_reducible refine (fix_of (s + y) ht hL _).mono ?_; rintro e w2 ⟨rfl, rfl⟩))
        go_roundg (k - (j + 1))
        case measure => omega
        case rel => exact ⟨j + 1, s + y, by omega, rfl, rfl, by go_num, hL, by have := HD.out; rw [HE.out, addS_cons_yes (by rw [EY.out]; exact hL), EY.out] at this; exact this, rfl⟩
      · have hr : r = none := by have := HD.out; rw [HE.out, addS_cons_no (by rw [EY.out]; exact hL)] at this; exact this.symm
        have HRN := Lib.hid hr
        clear hr
        go_wp2_with (first
          | (go_at_call 118; with_reducible refine (CL _).mono ?_; rintro e w1 ⟨rfl, rfl⟩)
          | (go_at_call 68; with_reducible refine (fix_of_no (s + y) ht hL _).mono ?_; rintro e w2 ⟨rfl, rfl⟩))
        simp [bodyPost, AddAns, HRN.out]
    · obtain rfl : j = k := by omega
      have ix : ¬ (j : Int) < (j : Int) := by omega
      have hr : r = some s := by have := HD.out; rw [List.drop_eq_nil_of_le (by rw [HL.out]; omega)] at this; exact this.symm
      have HRN := Lib.hid hr
      clear hr
      go_wp2_with fail
      go_ret
      exact ⟨by rw [HRN.out]; rfl, rfl⟩
end Go.Proofs.Ythffphcgkmjhbaa
