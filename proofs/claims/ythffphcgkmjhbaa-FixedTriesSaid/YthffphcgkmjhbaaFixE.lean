/-
  Try where a panic of another kind goes through; the law's 'caught'.
-/
import Derived.Test.YthffphcgkmjhbaaFixC
namespace Go.Proofs.Ythffphcgkmjhbaa
open Go.RowKit
set_option linter.unusedSimpArgs false
set_option linter.unusedVariables false

/-- A panic with a text. -/
def textPanic (s : ByteArray) (r : Bool) : PanicEntry := { v := .iface 9 (.string s), recovered := r }
theorem assert_text (s : ByteArray) (w : World) : (Instr.typeAssert (Value.iface 9 (.string s)) 20 154 true).run Try.prog w = .ok (.tuple #[.int .i64 0, .bool false]) w := by kernel_rfl
set_option maxRecDepth 100000 in
set_option maxHeartbeats 1600000 in
/-- The deferred function of Try, where a text goes through. -/
theorem fix_try1_text (p : Addr) (s : ByteArray) (older : List PanicEntry) (w : World) :
    CallsD Try.prog 117 #[.pointer (some p)] (.panicking (textPanic s false :: older)) w fun e u' w' =>
      e = .panicked [textPanic s false] ∧ u' = .panicking (textPanic s true :: older) ∧ w' = w := by
  refine callsD_of_wpS Try.func117 rfl fun c₀ cs hu => ?_
  have e0 : (#[Value.pointer (some p)] ++ Array.replicate (Try.f117.ntmps - #[Value.pointer (some p)].size) undef : Array Value) = #[.pointer (some p), undef, undef, undef, undef, undef, undef, undef, undef, undef, undef] := by rw [Try.ntmps117]; rfl
  rw [e0]
  apply wpS_seq
  apply wpS_region
  unfold textPanic at hu ⊢
  simp [wpOpsS, go_sem, recoverD, hu, Try.ntmps117, Exit.thenS]
  refine wpS_of_wp ?_
  have ha := assert_text s
  go_wp2
  cases c₀
  simp_all [bodyPostS, results, Try.results117]
set_option maxRecDepth 100000 in
set_option maxHeartbeats 1600000 in
/-- Try over a function that panics with a text: it goes on. -/
theorem fix_try_text (F : Nat) (cap : Array Value) (s : ByteArray) (older : List PanicEntry) (w : World) (R : World → Prop) (hen : ∀ w, (callFunc F cap).run Try.prog w = .ok (.enter F cap) w)
    (h : Calls Try.prog F cap (w.alloc (.cells #[.int .i64 0] 58)) fun e w1 => e = .panicked (textPanic s false :: older) ∧ R w1) :
    Calls Try.prog 60 #[.func (.func F) #[] cap] w fun e w' => e = .panicked (textPanic s false :: textPanic s true :: older) ∧ R w' := by
  have hmf : ∀ (fn : Fn) (first cap : Array Value) (w : World), (Instr.makeFunc fn first cap).run Try.prog w = .ok (.func fn first cap) w := fun _ _ _ _ => rfl
  have hnn : ∀ w : World, (binOp BinOp.eql 1 (Value.func (Fn.func F) #[] cap) Value.nilFunc).run Try.prog w = .ok (.bool false) w := fun _ => by kernel_rfl
  go_enter_defers Try.func60, Try.ntmps60
  go_wp2_with fail
  refine h.mono ?_
  rintro e w1 ⟨rfl, hR⟩
  refine leaves_cons (f := 117) (args := #[.pointer (some ⟨w.heap.size, 0, none⟩)]) (by simp) (by simp [go_sem]) ?_
  refine (fix_try1_text ⟨w.heap.size, 0, none⟩ s older w1).mono ?_
  rintro e u' w'' ⟨rfl, rfl, rfl⟩
  simp only [raised, Leaves]
  exact ⟨rfl, hR⟩
set_option maxRecDepth 100000 in
set_option maxHeartbeats 1600000 in
theorem fix_try_nil (w : World) : Calls Try.prog 60 #[.nilFunc] w fun e w' => e = .returned (.int .i64 1) ∧ Below w.heap.size w w' := by
  have hnn : ∀ w : World, (binOp BinOp.eql 1 Value.nilFunc Value.nilFunc).run Try.prog w = .ok (.bool true) w := fun _ => by kernel_rfl
  go_enter_defers Try.func60, Try.ntmps60
  go_wp2_with fail
  simp [bodyPostD, Leaves, results, Try.results60, go_sem]
  exact (by repeat' (first | (with_reducible exact Below.refl _ _) | (with_reducible assumption) | (with_reducible refine below_alloc ?_ _ ?_) | (with_reducible refine below_set _ ?_ ?_) | (with_reducible refine Below.drew ?_) | (with_reducible refine below_dN ?_ _) | (apply below_thenA; assumption) | omega | (simp; done) | (simp; omega) | (simp [*]; done)))
set_option maxRecDepth 100000 in
set_option maxHeartbeats 1600000 in
/-- The deferred function of 'caught'. -/
theorem caught1_idle (p : Addr) (w : World) (x : Value) (hc : w.cell? p = some x) (hz : w.frozen? p = false) :
    CallsD Try.prog 116 #[.pointer (some p)] .returning w fun e u' w' => e = .returned (.tuple #[]) ∧ u' = .returning ∧ w' = w.setCell p .nilIface := by
  refine callsD_of_wpS Try.func116 rfl fun c₀ cs hu => ?_
  have e0 : (#[Value.pointer (some p)] ++ Array.replicate (Try.f116.ntmps - #[Value.pointer (some p)].size) undef : Array Value) = #[.pointer (some p), undef] := by rw [Try.ntmps116]; rfl
  rw [e0]
  apply wpS_region
  simp [wpOpsS, go_sem, recoverD, hu, Try.ntmps116, Exit.thenS, hc, hz]
  cases c₀
  simp_all [bodyPostS, results, Try.results116]
set_option maxRecDepth 100000 in
set_option maxHeartbeats 1600000 in
theorem caught1_text (p : Addr) (s : ByteArray) (older : List PanicEntry) (w : World) (x : Value) (hc : w.cell? p = some x) (hz : w.frozen? p = false) :
    CallsD Try.prog 116 #[.pointer (some p)] (.panicking (textPanic s false :: older)) w fun e u' w' =>
      e = .returned (.tuple #[]) ∧ u' = .panicking (textPanic s true :: older) ∧ w' = w.setCell p (.iface 9 (.string s)) := by
  refine callsD_of_wpS Try.func116 rfl fun c₀ cs hu => ?_
  have e0 : (#[Value.pointer (some p)] ++ Array.replicate (Try.f116.ntmps - #[Value.pointer (some p)].size) undef : Array Value) = #[.pointer (some p), undef] := by rw [Try.ntmps116]; rfl
  rw [e0]
  apply wpS_region
  unfold textPanic at hu ⊢
  simp [wpOpsS, go_sem, recoverD, hu, Try.ntmps116, Exit.thenS, hc, hz]
  cases c₀
  simp_all [bodyPostS, results, Try.results116]
end Go.Proofs.Ythffphcgkmjhbaa
