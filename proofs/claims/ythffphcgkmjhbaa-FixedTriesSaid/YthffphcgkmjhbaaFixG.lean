/-
  The statement FixedTries: 'caught'; its closures.
-/
import Derived.Test.YthffphcgkmjhbaaFixE
namespace Go.Proofs.Ythffphcgkmjhbaa
open Go.RowKit
set_option linter.unusedSimpArgs false
set_option linter.unusedVariables false

set_option maxRecDepth 100000 in
set_option maxHeartbeats 1600000 in
theorem caught_calm (F : Nat) (cap : Array Value) (c : Int) (w : World) (R : World → Prop) 
    (h : Calls Try.prog 60 #[.func (.func F) #[] cap] (w.alloc (.cells #[.nilIface] 20)) fun e w1 => e = .returned (.int .i64 c) ∧ R w1 ∧ Blk w1 w.heap.size #[.nilIface] 20) :
    Calls Try.prog 58 #[.func (.func F) #[] cap] w fun e w' => ∃ w1, R w1 ∧ e = .returned (.tuple #[.nilIface, .int .i64 c]) ∧ But w.heap.size w1 w' := by
  have hmf : ∀ (fn : Fn) (first cap : Array Value) (w : World), (Instr.makeFunc fn first cap).run Try.prog w = .ok (.func fn first cap) w := fun _ _ _ _ => rfl
  go_enter_defers Try.func58, Try.ntmps58
  go_wp2_with fail
  refine h.mono ?_
  rintro e w1 ⟨rfl, hR, hb⟩
  have e1 := hb.cell 0 _ rfl
  have e2 := hb.free 0
  go_wp2_with fail
  have hb2 := hb.set 0 .nilIface
  refine leaves_cons (f := 116) (args := #[.pointer (some ⟨w.heap.size, 0, none⟩)]) (by simp) (by simp [go_sem]) ?_
  refine (caught1_idle ⟨w.heap.size, 0, none⟩ _ _ (hb2.cell 0 _ rfl) (hb2.free 0)).mono ?_
  rintro e u' w'' ⟨rfl, rfl, rfl⟩
  have e3 := (hb2.set 0 .nilIface).cell 0 _ rfl
  simp only [Leaves, settle, results, Try.results58]
  simp [go_sem, e3]
  exact ⟨w1, hR, (But.set _ _ _).trans (But.set _ _ _)⟩
set_option maxRecDepth 100000 in
set_option maxHeartbeats 1600000 in
theorem caught_text (F : Nat) (cap : Array Value) (s : ByteArray) (w : World) (R : World → Prop)
    (h : Calls Try.prog 60 #[.func (.func F) #[] cap] (w.alloc (.cells #[.nilIface] 20)) fun e w1 => e = .panicked [textPanic s false, textPanic s true, textPanic s true] ∧ R w1 ∧ Blk w1 w.heap.size #[.nilIface] 20) :
    Calls Try.prog 58 #[.func (.func F) #[] cap] w fun e w' => ∃ w1, R w1 ∧ e = .returned (.tuple #[.iface 9 (.string s), .int .i64 0]) ∧ But w.heap.size w1 w' := by
  have hmf : ∀ (fn : Fn) (first cap : Array Value) (w : World), (Instr.makeFunc fn first cap).run Try.prog w = .ok (.func fn first cap) w := fun _ _ _ _ => rfl
  go_enter_defers Try.func58, Try.ntmps58
  go_wp2_with fail
  refine h.mono ?_
  rintro e w1 ⟨rfl, hR, hb⟩
  refine leaves_cons (f := 116) (args := #[.pointer (some ⟨w.heap.size, 0, none⟩)]) (by simp) (by simp [go_sem]) ?_
  refine (caught1_text ⟨w.heap.size, 0, none⟩ s _ w1 _ (hb.cell 0 _ rfl) (hb.free 0)).mono ?_
  rintro e u' w'' ⟨rfl, rfl, rfl⟩
  have e3 := (hb.set 0 (.iface 9 (.string s))).cell 0 _ rfl
  simp only [Leaves, settle, textPanic, List.dropWhile, results, Try.results58]
  simp [go_sem, e3, Leaves, results, Try.results58]
  exact ⟨w1, hR, But.set _ _ _⟩
def triesC (r inner : Int) : Int := if r = 1 then inner else 0
def triesS (r inner : Int) : Int := if triesC r inner = 0 then 12 else 2
section
variable (what inner outer r : Int) (word : ByteArray) (bs bw bi bd bn bo : Nat) (W : World)
set_option maxRecDepth 100000 in
set_option maxHeartbeats 1600000 in
theorem tries11 (hr : what.tmod 3 = r) (h2 : r = 0 ∨ r = 1)
    (t0 : Blk W bs #[.int .i64 1] 3) (t1 : Blk W bw #[.int .u8 what] 5) (t2 : Blk W bi #[.int .i64 inner] 3) (t3 : Blk W bd #[.string word] 9) (n1 : bw ≠ bs) (n2 : bi ≠ bs) :
    Calls Try.prog 61 #[.pointer (some ⟨bs, 0, none⟩), .pointer (some ⟨bw, 0, none⟩), .pointer (some ⟨bi, 0, none⟩), .pointer (some ⟨bd, 0, none⟩)] W fun e W' =>
      (triesC r inner = 0 → e = .returned (.tuple #[])) ∧ (triesC r inner ≠ 0 → e = .panicked (gave (triesC r inner))) ∧ BlkL W' [(bs, #[.int .i64 (triesS r inner)], 3)] ∧ ButL [bs] W W' := by
  have c0 := t0.cell 0 _ rfl
  have f0 := t0.free 0
  have t0' := t0.set 0 (.int .i64 2)
  have d0 := t0'.cell 0 _ rfl
  have g0 := t0'.free 0
  have d1 := (t1.other n1 0 (.int .i64 2)).cell 0 _ rfl
  have d2 := (t2.other n2 0 (.int .i64 2)).cell 0 _ rfl
  have hb := ButL.set (l := [bs]) (b := bs) W 0 (.int .i64 2) (by simp)
  have hb2 := hb.trans (ButL.set (l := [bs]) (b := bs) _ 0 (.int .i64 12) (by simp))
  have t0'' := t0'.set 0 (.int .i64 12)
  have HB := Lib.hid hb
  have HB2 := Lib.hid hb2
  have T := Lib.hid t0'
  have T2 := Lib.hid t0''
  clear hb hb2 t0' t0'' t1 t2 t3 n1 n2 t0
  rcases h2 with rfl | rfl
  · have e1 : triesC 0 inner = 0 := rfl
    have e2 : triesS 0 inner = 12 := rfl
    rw [e1, e2]
    clear e1 e2
    go_enter Try.func61, Try.ntmps61
    go_wp2_with fail
    go_end0
    refine ⟨(fun _ => rfl), (fun h => absurd rfl h), ?_, HB2.out⟩
    intro e he
    simp at he
    subst he
    exact T2.out
  · by_cases hi : inner = 0
    · subst hi
      have e1 : triesC 1 0 = 0 := rfl
      have e2 : triesS 1 0 = 12 := rfl
      rw [e1, e2]
      clear e1 e2
      go_enter Try.func61, Try.ntmps61
      go_wp2_with (go_at_call 62; with_reducible refine (fix_fail0 _).mono ?_; rintro e w2 ⟨rfl, rfl⟩)
      go_end0
      refine ⟨(fun _ => rfl), (fun h => absurd rfl h), ?_, HB2.out⟩
      intro e he
      simp at he
      subst he
      exact T2.out
    · have e1 : triesC 1 inner = inner := rfl
      have e2 : triesS 1 inner = 2 := by unfold triesS; rw [e1, if_neg hi]
      rw [e1, e2]
      have HI := Lib.hid hi
      have FF := fix_fail inner hi
      clear e1 e2 hi
      go_enter Try.func61, Try.ntmps61
      go_wp2_with fail
      refine (FF _).mono ?_
      rintro e w2 ⟨rfl, rfl⟩
      go_wp2_with fail
      simp only [bodyPost]
      refine ⟨trivial, (fun h => absurd h HI.out), (fun _ => by first | trivial | rfl), ?_, HB.out⟩
      intro e he
      simp at he
      subst he
      exact T.out
set_option maxRecDepth 100000 in
set_option maxHeartbeats 1600000 in
theorem tries11_text (hr : what.tmod 3 = 2)
    (t0 : Blk W bs #[.int .i64 1] 3) (t1 : Blk W bw #[.int .u8 what] 5) (t3 : Blk W bd #[.string word] 9) (n1 : bw ≠ bs) (n2 : bd ≠ bs) :
    Calls Try.prog 61 #[.pointer (some ⟨bs, 0, none⟩), .pointer (some ⟨bw, 0, none⟩), .pointer (some ⟨bi, 0, none⟩), .pointer (some ⟨bd, 0, none⟩)] W fun e W' =>
      e = .panicked [textPanic word false] ∧ Blk W' bs #[.int .i64 2] 3 ∧ But bs W W' := by
  have c0 := t0.cell 0 _ rfl
  have f0 := t0.free 0
  have t0' := t0.set 0 (.int .i64 2)
  have d0 := t0'.cell 0 _ rfl
  have d1 := (t1.other n1 0 (.int .i64 2)).cell 0 _ rfl
  have d2 := (t3.other n2 0 (.int .i64 2)).cell 0 _ rfl
  have hb := But.set (b := bs) W 0 (.int .i64 2)
  have HB := Lib.hid hb
  have T := Lib.hid t0'
  clear hb t0' t1 t3 n1 n2 t0
  go_enter Try.func61, Try.ntmps61
  go_wp2_with fail
  simp only [bodyPost]
  exact ⟨trivial, rfl, T.out, HB.out⟩
end
theorem ButL.sub {l l' : List Nat} {w w' : World} (h : ButL l w w') (hs : ∀ b, b ∈ l → b ∈ l') : ButL l' w w' := ⟨h.os, h.tape, h.output, h.size, fun k hk hn => h.block k hk (fun hm => hn (hs k hm))⟩
theorem ButL.one {b : Nat} {l : List Nat} {w w' : World} (h : But b w w') (hb : b ∈ l) : ButL l w w' := ⟨h.os, h.tape, h.output, h.size, fun k hk hn => h.block k hk (fun e => hn (by rw [e]; exact hb))⟩
def triesF (r inner outer : Int) : Int := triesS r inner + 100 + (if outer = 0 then 1000 else 0)
section
variable (what inner outer r : Int) (word : ByteArray) (bs bw bi bd bn bo : Nat) (W : World)
set_option maxRecDepth 100000 in
set_option maxHeartbeats 1600000 in
theorem tries1 (hr : what.tmod 3 = r) (h2 : r = 0 ∨ r = 1)
    (t0 : Blk W bs #[.int .i64 0] 3) (t1 : Blk W bw #[.int .u8 what] 5) (t2 : Blk W bi #[.int .i64 inner] 3) (t3 : Blk W bd #[.string word] 9) (t4 : Blk W bn #[.int .i64 0] 58) (t5 : Blk W bo #[.int .i64 outer] 3)
    (n1 : bw ≠ bs) (n2 : bi ≠ bs) (n3 : bd ≠ bs) (n4 : bn ≠ bs) (n5 : bo ≠ bs) (n6 : bo ≠ bn) :
    Calls Try.prog 59 #[.pointer (some ⟨bs, 0, none⟩), .pointer (some ⟨bw, 0, none⟩), .pointer (some ⟨bi, 0, none⟩), .pointer (some ⟨bd, 0, none⟩), .pointer (some ⟨bn, 0, none⟩), .pointer (some ⟨bo, 0, none⟩)] W fun e W' =>
      (outer = 0 → e = .returned (.tuple #[])) ∧ (outer ≠ 0 → e = .panicked (gave outer)) ∧ BlkL W' [(bs, #[.int .i64 (triesF r inner outer)], 3), (bn, #[.int .i64 (triesC r inner)], 58)] ∧ ButL [bs, bn] W W' := by
  have hmf : ∀ (fn : Fn) (first cap : Array Value) (w : World), (Instr.makeFunc fn first cap).run Try.prog w = .ok (.func fn first cap) w := fun _ _ _ _ => rfl
  obtain ⟨W1, eW1⟩ : ∃ x, W.setCell ⟨bs, 0, none⟩ (.int .i64 1) = x := ⟨_, rfl⟩
  have c0 := t0.cell 0 _ rfl
  have f0 := t0.free 0
  have s0 : Blk W1 bs #[.int .i64 1] 3 := by rw [← eW1]; exact t0.set 0 _
  have s1 : Blk W1 bw #[.int .u8 what] 5 := by rw [← eW1]; exact t1.other n1 0 _
  have s2 : Blk W1 bi #[.int .i64 inner] 3 := by rw [← eW1]; exact t2.other n2 0 _
  have s3 : Blk W1 bd #[.string word] 9 := by rw [← eW1]; exact t3.other n3 0 _
  have s4 : Blk W1 bn #[.int .i64 0] 58 := by rw [← eW1]; exact t4.other n4 0 _
  have s5 : Blk W1 bo #[.int .i64 outer] 3 := by rw [← eW1]; exact t5.other n5 0 _
  have hB : ButL [bs, bn] W W1 := by rw [← eW1]; exact ButL.set (b := bs) W 0 _ (by simp)
  have TT := try_blks 61 #[.pointer (some ⟨bs, 0, none⟩), .pointer (some ⟨bw, 0, none⟩), .pointer (some ⟨bi, 0, none⟩), .pointer (some ⟨bd, 0, none⟩)] (triesC r inner) [(bs, #[.int .i64 (triesS r inner)], 3)] W1
    (by intro e he; simp at he; subst he; exact s0.lt) (fun w => enters_of Try.func61 (by kernel_rfl) rfl _ w)
    (fun W' hb => tries11 what inner r word bs bw bi bd W' hr h2 (s0.below hb) (s1.below hb) (s2.below hb) (s3.below hb) n1 n2)
  unfold triesF
  obtain ⟨c, ec⟩ : ∃ c, triesC r inner = c := ⟨_, rfl⟩
  have hst : triesS r inner = 12 ∨ triesS r inner = 2 := by unfold triesS; split <;> simp
  obtain ⟨st, est⟩ : ∃ s, triesS r inner = s := ⟨_, rfl⟩
  rw [ec, est] at TT
  rw [est] at hst
  rw [ec, est]
  have N4 := Lib.hid n4
  have N5 := Lib.hid n5
  have N6 := Lib.hid n6
  clear ec est hr h2 s0 s1 s2 s3 t0 t1 t2 t3 t4 t5 n1 n2 n3 n4 n5 n6
  have HP : Hid (∀ (e : Ending) (W' : World), (outer = 0 → e = .returned (.tuple #[])) → (outer ≠ 0 → e = .panicked (gave outer)) → Blk W' bs #[.int .i64 (st + 100 + (if outer = 0 then 1000 else 0))] 3 → Blk W' bn #[.int .i64 c] 58 → ButL [bs, bn] W W' →
      (outer = 0 → e = .returned (.tuple #[])) ∧ (outer ≠ 0 → e = .panicked (gave outer)) ∧ BlkL W' [(bs, #[.int .i64 (st + 100 + (if outer = 0 then 1000 else 0))], 3), (bn, #[.int .i64 c], 58)] ∧ ButL [bs, bn] W W') := Lib.hid fun e W' a b c d f => ⟨a, b, fun x hx => by
        simp at hx
        rcases hx with rfl | rfl
        · exact c
        · exact d, f⟩
  obtain ⟨Q, eQ⟩ : ∃ Q : Ending → World → Prop, Q = fun (e : Ending) (W' : World) => (outer = 0 → e = .returned (.tuple #[])) ∧ (outer ≠ 0 → e = .panicked (gave outer)) ∧ BlkL W' [(bs, #[.int .i64 (st + 100 + (if outer = 0 then 1000 else 0))], 3), (bn, #[.int .i64 c], 58)] ∧ ButL [bs, bn] W W' := ⟨_, rfl⟩
  rw [← eQ]
  have EQ := Lib.hid eQ
  clear eQ
  go_enter Try.func59, Try.ntmps59
  go_wp2_with fail
  clear eW1 c0 f0
  refine TT.mono ?_
  rintro e w2 ⟨rfl, hl, hbut⟩
  have g0 : Blk w2 bs #[.int .i64 st] 3 := hl (bs, #[.int .i64 st], 3) (by simp)
  have g4 := s4.butl hbut (by simp; exact N4.out)
  have g5 := s5.butl hbut (by simp; exact N5.out)
  replace hB := hB.trans (hbut.sub (by intro b hb; simp at hb ⊢; exact .inl hb))
  clear hl hbut s4 s5 TT
  have hB2 := hB.trans (ButL.set (l := [bs, bn]) (b := bn) w2 0 (.int .i64 c) (by simp))
  have k0 := g0.other (Ne.symm N4.out) 0 (.int .i64 c)
  have k4 := g4.set 0 (.int .i64 c)
  have k5 := g5.other N6.out 0 (.int .i64 c)
  have c1 := g4.cell 0 _ rfl
  have f1 := g4.free 0
  have c2 := k0.cell 0 _ rfl
  have f2 := k0.free 0
  rcases hst with rfl | rfl
  · have hB3 := hB2.trans (ButL.set (l := [bs, bn]) (b := bs) _ 0 (.int .i64 112) (by simp))
    have m0 : Blk _ bs #[.int .i64 112] 3 := k0.set 0 (.int .i64 112)
    have m4 := k4.other N4.out 0 (.int .i64 112)
    have m5 := k5.other N5.out 0 (.int .i64 112)
    have c3 := m0.cell 0 _ rfl
    have f3 := m0.free 0
    have c4 := m5.cell 0 _ rfl
    have hB4 := hB3.trans (ButL.set (l := [bs, bn]) (b := bs) _ 0 (.int .i64 1112) (by simp))
    have p0 : Blk _ bs #[.int .i64 1112] 3 := m0.set 0 (.int .i64 1112)
    have p4 := m4.other N4.out 0 (.int .i64 1112)
    have M0 := Lib.hid m0
    have M4 := Lib.hid m4
    have P0 := Lib.hid p0
    have P4 := Lib.hid p4
    have HB3 := Lib.hid hB3
    have HB4 := Lib.hid hB4
    clear m0 m4 m5 p0 p4 hB hB2 hB3 hB4 k0 k4 k5 g0 g4 g5
    by_cases ho : outer = 0
    · have HO := Lib.hid ho
      subst ho
      go_wp2_with (go_at_call 62; with_reducible refine (fix_fail0 _).mono ?_; rintro e w2 ⟨rfl, rfl⟩)
      go_end0
      rw [EQ.out]
      exact HP.out _ _ (fun _ => rfl) (fun h => absurd rfl h) P0.out P4.out HB4.out
    · have FF := fix_fail outer ho
      have HO := Lib.hid ho
      clear ho
      go_wp2_with fail
      refine (FF _).mono ?_
      rintro e w3 ⟨rfl, rfl⟩
      go_wp2_with fail
      simp only [bodyPost]
      rw [EQ.out]
      refine ⟨trivial, HP.out _ _ (fun h => absurd h HO.out) (fun _ => rfl) ?_ M4.out HB3.out⟩
      rw [if_neg HO.out]
      exact M0.out
  · have hB3 := hB2.trans (ButL.set (l := [bs, bn]) (b := bs) _ 0 (.int .i64 102) (by simp))
    have m0 : Blk _ bs #[.int .i64 102] 3 := k0.set 0 (.int .i64 102)
    have m4 := k4.other N4.out 0 (.int .i64 102)
    have m5 := k5.other N5.out 0 (.int .i64 102)
    have c3 := m0.cell 0 _ rfl
    have f3 := m0.free 0
    have c4 := m5.cell 0 _ rfl
    have hB4 := hB3.trans (ButL.set (l := [bs, bn]) (b := bs) _ 0 (.int .i64 1102) (by simp))
    have p0 : Blk _ bs #[.int .i64 1102] 3 := m0.set 0 (.int .i64 1102)
    have p4 := m4.other N4.out 0 (.int .i64 1102)
    have M0 := Lib.hid m0
    have M4 := Lib.hid m4
    have P0 := Lib.hid p0
    have P4 := Lib.hid p4
    have HB3 := Lib.hid hB3
    have HB4 := Lib.hid hB4
    clear m0 m4 m5 p0 p4 hB hB2 hB3 hB4 k0 k4 k5 g0 g4 g5
    by_cases ho : outer = 0
    · have HO := Lib.hid ho
      subst ho
      go_wp2_with (go_at_call 62; with_reducible refine (fix_fail0 _).mono ?_; rintro e w2 ⟨rfl, rfl⟩)
      go_end0
      rw [EQ.out]
      exact HP.out _ _ (fun _ => rfl) (fun h => absurd rfl h) P0.out P4.out HB4.out
    · have FF := fix_fail outer ho
      have HO := Lib.hid ho
      clear ho
      go_wp2_with fail
      refine (FF _).mono ?_
      rintro e w3 ⟨rfl, rfl⟩
      go_wp2_with fail
      simp only [bodyPost]
      rw [EQ.out]
      refine ⟨trivial, HP.out _ _ (fun h => absurd h HO.out) (fun _ => rfl) ?_ M4.out HB3.out⟩
      rw [if_neg HO.out]
      exact M0.out
set_option maxRecDepth 100000 in
set_option maxHeartbeats 1600000 in
theorem tries1_text (hr : what.tmod 3 = 2)
    (t0 : Blk W bs #[.int .i64 0] 3) (t1 : Blk W bw #[.int .u8 what] 5) (t3 : Blk W bd #[.string word] 9)
    (n1 : bw ≠ bs) (n3 : bd ≠ bs) :
    Calls Try.prog 59 #[.pointer (some ⟨bs, 0, none⟩), .pointer (some ⟨bw, 0, none⟩), .pointer (some ⟨bi, 0, none⟩), .pointer (some ⟨bd, 0, none⟩), .pointer (some ⟨bn, 0, none⟩), .pointer (some ⟨bo, 0, none⟩)] W fun e W' =>
      e = .panicked [textPanic word false, textPanic word true] ∧ Blk W' bs #[.int .i64 2] 3 ∧ But bs W W' := by
  have hmf : ∀ (fn : Fn) (first cap : Array Value) (w : World), (Instr.makeFunc fn first cap).run Try.prog w = .ok (.func fn first cap) w := fun _ _ _ _ => rfl
  obtain ⟨W1, eW1⟩ : ∃ x, W.setCell ⟨bs, 0, none⟩ (.int .i64 1) = x := ⟨_, rfl⟩
  have c0 := t0.cell 0 _ rfl
  have f0 := t0.free 0
  have s0 : Blk W1 bs #[.int .i64 1] 3 := by rw [← eW1]; exact t0.set 0 _
  have s1 : Blk W1 bw #[.int .u8 what] 5 := by rw [← eW1]; exact t1.other n1 0 _
  have s3 : Blk W1 bd #[.string word] 9 := by rw [← eW1]; exact t3.other n3 0 _
  have hB : But bs W W1 := by rw [← eW1]; exact But.set W 0 _
  have hb1 : Below W1.heap.size W1 (W1.alloc (.cells #[.int .i64 0] 58)) := (by repeat' (first | (with_reducible exact Below.refl _ _) | (with_reducible assumption) | (with_reducible refine below_alloc ?_ _ ?_) | (with_reducible refine below_set _ ?_ ?_) | (with_reducible refine Below.drew ?_) | (with_reducible refine below_dN ?_ _) | (apply below_thenA; assumption) | omega | (simp; done) | (simp; omega) | (simp [*]; done)))
  have TT := fix_try_text 61 #[.pointer (some ⟨bs, 0, none⟩), .pointer (some ⟨bw, 0, none⟩), .pointer (some ⟨bi, 0, none⟩), .pointer (some ⟨bd, 0, none⟩)] word [] W1 (fun W' => Blk W' bs #[.int .i64 2] 3 ∧ But bs W W')
    (fun w => enters_of Try.func61 (by kernel_rfl) rfl _ w)
    ((tries11_text what word bs bw bi bd (W1.alloc (.cells #[.int .i64 0] 58)) hr (s0.below hb1) (s1.below hb1) (s3.below hb1) n1 n3).mono fun e w' h => ⟨h.1, h.2.1, (hB.trans (But.of hb1)).trans h.2.2⟩)
  clear s0 s1 s3 t0 t1 t3 n1 n3 hB hb1
  go_enter Try.func59, Try.ntmps59
  go_wp2_with fail
  clear eW1 c0 f0
  refine TT.mono ?_
  rintro e w2 ⟨rfl, h1, h2⟩
  go_wp2_with fail
  simp only [bodyPost]
  exact ⟨trivial, (by first | trivial | rfl), h1, h2⟩
end
end Go.Proofs.Ythffphcgkmjhbaa
