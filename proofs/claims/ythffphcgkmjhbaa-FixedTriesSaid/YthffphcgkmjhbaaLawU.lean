/-
  The statement FixedTries.
-/
import Derived.Test.YthffphcgkmjhbaaFixG
import Derived.Test.YthffphcgkmjhbaaBox
namespace Go.Proofs.Ythffphcgkmjhbaa
open Go.RowKit
set_option linter.unusedSimpArgs false
set_option linter.unusedVariables false

theorem tmod_three {a : Int} (h : 0 ≤ a) : a.tmod 3 = 0 ∨ a.tmod 3 = 1 ∨ a.tmod 3 = 2 := by
  have h1 := Int.tmod_nonneg 3 h
  have h2 := Int.tmod_lt_of_pos a (show (0 : Int) < 3 by decide)
  omega
theorem eql_text (s : ByteArray) (w : World) : (binOp BinOp.eql 20 (Value.iface 9 (.string s)) (Value.iface 9 (.string s))).run Try.prog w = .ok (.bool true) w := by
  have hc0 : (Try.prog.info? 9).map (fun i => i.comparable) = some true := by kernel_rfl
  cases hi : Try.prog.info? 9 with
  | none => simp [hi] at hc0
  | some i =>
    have hcc : i.comparable = true := by simpa [hi] using hc0
    have h : ∀ d : Nat, (Op.equalIn (d + 2) 20 (.iface 9 (.string s)) (.iface 9 (.string s))).run Try.prog w = .ok true w := fun d => by
      simp [Op.equalIn, run_underlying Try.underlying20, run_underlying Try.underlying9, typeInfo, hi, hcc]
      first | exact beq_self_eq_true s | exact decide_eq_true rfl | (obtain ⟨d⟩ := s; exact beq_self_eq_true d) | (obtain ⟨d⟩ := s; show (d == d) = true; simp)
    simp only [binOp]
    simp [Op.equal, Op.maxDepth, h 9998]
set_option maxRecDepth 100000 in
set_option maxHeartbeats 6400000 in
theorem law_tries (outer inner what r : Int) (word : ByteArray) (hr : what.tmod 3 = r) (hr3 : r = 0 ∨ r = 1 ∨ r = 2) (w : World) :
    Calls Try.prog 13 #[.agg #[.int .i64 outer, .int .i64 inner, .string word, .int .u8 what]] w fun e w' => e = .returned (.bool true) ∧ Below w.heap.size w w' := by
  have hmf : ∀ (fn : Fn) (first cap : Array Value) (w : World), (Instr.makeFunc fn first cap).run Try.prog w = .ok (.func fn first cap) w := fun _ _ _ _ => rfl
  have HR := Lib.hid hr
  have HR3 := Lib.hid hr3
  clear hr hr3
  have tP := Blk.new w #[.int .i64 outer, .int .i64 inner, .string word, .int .u8 what] 76 _ rfl
  have hB : Below w.heap.size w (w.alloc (.cells #[.int .i64 outer, .int .i64 inner, .string word, .int .u8 what] 76)) := (by repeat' (first | (with_reducible exact Below.refl _ _) | (with_reducible assumption) | (with_reducible refine below_alloc ?_ _ ?_) | (with_reducible refine below_set _ ?_ ?_) | (with_reducible refine Below.drew ?_) | (with_reducible refine below_dN ?_ _) | (apply below_thenA; assumption) | omega | (simp; done) | (simp; omega) | (simp [*]; done)))
  go_enter Try.func13, Try.ntmps13
  go_wp2_with fail
  refine (speaks04 _).mono ?_
  rintro e w1 ⟨rfl, hb1⟩
  replace tP := tP.below hb1
  replace hB := hB.trans (hb1.mono hB.size)
  clear hb1
  obtain ⟨W0, eW0⟩ : ∃ x, w1 = x := ⟨_, rfl⟩
  rw [eW0] at tP hB
  have hlp := tP.lt
  go_upto_region 3 with (fail)
  rename_i K0 hK0
  refine wp_region_calm (fun w' => Below w.heap.size w w' ∧ Blk w' w.heap.size #[.int .i64 outer, .int .i64 inner, .string word, .int .u8 what] 76 ∧ W0.heap.size ≤ w'.heap.size) [] (fun w' => True) [Is (.pointer (some ⟨w.heap.size, 0, none⟩)), Is (.int .i64 outer), Is (.pointer (some ⟨w.heap.size, 1, none⟩)), Is (.int .i64 inner), Is (.pointer (some ⟨w.heap.size, 2, none⟩)), Is (.string word), Is (.pointer (some ⟨w.heap.size, 3, none⟩)), Is (.int .u8 what), bxV W0.heap.size 3 1, bxV W0.heap.size 3 1, bxV W0.heap.size 9 1, bxV W0.heap.size 5 1, bxC 8 W0.heap.size 3 #[.int .i64 outer], bxC 9 W0.heap.size 3 #[.int .i64 inner], bxC 10 W0.heap.size 9 #[.string word], bxC 11 W0.heap.size 5 #[.int .u8 what]] [8, 9, 10, 11] (by kernel_rfl) (by kernel_rfl) (by kernel_rfl) (by kernel_rfl) ⟨hB.drew, tP, Nat.le_refl _⟩ trivial ?_ ?_ ?_ ?_ ?_
  · rintro W W' ⟨hB, tP, hl⟩ hb
    exact ⟨hB.trans (hb.mono hB.size), tP.below hb, Nat.le_trans hl hb.size⟩
  · exact fun _ _ _ _ _ => trivial
  · intro k vs W hk h
    rcases (by simpa using hk : k = 8 ∨ k = 9 ∨ k = 10 ∨ k = 11) with rfl | rfl | rfl | rfl <;> (obtain ⟨b, cs, e, h1, h2, h3⟩ := h; exact ⟨b, e, h2.lt⟩)
  · intro Q; clear hK0 hB tP
    refine ⟨?_, ?_, ?_, ?_, ?_, ?_, ?_, ?_, ?_, ?_, ?_, ?_, ?_, ?_, ?_, ?_, trivial⟩
    · intro vs W hW hW0 hd hne hold K hK hA hL; clear hne hA hL; have hB := hW.1; have tP := hW.2.1; have hl := hW.2.2; simp only [puts, Act.put, List.setIfInBounds_toArray, List.set_cons_zero, List.set_cons_succ, Nat.zero_add, Nat.reduceAdd] at hK ⊢; clear hd hold; go_simp; exact hK.out rfl _ _ (Below.refl _ _) rfl
    · intro vs W hW hW0 hd hne hold K hK hA hL; clear hne hA hL; have hB := hW.1; have tP := hW.2.1; have hl := hW.2.2; simp only [puts, Act.put, List.setIfInBounds_toArray, List.set_cons_zero, List.set_cons_succ, Nat.zero_add, Nat.reduceAdd] at hK ⊢; have eb : vs 0 = _ := hd 0 (by kernel_rfl); have q1 := tP.cell 0 _ rfl; clear hd hold; simp only [eb] at hK; go_simp; exact hK.out rfl _ _ (Below.refl _ _) rfl
    · intro vs W hW hW0 hd hne hold K hK hA hL; clear hne hA hL; have hB := hW.1; have tP := hW.2.1; have hl := hW.2.2; simp only [puts, Act.put, List.setIfInBounds_toArray, List.set_cons_zero, List.set_cons_succ, Nat.zero_add, Nat.reduceAdd] at hK ⊢; clear hd hold; go_simp; exact hK.out rfl _ _ (Below.refl _ _) rfl
    · intro vs W hW hW0 hd hne hold K hK hA hL; clear hne hA hL; have hB := hW.1; have tP := hW.2.1; have hl := hW.2.2; simp only [puts, Act.put, List.setIfInBounds_toArray, List.set_cons_zero, List.set_cons_succ, Nat.zero_add, Nat.reduceAdd] at hK ⊢; have eb : vs 2 = _ := hd 2 (by kernel_rfl); have q1 := tP.cell 1 _ rfl; clear hd hold; simp only [eb] at hK; go_simp; exact hK.out rfl _ _ (Below.refl _ _) rfl
    · intro vs W hW hW0 hd hne hold K hK hA hL; clear hne hA hL; have hB := hW.1; have tP := hW.2.1; have hl := hW.2.2; simp only [puts, Act.put, List.setIfInBounds_toArray, List.set_cons_zero, List.set_cons_succ, Nat.zero_add, Nat.reduceAdd] at hK ⊢; clear hd hold; go_simp; exact hK.out rfl _ _ (Below.refl _ _) rfl
    · intro vs W hW hW0 hd hne hold K hK hA hL; clear hne hA hL; have hB := hW.1; have tP := hW.2.1; have hl := hW.2.2; simp only [puts, Act.put, List.setIfInBounds_toArray, List.set_cons_zero, List.set_cons_succ, Nat.zero_add, Nat.reduceAdd] at hK ⊢; have eb : vs 4 = _ := hd 4 (by kernel_rfl); have q1 := tP.cell 2 _ rfl; clear hd hold; simp only [eb] at hK; go_simp; exact hK.out rfl _ _ (Below.refl _ _) rfl
    · intro vs W hW hW0 hd hne hold K hK hA hL; clear hne hA hL; have hB := hW.1; have tP := hW.2.1; have hl := hW.2.2; simp only [puts, Act.put, List.setIfInBounds_toArray, List.set_cons_zero, List.set_cons_succ, Nat.zero_add, Nat.reduceAdd] at hK ⊢; clear hd hold; go_simp; exact hK.out rfl _ _ (Below.refl _ _) rfl
    · intro vs W hW hW0 hd hne hold K hK hA hL; clear hne hA hL; have hB := hW.1; have tP := hW.2.1; have hl := hW.2.2; simp only [puts, Act.put, List.setIfInBounds_toArray, List.set_cons_zero, List.set_cons_succ, Nat.zero_add, Nat.reduceAdd] at hK ⊢; have eb : vs 6 = _ := hd 6 (by kernel_rfl); have q1 := tP.cell 3 _ rfl; clear hd hold; simp only [eb] at hK; go_simp; exact hK.out rfl _ _ (Below.refl _ _) rfl
    · intro vs W hW hW0 hd hne hold K hK hA hL; clear hne hK hL; have hB := hW.1; have tP := hW.2.1; have hl := hW.2.2; simp only [puts, Act.put, List.setIfInBounds_toArray, List.set_cons_zero, List.set_cons_succ, Nat.zero_add, Nat.reduceAdd] at hA ⊢; clear hd hold; go_simp; exact hA.out W.heap.size _ ((Below.refl _ _).alloc (Nat.le_refl _) _) (Nat.le_refl _) ⟨W.heap.size, _, rfl, hl, Blk.new _ _ _ _ rfl, rfl⟩
    · intro vs W hW hW0 hd hne hold K hK hA hL; clear hne hK hL; have hB := hW.1; have tP := hW.2.1; have hl := hW.2.2; simp only [puts, Act.put, List.setIfInBounds_toArray, List.set_cons_zero, List.set_cons_succ, Nat.zero_add, Nat.reduceAdd] at hA ⊢; clear hd hold; go_simp; exact hA.out W.heap.size _ ((Below.refl _ _).alloc (Nat.le_refl _) _) (Nat.le_refl _) ⟨W.heap.size, _, rfl, hl, Blk.new _ _ _ _ rfl, rfl⟩
    · intro vs W hW hW0 hd hne hold K hK hA hL; clear hne hK hL; have hB := hW.1; have tP := hW.2.1; have hl := hW.2.2; simp only [puts, Act.put, List.setIfInBounds_toArray, List.set_cons_zero, List.set_cons_succ, Nat.zero_add, Nat.reduceAdd] at hA ⊢; clear hd hold; go_simp; exact hA.out W.heap.size _ ((Below.refl _ _).alloc (Nat.le_refl _) _) (Nat.le_refl _) ⟨W.heap.size, _, rfl, hl, Blk.new _ _ _ _ rfl, rfl⟩
    · intro vs W hW hW0 hd hne hold K hK hA hL; clear hne hK hL; have hB := hW.1; have tP := hW.2.1; have hl := hW.2.2; simp only [puts, Act.put, List.setIfInBounds_toArray, List.set_cons_zero, List.set_cons_succ, Nat.zero_add, Nat.reduceAdd] at hA ⊢; clear hd hold; go_simp; exact hA.out W.heap.size _ ((Below.refl _ _).alloc (Nat.le_refl _) _) (Nat.le_refl _) ⟨W.heap.size, _, rfl, hl, Blk.new _ _ _ _ rfl, rfl⟩
    · intro vs W hW hW0 hd hne hold K hK hA hL; clear hK hA; have hB := hW.1; have tP := hW.2.1; have hl := hW.2.2; simp only [puts, Act.put, List.setIfInBounds_toArray, List.set_cons_zero, List.set_cons_succ, Nat.zero_add, Nat.reduceAdd] at hL ⊢; have ec : vs 1 = _ := hd 1 (by kernel_rfl); (have hxb : BxV W0.heap.size 3 1 (vs 8) W := hd 8 (by kernel_rfl)); obtain ⟨b, cs0, eb, hlb, t0, hsz⟩ := hxb; obtain ⟨z0, q0⟩ := t0.cellx 0 (by omega); have p0 := t0.free 0; have tb := t0.set1 hsz (.int .i64 outer); have hbt := But.set (b := b) W 0 (.int .i64 outer); clear hd hold; simp only [ec, eb] at hL; have HSZ := Lib.hid hsz; clear hsz; have HNE := Lib.hid hne; clear hne; go_simp; have hne := HNE.out; have hsz := HSZ.out; have hnb1 : vs 9 ≠ .pointer (some ⟨b, 0, none⟩) := fun x => hne 8 9 (by decide) (by kernel_rfl) (by rw [eb, x]); have hnb2 : vs 10 ≠ .pointer (some ⟨b, 0, none⟩) := fun x => hne 8 10 (by decide) (by kernel_rfl) (by rw [eb, x]); have hnb3 : vs 11 ≠ .pointer (some ⟨b, 0, none⟩) := fun x => hne 8 11 (by decide) (by kernel_rfl) (by rw [eb, x]); refine hL.out rfl undef _ ⟨hbt.to hB (by omega) hB.size, tP.but hbt (by omega), Nat.le_trans hl hbt.size⟩ (fun _ => trivial) ⟨b, eb, hlb, tb⟩ ?_; exact claims_keep ⟨.inr is_keep, .inr is_keep, .inr is_keep, .inr is_keep, .inr is_keep, .inr is_keep, .inr is_keep, .inr is_keep, .inr fun h => BxV.but h hbt t0 tb (by rw [hsz]; rfl), .inr fun h => BxV.but h hbt t0 tb (by rw [hsz]; rfl), .inr fun h => BxV.but h hbt t0 tb (by rw [hsz]; rfl), .inr fun h => BxV.but h hbt t0 tb (by rw [hsz]; rfl), .inl rfl, .inr fun h => BxC.but h hbt hnb1, .inr fun h => BxC.but h hbt hnb2, .inr fun h => BxC.but h hbt hnb3, trivial⟩
    · intro vs W hW hW0 hd hne hold K hK hA hL; clear hK hA; have hB := hW.1; have tP := hW.2.1; have hl := hW.2.2; simp only [puts, Act.put, List.setIfInBounds_toArray, List.set_cons_zero, List.set_cons_succ, Nat.zero_add, Nat.reduceAdd] at hL ⊢; have ec : vs 3 = _ := hd 3 (by kernel_rfl); (have hxb : BxV W0.heap.size 3 1 (vs 9) W := hd 9 (by kernel_rfl)); obtain ⟨b, cs0, eb, hlb, t0, hsz⟩ := hxb; obtain ⟨z0, q0⟩ := t0.cellx 0 (by omega); have p0 := t0.free 0; have tb := t0.set1 hsz (.int .i64 inner); have hbt := But.set (b := b) W 0 (.int .i64 inner); clear hd hold; simp only [ec, eb] at hL; have HSZ := Lib.hid hsz; clear hsz; have HNE := Lib.hid hne; clear hne; go_simp; have hne := HNE.out; have hsz := HSZ.out; have hnb0 : vs 8 ≠ .pointer (some ⟨b, 0, none⟩) := fun x => hne 9 8 (by decide) (by kernel_rfl) (by rw [eb, x]); have hnb2 : vs 10 ≠ .pointer (some ⟨b, 0, none⟩) := fun x => hne 9 10 (by decide) (by kernel_rfl) (by rw [eb, x]); have hnb3 : vs 11 ≠ .pointer (some ⟨b, 0, none⟩) := fun x => hne 9 11 (by decide) (by kernel_rfl) (by rw [eb, x]); refine hL.out rfl undef _ ⟨hbt.to hB (by omega) hB.size, tP.but hbt (by omega), Nat.le_trans hl hbt.size⟩ (fun _ => trivial) ⟨b, eb, hlb, tb⟩ ?_; exact claims_keep ⟨.inr is_keep, .inr is_keep, .inr is_keep, .inr is_keep, .inr is_keep, .inr is_keep, .inr is_keep, .inr is_keep, .inr fun h => BxV.but h hbt t0 tb (by rw [hsz]; rfl), .inr fun h => BxV.but h hbt t0 tb (by rw [hsz]; rfl), .inr fun h => BxV.but h hbt t0 tb (by rw [hsz]; rfl), .inr fun h => BxV.but h hbt t0 tb (by rw [hsz]; rfl), .inr fun h => BxC.but h hbt hnb0, .inl rfl, .inr fun h => BxC.but h hbt hnb2, .inr fun h => BxC.but h hbt hnb3, trivial⟩
    · intro vs W hW hW0 hd hne hold K hK hA hL; clear hK hA; have hB := hW.1; have tP := hW.2.1; have hl := hW.2.2; simp only [puts, Act.put, List.setIfInBounds_toArray, List.set_cons_zero, List.set_cons_succ, Nat.zero_add, Nat.reduceAdd] at hL ⊢; have ec : vs 5 = _ := hd 5 (by kernel_rfl); (have hxb : BxV W0.heap.size 9 1 (vs 10) W := hd 10 (by kernel_rfl)); obtain ⟨b, cs0, eb, hlb, t0, hsz⟩ := hxb; obtain ⟨z0, q0⟩ := t0.cellx 0 (by omega); have p0 := t0.free 0; have tb := t0.set1 hsz (.string word); have hbt := But.set (b := b) W 0 (.string word); clear hd hold; simp only [ec, eb] at hL; have HSZ := Lib.hid hsz; clear hsz; have HNE := Lib.hid hne; clear hne; go_simp; have hne := HNE.out; have hsz := HSZ.out; have hnb0 : vs 8 ≠ .pointer (some ⟨b, 0, none⟩) := fun x => hne 10 8 (by decide) (by kernel_rfl) (by rw [eb, x]); have hnb1 : vs 9 ≠ .pointer (some ⟨b, 0, none⟩) := fun x => hne 10 9 (by decide) (by kernel_rfl) (by rw [eb, x]); have hnb3 : vs 11 ≠ .pointer (some ⟨b, 0, none⟩) := fun x => hne 10 11 (by decide) (by kernel_rfl) (by rw [eb, x]); refine hL.out rfl undef _ ⟨hbt.to hB (by omega) hB.size, tP.but hbt (by omega), Nat.le_trans hl hbt.size⟩ (fun _ => trivial) ⟨b, eb, hlb, tb⟩ ?_; exact claims_keep ⟨.inr is_keep, .inr is_keep, .inr is_keep, .inr is_keep, .inr is_keep, .inr is_keep, .inr is_keep, .inr is_keep, .inr fun h => BxV.but h hbt t0 tb (by rw [hsz]; rfl), .inr fun h => BxV.but h hbt t0 tb (by rw [hsz]; rfl), .inr fun h => BxV.but h hbt t0 tb (by rw [hsz]; rfl), .inr fun h => BxV.but h hbt t0 tb (by rw [hsz]; rfl), .inr fun h => BxC.but h hbt hnb0, .inr fun h => BxC.but h hbt hnb1, .inl rfl, .inr fun h => BxC.but h hbt hnb3, trivial⟩
    · intro vs W hW hW0 hd hne hold K hK hA hL; clear hK hA; have hB := hW.1; have tP := hW.2.1; have hl := hW.2.2; simp only [puts, Act.put, List.setIfInBounds_toArray, List.set_cons_zero, List.set_cons_succ, Nat.zero_add, Nat.reduceAdd] at hL ⊢; have ec : vs 7 = _ := hd 7 (by kernel_rfl); (have hxb : BxV W0.heap.size 5 1 (vs 11) W := hd 11 (by kernel_rfl)); obtain ⟨b, cs0, eb, hlb, t0, hsz⟩ := hxb; obtain ⟨z0, q0⟩ := t0.cellx 0 (by omega); have p0 := t0.free 0; have tb := t0.set1 hsz (.int .u8 what); have hbt := But.set (b := b) W 0 (.int .u8 what); clear hd hold; simp only [ec, eb] at hL; have HSZ := Lib.hid hsz; clear hsz; have HNE := Lib.hid hne; clear hne; go_simp; have hne := HNE.out; have hsz := HSZ.out; have hnb0 : vs 8 ≠ .pointer (some ⟨b, 0, none⟩) := fun x => hne 11 8 (by decide) (by kernel_rfl) (by rw [eb, x]); have hnb1 : vs 9 ≠ .pointer (some ⟨b, 0, none⟩) := fun x => hne 11 9 (by decide) (by kernel_rfl) (by rw [eb, x]); have hnb2 : vs 10 ≠ .pointer (some ⟨b, 0, none⟩) := fun x => hne 11 10 (by decide) (by kernel_rfl) (by rw [eb, x]); refine hL.out rfl undef _ ⟨hbt.to hB (by omega) hB.size, tP.but hbt (by omega), Nat.le_trans hl hbt.size⟩ (fun _ => trivial) ⟨b, eb, hlb, tb⟩ ?_; exact claims_keep ⟨.inr is_keep, .inr is_keep, .inr is_keep, .inr is_keep, .inr is_keep, .inr is_keep, .inr is_keep, .inr is_keep, .inr fun h => BxV.but h hbt t0 tb (by rw [hsz]; rfl), .inr fun h => BxV.but h hbt t0 tb (by rw [hsz]; rfl), .inr fun h => BxV.but h hbt t0 tb (by rw [hsz]; rfl), .inr fun h => BxV.but h hbt t0 tb (by rw [hsz]; rfl), .inr fun h => BxC.but h hbt hnb0, .inr fun h => BxC.but h hbt hnb1, .inr fun h => BxC.but h hbt hnb2, .inl rfl, trivial⟩
  · intro va WA hW hV _
    clear hB tP
    obtain ⟨hB, _, _⟩ := hW
    have h3 : BxC W0.heap.size 3 #[.int .i64 outer] (va 8) WA := hV 12 (by decide)
    have h4 : BxC W0.heap.size 3 #[.int .i64 inner] (va 9) WA := hV 13 (by decide)
    have h5 : BxC W0.heap.size 9 #[.string word] (va 10) WA := hV 14 (by decide)
    have h6 : BxC W0.heap.size 5 #[.int .u8 what] (va 11) WA := hV 15 (by decide)
    obtain ⟨b3, e3, _, t3⟩ := h3
    obtain ⟨b4, e4, _, t4⟩ := h4
    obtain ⟨b5, e5, _, t5⟩ := h5
    obtain ⟨b6, e6, _, t6⟩ := h6
    clear hV
    simp only [puts, Act.put, List.setIfInBounds_toArray, List.set_cons_zero, List.set_cons_succ, Nat.zero_add, Nat.reduceAdd, e3, e4, e5, e6]
    refine hK0 _ _ ?_
    clear hK0 e3 e4 e5 e6
    have l3 := t3.lt
    have l4 := t4.lt
    have l5 := t5.lt
    have l6 := t6.lt
    have hszA := hB.size
    have hb9 : Below WA.heap.size WA (((WA.alloc (.cells #[.int .i64 0] 3)).alloc (.cells #[.int .i64 0] 58)).alloc (.cells #[.nilIface] 20)) := (by repeat' (first | (with_reducible exact Below.refl _ _) | (with_reducible assumption) | (with_reducible refine below_alloc ?_ _ ?_) | (with_reducible refine below_set _ ?_ ?_) | (with_reducible refine Below.drew ?_) | (with_reducible refine below_dN ?_ _) | (apply below_thenA; assumption) | omega | (simp; done) | (simp; omega) | (simp [*]; done)))
    have t7 : Blk (((WA.alloc (.cells #[.int .i64 0] 3)).alloc (.cells #[.int .i64 0] 58)).alloc (.cells #[.nilIface] 20)) WA.heap.size #[.int .i64 0] 3 := ((Blk.new WA _ _ _ rfl).alloc _).alloc _
    have t8 : Blk (((WA.alloc (.cells #[.int .i64 0] 3)).alloc (.cells #[.int .i64 0] 58)).alloc (.cells #[.nilIface] 20)) (WA.heap.size + 1) #[.int .i64 0] 58 := (Blk.new (WA.alloc (.cells #[.int .i64 0] 3)) _ _ _ (by simp)).alloc _
    have t9 : Blk (((WA.alloc (.cells #[.int .i64 0] 3)).alloc (.cells #[.int .i64 0] 58)).alloc (.cells #[.nilIface] 20)) ((WA.alloc (.cells #[.int .i64 0] 3)).alloc (.cells #[.int .i64 0] 58)).heap.size #[.nilIface] 20 := Blk.new ((WA.alloc (.cells #[.int .i64 0] 3)).alloc (.cells #[.int .i64 0] 58)) _ _ _ rfl
    have hz8 : ((WA.alloc (.cells #[.int .i64 0] 3)).alloc (.cells #[.int .i64 0] 58)).heap.size = WA.heap.size + 2 := by simp
    replace t3 := t3.below hb9
    replace t4 := t4.below hb9
    replace t5 := t5.below hb9
    replace t6 := t6.below hb9
    have hB9 := hB.trans (hb9.mono hB.size)
    clear hb9 hB
    rcases HR3.out with hr0 | hr0 | hr0
    rotate_left 2
    · have hr := HR.out
      rw [hr0] at hr
      have hbE : Below (((WA.alloc (.cells #[.int .i64 0] 3)).alloc (.cells #[.int .i64 0] 58)).alloc (.cells #[.nilIface] 20)).heap.size (((WA.alloc (.cells #[.int .i64 0] 3)).alloc (.cells #[.int .i64 0] 58)).alloc (.cells #[.nilIface] 20)) ((((WA.alloc (.cells #[.int .i64 0] 3)).alloc (.cells #[.int .i64 0] 58)).alloc (.cells #[.nilIface] 20)).alloc (.cells #[.int .i64 0] 58)) := (Below.refl _ _).alloc (Nat.le_refl _) _
      have TT := caught_text 59 #[.pointer (some ⟨WA.heap.size, 0, none⟩), .pointer (some ⟨b6, 0, none⟩), .pointer (some ⟨b4, 0, none⟩), .pointer (some ⟨b5, 0, none⟩), .pointer (some ⟨WA.heap.size + 1, 0, none⟩), .pointer (some ⟨b3, 0, none⟩)] word ((WA.alloc (.cells #[.int .i64 0] 3)).alloc (.cells #[.int .i64 0] 58)) (fun w1 => Blk w1 WA.heap.size #[.int .i64 2] 3 ∧ But WA.heap.size (((WA.alloc (.cells #[.int .i64 0] 3)).alloc (.cells #[.int .i64 0] 58)).alloc (.cells #[.nilIface] 20)) w1)
        ((fix_try_text 59 #[.pointer (some ⟨WA.heap.size, 0, none⟩), .pointer (some ⟨b6, 0, none⟩), .pointer (some ⟨b4, 0, none⟩), .pointer (some ⟨b5, 0, none⟩), .pointer (some ⟨WA.heap.size + 1, 0, none⟩), .pointer (some ⟨b3, 0, none⟩)] word [textPanic word true] (((WA.alloc (.cells #[.int .i64 0] 3)).alloc (.cells #[.int .i64 0] 58)).alloc (.cells #[.nilIface] 20)) (fun w1 => Blk w1 WA.heap.size #[.int .i64 2] 3 ∧ But WA.heap.size (((WA.alloc (.cells #[.int .i64 0] 3)).alloc (.cells #[.int .i64 0] 58)).alloc (.cells #[.nilIface] 20)) w1) (fun w => enters_of Try.func59 (by kernel_rfl) rfl _ w)
          ((tries1_text what word WA.heap.size b6 b4 b5 (WA.heap.size + 1) b3 _ hr (t7.below hbE) (t6.below hbE) (t5.below hbE) (by omega) (by omega)).mono fun e w' h => ⟨h.1, h.2.1, (But.of hbE).trans h.2.2⟩)).mono fun e w' h => ⟨h.1, h.2, t9.but h.2.2 (by omega)⟩)
      clear HR HR3 hr0
      go_wp2_with fail
      refine TT.mono ?_
      rintro e w2 ⟨w1', ⟨k7, k1⟩, rfl, k2⟩
      replace k7 := k7.but k2 (by omega)
      have k5 := (t5.but k1 (by omega)).but k2 (by omega)
      have k6 := (t6.but k1 (by omega)).but k2 (by omega)
      have hB := k2.to (k1.to hB9 (by omega) hB9.size) (by omega) (k1.to hB9 (by omega) hB9.size).size
      clear TT k1 k2 t3 t4 t5 t6 t7 t8 t9 hB9
      have hx := eql_text word
      have c0 := k7.cell 0 _ rfl
      have c1 := k5.cell 0 _ rfl
      have c2 := k6.cell 0 _ rfl
      go_wp2_with fail
      go_ret
      exact ⟨rfl, hB⟩
    · have hr := HR.out
      rw [hr0] at hr
      have TT := caught_calm 59 #[.pointer (some ⟨WA.heap.size, 0, none⟩), .pointer (some ⟨b6, 0, none⟩), .pointer (some ⟨b4, 0, none⟩), .pointer (some ⟨b5, 0, none⟩), .pointer (some ⟨WA.heap.size + 1, 0, none⟩), .pointer (some ⟨b3, 0, none⟩)] outer ((WA.alloc (.cells #[.int .i64 0] 3)).alloc (.cells #[.int .i64 0] 58)) (fun w1 => BlkL w1 [(WA.heap.size, #[.int .i64 (triesF 0 inner outer)], 3), (WA.heap.size + 1, #[.int .i64 (triesC 0 inner)], 58)] ∧ ButL [WA.heap.size, WA.heap.size + 1] (((WA.alloc (.cells #[.int .i64 0] 3)).alloc (.cells #[.int .i64 0] 58)).alloc (.cells #[.nilIface] 20)) w1)
        ((try_blks 59 #[.pointer (some ⟨WA.heap.size, 0, none⟩), .pointer (some ⟨b6, 0, none⟩), .pointer (some ⟨b4, 0, none⟩), .pointer (some ⟨b5, 0, none⟩), .pointer (some ⟨WA.heap.size + 1, 0, none⟩), .pointer (some ⟨b3, 0, none⟩)] outer [(WA.heap.size, #[.int .i64 (triesF 0 inner outer)], 3), (WA.heap.size + 1, #[.int .i64 (triesC 0 inner)], 58)] (((WA.alloc (.cells #[.int .i64 0] 3)).alloc (.cells #[.int .i64 0] 58)).alloc (.cells #[.nilIface] 20))
          (by intro e he; simp at he; rcases he with rfl | rfl; exact t7.lt; exact t8.lt) (fun w => enters_of Try.func59 (by kernel_rfl) rfl _ w)
          (fun W' hb => tries1 what inner outer 0 word WA.heap.size b6 b4 b5 (WA.heap.size + 1) b3 W' hr (by simp) (t7.below hb) (t6.below hb) (t4.below hb) (t5.below hb) (t8.below hb) (t3.below hb) (by omega) (by omega) (by omega) (by omega) (by omega) (by omega))).mono
          fun e w' h => ⟨h.1, h.2, t9.butl h.2.2 (by simp; omega)⟩)
      clear HR HR3 hr0
      go_wp2_with fail
      refine TT.mono ?_
      rintro e w2 ⟨w1', ⟨kL, k1⟩, rfl, k2⟩
      have k7 := (show Blk w1' WA.heap.size _ _ from kL (WA.heap.size, #[.int .i64 (triesF 0 inner outer)], 3) (by simp)).but k2 (by omega)
      have k8 := (show Blk w1' (WA.heap.size + 1) _ _ from kL (WA.heap.size + 1, #[.int .i64 (triesC 0 inner)], 58) (by simp)).but k2 (by omega)
      have k3 := (t3.butl k1 (by simp; omega)).but k2 (by omega)
      have k4 := (t4.butl k1 (by simp; omega)).but k2 (by omega)
      have k5 := (t5.butl k1 (by simp; omega)).but k2 (by omega)
      have k6 := (t6.butl k1 (by simp; omega)).but k2 (by omega)
      have hB1 := k1.to hB9 (by intro b hb; simp at hb; rcases hb with rfl | rfl <;> omega) hB9.size
      have hB := k2.to hB1 (by omega) hB1.size
      clear TT kL k1 k2 t3 t4 t5 t6 t7 t8 t9 hB9 hB1
      have c2 := k6.cell 0 _ rfl
      have c3 := k3.cell 0 _ rfl
      have c4 := k4.cell 0 _ rfl
      have eC : triesC 0 inner = 0 := by unfold triesC; rfl
      have eS : triesS 0 inner = 12 := by unfold triesS; rw [eC]; rfl
      by_cases ho : outer = 0
      · subst ho
        have eF : triesF 0 inner 0 = 1112 := by unfold triesF; rw [eS]; rfl
        rw [eF] at k7
        rw [eC] at k8
        clear eF eC eS
        have c0 := k7.cell 0 _ rfl
        have c1 := k8.cell 0 _ rfl
        go_wp2_with fail
        refine (fix_try_nil _).mono ?_
        rintro e w3 ⟨rfl, hb3⟩
        go_wp2_with fail
        go_ret
        exact ⟨rfl, hB.trans (hb3.mono hB.size)⟩
      · have hob : (outer == 0) = false := by simp [ho]
        have eF : triesF 0 inner outer = 112 := by unfold triesF; rw [eS, if_neg ho]; rfl
        rw [eF] at k7
        rw [eC] at k8
        clear eF eC eS ho
        have c0 := k7.cell 0 _ rfl
        have c1 := k8.cell 0 _ rfl
        go_wp2_with fail
        refine (fix_try_nil _).mono ?_
        rintro e w3 ⟨rfl, hb3⟩
        go_wp2_with fail
        go_ret
        exact ⟨rfl, hB.trans (hb3.mono hB.size)⟩
    · have hr := HR.out
      rw [hr0] at hr
      have TT := caught_calm 59 #[.pointer (some ⟨WA.heap.size, 0, none⟩), .pointer (some ⟨b6, 0, none⟩), .pointer (some ⟨b4, 0, none⟩), .pointer (some ⟨b5, 0, none⟩), .pointer (some ⟨WA.heap.size + 1, 0, none⟩), .pointer (some ⟨b3, 0, none⟩)] outer ((WA.alloc (.cells #[.int .i64 0] 3)).alloc (.cells #[.int .i64 0] 58)) (fun w1 => BlkL w1 [(WA.heap.size, #[.int .i64 (triesF 1 inner outer)], 3), (WA.heap.size + 1, #[.int .i64 (triesC 1 inner)], 58)] ∧ ButL [WA.heap.size, WA.heap.size + 1] (((WA.alloc (.cells #[.int .i64 0] 3)).alloc (.cells #[.int .i64 0] 58)).alloc (.cells #[.nilIface] 20)) w1)
        ((try_blks 59 #[.pointer (some ⟨WA.heap.size, 0, none⟩), .pointer (some ⟨b6, 0, none⟩), .pointer (some ⟨b4, 0, none⟩), .pointer (some ⟨b5, 0, none⟩), .pointer (some ⟨WA.heap.size + 1, 0, none⟩), .pointer (some ⟨b3, 0, none⟩)] outer [(WA.heap.size, #[.int .i64 (triesF 1 inner outer)], 3), (WA.heap.size + 1, #[.int .i64 (triesC 1 inner)], 58)] (((WA.alloc (.cells #[.int .i64 0] 3)).alloc (.cells #[.int .i64 0] 58)).alloc (.cells #[.nilIface] 20))
          (by intro e he; simp at he; rcases he with rfl | rfl; exact t7.lt; exact t8.lt) (fun w => enters_of Try.func59 (by kernel_rfl) rfl _ w)
          (fun W' hb => tries1 what inner outer 1 word WA.heap.size b6 b4 b5 (WA.heap.size + 1) b3 W' hr (by simp) (t7.below hb) (t6.below hb) (t4.below hb) (t5.below hb) (t8.below hb) (t3.below hb) (by omega) (by omega) (by omega) (by omega) (by omega) (by omega))).mono
          fun e w' h => ⟨h.1, h.2, t9.butl h.2.2 (by simp; omega)⟩)
      clear HR HR3 hr0
      go_wp2_with fail
      refine TT.mono ?_
      rintro e w2 ⟨w1', ⟨kL, k1⟩, rfl, k2⟩
      have k7 := (show Blk w1' WA.heap.size _ _ from kL (WA.heap.size, #[.int .i64 (triesF 1 inner outer)], 3) (by simp)).but k2 (by omega)
      have k8 := (show Blk w1' (WA.heap.size + 1) _ _ from kL (WA.heap.size + 1, #[.int .i64 (triesC 1 inner)], 58) (by simp)).but k2 (by omega)
      have k3 := (t3.butl k1 (by simp; omega)).but k2 (by omega)
      have k4 := (t4.butl k1 (by simp; omega)).but k2 (by omega)
      have k5 := (t5.butl k1 (by simp; omega)).but k2 (by omega)
      have k6 := (t6.butl k1 (by simp; omega)).but k2 (by omega)
      have hB1 := k1.to hB9 (by intro b hb; simp at hb; rcases hb with rfl | rfl <;> omega) hB9.size
      have hB := k2.to hB1 (by omega) hB1.size
      clear TT kL k1 k2 t3 t4 t5 t6 t7 t8 t9 hB9 hB1
      have c2 := k6.cell 0 _ rfl
      have c3 := k3.cell 0 _ rfl
      have c4 := k4.cell 0 _ rfl
      by_cases hi : inner = 0
      · subst hi
        have eC : triesC 1 0 = 0 := rfl
        have eS : triesS 1 0 = 12 := by unfold triesS; rw [eC]; rfl
        by_cases ho : outer = 0
        · subst ho
          have eF : triesF 1 0 0 = 1112 := by unfold triesF; rw [eS]; rfl
          rw [eF] at k7
          rw [eC] at k8
          clear eF eC eS
          have c0 := k7.cell 0 _ rfl
          have c1 := k8.cell 0 _ rfl
          go_wp2_with fail
          refine (fix_try_nil _).mono ?_
          rintro e w3 ⟨rfl, hb3⟩
          go_wp2_with fail
          go_ret
          exact ⟨rfl, hB.trans (hb3.mono hB.size)⟩
        · have hob : (outer == 0) = false := by simp [ho]
          have eF : triesF 1 0 outer = 112 := by unfold triesF; rw [eS, if_neg ho]; rfl
          rw [eF] at k7
          rw [eC] at k8
          clear eF eC eS ho
          have c0 := k7.cell 0 _ rfl
          have c1 := k8.cell 0 _ rfl
          go_wp2_with fail
          refine (fix_try_nil _).mono ?_
          rintro e w3 ⟨rfl, hb3⟩
          go_wp2_with fail
          go_ret
          exact ⟨rfl, hB.trans (hb3.mono hB.size)⟩
      · have hib : (inner == 0) = false := by simp [hi]
        have eC : triesC 1 inner = inner := rfl
        have eS : triesS 1 inner = 2 := by unfold triesS; rw [eC]; rw [if_neg hi]
        by_cases ho : outer = 0
        · subst ho
          have eF : triesF 1 inner 0 = 1102 := by unfold triesF; rw [eS]; rfl
          rw [eF] at k7
          rw [eC] at k8
          clear eF eC eS
          have c0 := k7.cell 0 _ rfl
          have c1 := k8.cell 0 _ rfl
          go_wp2_with fail
          refine (fix_try_nil _).mono ?_
          rintro e w3 ⟨rfl, hb3⟩
          go_wp2_with fail
          go_ret
          exact ⟨rfl, hB.trans (hb3.mono hB.size)⟩
        · have hob : (outer == 0) = false := by simp [ho]
          have eF : triesF 1 inner outer = 102 := by unfold triesF; rw [eS, if_neg ho]; rfl
          rw [eF] at k7
          rw [eC] at k8
          clear eF eC eS ho
          have c0 := k7.cell 0 _ rfl
          have c1 := k8.cell 0 _ rfl
          go_wp2_with fail
          refine (fix_try_nil _).mono ?_
          rintro e w3 ⟨rfl, hb3⟩
          go_wp2_with fail
          go_ret
          exact ⟨rfl, hB.trans (hb3.mono hB.size)⟩
end Go.Proofs.Ythffphcgkmjhbaa
