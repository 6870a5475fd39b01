/-
  Layer 11 (style): told, same: the walks.
-/
import Derived.Test.YtmkblfejoniccaaDoorYSyQ
namespace Go.Proofs.YtmkblfejoniccaaDoor
open Go Go.RowKit
set_option linter.unusedSimpArgs false
set_option linter.unusedVariables false

/-- The same in a region that keeps its order, behind a guard that says yes. -/
theorem wplw_loadF {P : Program} {ops : Array Oper} {rest : List Oper} {op : Oper} {a : Act} {w : World} {Q : Exit → Act → World → Prop} (hg : Region.wanted op (yielded ops a.tmps) = true) (ty : TypeId) (x : Operand) (ho : op.op = .load ty x)
    {b n : Nat} {f : Nat → Value} {T : TypeId} (t : Blk w b (cellsF n f) T) (o m : Nat) (h : o + m ≤ n) (d : TypeDesc) (hu : P.underlying ty = some d) (hd : d.isRow = true) (hi : (P.info? ty).map (·.size) = some m)
    (hx : a.eval x = .pointer (some ⟨b, o, none⟩)) (hk : wpList P ops Q rest (a.put op.dst (.agg (cellsF m (fun k => f (o + k))))) w) : wpList P ops Q (op :: rest) a w :=
  BigFrame.wpList_want hg fun _ hK => wp_loadF ty x ho t o m h d hu hd hi hx (hK _ _ hk)
theorem wplw_loadA {P : Program} {ops : Array Oper} {rest : List Oper} {op : Oper} {a : Act} {w : World} {Q : Exit → Act → World → Prop} (hg : Region.wanted op (yielded ops a.tmps) = true) (ty : TypeId) (x : Operand) (ho : op.op = .load ty x)
    {b n : Nat} {f : Nat → Value} {T : TypeId} (t : Blk w b (cellsF n f) T) (d : TypeDesc) (hu : P.underlying ty = some d) (hd : d.isRow = true) (hi : (P.info? ty).map (·.size) = some n)
    (hx : a.eval x = .pointer (some ⟨b, 0, none⟩)) (hk : wpList P ops Q rest (a.put op.dst (.agg (cellsF n f))) w) : wpList P ops Q (op :: rest) a w :=
  BigFrame.wpList_want hg fun _ hK => wp_loadA ty x ho t d hu hd hi hx (hK _ _ hk)
theorem wplw_buildV {P : Program} {ops : Array Oper} {rest : List Oper} {op : Oper} {a : Act} {w : World} {Q : Exit → Act → World → Prop} (hg : Region.wanted op (yielded ops a.tmps) = true) (ty : TypeId) (parts : Array (Nat × Operand)) (ho : op.op = .build ty parts)
    (q : Array (Nat × Value)) (v : Value) (hp : parts.map (fun (i, x) => (i, a.eval x)) = q) (hr : ∀ w, (Instr.build ty q).run P w = .ok v w) (hk : wpList P ops Q rest (a.put op.dst v) w) : wpList P ops Q (op :: rest) a w :=
  BigFrame.wpList_want hg fun _ hK => wp_buildV ty parts ho q v hp hr (hK _ _ hk)
/-- What same's world bears. -/
structure SaW (F G : Nat → Value) (w W : World) : Prop where
  sty : Blk W w.heap.size (cellsF 62 F) 66
  ref : Blk W (w.heap.size + 1) (cellsF 61 G) 79
  bel : Below w.heap.size w W
theorem SaW.drewN {F G : Nat → Value} {w W : World} (h : SaW F G w W) (k : Nat) : SaW F G w (W.drewN k) := ⟨h.sty.drewN k, h.ref.drewN k, below_dN h.bel k⟩
theorem SaW.drew {F G : Nat → Value} {w W : World} (h : SaW F G w W) : SaW F G w W.drew := ⟨h.sty.drew, h.ref.drew, h.bel.drew⟩
set_option maxRecDepth 100000 in
set_option maxHeartbeats 3200000 in
theorem same_of (F G : Nat → Value) (K n : Nat → Int) (a : Bool) (c : Int) (hF : ∀ i, i < 19 → F (i * 2) = .int .i64 (K i) ∧ F (i * 2 + 1) = .int .i64 (n i)) (hG : ∀ i, i < 19 → G (i * 2) = .int .i64 (K i) ∧ G (i * 2 + 1) = .int .i64 (n i))
    (EN : ∀ w, (Op.equalIn 10000 64 (.agg (cellsF 10 (fun k => F (38 + k)))) (.agg (cellsF 10 (fun k => G (38 + k))))).run Tryd.prog w = .ok true w)
    (EW : ∀ w, (Op.equalIn 10000 57 (.agg (cellsF 12 (fun k => F (49 + k)))) (.agg (cellsF 12 (fun k => G (49 + k))))).run Tryd.prog w = .ok true w)
    (f48 : F 48 = .bool a) (g48 : G 48 = .bool a) (f61 : F 61 = .int .u8 c) (w : World) :
    Calls Tryd.prog 32 #[.agg (cellsF 62 F), .agg (cellsF 61 G), .int .u8 c] w fun e w' => e = .returned (.bool true) ∧ Below w.heap.size w w' := by
  have HF := Lib.hid (And.intro hF hG)
  have HC := Lib.hid (And.intro f48 (And.intro g48 f61))
  have HE := Lib.hid (And.intro EN EW)
  clear hF hG f48 g48 f61 EN EW
  go_enter Tryd.func32, Tryd.ntmps32
  go_upto_region 1 with fail
  refine wp_worldS (SaW F G w) ⟨Blk.alloc (Blk.new _ _ _ _ rfl) _, Blk.new _ _ _ _ (by simp), (by repeat' (first | (with_reducible exact Below.refl _ _) | (with_reducible assumption) | (with_reducible refine below_alloc ?_ _ ?_) | (with_reducible refine below_set _ ?_ ?_) | (with_reducible refine Below.drew ?_) | (with_reducible refine below_dN ?_ _) | (apply below_thenA; assumption) | omega | (simp; done) | (simp; omega) | (simp [*]; done)))⟩ ?_
  intro W1 hS0
  go_wp2_with fail
  go_loopg [7] 19 (fun gk s7 wr => ∃ i : Nat, i ≤ 19 ∧ gk = 19 - i ∧ s7 = .int .i64 ((i : Int)) ∧ SaW F G w wr)
  case atStart => exact ⟨0, by omega, rfl, rfl, hS0⟩
  case round =>
    clear hS0
    obtain ⟨i, hi, rfl, rfl, hS⟩ := hrel
    by_cases hik : i < 19
    · have ix : (i : Int) < 19 := by omega
      have HS := Lib.hid hS
      have q1 := hS.sty.cellF (i := i * 2) (by omega)
      have q2 := hS.sty.cellF (i := i * 2 + 1) (by omega)
      have q3 := hS.ref.cellF (i := i * 2) (by omega)
      have q4 := hS.ref.cellF (i := i * 2 + 1) (by omega)
      rw [(HF.out.1 i hik).1] at q1
      rw [(HF.out.1 i hik).2] at q2
      rw [(HF.out.2 i hik).1] at q3
      rw [(HF.out.2 i hik).2] at q4
      have EV := fun w => val_self (K i) (n i) w
      clear hS
      go_upto_region 4 with fail
      go_quiet (fail)
      go_wp2_with fail
      go_roundg (19 - (i + 1))
      case measure => go_light; omega
      case rel =>
        go_light
        exact ⟨i + 1, by omega, rfl, rfl, HS.out.drewN _⟩
    · have hi19 : i = 19 := by omega
      subst hi19
      have HS := Lib.hid hS
      have q1 := hS.sty.cellF (i := 48) (by omega)
      have q2 := hS.ref.cellF (i := 48) (by omega)
      have q3 := hS.sty.cellF (i := 61) (by omega)
      rw [HC.out.1] at q1
      rw [HC.out.2.1] at q2
      rw [HC.out.2.2] at q3
      have EN := HE.out.1
      have EW := HE.out.2
      clear hS
      go_wp2_with (first
        | (refine wpl_loadF (by rfl) 64 _ (by rfl) HS.out.sty 38 10 (by omega) _ Tryd.underlying64 rfl (by kernel_rfl) (by rfl) ?_; simp only [Act.put, List.setIfInBounds_toArray, List.set_cons_zero, List.set_cons_succ, Nat.zero_add, Nat.reduceAdd])
        | (refine wpl_loadF (by rfl) 64 _ (by rfl) HS.out.ref 38 10 (by omega) _ Tryd.underlying64 rfl (by kernel_rfl) (by rfl) ?_; simp only [Act.put, List.setIfInBounds_toArray, List.set_cons_zero, List.set_cons_succ, Nat.zero_add, Nat.reduceAdd])
        | (refine wplw_loadF (by kernel_rfl) 57 _ (by rfl) HS.out.sty 49 12 (by omega) _ Tryd.underlying57 rfl (by kernel_rfl) (by rfl) ?_; simp only [Act.put, List.setIfInBounds_toArray, List.set_cons_zero, List.set_cons_succ, Nat.zero_add, Nat.reduceAdd])
        | (refine wplw_loadF (by kernel_rfl) 57 _ (by rfl) HS.out.ref 49 12 (by omega) _ Tryd.underlying57 rfl (by kernel_rfl) (by rfl) ?_; simp only [Act.put, List.setIfInBounds_toArray, List.set_cons_zero, List.set_cons_succ, Nat.zero_add, Nat.reduceAdd]))
      go_ret
      exact ⟨rfl, HS.out.bel⟩
end Go.Proofs.YtmkblfejoniccaaDoor
