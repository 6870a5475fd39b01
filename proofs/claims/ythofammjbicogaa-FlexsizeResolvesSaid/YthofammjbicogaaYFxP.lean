/-
  The law FlexsizeRefuses: what it needs; the law's speaks.
-/
import Derived.Test.YthofammjbicogaaYFxO
import Derived.Laws.MakeOwn
namespace Go.Proofs.Ythofammjbicogaa
open Go.RowKit
set_option linter.unusedSimpArgs false
set_option linter.unusedVariables false

theorem rowV_blk {w : World} {g k s : Nat} {cs : Array Value} {T : TypeId} {vs : List Value} (h : Blk w g cs T) (e : cs.toList = vs) (hl : vs.length = k * s) : RowV w (some ⟨g, 0, none⟩) k s vs := by
  refine ⟨hl, fun _ => ⟨g, 0, rfl, h.lt, fun i hi => ?_⟩⟩
  rw [cell_of_row w g _ _ _ _ h, Nat.zero_add, ← Array.getElem?_toList, e]
/-- Items of nothing. -/
def nil7 : Array Value := #[.int .i64 0, .int .i64 0, .int .i64 0, .bool false, .int .i64 0, .int .i64 0, .int .i64 0]
theorem made_row {w : World} {g n : Nat} {T : TypeId} (h : Blk w g (madeCells nil7 (n * 7)) T) : RowV w (some ⟨g, 0, none⟩) n 7 (fxV (List.replicate n fx0)) := by
  refine ⟨by unfold fxV; rw [flG_len Fx.vals 7 (fun _ => rfl), List.length_replicate], fun _ => ⟨g, 0, rfl, h.lt, fun i hi => ?_⟩⟩
  rw [cell_of_row w g _ _ _ _ h, Nat.zero_add]
  have hd : i / 7 < n := by omega
  have hm : i % 7 < 7 := Nat.mod_lt _ (by omega)
  have e := fxV_get (List.replicate n fx0) (i / 7) (i % 7) (by rw [List.length_replicate]; exact hd) hm
  rw [show i / 7 * 7 + i % 7 = i by omega] at e
  rw [e]
  have e2 : (List.replicate n fx0).getD (i / 7) fx0 = fx0 := by simp [List.getD, List.getElem?_replicate, hd]
  rw [e2]
  have e3 : (madeCells nil7 (n * 7))[i]? = some (nil7[i % 7]!) := by
    unfold madeCells
    rw [Array.getElem?_map, Array.getElem?_range]
    simp [hi]
    rfl
  rw [e3]
  obtain ⟨r, er⟩ : ∃ r, i % 7 = r := ⟨_, rfl⟩
  rw [er] at hm ⊢
  match r, hm with
  | 0, _ => rfl
  | 1, _ => rfl
  | 2, _ => rfl
  | 3, _ => rfl
  | 4, _ => rfl
  | 5, _ => rfl
  | 6, _ => rfl
theorem rep_room : ∀ n : Nat, roomF 100 0 (List.replicate n fx0) = some (100, 0)
  | 0 => rfl
  | n + 1 => by
    rw [List.replicate_succ, roomF, show subO 100 fx0.extra = some 100 by decide, Option.bind_some, show addO 0 (fx0.lim fx0.base) = some 0 by decide, Option.bind_some]
    exact rep_room n
theorem rep_free : ∀ n : Nat, freeF 100 (List.replicate n (newF true fx0)) = some 100
  | 0 => rfl
  | n + 1 => by
    rw [List.replicate_succ, freeF, show (100 : Int) - (newF true fx0).now = 100 by decide, if_pos (by decide)]
    exact rep_free n
theorem rep_done : ∀ n : Nat, doneF (List.replicate n (newF true fx0)) = true
  | 0 => rfl
  | n + 1 => by
    unfold doneF
    rw [List.replicate_succ, List.all_cons]
    have := rep_done n
    unfold doneF at this
    rw [this]
    rfl
theorem rep_out : ∀ n : Nat, outF (List.replicate n (newF true fx0)) = some (List.replicate n 0)
  | 0 => rfl
  | n + 1 => by
    rw [List.replicate_succ, outF, if_pos (by decide), rep_out n]
    rfl
theorem rep_res (n : Nat) : resO 100 (List.replicate n fx0) = some (List.replicate n 0) := by
  unfold resO laidO
  rw [if_pos (by decide), rep_room, Option.bind_some]
  simp only [List.map_replicate]
  rw [show decide ((0 : Int) < 100) = true by decide, rep_free]
  simp only [Option.map_some, Option.bind_some]
  have hd := rep_done n
  have e : loopF true 100 100 (List.replicate n fx0).length (List.replicate n (newF true fx0)) = some (List.replicate n (newF true fx0)) := by
    cases (List.replicate n fx0).length with
    | zero => rfl
    | succ k => rw [loopF, hd, if_pos rfl]
  rw [e, Option.bind_some]
  exact rep_out n
theorem rep_code (n : Nat) : rsC 100 (List.replicate n fx0) = if 1024 < n then 8 else 0 := by
  unfold rsC
  rw [List.length_replicate, rep_res]
  have e : (List.replicate n fx0).all Fx.may = true := by
    rw [List.all_eq_true]
    intro x hx
    rw [List.eq_of_mem_replicate hx]
    decide
  rw [e]
  rfl
theorem fx0_fit : FxFit fx0 := by unfold FxFit fx0 IFit; decide
/-- The two items of speaks. -/
def spA : Fx := ⟨10, 0, 0, false, 0, 4096, 0⟩
def spB : Fx := ⟨20, 0, 0, false, 0, 4096, 0⟩
theorem sp_res : resO 60 [spA, spB] = some [25, 35] := by kernel_rfl
theorem sp_code : rsC 60 [spA, spB] = 0 := by kernel_rfl
end Go.Proofs.Ythofammjbicogaa
