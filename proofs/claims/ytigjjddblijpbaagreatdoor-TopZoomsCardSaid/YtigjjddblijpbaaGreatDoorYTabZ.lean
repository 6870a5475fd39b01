/-
  From what a row lists of the tables of package style to what the walks ask.
-/
import Derived.Test.YtigjjddblijpbaaGreatDoorRows
import Derived.Test.YtigjjddblijpbaaGreatDoorZ11
import Derived.Lib.LaidU8
import Derived.LaidMore
import Derived.Stop.Joined
import Derived.ProofKit
import Derived.OpenShut
namespace Go.Proofs.YtigjjddblijpbaaGreatDoor
open Go.RowKit

/-- An array of structs of three whole numbers, as a row lists it. -/
def triData (n : Nat) (z : Nat → Int) : DataW Unit := .agg ((List.range n).map fun i => .agg ([z (3 * i), z (3 * i + 1), z (3 * i + 2)].map fun v => .lit (.int .i64 v)))
theorem tri_cells {P : Program} {W : World} {name : String} {g : Nat} {t e : TypeId} {n : Nat} {f0 f1 f2 : Field} {z : Nat → Int}
    (hg : P.globalNamed name = some g) (hty : (P.globals[g]?).map (·.type) = some t) (ht : P.underlying t = some (.array n e)) (he : P.underlying e = some (.struct #[f0, f1, f2]))
    (hf : ∀ (i : Nat) (f : Field), (#[f0, f1, f2] : Array Field)[i]? = some f → P.underlying f.type = some (.int .i64) ∧ f.offset = i ∧ P.cellsOf f.type = 1) (hce : P.cellsOf e = 3)
    (h : Lib.VarReads P W name (triData n z)) : ∀ j, j < 3 * n → W.cell? ⟨g, j, none⟩ = some (.int .i64 (z j)) := by
  obtain ⟨g', t', cs, fuel, p, hg', hty', hvar, hd⟩ := h
  obtain rfl := Option.some.inj (hg.symm.trans hg')
  obtain rfl := Option.some.inj (hty.symm.trans hty')
  have key : ∀ i, i < n → ∀ k, k < 3 → W.cell? ⟨g, 3 * i + k, none⟩ = some (.int .i64 (z (3 * i + k))) := by
    intro i hi k hk
    obtain ⟨fuel', d, q, hdi, hel⟩ := Lib.array_elem ht hd i hi
    simp only [List.getElem?_map, List.getElem?_range hi, Option.map_some, Option.some.injEq] at hdi
    subst hdi
    rw [hce] at hel
    have hcs := Lib.ints_of_struct he hf (by rw [hce]; rfl) hel
    have e0 := congrArg (·[k]?) hcs
    simp only [List.getElem?_take, List.getElem?_drop, if_pos hk] at e0
    rw [World.var?_cell hg hvar (3 * i + k), ← Array.getElem?_toList, Nat.mul_comm 3 i, e0]
    match k, hk with
    | 0, _ => simp [Nat.mul_comm]
    | 1, _ => simp [Nat.mul_comm]
    | 2, _ => simp [Nat.mul_comm]
  intro j hj
  have := key (j / 3) (by omega) (j % 3) (by omega)
  rwa [show 3 * (j / 3) + j % 3 = j by omega] at this
theorem cell_size {W : World} {b o : Nat} {s : Option Nat} {v : Value} (h : W.cell? ⟨b, o, s⟩ = some v) : b < W.heap.size := by
  unfold World.cell? at h
  apply Nat.lt_of_not_le
  intro hle
  simp only at h
  rw [Array.getElem?_eq_none hle] at h
  cases h
def laidS : List (String × DataW Unit) := [("clapboard/style.numbers", Rows.laid_clapboard_style_numbers), ("clapboard/style.words", Rows.laid_clapboard_style_words)]
theorem laidS_num : Rows.laid_clapboard_style_numbers = triData 10 (fun j => numT.getD j 0) := by rfl
theorem laidS_wrd : Rows.laid_clapboard_style_words = triData 12 (fun j => wrdT.getD j 0) := by rfl
theorem sty_of_laid {W : World} (h : laidMetH Tryz.prog laidS W) : StyW W := by
  rw [MakeChecks.laidMetH_plain _ _ _ (by kernel_rfl)] at h
  have r1 := Lib.laidMet.reads h (n := "clapboard/style.numbers") (d := Rows.laid_clapboard_style_numbers) (by unfold laidS; simp)
  have r2 := Lib.laidMet.reads h (n := "clapboard/style.words") (d := Rows.laid_clapboard_style_words) (by unfold laidS; simp)
  rw [laidS_num] at r1
  rw [laidS_wrd] at r2
  have c1 := tri_cells (g := 2) (by kernel_rfl) (by kernel_rfl) Tryz.underlying185 Tryz.underlying134 (by intro i f hj; match i, hj with | 0, hj => (simp at hj; subst hj; exact ⟨Tryz.underlying2, rfl, by kernel_rfl⟩) | 1, hj => (simp at hj; subst hj; exact ⟨Tryz.underlying2, rfl, by kernel_rfl⟩) | 2, hj => (simp at hj; subst hj; exact ⟨Tryz.underlying2, rfl, by kernel_rfl⟩) | j + 3, hj => simp at hj) (by kernel_rfl) r1
  have c2 := tri_cells (g := 0) (by kernel_rfl) (by kernel_rfl) Tryz.underlying135 Tryz.underlying134 (by intro i f hj; match i, hj with | 0, hj => (simp at hj; subst hj; exact ⟨Tryz.underlying2, rfl, by kernel_rfl⟩) | 1, hj => (simp at hj; subst hj; exact ⟨Tryz.underlying2, rfl, by kernel_rfl⟩) | 2, hj => (simp at hj; subst hj; exact ⟨Tryz.underlying2, rfl, by kernel_rfl⟩) | j + 3, hj => simp at hj) (by kernel_rfl) r2
  exact ⟨cell_size (c1 0 (by decide)), cell_size (c2 0 (by decide)), fun j hj => c1 j hj, fun j hj => c2 j hj⟩
/-- The door's own heap meets the condition. -/
theorem sty_door (os : Os) (args : Array Value) : laidMetH Tryz.prog laidS ((World.doorLaid Tryz.prog 46 os).forCall (fun _ _ => 0) ⟨#[], args, []⟩).memory :=
  laidMetH_of_parts3 (fuel := 8) (laidMet_of_run' 8 (by kernel_rfl) (by kernel_rfl)) (by kernel_rfl) (by kernel_rfl)
end Go.Proofs.YtigjjddblijpbaaGreatDoor
