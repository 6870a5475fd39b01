/-
  Closed facts on this seat's translation that each of its rows asks.
-/
import Derived.Test.YtigjjddblijpbaaGreatDoorRows
import Derived.KernelRfl
import Derived.ProofKit
namespace Go.Proofs.YtigjjddblijpbaaGreatDoor
open Go.ChangeShapes Go.WideShapes Go.ChangeAt Go.RowKit
set_option maxRecDepth 100000
set_option linter.unusedSimpArgs false
theorem and2 {a b : Bool} (ha : a = true) (hb : b = true) : (a && b) = true := by rw [ha, hb]; rfl
theorem words_cons {a r : List Char} (h : ∀ c ∈ a, c ≠ Char.ofNat 32) : wordsSigns (a ++ Char.ofNat 32 :: r) = a :: wordsSigns r := by
  induction a with
  | nil => rfl
  | cons c a ih =>
    have h1 := ih fun x hx => h x (List.mem_cons_of_mem _ hx)
    have h2 : c ≠ Char.ofNat 32 := h c (List.mem_cons_self ..)
    rw [List.cons_append]
    conv => lhs; unfold wordsSigns
    split
    · rename_i e; cases e
    · rename_i e; cases e; exact absurd rfl h2
    · rename_i e; cases e; rw [h1]
theorem make_of {P : Program} {s : List Char} {R : List (List Char)} (hw : wordsSigns P.initOrder.toList = ([104, 97, 114, 110, 101, 115, 115].map Char.ofNat) :: s :: ([99, 117, 116].map Char.ofNat) :: R) (hs : isSumSigns s = true) :
    behindMainWord (wordsSigns P.initOrder.toList) = ([99, 117, 116].map Char.ofNat) :: R := by
  rw [hw]
  have e : (([104, 97, 114, 110, 101, 115, 115].map Char.ofNat) == "harness".toList) = true := by kernel_rfl
  simp only [behindMainWord, e, hs, Bool.true_or, Bool.and_self, if_true]
theorem strip_cut (R : List (List Char)) : stripLifts liftWords (([99, 117, 116].map Char.ofNat) :: R) = ([], ([99, 117, 116].map Char.ofNat) :: R) := by kernel_rfl
def sumN : List Char := [56, 99, 50, 54, 101, 101, 100, 55, 50, 101, 101, 55, 49, 48, 97, 52, 50, 99, 99, 52, 55, 98, 57, 102, 100, 55, 102, 51, 97, 51, 99, 102, 50, 102, 98, 55, 54, 49, 53, 56, 48, 99, 51, 51, 101, 97, 54, 51, 56, 100, 102, 48, 55, 50, 57, 97, 57, 53, 102, 57, 49, 48, 102, 54].map Char.ofNat
def restN : List Char := [97, 116, 32, 99, 108, 97, 112, 98, 111, 97, 114, 100, 47, 99, 108, 97, 112, 98, 111, 97, 114, 100, 116, 111, 112, 46, 84, 111, 112, 90, 111, 111, 109, 115].map Char.ofNat
theorem io_eq : Tryz.prog.initOrder = String.ofList (([104, 97, 114, 110, 101, 115, 115].map Char.ofNat) ++ Char.ofNat 32 :: (sumN ++ Char.ofNat 32 :: (([99, 117, 116].map Char.ofNat) ++ Char.ofNat 32 :: restN))) := by kernel_rfl
theorem io_words : wordsSigns Tryz.prog.initOrder.toList = ([104, 97, 114, 110, 101, 115, 115].map Char.ofNat) :: sumN :: ([99, 117, 116].map Char.ofNat) :: wordsSigns restN := by
  rw [io_eq, String.toList_ofList, words_cons (by decide), words_cons (by decide), words_cons (by decide)]
theorem io_main : behindMainWord (wordsSigns Tryz.prog.initOrder.toList) = ([99, 117, 116].map Char.ofNat) :: wordsSigns restN := make_of io_words (by decide)
theorem make_cut {P : Program} {R : List (List Char)} (h : behindMainWord (wordsSigns P.initOrder.toList) = ([99, 117, 116].map Char.ofNat) :: R) : P.make = some .cut := by
  unfold Program.make
  rw [h]
  kernel_rfl
theorem lifts_cut {P : Program} {R : List (List Char)} (h : behindMainWord (wordsSigns P.initOrder.toList) = ([99, 117, 116].map Char.ofNat) :: R) : P.liftsFinal = false := by
  unfold Program.liftsFinal Program.headLifts
  rw [h, strip_cut]
  kernel_rfl
theorem enter_cut {P : Program} {R : List (List Char)} (h : behindMainWord (wordsSigns P.initOrder.toList) = ([99, 117, 116].map Char.ofNat) :: R) (h1 : P.laysLater = false) (h2 : P.bearsReflect = false) (h3 : P.doorFits [] = true) : P.mayEnter = true := by
  unfold Program.mayEnter
  rw [h]
  have e1 : (([99, 117, 116].map Char.ofNat) == "gc".toList) = false := by kernel_rfl
  have e2 : (([99, 117, 116].map Char.ofNat) == "spec".toList) = false := by kernel_rfl
  have e3 : (([99, 117, 116].map Char.ofNat) == "carried".toList) = false := by kernel_rfl
  have e4 : ((some ([99, 117, 116].map Char.ofNat) : Option (List Char)) == some "cut".toList) = true := by kernel_rfl
  simp only [strip_cut, h1, h2, h3, e1, e2, e3, e4, List.head?_cons, Bool.or_false, Bool.false_and, Bool.false_or, Bool.not_false, Bool.or_true, Bool.and_self, Bool.true_and, List.contains_nil]
theorem fact_make : Tryz.prog.make = some .cut := make_cut io_main
theorem fact_lifts : Tryz.prog.liftsFinal = false := lifts_cut io_main
theorem fact_later : Tryz.prog.laysLater = false := by kernel_rfl
theorem fact_reflect : Tryz.prog.bearsReflect = false := by kernel_rfl
theorem fact_door : Tryz.prog.doorFits [] = true := by kernel_rfl
theorem fact_mayEnter : Tryz.prog.mayEnter = true := enter_cut io_main fact_later fact_reflect fact_door
theorem fact_laidOut : laidOutB Tryz.prog = true := by kernel_rfl
theorem fact_mapsRowed : mapsRowed Tryz.prog = true := by kernel_rfl
theorem fact_stops : (Tryz.prog.stops == []) = true := by kernel_rfl
theorem fact_stopKnobs : (Tryz.prog.stopKnobs == []) = true := by kernel_rfl
theorem fact_stopsHeard : Tryz.prog.stopsHeard = true := by kernel_rfl
end Go.Proofs.YtigjjddblijpbaaGreatDoor
