/-
  Closed facts on this seat's translation that each of its rows asks.
-/
import Derived.Test.YtmkblfejoniccaaDoorRows
import Derived.KernelRfl
import Derived.ProofKit
namespace Go.Proofs.YtmkblfejoniccaaDoor
open Go.ChangeShapes Go.WideShapes Go.ChangeAt Go.RowKit
set_option maxRecDepth 100000
set_option linter.unusedSimpArgs false
theorem and2 {a b : Bool} (ha : a = true) (hb : b = true) : (a && b) = true := by rw [ha, hb]; rfl
theorem words_cons {a r : List Char} (h : ∀ c ∈ a, c ≠ Char.ofNat 32) : wordsSigns (a ++ Char.ofNat 32 :: r) = a :: wordsSigns r := by
  induction a with
  | nil => rfl
  | cons c a ih =>
    have h1 := ih fun x hx => h x (List.mem_cons_of_mem _ hx)
    have h2 : c ≠ Char.ofNat 32 := h c (List.mem_cons_self ..)
    rw [List.cons_append]
    conv => lhs; unfold wordsSigns
    split
    · rename_i e; cases e
    · rename_i e; cases e; exact absurd rfl h2
    · rename_i e; cases e; rw [h1]
theorem make_of {P : Program} {s : List Char} {R : List (List Char)} (hw : wordsSigns P.initOrder.toList = ([104, 97, 114, 110, 101, 115, 115].map Char.ofNat) :: s :: ([99, 117, 116].map Char.ofNat) :: R) (hs : isSumSigns s = true) :
    behindMainWord (wordsSigns P.initOrder.toList) = ([99, 117, 116].map Char.ofNat) :: R := by
  rw [hw]
  have e : (([104, 97, 114, 110, 101, 115, 115].map Char.ofNat) == "harness".toList) = true := by kernel_rfl
  simp only [behindMainWord, e, hs, Bool.true_or, Bool.and_self, if_true]
theorem strip_cut (R : List (List Char)) : stripLifts liftWords (([99, 117, 116].map Char.ofNat) :: R) = ([], ([99, 117, 116].map Char.ofNat) :: R) := by kernel_rfl
def sumN : List Char := [101, 56, 55, 50, 99, 49, 48, 100, 48, 48, 56, 52, 51, 102, 53, 52, 55, 98, 100, 99, 100, 50, 56, 52, 53, 51, 56, 57, 54, 101, 54, 55, 51, 51, 56, 102, 49, 99, 49, 48, 97, 54, 99, 49, 99, 48, 52, 54, 50, 54, 56, 99, 52, 48, 56, 52, 102, 99, 97, 54, 51, 51, 97, 48].map Char.ofNat
def restN : List Char := [97, 116, 32, 99, 108, 97, 112, 98, 111, 97, 114, 100, 47, 99, 108, 97, 112, 98, 111, 97, 114, 100, 108, 97, 119, 48, 51, 46, 82, 101, 97, 108, 69, 120, 97, 99, 116, 32, 99, 108, 97, 112, 98, 111, 97, 114, 100, 47, 99, 108, 97, 112, 98, 111, 97, 114, 100, 108, 97, 119, 48, 51, 46, 82, 101, 97, 108, 78, 101, 97, 114, 101, 115, 116, 32, 99, 108, 97, 112, 98, 111, 97, 114, 100, 47, 99, 108, 97, 112, 98, 111, 97, 114, 100, 108, 97, 119, 48, 51, 46, 82, 101, 97, 108, 66, 97, 99, 107, 32, 99, 108, 97, 112, 98, 111, 97, 114, 100, 47, 99, 108, 97, 112, 98, 111, 97, 114, 100, 108, 97, 119, 48, 51, 46, 82, 101, 97, 108, 71, 114, 105, 100, 32, 99, 108, 97, 112, 98, 111, 97, 114, 100, 47, 99, 108, 97, 112, 98, 111, 97, 114, 100, 108, 97, 119, 48, 51, 46, 82, 101, 97, 108, 77, 111, 110, 111, 116, 111, 110, 101, 32, 99, 108, 97, 112, 98, 111, 97, 114, 100, 47, 99, 108, 97, 112, 98, 111, 97, 114, 100, 108, 97, 119, 49, 49, 46, 83, 116, 121, 108, 101, 67, 111, 109, 112, 117, 116, 101, 115, 32, 99, 108, 97, 112, 98, 111, 97, 114, 100, 47, 99, 108, 97, 112, 98, 111, 97, 114, 100, 108, 97, 119, 49, 49, 46, 83, 116, 121, 108, 101, 83, 101, 116, 115, 32, 99, 108, 97, 112, 98, 111, 97, 114, 100, 47, 99, 108, 97, 112, 98, 111, 97, 114, 100, 108, 97, 119, 49, 49, 46, 83, 116, 121, 108, 101, 66, 111, 114, 100, 101, 114, 115, 32, 99, 108, 97, 112, 98, 111, 97, 114, 100, 47, 99, 108, 97, 112, 98, 111, 97, 114, 100, 108, 97, 119, 49, 49, 46, 83, 116, 121, 108, 101, 72, 97, 105, 114, 108, 105, 110, 101, 115, 32, 99, 108, 97, 112, 98, 111, 97, 114, 100, 47, 99, 108, 97, 112, 98, 111, 97, 114, 100, 108, 97, 119, 48, 51, 46, 82, 101, 97, 108, 75, 105, 110, 100, 115, 32, 99, 108, 97, 112, 98, 111, 97, 114, 100, 47, 99, 108, 97, 112, 98, 111, 97, 114, 100, 108, 97, 119, 48, 51, 46, 82, 101, 97, 108, 79, 114, 100, 101, 114, 115].map Char.ofNat
theorem io_eq : Tryd.prog.initOrder = String.ofList (([104, 97, 114, 110, 101, 115, 115].map Char.ofNat) ++ Char.ofNat 32 :: (sumN ++ Char.ofNat 32 :: (([99, 117, 116].map Char.ofNat) ++ Char.ofNat 32 :: restN))) := by kernel_rfl
theorem io_words : wordsSigns Tryd.prog.initOrder.toList = ([104, 97, 114, 110, 101, 115, 115].map Char.ofNat) :: sumN :: ([99, 117, 116].map Char.ofNat) :: wordsSigns restN := by
  rw [io_eq, String.toList_ofList, words_cons (by decide), words_cons (by decide), words_cons (by decide)]
theorem io_main : behindMainWord (wordsSigns Tryd.prog.initOrder.toList) = ([99, 117, 116].map Char.ofNat) :: wordsSigns restN := make_of io_words (by decide)
theorem make_cut {P : Program} {R : List (List Char)} (h : behindMainWord (wordsSigns P.initOrder.toList) = ([99, 117, 116].map Char.ofNat) :: R) : P.make = some .cut := by
  unfold Program.make
  rw [h]
  kernel_rfl
theorem lifts_cut {P : Program} {R : List (List Char)} (h : behindMainWord (wordsSigns P.initOrder.toList) = ([99, 117, 116].map Char.ofNat) :: R) : P.liftsFinal = false := by
  unfold Program.liftsFinal Program.headLifts
  rw [h, strip_cut]
  kernel_rfl
theorem enter_cut {P : Program} {R : List (List Char)} (h : behindMainWord (wordsSigns P.initOrder.toList) = ([99, 117, 116].map Char.ofNat) :: R) (h1 : P.laysLater = false) (h2 : P.bearsReflect = false) (h3 : P.doorFits [] = true) : P.mayEnter = true := by
  unfold Program.mayEnter
  rw [h]
  have e1 : (([99, 117, 116].map Char.ofNat) == "gc".toList) = false := by kernel_rfl
  have e2 : (([99, 117, 116].map Char.ofNat) == "spec".toList) = false := by kernel_rfl
  have e3 : (([99, 117, 116].map Char.ofNat) == "carried".toList) = false := by kernel_rfl
  have e4 : ((some ([99, 117, 116].map Char.ofNat) : Option (List Char)) == some "cut".toList) = true := by kernel_rfl
  simp only [strip_cut, h1, h2, h3, e1, e2, e3, e4, List.head?_cons, Bool.or_false, Bool.false_and, Bool.false_or, Bool.not_false, Bool.or_true, Bool.and_self, Bool.true_and, List.contains_nil]
theorem fact_make : Tryd.prog.make = some .cut := make_cut io_main
theorem fact_lifts : Tryd.prog.liftsFinal = false := lifts_cut io_main
theorem fact_later : Tryd.prog.laysLater = false := by kernel_rfl
theorem fact_reflect : Tryd.prog.bearsReflect = false := by kernel_rfl
theorem fact_door : Tryd.prog.doorFits [] = true := by kernel_rfl
theorem fact_mayEnter : Tryd.prog.mayEnter = true := enter_cut io_main fact_later fact_reflect fact_door
theorem fact_laidOut : laidOutB Tryd.prog = true := by kernel_rfl
theorem fact_mapsRowed : mapsRowed Tryd.prog = true := by kernel_rfl
theorem fact_stops : (Tryd.prog.stops == []) = true := by kernel_rfl
theorem fact_stopKnobs : (Tryd.prog.stopKnobs == []) = true := by kernel_rfl
theorem fact_stopsHeard : Tryd.prog.stopsHeard = true := by kernel_rfl
end Go.Proofs.YtmkblfejoniccaaDoor
