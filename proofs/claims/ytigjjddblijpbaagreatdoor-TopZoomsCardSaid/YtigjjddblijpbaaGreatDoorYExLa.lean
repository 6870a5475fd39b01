/-
  A walker by reckoning: the law, reckoned: in three cases.
-/
import Derived.Test.YtigjjddblijpbaaGreatDoorYExKa
import Derived.Test.YtigjjddblijpbaaGreatDoorYExKb
import Derived.Test.YtigjjddblijpbaaGreatDoorYExKc
import Derived.Test.YtigjjddblijpbaaGreatDoorYExKd
import Derived.Test.YtigjjddblijpbaaGreatDoorYExKe
import Derived.Test.YtigjjddblijpbaaGreatDoorYExKf
import Derived.Test.YtigjjddblijpbaaGreatDoorYExKg
import Derived.Test.YtigjjddblijpbaaGreatDoorYExKh
import Derived.Test.YtigjjddblijpbaaGreatDoorYExKi
import Derived.Test.YtigjjddblijpbaaGreatDoorYExKj
import Derived.Test.YtigjjddblijpbaaGreatDoorYExKk
import Derived.Test.YtigjjddblijpbaaGreatDoorYExKl
import Derived.Test.YtigjjddblijpbaaGreatDoorYExKm
namespace Go.Proofs.YtigjjddblijpbaaGreatDoor.Ex
open Go
noncomputable section
def cks : List Ck := [ck_a, ck_b, ck_c, ck_d, ck_e, ck_f, ck_g, ck_h, ck_i, ck_j, ck_k, ck_l, ck_m]
def hkL : Hk := hkOr (hkM cks) hk1
def isTrue : Option Res → Bool
  | some (.bool true, _, _, _) => true
  | _ => false
def fLt : List (BinOp × Value × Value × Value) := [(.gtr, sy 20, sy 21, .bool false), (.leq, sy 44, sy 54, .bool true), (.lss, sy 20, sy 21, .bool true)]
def fEq : List (BinOp × Value × Value × Value) := [(.gtr, sy 20, sy 21, .bool false), (.leq, sy 44, sy 54, .bool true), (.lss, sy 20, sy 21, .bool false), (.geq, sy 44, sy 54, .bool true)]
def fGt : List (BinOp × Value × Value × Value) := [(.gtr, sy 20, sy 21, .bool true), (.lss, sy 20, sy 21, .bool false), (.geq, sy 44, sy 54, .bool true)]
def CL (fs : List (BinOp × Value × Value × Value)) : Cx := ⟨bdN 70 0, fs ++ facts1, convs1, [364], [57]⟩
end
theorem law_lt : isTrue (evF hkL (CL fLt) Tryz.prog 2000 60 3 lawA .e 0) = true := by kernel_rfl
theorem law_eq : isTrue (evF hkL (CL fEq) Tryz.prog 2000 60 3 lawA .e 0) = true := by kernel_rfl
theorem law_gt : isTrue (evF hkL (CL fGt) Tryz.prog 2000 60 3 lawA .e 0) = true := by kernel_rfl
end Go.Proofs.YtigjjddblijpbaaGreatDoor.Ex
