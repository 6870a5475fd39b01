/-
  A walker by reckoning: a call of the law, reckoned (printed by wip/ex/mkexk.py off a run of the walker).
-/
import Derived.Test.YtigjjddblijpbaaGreatDoorZ15
namespace Go.Proofs.YtigjjddblijpbaaGreatDoor.Ex
open Go
noncomputable section
def pre_a : Fs := []
def post_a : Fs := []
def ck_a : Ck := ⟨4, [], 1, pre_a, .bool true, post_a, 1, []⟩
end
theorem ck_a_ok : chk ck_a (evF hk1 C1 Tryz.prog 2000 60 ck_a.f ck_a.args (ofL ck_a.pre .e) ck_a.nx) = true := by kernel_rfl
end Go.Proofs.YtigjjddblijpbaaGreatDoor.Ex
