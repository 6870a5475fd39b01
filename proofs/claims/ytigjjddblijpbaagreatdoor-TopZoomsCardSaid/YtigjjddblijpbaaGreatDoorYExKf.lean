/-
  A walker by reckoning: a call of the law, reckoned (printed by wip/ex/mkexk.py off a run of the walker).
-/
import Derived.Test.YtigjjddblijpbaaGreatDoorZ15
namespace Go.Proofs.YtigjjddblijpbaaGreatDoor.Ex
open Go
noncomputable section
def pre_f : Fs := []
def post_f : Fs := [(511, .m [(.int .i64 0, .agg ⟨[.int .i64 (-1), .slice none 0 0]⟩, 512)]),
  (513, .c [.map (some 511), .int .i64 1] 141),
  (514, .m [(.int .i64 0, .agg ⟨[.float .f64 9221120237041090561, .bool false, .float .f64 9221120237041090561, .bool false, .float .f64 9221120237041090561, .bool false, .float .f64 9221120237041090561, .bool false, .float .f64 9218868437227405312, .bool false, .float .f64 9218868437227405312, .bool false, .float .f64 0, .bool false, .float .f64 0, .bool false, .float .f64 0, .bool false, .float .f64 0, .bool false, .float .f64 0, .bool false, .float .f64 0, .bool false, .float .f64 0, .bool false, .float .f64 0, .bool false, .float .f64 9221120237041090561, .bool false, .float .f64 9221120237041090561, .bool false, .float .f64 9221120237041090561, .bool false, .float .f64 9221120237041090561, .bool false, .float .f64 9221120237041090561, .bool false, .float .f64 0, .float .f64 0, .float .f64 0, .float .f64 0, .float .f64 9221120237041090561, .float .f64 0, .float .f64 4607182418800017408, .float .f64 0, .float .f64 0, .float .f64 9221120237041090561, .int .i64 1, .int .i64 1, .int .i64 1, .int .i64 1, .int .i64 0, .int .i64 1, .int .i64 1, .int .i64 1, .int .i64 1, .int .i64 0, .int .i64 1, .int .i64 1, .bool false, .bool false, .bool false, .bool false, .int .u8 0]⟩, 515)]),
  (516, .m [(.int .i64 0, .agg ⟨[.int .i64 1, .int .i64 0, .int .i64 1, .int .i64 0, .int .i64 1, .int .i64 0, .int .i64 1, .int .i64 0, .int .i64 2, .int .i64 0, .int .i64 2, .int .i64 0, .int .i64 3, .int .i64 0, .int .i64 3, .int .i64 0, .int .i64 3, .int .i64 0, .int .i64 3, .int .i64 0, .int .i64 3, .int .i64 0, .int .i64 3, .int .i64 0, .int .i64 3, .int .i64 0, .int .i64 3, .int .i64 0, .int .i64 1, .int .i64 0, .int .i64 1, .int .i64 0, .int .i64 1, .int .i64 0, .int .i64 1, .int .i64 0, .int .i64 1, .int .i64 0, .int .i64 0, .int .i64 0, .int .i64 0, .int .i64 0, .int .i64 0, .int .i64 0, .int .i64 4096, .int .i64 0, .int .i64 0, .int .i64 1280, .bool true, .int .i64 1, .int .i64 1, .int .i64 1, .int .i64 1, .int .i64 0, .int .i64 1, .int .i64 1, .int .i64 1, .int .i64 1, .int .i64 0, .int .i64 1, .int .i64 1, .int .u8 0, .bool false, .slice none 0 0]⟩, 517)]),
  (518, .c [.int .i64 10, .int .i64 10, .int .i64 1, .int .i64 1, .pointer (some ⟨513, 0, none⟩), .map (some 514), .map (some 516), .map (some 559), .map (some 527), .pointer (some ⟨513, 0, none⟩), .map (some 516), .map (some 527), .map (some 561), .slice none 0 0, .pointer (some ⟨570, 0, none⟩), .slice none 0 0, .bool true, .int .i64 (-1), .int .i64 0, .int .i64 0] 96),
  (527, .m [(.int .i64 0, .agg ⟨[.int .i64 0, .int .i64 0, .int .i64 640, .int .i64 0, .int .i64 0, .int .i64 0, .int .i64 0, .int .i64 0, .int .i64 0, .int .i64 0, .int .i64 0, .int .i64 0, .int .i64 0, .int .i64 0, .int .i64 0, .int .i64 0, .slice none 0 0]⟩, 553)]),
  (559, .m []),
  (561, .m [(.int .i64 0, .agg ⟨[.int .i64 0, .int .i64 0, .int .i64 (-1), .int .i64 0, .int .i64 0, .int .i64 0, .int .i64 0]⟩, 568)]),
  (570, .c [.int .i64 10, .int .i64 10, .slice (some ⟨600, 0, some 0⟩) 10 0] 125),
  (571, .c [.int .u8 0, .int .u8 0, .int .u8 0, .int .u8 0, .int .u8 0, .int .u8 0, .int .u8 0, .int .u8 0, .int .u8 0, .int .u8 0] 5),
  (574, .c [.int .u8 0, .int .u8 0, .int .u8 0, .int .u8 0, .int .u8 0, .int .u8 0, .int .u8 0, .int .u8 0, .int .u8 0, .int .u8 0] 5),
  (577, .c [.int .u8 0, .int .u8 0, .int .u8 0, .int .u8 0, .int .u8 0, .int .u8 0, .int .u8 0, .int .u8 0, .int .u8 0, .int .u8 0] 5),
  (580, .c [.int .u8 0, .int .u8 0, .int .u8 0, .int .u8 0, .int .u8 0, .int .u8 0, .int .u8 0, .int .u8 0, .int .u8 0, .int .u8 0] 5),
  (583, .c [.int .u8 0, .int .u8 0, .int .u8 0, .int .u8 0, .int .u8 0, .int .u8 0, .int .u8 0, .int .u8 0, .int .u8 0, .int .u8 0] 5),
  (586, .c [.int .u8 0, .int .u8 0, .int .u8 0, .int .u8 0, .int .u8 0, .int .u8 0, .int .u8 0, .int .u8 0, .int .u8 0, .int .u8 0] 5),
  (589, .c [.int .u8 0, .int .u8 0, .int .u8 0, .int .u8 0, .int .u8 0, .int .u8 0, .int .u8 0, .int .u8 0, .int .u8 0, .int .u8 0] 5),
  (592, .c [.int .u8 0, .int .u8 0, .int .u8 0, .int .u8 0, .int .u8 0, .int .u8 0, .int .u8 0, .int .u8 0, .int .u8 0, .int .u8 0] 5),
  (595, .c [.int .u8 0, .int .u8 0, .int .u8 0, .int .u8 0, .int .u8 0, .int .u8 0, .int .u8 0, .int .u8 0, .int .u8 0, .int .u8 0] 5),
  (598, .c [.int .u8 0, .int .u8 0, .int .u8 0, .int .u8 0, .int .u8 0, .int .u8 0, .int .u8 0, .int .u8 0, .int .u8 0, .int .u8 0] 5),
  (600, .r [.slice (some ⟨571, 0, none⟩) 10 10, .slice (some ⟨574, 0, none⟩) 10 10, .slice (some ⟨577, 0, none⟩) 10 10, .slice (some ⟨580, 0, none⟩) 10 10, .slice (some ⟨583, 0, none⟩) 10 10, .slice (some ⟨586, 0, none⟩) 10 10, .slice (some ⟨589, 0, none⟩) 10 10, .slice (some ⟨592, 0, none⟩) 10 10, .slice (some ⟨595, 0, none⟩) 10 10, .slice (some ⟨598, 0, none⟩) 10 10] 122 1)]
def ck_f : Ck := ⟨5, [.int .i64 10, .int .i64 10], 509, pre_f, .tuple ⟨[.pointer (some ⟨518, 0, none⟩), .int .i64 0]⟩, post_f, 601, []⟩
end
theorem ck_f_ok : chk ck_f (evF hk1 C1 Tryz.prog 2000 60 ck_f.f ck_f.args (ofL ck_f.pre .e) ck_f.nx) = true := by kernel_rfl
end Go.Proofs.YtigjjddblijpbaaGreatDoor.Ex
