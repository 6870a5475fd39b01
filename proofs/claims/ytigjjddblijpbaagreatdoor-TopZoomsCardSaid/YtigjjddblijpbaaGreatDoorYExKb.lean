/-
  A walker by reckoning: a call of the law, reckoned (printed by wip/ex/mkexk.py off a run of the walker).
-/
import Derived.Test.YtigjjddblijpbaaGreatDoorZ15
namespace Go.Proofs.YtigjjddblijpbaaGreatDoor.Ex
open Go
noncomputable section
def pre_b : Fs := []
def post_b : Fs := [(5, .m [(.int .i64 0, .agg ⟨[.int .i64 (-1), .slice none 0 0]⟩, 6)]),
  (7, .c [.map (some 5), .int .i64 1] 141),
  (8, .m [(.int .i64 0, .agg ⟨[.float .f64 9221120237041090561, .bool false, .float .f64 9221120237041090561, .bool false, .float .f64 9221120237041090561, .bool false, .float .f64 9221120237041090561, .bool false, .float .f64 9218868437227405312, .bool false, .float .f64 9218868437227405312, .bool false, .float .f64 0, .bool false, .float .f64 0, .bool false, .float .f64 0, .bool false, .float .f64 0, .bool false, .float .f64 0, .bool false, .float .f64 0, .bool false, .float .f64 0, .bool false, .float .f64 0, .bool false, .float .f64 9221120237041090561, .bool false, .float .f64 9221120237041090561, .bool false, .float .f64 9221120237041090561, .bool false, .float .f64 9221120237041090561, .bool false, .float .f64 9221120237041090561, .bool false, .float .f64 0, .float .f64 0, .float .f64 0, .float .f64 0, .float .f64 9221120237041090561, .float .f64 0, .float .f64 4607182418800017408, .float .f64 0, .float .f64 0, .float .f64 9221120237041090561, .int .i64 1, .int .i64 1, .int .i64 1, .int .i64 1, .int .i64 0, .int .i64 1, .int .i64 1, .int .i64 1, .int .i64 1, .int .i64 0, .int .i64 1, .int .i64 1, .bool false, .bool false, .bool false, .bool false, .int .u8 0]⟩, 9)]),
  (10, .m [(.int .i64 0, .agg ⟨[.int .i64 1, .int .i64 0, .int .i64 1, .int .i64 0, .int .i64 1, .int .i64 0, .int .i64 1, .int .i64 0, .int .i64 2, .int .i64 0, .int .i64 2, .int .i64 0, .int .i64 3, .int .i64 0, .int .i64 3, .int .i64 0, .int .i64 3, .int .i64 0, .int .i64 3, .int .i64 0, .int .i64 3, .int .i64 0, .int .i64 3, .int .i64 0, .int .i64 3, .int .i64 0, .int .i64 3, .int .i64 0, .int .i64 1, .int .i64 0, .int .i64 1, .int .i64 0, .int .i64 1, .int .i64 0, .int .i64 1, .int .i64 0, .int .i64 1, .int .i64 0, .int .i64 0, .int .i64 0, .int .i64 0, .int .i64 0, .int .i64 0, .int .i64 0, .int .i64 4096, .int .i64 0, .int .i64 0, .int .i64 1280, .bool true, .int .i64 1, .int .i64 1, .int .i64 1, .int .i64 1, .int .i64 0, .int .i64 1, .int .i64 1, .int .i64 1, .int .i64 1, .int .i64 0, .int .i64 1, .int .i64 1, .int .u8 0, .bool false, .slice none 0 0]⟩, 11)]),
  (12, .c [.int .i64 10, .int .i64 10, .int .i64 1, .int .i64 1, .pointer (some ⟨7, 0, none⟩), .map (some 8), .map (some 10), .map (some 53), .map (some 21), .pointer (some ⟨7, 0, none⟩), .map (some 10), .map (some 21), .map (some 55), .slice none 0 0, .pointer (some ⟨64, 0, none⟩), .slice none 0 0, .bool true, .int .i64 (-1), .int .i64 0, .int .i64 0] 96),
  (21, .m [(.int .i64 0, .agg ⟨[.int .i64 0, .int .i64 0, .int .i64 640, .int .i64 0, .int .i64 0, .int .i64 0, .int .i64 0, .int .i64 0, .int .i64 0, .int .i64 0, .int .i64 0, .int .i64 0, .int .i64 0, .int .i64 0, .int .i64 0, .int .i64 0, .slice none 0 0]⟩, 47)]),
  (53, .m []),
  (55, .m [(.int .i64 0, .agg ⟨[.int .i64 0, .int .i64 0, .int .i64 (-1), .int .i64 0, .int .i64 0, .int .i64 0, .int .i64 0]⟩, 62)]),
  (64, .c [.int .i64 10, .int .i64 10, .slice (some ⟨94, 0, some 0⟩) 10 0] 125),
  (65, .c [.int .u8 0, .int .u8 0, .int .u8 0, .int .u8 0, .int .u8 0, .int .u8 0, .int .u8 0, .int .u8 0, .int .u8 0, .int .u8 0] 5),
  (68, .c [.int .u8 0, .int .u8 0, .int .u8 0, .int .u8 0, .int .u8 0, .int .u8 0, .int .u8 0, .int .u8 0, .int .u8 0, .int .u8 0] 5),
  (71, .c [.int .u8 0, .int .u8 0, .int .u8 0, .int .u8 0, .int .u8 0, .int .u8 0, .int .u8 0, .int .u8 0, .int .u8 0, .int .u8 0] 5),
  (74, .c [.int .u8 0, .int .u8 0, .int .u8 0, .int .u8 0, .int .u8 0, .int .u8 0, .int .u8 0, .int .u8 0, .int .u8 0, .int .u8 0] 5),
  (77, .c [.int .u8 0, .int .u8 0, .int .u8 0, .int .u8 0, .int .u8 0, .int .u8 0, .int .u8 0, .int .u8 0, .int .u8 0, .int .u8 0] 5),
  (80, .c [.int .u8 0, .int .u8 0, .int .u8 0, .int .u8 0, .int .u8 0, .int .u8 0, .int .u8 0, .int .u8 0, .int .u8 0, .int .u8 0] 5),
  (83, .c [.int .u8 0, .int .u8 0, .int .u8 0, .int .u8 0, .int .u8 0, .int .u8 0, .int .u8 0, .int .u8 0, .int .u8 0, .int .u8 0] 5),
  (86, .c [.int .u8 0, .int .u8 0, .int .u8 0, .int .u8 0, .int .u8 0, .int .u8 0, .int .u8 0, .int .u8 0, .int .u8 0, .int .u8 0] 5),
  (89, .c [.int .u8 0, .int .u8 0, .int .u8 0, .int .u8 0, .int .u8 0, .int .u8 0, .int .u8 0, .int .u8 0, .int .u8 0, .int .u8 0] 5),
  (92, .c [.int .u8 0, .int .u8 0, .int .u8 0, .int .u8 0, .int .u8 0, .int .u8 0, .int .u8 0, .int .u8 0, .int .u8 0, .int .u8 0] 5),
  (94, .r [.slice (some ⟨65, 0, none⟩) 10 10, .slice (some ⟨68, 0, none⟩) 10 10, .slice (some ⟨71, 0, none⟩) 10 10, .slice (some ⟨74, 0, none⟩) 10 10, .slice (some ⟨77, 0, none⟩) 10 10, .slice (some ⟨80, 0, none⟩) 10 10, .slice (some ⟨83, 0, none⟩) 10 10, .slice (some ⟨86, 0, none⟩) 10 10, .slice (some ⟨89, 0, none⟩) 10 10, .slice (some ⟨92, 0, none⟩) 10 10] 122 1)]
def ck_b : Ck := ⟨5, [.int .i64 10, .int .i64 10], 3, pre_b, .tuple ⟨[.pointer (some ⟨12, 0, none⟩), .int .i64 0]⟩, post_b, 95, []⟩
end
theorem ck_b_ok : chk ck_b (evF hk1 C1 Tryz.prog 2000 60 ck_b.f ck_b.args (ofL ck_b.pre .e) ck_b.nx) = true := by kernel_rfl
end Go.Proofs.YtigjjddblijpbaaGreatDoor.Ex
