/-
  A walker by reckoning: a call of the law, reckoned (printed by wip/ex/mkexk.py off a run of the walker).
-/
import Derived.Test.YtigjjddblijpbaaGreatDoorZ15
namespace Go.Proofs.YtigjjddblijpbaaGreatDoor.Ex
open Go
noncomputable section
def pre_j : Fs := []
def post_j : Fs := [(1017, .m [(.int .i64 0, .agg ⟨[.int .i64 (-1), .slice none 0 0]⟩, 1018)]),
  (1019, .c [.map (some 1017), .int .i64 1] 141),
  (1020, .m [(.int .i64 0, .agg ⟨[.float .f64 9221120237041090561, .bool false, .float .f64 9221120237041090561, .bool false, .float .f64 9221120237041090561, .bool false, .float .f64 9221120237041090561, .bool false, .float .f64 9218868437227405312, .bool false, .float .f64 9218868437227405312, .bool false, .float .f64 0, .bool false, .float .f64 0, .bool false, .float .f64 0, .bool false, .float .f64 0, .bool false, .float .f64 0, .bool false, .float .f64 0, .bool false, .float .f64 0, .bool false, .float .f64 0, .bool false, .float .f64 9221120237041090561, .bool false, .float .f64 9221120237041090561, .bool false, .float .f64 9221120237041090561, .bool false, .float .f64 9221120237041090561, .bool false, .float .f64 9221120237041090561, .bool false, .float .f64 0, .float .f64 0, .float .f64 0, .float .f64 0, .float .f64 9221120237041090561, .float .f64 0, .float .f64 4607182418800017408, .float .f64 0, .float .f64 0, .float .f64 9221120237041090561, .int .i64 1, .int .i64 1, .int .i64 1, .int .i64 1, .int .i64 0, .int .i64 1, .int .i64 1, .int .i64 1, .int .i64 1, .int .i64 0, .int .i64 1, .int .i64 1, .bool false, .bool false, .bool false, .bool false, .int .u8 0]⟩, 1021)]),
  (1022, .m [(.int .i64 0, .agg ⟨[.int .i64 1, .int .i64 0, .int .i64 1, .int .i64 0, .int .i64 1, .int .i64 0, .int .i64 1, .int .i64 0, .int .i64 2, .int .i64 0, .int .i64 2, .int .i64 0, .int .i64 3, .int .i64 0, .int .i64 3, .int .i64 0, .int .i64 3, .int .i64 0, .int .i64 3, .int .i64 0, .int .i64 3, .int .i64 0, .int .i64 3, .int .i64 0, .int .i64 3, .int .i64 0, .int .i64 3, .int .i64 0, .int .i64 1, .int .i64 0, .int .i64 1, .int .i64 0, .int .i64 1, .int .i64 0, .int .i64 1, .int .i64 0, .int .i64 1, .int .i64 0, .int .i64 0, .int .i64 0, .int .i64 0, .int .i64 0, .int .i64 0, .int .i64 0, .int .i64 4096, .int .i64 0, .int .i64 0, .int .i64 1280, .bool true, .int .i64 1, .int .i64 1, .int .i64 1, .int .i64 1, .int .i64 0, .int .i64 1, .int .i64 1, .int .i64 1, .int .i64 1, .int .i64 0, .int .i64 1, .int .i64 1, .int .u8 0, .bool false, .slice none 0 0]⟩, 1023)]),
  (1024, .c [.int .i64 10, .int .i64 10, .int .i64 1, .int .i64 1, .pointer (some ⟨1019, 0, none⟩), .map (some 1020), .map (some 1022), .map (some 1065), .map (some 1033), .pointer (some ⟨1019, 0, none⟩), .map (some 1022), .map (some 1033), .map (some 1067), .slice none 0 0, .pointer (some ⟨1076, 0, none⟩), .slice none 0 0, .bool true, .int .i64 (-1), .int .i64 0, .int .i64 0] 96),
  (1033, .m [(.int .i64 0, .agg ⟨[.int .i64 0, .int .i64 0, .int .i64 640, .int .i64 0, .int .i64 0, .int .i64 0, .int .i64 0, .int .i64 0, .int .i64 0, .int .i64 0, .int .i64 0, .int .i64 0, .int .i64 0, .int .i64 0, .int .i64 0, .int .i64 0, .slice none 0 0]⟩, 1059)]),
  (1065, .m []),
  (1067, .m [(.int .i64 0, .agg ⟨[.int .i64 0, .int .i64 0, .int .i64 (-1), .int .i64 0, .int .i64 0, .int .i64 0, .int .i64 0]⟩, 1074)]),
  (1076, .c [.int .i64 10, .int .i64 10, .slice (some ⟨1106, 0, some 0⟩) 10 0] 125),
  (1077, .c [.int .u8 0, .int .u8 0, .int .u8 0, .int .u8 0, .int .u8 0, .int .u8 0, .int .u8 0, .int .u8 0, .int .u8 0, .int .u8 0] 5),
  (1080, .c [.int .u8 0, .int .u8 0, .int .u8 0, .int .u8 0, .int .u8 0, .int .u8 0, .int .u8 0, .int .u8 0, .int .u8 0, .int .u8 0] 5),
  (1083, .c [.int .u8 0, .int .u8 0, .int .u8 0, .int .u8 0, .int .u8 0, .int .u8 0, .int .u8 0, .int .u8 0, .int .u8 0, .int .u8 0] 5),
  (1086, .c [.int .u8 0, .int .u8 0, .int .u8 0, .int .u8 0, .int .u8 0, .int .u8 0, .int .u8 0, .int .u8 0, .int .u8 0, .int .u8 0] 5),
  (1089, .c [.int .u8 0, .int .u8 0, .int .u8 0, .int .u8 0, .int .u8 0, .int .u8 0, .int .u8 0, .int .u8 0, .int .u8 0, .int .u8 0] 5),
  (1092, .c [.int .u8 0, .int .u8 0, .int .u8 0, .int .u8 0, .int .u8 0, .int .u8 0, .int .u8 0, .int .u8 0, .int .u8 0, .int .u8 0] 5),
  (1095, .c [.int .u8 0, .int .u8 0, .int .u8 0, .int .u8 0, .int .u8 0, .int .u8 0, .int .u8 0, .int .u8 0, .int .u8 0, .int .u8 0] 5),
  (1098, .c [.int .u8 0, .int .u8 0, .int .u8 0, .int .u8 0, .int .u8 0, .int .u8 0, .int .u8 0, .int .u8 0, .int .u8 0, .int .u8 0] 5),
  (1101, .c [.int .u8 0, .int .u8 0, .int .u8 0, .int .u8 0, .int .u8 0, .int .u8 0, .int .u8 0, .int .u8 0, .int .u8 0, .int .u8 0] 5),
  (1104, .c [.int .u8 0, .int .u8 0, .int .u8 0, .int .u8 0, .int .u8 0, .int .u8 0, .int .u8 0, .int .u8 0, .int .u8 0, .int .u8 0] 5),
  (1106, .r [.slice (some ⟨1077, 0, none⟩) 10 10, .slice (some ⟨1080, 0, none⟩) 10 10, .slice (some ⟨1083, 0, none⟩) 10 10, .slice (some ⟨1086, 0, none⟩) 10 10, .slice (some ⟨1089, 0, none⟩) 10 10, .slice (some ⟨1092, 0, none⟩) 10 10, .slice (some ⟨1095, 0, none⟩) 10 10, .slice (some ⟨1098, 0, none⟩) 10 10, .slice (some ⟨1101, 0, none⟩) 10 10, .slice (some ⟨1104, 0, none⟩) 10 10] 122 1)]
def ck_j : Ck := ⟨5, [.int .i64 10, .int .i64 10], 1015, pre_j, .tuple ⟨[.pointer (some ⟨1024, 0, none⟩), .int .i64 0]⟩, post_j, 1107, []⟩
end
theorem ck_j_ok : chk ck_j (evF hk1 C1 Tryz.prog 2000 60 ck_j.f ck_j.args (ofL ck_j.pre .e) ck_j.nx) = true := by kernel_rfl
end Go.Proofs.YtigjjddblijpbaaGreatDoor.Ex
