/- The functions of the program, for the interpreter: printed by a program of the session. -/
import Derived.Test.YthmnlokdikomkaaPITab
import Derived.Test.YthmnlokdikomkaaGQBuild3
namespace Go.Proofs.Ythmnlokdikomkaa.PI
open Go Go.Q
noncomputable def fnL : List (Nat × Func) := [(3, Try.f3), (10, Try.f10), (11, Try.f11), (12, Try.f12), (13, Try.f13), (14, Try.f14), (15, Try.f15), (16, Try.f16), (17, Try.f17), (18, Try.f18), (19, Try.f19), (20, Try.f20), (42, Try.f42), (43, Try.f43), (44, Try.f44), (45, Try.f45), (46, Try.f46), (47, Try.f47), (48, Try.f48), (49, Try.f49), (50, Try.f50), (51, Try.f51), (52, Try.f52), (53, Try.f53), (54, Try.f54), (55, Try.f55), (56, Try.f56), (57, Try.f57), (58, Try.f58), (59, Try.f59), (65, Try.f65), (66, Try.f66), (89, Try.f89), (90, Try.f90), (91, Try.f91), (93, Try.f93), (94, Try.f94), (95, Try.f95), (96, Try.f96), (97, Try.f97), (98, Try.f98), (99, Try.f99), (100, Try.f100), (101, Try.f101), (114, Try.f114), (117, Try.f117), (118, Try.f118), (119, Try.f119)]
def annL : List (Nat × Ann) := [(3, ⟨[(0, [4]), (1, [23, 24]), (2, [0, 1]), (3, [26, 27, 28]), (4, [29, 30, 31, 32]), (5, [1, 33, 34, 35, 36]), (6, [0, 37, 38, 39]), (7, [9, 40, 41, 42, 43, 44, 45]), (8, [11, 46, 47, 48, 49, 50, 51]), (9, [52, 53, 54, 55, 56, 57]), (10, [58, 59, 60, 61, 62, 63, 64, 65]), (11, [8, 66, 67, 68, 69, 70, 71, 72, 73]), (12, [5, 74, 75, 76, 77, 78, 79]), (13, [6, 7, 10, 12, 13, 14, 15, 16, 17, 18, 19, 20, 21, 22, 80, 81, 82, 83, 84, 85, 86, 87, 88, 89, 90, 91, 92, 93, 94, 95, 96, 97, 98, 99, 100, 101, 102, 103, 104, 105, 106, 107, 108, 109, 110, 111, 112, 113, 114, 115, 116, 117, 118, 119, 120, 121, 122, 123, 124, 125, 126, 127, 128])], [], [], [], [], [], [], []⟩),
  (10, ⟨[(0, [4]), (1, [0, 1, 5, 6, 7, 8, 9, 10, 11, 12])], [], [], [], [], [], [], []⟩),
  (11, ⟨[(0, [6]), (1, [7, 8, 9, 10, 11, 12, 13]), (2, [0, 1, 2]), (3, [0, 1, 2, 15, 16, 17, 18, 19, 20, 21])], [], [], [], [], [], [], []⟩),
  (12, ⟨[(2, [0]), (4, [3, 5, 6, 7, 8, 9, 10, 11, 12, 13, 14, 15, 16, 17, 18, 19])], [], [], [], [], [], [], []⟩),
  (13, ⟨[(2, [0]), (4, [3, 5, 6, 7, 8, 9, 10, 11, 12, 13, 14, 15, 16, 17])], [], [], [], [], [], [], []⟩),
  (14, ⟨[(0, [4]), (1, [0, 9, 10]), (2, [11]), (3, [12, 13]), (4, [14]), (5, [16, 17]), (6, [18, 19, 20]), (7, [21, 22, 23, 24]), (8, [8, 25, 26, 27, 28]), (9, [1, 5, 6, 7, 29])], [], [], [], [], [], [], []⟩),
  (15, ⟨[(0, [0, 4, 5]), (1, [8, 9, 10]), (2, [1, 2]), (3, [1, 2, 6, 12, 13, 14, 15, 16, 17]), (4, [7, 18, 19, 20])], [], [], [], [], [], [], []⟩),
  (16, ⟨[(0, [0, 4, 5]), (1, [8, 9, 10]), (2, [1, 2]), (3, [1, 2, 7, 12, 13, 14, 15, 16, 17]), (4, [6, 18, 19, 20])], [], [], [], [], [], [], []⟩),
  (17, ⟨[(0, [0, 7, 8]), (1, [15, 16, 17, 18, 19, 20, 21, 22, 23]), (2, [1, 2, 3, 25]), (3, [1, 26, 27]), (4, [2]), (6, [32, 33, 34]), (7, [11, 13, 14, 35, 36, 37, 38, 39, 40, 41]), (8, [12]), (9, [3, 9, 10, 28, 29, 30, 43, 44]), (10, [10, 45]), (11, [3, 9, 28, 29, 30, 46])], [], [], [], [], [], [], []⟩),
  (18, ⟨[(0, [0, 4, 5]), (1, [8, 9, 10]), (2, [1, 2]), (3, [1, 2, 7, 12, 13, 14, 15, 16, 17]), (4, [6, 18, 19])], [], [], [], [], [], [], []⟩),
  (19, ⟨[(0, [0, 2]), (1, [5, 6, 7, 8, 9, 10, 11, 12, 13, 14, 15, 16, 17]), (2, [1]), (3, [19]), (5, [24, 25, 26]), (6, [3, 4, 27, 28, 29, 30, 31, 32, 33, 34, 35, 36, 37, 38, 39]), (7, [1, 20, 21, 22]), (8, [41]), (9, [1, 20, 21, 22])], [], [], [], [], [], [], []⟩),
  (20, ⟨[(0, [0, 2]), (3, [12, 13]), (4, [4, 14, 15, 16, 17, 18, 19, 20, 21, 22, 23]), (5, [1, 8, 9, 10]), (6, [25]), (7, [8, 9, 10, 26, 27, 28, 29, 30, 31]), (9, [35]), (10, [6, 36, 37, 38, 39, 40, 41, 42, 43, 44, 45]), (11, [1, 32, 33]), (12, [47]), (13, [32, 33, 48, 49]), (15, [53]), (16, [7, 54, 55, 56, 57, 58, 59, 60, 61, 62, 63, 64, 65, 66, 67, 68, 69, 70, 71, 72, 73, 74, 75, 76, 77]), (17, [1, 50, 51]), (18, [79]), (19, [1, 50, 51])], [], [], [], [(0, [1])], [], [], []⟩),
  (42, ⟨[(0, [0, 4]), (1, [8]), (2, [2]), (4, [12, 13]), (5, [6, 7, 14, 15, 16, 17, 18, 19, 20, 21]), (6, [22]), (7, [1, 5, 9, 10, 23])], [], [], [], [], [], [], []⟩),
  (43, ⟨[(0, [2]), (1, [0, 3, 4, 5])], [], [], [], [], [], [], []⟩),
  (44, ⟨[(0, [4]), (1, [6]), (2, [0, 1]), (3, [8, 9]), (4, [10]), (5, [0, 12, 13, 14, 15, 16]), (6, [0, 1, 5, 17, 18, 19])], [], [], [], [], [], [], []⟩),
  (45, ⟨[(0, [0, 4]), (1, [1, 2, 5, 6, 7, 8, 9, 10])], [], [], [], [], [], [], []⟩),
  (46, ⟨[(0, [0, 4, 5]), (1, [20, 21]), (2, [6, 22, 23, 24, 25, 26, 27, 28]), (3, [29]), (4, [11, 30, 31, 43]), (5, [33, 34, 35]), (6, [36, 37]), (7, [38, 39, 40, 41, 42]), (10, [45]), (13, [49]), (14, [13, 50, 51, 52, 53, 54, 55]), (15, [17, 18, 56, 57, 58, 59, 60, 61, 62]), (16, [14, 63, 64, 65, 66, 67, 68]), (17, [16, 70]), (18, [15, 71]), (19, [19, 73]), (20, [75, 76, 77, 78, 79]), (21, [80, 81, 82]), (22, [15, 19, 83, 84, 85, 86, 87, 88]), (23, [15, 19, 89]), (24, [12, 46, 47, 90]), (25, [1, 2, 7, 8, 9, 10, 91, 92])], [(2, [4, 0, 1, 2, 3, 5, 8, 6, 7, 9]), (16, [0, 1, 3, 2, 4, 5, 6])], [], [], [(1, [6]), (5, [11]), (21, [19, 15])], [(2, [[4, 0, 1, 2, 5, 8, 3, 6, 7, 9], [4, 0, 1, 3, 2, 5, 8, 6, 7, 9], [4, 0, 1, 3, 5, 2, 8, 6, 7, 9], [4, 0, 1, 3, 5, 6, 7, 2, 8, 9], [4, 0, 1, 5, 2, 8, 3, 6, 7, 9], [4, 0, 1, 5, 3, 2, 8, 6, 7, 9], [4, 0, 1, 5, 3, 6, 7, 2, 8, 9], [4, 3, 0, 1, 2, 5, 8, 6, 7, 9], [4, 3, 0, 1, 5, 2, 8, 6, 7, 9], [4, 3, 0, 1, 5, 6, 7, 2, 8, 9], [4, 3, 5, 0, 1, 2, 8, 6, 7, 9], [4, 3, 5, 0, 1, 6, 7, 2, 8, 9], [4, 3, 5, 6, 0, 1, 7, 2, 8, 9], [4, 5, 0, 1, 2, 8, 3, 6, 7, 9], [4, 5, 0, 1, 3, 2, 8, 6, 7, 9], [4, 5, 0, 1, 3, 6, 7, 2, 8, 9], [4, 5, 3, 0, 1, 2, 8, 6, 7, 9], [4, 5, 3, 0, 1, 6, 7, 2, 8, 9], [4, 5, 3, 6, 0, 1, 7, 2, 8, 9]]), (16, [[0, 1, 3, 4, 2, 5, 6]])], [(16, [19]), (19, [10])], [(2, [7]), (22, [7])]⟩),
  (47, ⟨[(0, [4]), (1, [0, 1, 5, 6, 7, 8])], [], [], [], [], [], [], []⟩),
  (48, ⟨[(0, [0, 2]), (1, [1, 3, 4, 5])], [], [], [], [], [], [], []⟩),
  (49, ⟨[(0, [0, 2]), (2, [1, 7]), (4, [12, 13]), (5, [14]), (6, [16, 17]), (7, [6, 18]), (8, [20, 21]), (9, [22]), (10, [3, 4, 8, 9, 10, 23, 24, 25, 26, 27, 28])], [], [], [], [], [], [], []⟩),
  (50, ⟨[(0, [1, 4]), (1, [0, 3, 5, 6, 7, 8, 9, 10, 11, 12, 13])], [], [], [], [], [], [], []⟩),
  (51, ⟨[(1, [0, 3, 4, 5, 6, 7])], [(1, [0, 2, 1, 3, 4, 5])], [], [], [], [(1, [[0, 2, 3, 1, 4, 5]])], [], []⟩),
  (52, ⟨[(0, [1, 2, 6, 7, 8]), (1, [14, 15, 16, 17, 18, 19, 20, 21]), (2, [4, 9, 22, 23, 24, 25, 26]), (3, [28, 29, 30, 31, 32, 33, 34, 35, 36, 37, 38]), (4, [39, 40]), (5, [5, 41, 42, 43, 44]), (6, [46, 47, 48, 49, 50, 51, 52]), (7, [53, 54, 55, 56, 57, 58, 59, 60, 61]), (8, [4, 5, 9, 62, 63, 64, 65, 66, 67, 68, 69, 70, 71, 72, 73, 74, 75, 76, 77, 78, 79]), (9, [81, 82, 83]), (10, [9, 10, 84, 85, 86, 87, 88, 89]), (11, [90, 91, 92, 93, 94]), (12, [95, 96, 97, 98, 99]), (13, [100, 101, 102, 103]), (14, [4, 105, 106, 107, 108, 109]), (15, [4, 5, 13, 110, 111, 112, 113, 114, 115, 116, 117, 118]), (16, [120, 121, 122]), (17, [123, 124, 125, 126, 127]), (18, [129, 130, 131, 132, 133, 134]), (19, [135, 136, 137, 138]), (20, [5, 139, 140, 141, 142, 143, 144, 145, 146, 147, 148]), (21, [4, 9, 149, 150, 151, 152, 153, 154, 155, 156, 157]), (22, [158, 159, 160]), (23, [162, 163]), (24, [0, 10, 11, 12, 164, 165, 166, 167, 168, 169, 170, 171, 172, 173, 174, 175, 176, 177, 178, 179, 180, 181])], [], [], [], [], [], [], []⟩),
  (53, ⟨[(0, [2]), (1, [0, 3, 4])], [], [], [], [], [], [], []⟩),
  (54, ⟨[(0, [6]), (1, [0, 1, 2, 7, 8, 9, 10, 11, 12, 13, 14])], [], [], [], [], [], [], []⟩),
  (55, ⟨[(0, [2]), (1, [0, 3, 4])], [], [], [], [], [], [], []⟩),
  (56, ⟨[(0, [2]), (1, [0, 3, 4])], [], [], [], [], [], [], []⟩),
  (57, ⟨[(0, [2]), (1, [0, 3, 4, 5, 6, 7, 8, 9, 10, 11, 12, 13, 14, 15, 16, 17, 18])], [], [], [], [], [], [], []⟩),
  (58, ⟨[(0, [4]), (1, [0, 1, 5, 6, 7, 8])], [], [], [], [], [], [], []⟩),
  (59, ⟨[(0, [0, 2]), (1, [1, 3, 4, 5, 6, 7, 8, 9, 10, 11, 12])], [], [], [], [], [], [], []⟩),
  (65, ⟨[(0, [0, 4]), (1, [1, 2, 5, 6, 7, 8, 9, 10, 11, 12, 13, 14])], [], [], [], [], [], [], []⟩),
  (66, ⟨[(0, [0]), (1, [1, 3, 4, 5, 6, 7, 8, 9, 10, 11])], [(1, [0, 1, 3, 4, 6, 7, 2, 5, 8, 9])], [], [], [], [], [], []⟩),
  (89, ⟨[(0, [4]), (1, [0, 1, 5, 6, 7, 8])], [], [], [], [], [], [], []⟩),
  (90, ⟨[(0, [2]), (2, [4, 5, 6, 7, 8, 9, 10, 11, 12]), (3, [14, 15, 16, 17, 18, 19, 20, 21, 22, 23, 24]), (4, [25, 26, 27, 28, 29, 30, 31]), (5, [32, 33, 34, 35, 36, 37, 38, 39, 40, 41, 42, 43]), (6, [44, 45, 46, 47, 48, 49, 50, 51, 52]), (7, [0, 3, 54]), (8, [0, 3, 55, 56, 57, 58, 59, 60, 61])], [], [], [], [], [], [], []⟩),
  (91, ⟨[(0, [0, 2]), (2, [6]), (4, [11, 12, 13]), (5, [5, 14, 15, 16, 17]), (6, [4, 18, 19, 20, 21]), (7, [23]), (8, [24]), (9, [1, 7, 8, 9, 25]), (10, [27]), (11, [3, 28])], [], [], [], [], [], [], []⟩),
  (93, ⟨[(0, [4]), (1, [6]), (3, [10]), (4, [11, 12, 13, 14, 15]), (5, [0, 1, 5, 7, 8, 17]), (6, [5, 18]), (7, [0, 1, 7, 8])], [], [], [], [], [], [], []⟩),
  (94, ⟨[(0, [4]), (1, [0, 1, 5, 6, 7, 8])], [], [], [], [], [], [], []⟩),
  (95, ⟨[(0, [0, 3]), (1, [1, 2, 4, 5, 6, 7])], [], [], [], [], [], [], []⟩),
  (96, ⟨[(0, [0, 1, 2, 3, 8, 9, 10, 11, 12, 13, 14, 15, 16, 17, 18, 19, 20, 21, 22, 23, 24, 25])], [], [], [], [], [], [], []⟩),
  (97, ⟨[(0, [6]), (2, [10, 11, 12]), (4, [17, 18, 19]), (5, [20, 21, 22, 23, 24, 25]), (6, [27, 28, 29, 30]), (7, [32, 33, 34, 35, 36, 37, 38, 39, 40, 41]), (8, [42, 43]), (9, [8, 9, 44, 45, 46, 47, 48, 49, 50, 51, 52, 53, 54, 55, 56, 57, 58]), (10, [8, 9, 59]), (11, [0, 1, 2, 7, 13, 14, 15, 60])], [], [], [], [], [], [], []⟩),
  (98, ⟨[(0, [4]), (1, [0, 1, 5, 6, 7, 8])], [], [], [], [], [], [], []⟩),
  (99, ⟨[(0, [2]), (1, [0, 3, 4])], [], [], [], [], [], [], []⟩),
  (100, ⟨[(0, [4]), (1, [0, 1, 5, 6, 7, 8])], [], [], [], [], [], [], []⟩),
  (101, ⟨[(0, [4]), (1, [6]), (3, [10]), (4, [11, 12, 13, 14, 15]), (5, [0, 1, 5, 7, 8, 17]), (6, [5, 18]), (7, [0, 1, 7, 8])], [], [], [], [], [], [], []⟩),
  (114, ⟨[(0, [4]), (1, [6]), (3, [10]), (4, [11, 12, 13, 14, 15]), (5, [0, 1, 5, 7, 8, 17]), (6, [5, 18]), (7, [0, 1, 7, 8])], [], [], [], [], [], [], []⟩),
  (117, ⟨[(0, [4]), (1, [6]), (3, [10]), (4, [11, 12, 13, 14, 15]), (5, [0, 1, 5, 7, 8, 17]), (6, [5, 18]), (7, [0, 1, 7, 8])], [], [], [], [], [], [], []⟩),
  (118, ⟨[(0, [4]), (1, [6]), (3, [10]), (4, [11, 12, 13, 14, 15]), (5, [0, 1, 5, 7, 8, 17]), (6, [5, 18]), (7, [0, 1, 7, 8])], [], [], [], [], [], [], []⟩),
  (119, ⟨[(0, [4]), (1, [6]), (3, [10]), (4, [11, 12, 13, 14, 15]), (5, [0, 1, 5, 7, 8, 17]), (6, [5, 18]), (7, [0, 1, 7, 8])], [], [], [], [], [], [], []⟩)]
/-- What slices.Clone makes of plain data. -/
def cloneW (t : Ty) (vs : List AV) (h : Heap) : Option (AV × Heap) := match vs, h with
  | [v], [] => (asDen (.slice t) v).bind fun xs => if List.length xs ≤ 10000000 then some (cloneV t xs) else none
  | _, _ => none
abbrev tyO : Ty := .agg (.cons (.int .i64) (.cons (.int .i64) .nil))
abbrev tyR : Ty := .agg (.cons (.int .i64) (.cons (.int .i64) (.cons .bool .nil)))
/-- What is not interpreted. -/
def given (f : Nat) (vs : List AV) (h : Heap) : Option (AV × Heap) := if f = 106 then cloneW (.int .i64) vs h
  else if f = 107 then cloneW .bool vs h
  else if f = 92 then cloneW tyO vs h
  else if f = 115 then wbV 156 5 vs h
  else if f = 116 then strV 156 5 vs h
  else none
noncomputable def pr : Prog := ⟨tab, tyOf, by_, lookT fnL, fun f => (lookT annL f).getD ⟨[], [], [], [], [], [], [], []⟩, given⟩
theorem fns : ∀ x ∈ fnL, Try.prog.funcs[x.1]? = some x.2 ∧ fnOkB pr x.1 = true := by
  unfold fnL
  simp only [List.forall_mem_cons, List.not_mem_nil, false_implies, implies_true, and_true]
  exact ⟨⟨Try.func3, by kernel_rfl⟩, ⟨Try.func10, by kernel_rfl⟩, ⟨Try.func11, by kernel_rfl⟩, ⟨Try.func12, by kernel_rfl⟩, ⟨Try.func13, by kernel_rfl⟩, ⟨Try.func14, by kernel_rfl⟩, ⟨Try.func15, by kernel_rfl⟩, ⟨Try.func16, by kernel_rfl⟩, ⟨Try.func17, by kernel_rfl⟩, ⟨Try.func18, by kernel_rfl⟩, ⟨Try.func19, by kernel_rfl⟩, ⟨Try.func20, by kernel_rfl⟩, ⟨Try.func42, by kernel_rfl⟩, ⟨Try.func43, by kernel_rfl⟩, ⟨Try.func44, by kernel_rfl⟩, ⟨Try.func45, by kernel_rfl⟩, ⟨Try.func46, by kernel_rfl⟩, ⟨Try.func47, by kernel_rfl⟩, ⟨Try.func48, by kernel_rfl⟩, ⟨Try.func49, by kernel_rfl⟩, ⟨Try.func50, by kernel_rfl⟩, ⟨Try.func51, by kernel_rfl⟩, ⟨Try.func52, by kernel_rfl⟩, ⟨Try.func53, by kernel_rfl⟩, ⟨Try.func54, by kernel_rfl⟩, ⟨Try.func55, by kernel_rfl⟩, ⟨Try.func56, by kernel_rfl⟩, ⟨Try.func57, by kernel_rfl⟩, ⟨Try.func58, by kernel_rfl⟩, ⟨Try.func59, by kernel_rfl⟩, ⟨Try.func65, by kernel_rfl⟩, ⟨Try.func66, by kernel_rfl⟩, ⟨Try.func89, by kernel_rfl⟩, ⟨Try.func90, by kernel_rfl⟩, ⟨Try.func91, by kernel_rfl⟩, ⟨Try.func93, by kernel_rfl⟩, ⟨Try.func94, by kernel_rfl⟩, ⟨Try.func95, by kernel_rfl⟩, ⟨Try.func96, by kernel_rfl⟩, ⟨Try.func97, by kernel_rfl⟩, ⟨Try.func98, by kernel_rfl⟩, ⟨Try.func99, by kernel_rfl⟩, ⟨Try.func100, by kernel_rfl⟩, ⟨Try.func101, by kernel_rfl⟩, ⟨Try.func114, by kernel_rfl⟩, ⟨Try.func117, by kernel_rfl⟩, ⟨Try.func118, by kernel_rfl⟩, ⟨Try.func119, by kernel_rfl⟩⟩
theorem fn_3 : pr.fn 3 = some Try.f3 := rfl
theorem ann_3 : pr.ann 3 = ⟨[(0, [4]), (1, [23, 24]), (2, [0, 1]), (3, [26, 27, 28]), (4, [29, 30, 31, 32]), (5, [1, 33, 34, 35, 36]), (6, [0, 37, 38, 39]), (7, [9, 40, 41, 42, 43, 44, 45]), (8, [11, 46, 47, 48, 49, 50, 51]), (9, [52, 53, 54, 55, 56, 57]), (10, [58, 59, 60, 61, 62, 63, 64, 65]), (11, [8, 66, 67, 68, 69, 70, 71, 72, 73]), (12, [5, 74, 75, 76, 77, 78, 79]), (13, [6, 7, 10, 12, 13, 14, 15, 16, 17, 18, 19, 20, 21, 22, 80, 81, 82, 83, 84, 85, 86, 87, 88, 89, 90, 91, 92, 93, 94, 95, 96, 97, 98, 99, 100, 101, 102, 103, 104, 105, 106, 107, 108, 109, 110, 111, 112, 113, 114, 115, 116, 117, 118, 119, 120, 121, 122, 123, 124, 125, 126, 127, 128])], [], [], [], [], [], [], []⟩ := rfl
theorem fn_10 : pr.fn 10 = some Try.f10 := rfl
theorem ann_10 : pr.ann 10 = ⟨[(0, [4]), (1, [0, 1, 5, 6, 7, 8, 9, 10, 11, 12])], [], [], [], [], [], [], []⟩ := rfl
theorem fn_11 : pr.fn 11 = some Try.f11 := rfl
theorem ann_11 : pr.ann 11 = ⟨[(0, [6]), (1, [7, 8, 9, 10, 11, 12, 13]), (2, [0, 1, 2]), (3, [0, 1, 2, 15, 16, 17, 18, 19, 20, 21])], [], [], [], [], [], [], []⟩ := rfl
theorem fn_12 : pr.fn 12 = some Try.f12 := rfl
theorem ann_12 : pr.ann 12 = ⟨[(2, [0]), (4, [3, 5, 6, 7, 8, 9, 10, 11, 12, 13, 14, 15, 16, 17, 18, 19])], [], [], [], [], [], [], []⟩ := rfl
theorem fn_13 : pr.fn 13 = some Try.f13 := rfl
theorem ann_13 : pr.ann 13 = ⟨[(2, [0]), (4, [3, 5, 6, 7, 8, 9, 10, 11, 12, 13, 14, 15, 16, 17])], [], [], [], [], [], [], []⟩ := rfl
theorem fn_14 : pr.fn 14 = some Try.f14 := rfl
theorem ann_14 : pr.ann 14 = ⟨[(0, [4]), (1, [0, 9, 10]), (2, [11]), (3, [12, 13]), (4, [14]), (5, [16, 17]), (6, [18, 19, 20]), (7, [21, 22, 23, 24]), (8, [8, 25, 26, 27, 28]), (9, [1, 5, 6, 7, 29])], [], [], [], [], [], [], []⟩ := rfl
theorem fn_15 : pr.fn 15 = some Try.f15 := rfl
theorem ann_15 : pr.ann 15 = ⟨[(0, [0, 4, 5]), (1, [8, 9, 10]), (2, [1, 2]), (3, [1, 2, 6, 12, 13, 14, 15, 16, 17]), (4, [7, 18, 19, 20])], [], [], [], [], [], [], []⟩ := rfl
theorem fn_16 : pr.fn 16 = some Try.f16 := rfl
theorem ann_16 : pr.ann 16 = ⟨[(0, [0, 4, 5]), (1, [8, 9, 10]), (2, [1, 2]), (3, [1, 2, 7, 12, 13, 14, 15, 16, 17]), (4, [6, 18, 19, 20])], [], [], [], [], [], [], []⟩ := rfl
theorem fn_17 : pr.fn 17 = some Try.f17 := rfl
theorem ann_17 : pr.ann 17 = ⟨[(0, [0, 7, 8]), (1, [15, 16, 17, 18, 19, 20, 21, 22, 23]), (2, [1, 2, 3, 25]), (3, [1, 26, 27]), (4, [2]), (6, [32, 33, 34]), (7, [11, 13, 14, 35, 36, 37, 38, 39, 40, 41]), (8, [12]), (9, [3, 9, 10, 28, 29, 30, 43, 44]), (10, [10, 45]), (11, [3, 9, 28, 29, 30, 46])], [], [], [], [], [], [], []⟩ := rfl
theorem fn_18 : pr.fn 18 = some Try.f18 := rfl
theorem ann_18 : pr.ann 18 = ⟨[(0, [0, 4, 5]), (1, [8, 9, 10]), (2, [1, 2]), (3, [1, 2, 7, 12, 13, 14, 15, 16, 17]), (4, [6, 18, 19])], [], [], [], [], [], [], []⟩ := rfl
theorem fn_19 : pr.fn 19 = some Try.f19 := rfl
theorem ann_19 : pr.ann 19 = ⟨[(0, [0, 2]), (1, [5, 6, 7, 8, 9, 10, 11, 12, 13, 14, 15, 16, 17]), (2, [1]), (3, [19]), (5, [24, 25, 26]), (6, [3, 4, 27, 28, 29, 30, 31, 32, 33, 34, 35, 36, 37, 38, 39]), (7, [1, 20, 21, 22]), (8, [41]), (9, [1, 20, 21, 22])], [], [], [], [], [], [], []⟩ := rfl
theorem fn_20 : pr.fn 20 = some Try.f20 := rfl
theorem ann_20 : pr.ann 20 = ⟨[(0, [0, 2]), (3, [12, 13]), (4, [4, 14, 15, 16, 17, 18, 19, 20, 21, 22, 23]), (5, [1, 8, 9, 10]), (6, [25]), (7, [8, 9, 10, 26, 27, 28, 29, 30, 31]), (9, [35]), (10, [6, 36, 37, 38, 39, 40, 41, 42, 43, 44, 45]), (11, [1, 32, 33]), (12, [47]), (13, [32, 33, 48, 49]), (15, [53]), (16, [7, 54, 55, 56, 57, 58, 59, 60, 61, 62, 63, 64, 65, 66, 67, 68, 69, 70, 71, 72, 73, 74, 75, 76, 77]), (17, [1, 50, 51]), (18, [79]), (19, [1, 50, 51])], [], [], [], [(0, [1])], [], [], []⟩ := rfl
theorem fn_42 : pr.fn 42 = some Try.f42 := rfl
theorem ann_42 : pr.ann 42 = ⟨[(0, [0, 4]), (1, [8]), (2, [2]), (4, [12, 13]), (5, [6, 7, 14, 15, 16, 17, 18, 19, 20, 21]), (6, [22]), (7, [1, 5, 9, 10, 23])], [], [], [], [], [], [], []⟩ := rfl
theorem fn_43 : pr.fn 43 = some Try.f43 := rfl
theorem ann_43 : pr.ann 43 = ⟨[(0, [2]), (1, [0, 3, 4, 5])], [], [], [], [], [], [], []⟩ := rfl
theorem fn_44 : pr.fn 44 = some Try.f44 := rfl
theorem ann_44 : pr.ann 44 = ⟨[(0, [4]), (1, [6]), (2, [0, 1]), (3, [8, 9]), (4, [10]), (5, [0, 12, 13, 14, 15, 16]), (6, [0, 1, 5, 17, 18, 19])], [], [], [], [], [], [], []⟩ := rfl
theorem fn_45 : pr.fn 45 = some Try.f45 := rfl
theorem ann_45 : pr.ann 45 = ⟨[(0, [0, 4]), (1, [1, 2, 5, 6, 7, 8, 9, 10])], [], [], [], [], [], [], []⟩ := rfl
theorem fn_46 : pr.fn 46 = some Try.f46 := rfl
theorem ann_46 : pr.ann 46 = ⟨[(0, [0, 4, 5]), (1, [20, 21]), (2, [6, 22, 23, 24, 25, 26, 27, 28]), (3, [29]), (4, [11, 30, 31, 43]), (5, [33, 34, 35]), (6, [36, 37]), (7, [38, 39, 40, 41, 42]), (10, [45]), (13, [49]), (14, [13, 50, 51, 52, 53, 54, 55]), (15, [17, 18, 56, 57, 58, 59, 60, 61, 62]), (16, [14, 63, 64, 65, 66, 67, 68]), (17, [16, 70]), (18, [15, 71]), (19, [19, 73]), (20, [75, 76, 77, 78, 79]), (21, [80, 81, 82]), (22, [15, 19, 83, 84, 85, 86, 87, 88]), (23, [15, 19, 89]), (24, [12, 46, 47, 90]), (25, [1, 2, 7, 8, 9, 10, 91, 92])], [(2, [4, 0, 1, 2, 3, 5, 8, 6, 7, 9]), (16, [0, 1, 3, 2, 4, 5, 6])], [], [], [(1, [6]), (5, [11]), (21, [19, 15])], [(2, [[4, 0, 1, 2, 5, 8, 3, 6, 7, 9], [4, 0, 1, 3, 2, 5, 8, 6, 7, 9], [4, 0, 1, 3, 5, 2, 8, 6, 7, 9], [4, 0, 1, 3, 5, 6, 7, 2, 8, 9], [4, 0, 1, 5, 2, 8, 3, 6, 7, 9], [4, 0, 1, 5, 3, 2, 8, 6, 7, 9], [4, 0, 1, 5, 3, 6, 7, 2, 8, 9], [4, 3, 0, 1, 2, 5, 8, 6, 7, 9], [4, 3, 0, 1, 5, 2, 8, 6, 7, 9], [4, 3, 0, 1, 5, 6, 7, 2, 8, 9], [4, 3, 5, 0, 1, 2, 8, 6, 7, 9], [4, 3, 5, 0, 1, 6, 7, 2, 8, 9], [4, 3, 5, 6, 0, 1, 7, 2, 8, 9], [4, 5, 0, 1, 2, 8, 3, 6, 7, 9], [4, 5, 0, 1, 3, 2, 8, 6, 7, 9], [4, 5, 0, 1, 3, 6, 7, 2, 8, 9], [4, 5, 3, 0, 1, 2, 8, 6, 7, 9], [4, 5, 3, 0, 1, 6, 7, 2, 8, 9], [4, 5, 3, 6, 0, 1, 7, 2, 8, 9]]), (16, [[0, 1, 3, 4, 2, 5, 6]])], [(16, [19]), (19, [10])], [(2, [7]), (22, [7])]⟩ := rfl
theorem fn_47 : pr.fn 47 = some Try.f47 := rfl
theorem ann_47 : pr.ann 47 = ⟨[(0, [4]), (1, [0, 1, 5, 6, 7, 8])], [], [], [], [], [], [], []⟩ := rfl
theorem fn_48 : pr.fn 48 = some Try.f48 := rfl
theorem ann_48 : pr.ann 48 = ⟨[(0, [0, 2]), (1, [1, 3, 4, 5])], [], [], [], [], [], [], []⟩ := rfl
theorem fn_49 : pr.fn 49 = some Try.f49 := rfl
theorem ann_49 : pr.ann 49 = ⟨[(0, [0, 2]), (2, [1, 7]), (4, [12, 13]), (5, [14]), (6, [16, 17]), (7, [6, 18]), (8, [20, 21]), (9, [22]), (10, [3, 4, 8, 9, 10, 23, 24, 25, 26, 27, 28])], [], [], [], [], [], [], []⟩ := rfl
theorem fn_50 : pr.fn 50 = some Try.f50 := rfl
theorem ann_50 : pr.ann 50 = ⟨[(0, [1, 4]), (1, [0, 3, 5, 6, 7, 8, 9, 10, 11, 12, 13])], [], [], [], [], [], [], []⟩ := rfl
theorem fn_51 : pr.fn 51 = some Try.f51 := rfl
theorem ann_51 : pr.ann 51 = ⟨[(1, [0, 3, 4, 5, 6, 7])], [(1, [0, 2, 1, 3, 4, 5])], [], [], [], [(1, [[0, 2, 3, 1, 4, 5]])], [], []⟩ := rfl
theorem fn_52 : pr.fn 52 = some Try.f52 := rfl
theorem ann_52 : pr.ann 52 = ⟨[(0, [1, 2, 6, 7, 8]), (1, [14, 15, 16, 17, 18, 19, 20, 21]), (2, [4, 9, 22, 23, 24, 25, 26]), (3, [28, 29, 30, 31, 32, 33, 34, 35, 36, 37, 38]), (4, [39, 40]), (5, [5, 41, 42, 43, 44]), (6, [46, 47, 48, 49, 50, 51, 52]), (7, [53, 54, 55, 56, 57, 58, 59, 60, 61]), (8, [4, 5, 9, 62, 63, 64, 65, 66, 67, 68, 69, 70, 71, 72, 73, 74, 75, 76, 77, 78, 79]), (9, [81, 82, 83]), (10, [9, 10, 84, 85, 86, 87, 88, 89]), (11, [90, 91, 92, 93, 94]), (12, [95, 96, 97, 98, 99]), (13, [100, 101, 102, 103]), (14, [4, 105, 106, 107, 108, 109]), (15, [4, 5, 13, 110, 111, 112, 113, 114, 115, 116, 117, 118]), (16, [120, 121, 122]), (17, [123, 124, 125, 126, 127]), (18, [129, 130, 131, 132, 133, 134]), (19, [135, 136, 137, 138]), (20, [5, 139, 140, 141, 142, 143, 144, 145, 146, 147, 148]), (21, [4, 9, 149, 150, 151, 152, 153, 154, 155, 156, 157]), (22, [158, 159, 160]), (23, [162, 163]), (24, [0, 10, 11, 12, 164, 165, 166, 167, 168, 169, 170, 171, 172, 173, 174, 175, 176, 177, 178, 179, 180, 181])], [], [], [], [], [], [], []⟩ := rfl
theorem fn_53 : pr.fn 53 = some Try.f53 := rfl
theorem ann_53 : pr.ann 53 = ⟨[(0, [2]), (1, [0, 3, 4])], [], [], [], [], [], [], []⟩ := rfl
theorem fn_54 : pr.fn 54 = some Try.f54 := rfl
theorem ann_54 : pr.ann 54 = ⟨[(0, [6]), (1, [0, 1, 2, 7, 8, 9, 10, 11, 12, 13, 14])], [], [], [], [], [], [], []⟩ := rfl
theorem fn_55 : pr.fn 55 = some Try.f55 := rfl
theorem ann_55 : pr.ann 55 = ⟨[(0, [2]), (1, [0, 3, 4])], [], [], [], [], [], [], []⟩ := rfl
theorem fn_56 : pr.fn 56 = some Try.f56 := rfl
theorem ann_56 : pr.ann 56 = ⟨[(0, [2]), (1, [0, 3, 4])], [], [], [], [], [], [], []⟩ := rfl
theorem fn_57 : pr.fn 57 = some Try.f57 := rfl
theorem ann_57 : pr.ann 57 = ⟨[(0, [2]), (1, [0, 3, 4, 5, 6, 7, 8, 9, 10, 11, 12, 13, 14, 15, 16, 17, 18])], [], [], [], [], [], [], []⟩ := rfl
theorem fn_58 : pr.fn 58 = some Try.f58 := rfl
theorem ann_58 : pr.ann 58 = ⟨[(0, [4]), (1, [0, 1, 5, 6, 7, 8])], [], [], [], [], [], [], []⟩ := rfl
theorem fn_59 : pr.fn 59 = some Try.f59 := rfl
theorem ann_59 : pr.ann 59 = ⟨[(0, [0, 2]), (1, [1, 3, 4, 5, 6, 7, 8, 9, 10, 11, 12])], [], [], [], [], [], [], []⟩ := rfl
theorem fn_65 : pr.fn 65 = some Try.f65 := rfl
theorem ann_65 : pr.ann 65 = ⟨[(0, [0, 4]), (1, [1, 2, 5, 6, 7, 8, 9, 10, 11, 12, 13, 14])], [], [], [], [], [], [], []⟩ := rfl
theorem fn_66 : pr.fn 66 = some Try.f66 := rfl
theorem ann_66 : pr.ann 66 = ⟨[(0, [0]), (1, [1, 3, 4, 5, 6, 7, 8, 9, 10, 11])], [(1, [0, 1, 3, 4, 6, 7, 2, 5, 8, 9])], [], [], [], [], [], []⟩ := rfl
theorem fn_89 : pr.fn 89 = some Try.f89 := rfl
theorem ann_89 : pr.ann 89 = ⟨[(0, [4]), (1, [0, 1, 5, 6, 7, 8])], [], [], [], [], [], [], []⟩ := rfl
theorem fn_90 : pr.fn 90 = some Try.f90 := rfl
theorem ann_90 : pr.ann 90 = ⟨[(0, [2]), (2, [4, 5, 6, 7, 8, 9, 10, 11, 12]), (3, [14, 15, 16, 17, 18, 19, 20, 21, 22, 23, 24]), (4, [25, 26, 27, 28, 29, 30, 31]), (5, [32, 33, 34, 35, 36, 37, 38, 39, 40, 41, 42, 43]), (6, [44, 45, 46, 47, 48, 49, 50, 51, 52]), (7, [0, 3, 54]), (8, [0, 3, 55, 56, 57, 58, 59, 60, 61])], [], [], [], [], [], [], []⟩ := rfl
theorem fn_91 : pr.fn 91 = some Try.f91 := rfl
theorem ann_91 : pr.ann 91 = ⟨[(0, [0, 2]), (2, [6]), (4, [11, 12, 13]), (5, [5, 14, 15, 16, 17]), (6, [4, 18, 19, 20, 21]), (7, [23]), (8, [24]), (9, [1, 7, 8, 9, 25]), (10, [27]), (11, [3, 28])], [], [], [], [], [], [], []⟩ := rfl
theorem fn_93 : pr.fn 93 = some Try.f93 := rfl
theorem ann_93 : pr.ann 93 = ⟨[(0, [4]), (1, [6]), (3, [10]), (4, [11, 12, 13, 14, 15]), (5, [0, 1, 5, 7, 8, 17]), (6, [5, 18]), (7, [0, 1, 7, 8])], [], [], [], [], [], [], []⟩ := rfl
theorem fn_94 : pr.fn 94 = some Try.f94 := rfl
theorem ann_94 : pr.ann 94 = ⟨[(0, [4]), (1, [0, 1, 5, 6, 7, 8])], [], [], [], [], [], [], []⟩ := rfl
theorem fn_95 : pr.fn 95 = some Try.f95 := rfl
theorem ann_95 : pr.ann 95 = ⟨[(0, [0, 3]), (1, [1, 2, 4, 5, 6, 7])], [], [], [], [], [], [], []⟩ := rfl
theorem fn_96 : pr.fn 96 = some Try.f96 := rfl
theorem ann_96 : pr.ann 96 = ⟨[(0, [0, 1, 2, 3, 8, 9, 10, 11, 12, 13, 14, 15, 16, 17, 18, 19, 20, 21, 22, 23, 24, 25])], [], [], [], [], [], [], []⟩ := rfl
theorem fn_97 : pr.fn 97 = some Try.f97 := rfl
theorem ann_97 : pr.ann 97 = ⟨[(0, [6]), (2, [10, 11, 12]), (4, [17, 18, 19]), (5, [20, 21, 22, 23, 24, 25]), (6, [27, 28, 29, 30]), (7, [32, 33, 34, 35, 36, 37, 38, 39, 40, 41]), (8, [42, 43]), (9, [8, 9, 44, 45, 46, 47, 48, 49, 50, 51, 52, 53, 54, 55, 56, 57, 58]), (10, [8, 9, 59]), (11, [0, 1, 2, 7, 13, 14, 15, 60])], [], [], [], [], [], [], []⟩ := rfl
theorem fn_98 : pr.fn 98 = some Try.f98 := rfl
theorem ann_98 : pr.ann 98 = ⟨[(0, [4]), (1, [0, 1, 5, 6, 7, 8])], [], [], [], [], [], [], []⟩ := rfl
theorem fn_99 : pr.fn 99 = some Try.f99 := rfl
theorem ann_99 : pr.ann 99 = ⟨[(0, [2]), (1, [0, 3, 4])], [], [], [], [], [], [], []⟩ := rfl
theorem fn_100 : pr.fn 100 = some Try.f100 := rfl
theorem ann_100 : pr.ann 100 = ⟨[(0, [4]), (1, [0, 1, 5, 6, 7, 8])], [], [], [], [], [], [], []⟩ := rfl
theorem fn_101 : pr.fn 101 = some Try.f101 := rfl
theorem ann_101 : pr.ann 101 = ⟨[(0, [4]), (1, [6]), (3, [10]), (4, [11, 12, 13, 14, 15]), (5, [0, 1, 5, 7, 8, 17]), (6, [5, 18]), (7, [0, 1, 7, 8])], [], [], [], [], [], [], []⟩ := rfl
theorem fn_114 : pr.fn 114 = some Try.f114 := rfl
theorem ann_114 : pr.ann 114 = ⟨[(0, [4]), (1, [6]), (3, [10]), (4, [11, 12, 13, 14, 15]), (5, [0, 1, 5, 7, 8, 17]), (6, [5, 18]), (7, [0, 1, 7, 8])], [], [], [], [], [], [], []⟩ := rfl
theorem fn_117 : pr.fn 117 = some Try.f117 := rfl
theorem ann_117 : pr.ann 117 = ⟨[(0, [4]), (1, [6]), (3, [10]), (4, [11, 12, 13, 14, 15]), (5, [0, 1, 5, 7, 8, 17]), (6, [5, 18]), (7, [0, 1, 7, 8])], [], [], [], [], [], [], []⟩ := rfl
theorem fn_118 : pr.fn 118 = some Try.f118 := rfl
theorem ann_118 : pr.ann 118 = ⟨[(0, [4]), (1, [6]), (3, [10]), (4, [11, 12, 13, 14, 15]), (5, [0, 1, 5, 7, 8, 17]), (6, [5, 18]), (7, [0, 1, 7, 8])], [], [], [], [], [], [], []⟩ := rfl
theorem fn_119 : pr.fn 119 = some Try.f119 := rfl
theorem ann_119 : pr.ann 119 = ⟨[(0, [4]), (1, [6]), (3, [10]), (4, [11, 12, 13, 14, 15]), (5, [0, 1, 5, 7, 8, 17]), (6, [5, 18]), (7, [0, 1, 7, 8])], [], [], [], [], [], [], []⟩ := rfl
@[go_sem] theorem fin_3 (E : Env) (s : Slots) (h : Heap) : finish E Try.f3 ⟨s, h⟩ = (mapO (resultVar E ⟨s, h⟩) [.tmp 4]).map (finish2 h) := finish_eq Try.f3 _ rfl
@[go_sem] theorem fin_10 (E : Env) (s : Slots) (h : Heap) : finish E Try.f10 ⟨s, h⟩ = (mapO (resultVar E ⟨s, h⟩) [.tmp 4]).map (finish2 h) := finish_eq Try.f10 _ rfl
@[go_sem] theorem fin_11 (E : Env) (s : Slots) (h : Heap) : finish E Try.f11 ⟨s, h⟩ = (mapO (resultVar E ⟨s, h⟩) [.tmp 6]).map (finish2 h) := finish_eq Try.f11 _ rfl
@[go_sem] theorem fin_12 (E : Env) (s : Slots) (h : Heap) : finish E Try.f12 ⟨s, h⟩ = (mapO (resultVar E ⟨s, h⟩) [.cell 2 27]).map (finish2 h) := finish_eq Try.f12 _ rfl
@[go_sem] theorem fin_13 (E : Env) (s : Slots) (h : Heap) : finish E Try.f13 ⟨s, h⟩ = (mapO (resultVar E ⟨s, h⟩) [.cell 2 27]).map (finish2 h) := finish_eq Try.f13 _ rfl
@[go_sem] theorem fin_14 (E : Env) (s : Slots) (h : Heap) : finish E Try.f14 ⟨s, h⟩ = (mapO (resultVar E ⟨s, h⟩) [.tmp 4]).map (finish2 h) := finish_eq Try.f14 _ rfl
@[go_sem] theorem fin_15 (E : Env) (s : Slots) (h : Heap) : finish E Try.f15 ⟨s, h⟩ = (mapO (resultVar E ⟨s, h⟩) [.tmp 4, .tmp 5]).map (finish2 h) := finish_eq Try.f15 _ rfl
@[go_sem] theorem fin_16 (E : Env) (s : Slots) (h : Heap) : finish E Try.f16 ⟨s, h⟩ = (mapO (resultVar E ⟨s, h⟩) [.tmp 4, .tmp 5]).map (finish2 h) := finish_eq Try.f16 _ rfl
@[go_sem] theorem fin_17 (E : Env) (s : Slots) (h : Heap) : finish E Try.f17 ⟨s, h⟩ = (mapO (resultVar E ⟨s, h⟩) [.cell 6 38, .tmp 7, .tmp 8]).map (finish2 h) := finish_eq Try.f17 _ rfl
@[go_sem] theorem fin_18 (E : Env) (s : Slots) (h : Heap) : finish E Try.f18 ⟨s, h⟩ = (mapO (resultVar E ⟨s, h⟩) [.tmp 4, .tmp 5]).map (finish2 h) := finish_eq Try.f18 _ rfl
@[go_sem] theorem fin_19 (E : Env) (s : Slots) (h : Heap) : finish E Try.f19 ⟨s, h⟩ = (mapO (resultVar E ⟨s, h⟩) [.tmp 2]).map (finish2 h) := finish_eq Try.f19 _ rfl
@[go_sem] theorem fin_20 (E : Env) (s : Slots) (h : Heap) : finish E Try.f20 ⟨s, h⟩ = (mapO (resultVar E ⟨s, h⟩) [.tmp 2]).map (finish2 h) := finish_eq Try.f20 _ rfl
@[go_sem] theorem fin_42 (E : Env) (s : Slots) (h : Heap) : finish E Try.f42 ⟨s, h⟩ = (mapO (resultVar E ⟨s, h⟩) [.tmp 4]).map (finish2 h) := finish_eq Try.f42 _ rfl
@[go_sem] theorem fin_43 (E : Env) (s : Slots) (h : Heap) : finish E Try.f43 ⟨s, h⟩ = (mapO (resultVar E ⟨s, h⟩) [.tmp 2]).map (finish2 h) := finish_eq Try.f43 _ rfl
@[go_sem] theorem fin_44 (E : Env) (s : Slots) (h : Heap) : finish E Try.f44 ⟨s, h⟩ = (mapO (resultVar E ⟨s, h⟩) [.tmp 4]).map (finish2 h) := finish_eq Try.f44 _ rfl
@[go_sem] theorem fin_45 (E : Env) (s : Slots) (h : Heap) : finish E Try.f45 ⟨s, h⟩ = (mapO (resultVar E ⟨s, h⟩) [.tmp 4]).map (finish2 h) := finish_eq Try.f45 _ rfl
@[go_sem] theorem fin_46 (E : Env) (s : Slots) (h : Heap) : finish E Try.f46 ⟨s, h⟩ = (mapO (resultVar E ⟨s, h⟩) [.tmp 4, .tmp 5]).map (finish2 h) := finish_eq Try.f46 _ rfl
@[go_sem] theorem fin_47 (E : Env) (s : Slots) (h : Heap) : finish E Try.f47 ⟨s, h⟩ = (mapO (resultVar E ⟨s, h⟩) [.tmp 4]).map (finish2 h) := finish_eq Try.f47 _ rfl
@[go_sem] theorem fin_48 (E : Env) (s : Slots) (h : Heap) : finish E Try.f48 ⟨s, h⟩ = (mapO (resultVar E ⟨s, h⟩) [.tmp 2]).map (finish2 h) := finish_eq Try.f48 _ rfl
@[go_sem] theorem fin_49 (E : Env) (s : Slots) (h : Heap) : finish E Try.f49 ⟨s, h⟩ = (mapO (resultVar E ⟨s, h⟩) [.tmp 2]).map (finish2 h) := finish_eq Try.f49 _ rfl
@[go_sem] theorem fin_50 (E : Env) (s : Slots) (h : Heap) : finish E Try.f50 ⟨s, h⟩ = (mapO (resultVar E ⟨s, h⟩) [.tmp 4]).map (finish2 h) := finish_eq Try.f50 _ rfl
@[go_sem] theorem fin_51 (E : Env) (s : Slots) (h : Heap) : finish E Try.f51 ⟨s, h⟩ = (mapO (resultVar E ⟨s, h⟩) [.cell 2 38]).map (finish2 h) := finish_eq Try.f51 _ rfl
@[go_sem] theorem fin_52 (E : Env) (s : Slots) (h : Heap) : finish E Try.f52 ⟨s, h⟩ = (mapO (resultVar E ⟨s, h⟩) [.tmp 6, .tmp 7, .tmp 8]).map (finish2 h) := finish_eq Try.f52 _ rfl
@[go_sem] theorem fin_53 (E : Env) (s : Slots) (h : Heap) : finish E Try.f53 ⟨s, h⟩ = (mapO (resultVar E ⟨s, h⟩) [.tmp 2]).map (finish2 h) := finish_eq Try.f53 _ rfl
@[go_sem] theorem fin_54 (E : Env) (s : Slots) (h : Heap) : finish E Try.f54 ⟨s, h⟩ = (mapO (resultVar E ⟨s, h⟩) [.tmp 6]).map (finish2 h) := finish_eq Try.f54 _ rfl
@[go_sem] theorem fin_55 (E : Env) (s : Slots) (h : Heap) : finish E Try.f55 ⟨s, h⟩ = (mapO (resultVar E ⟨s, h⟩) [.tmp 2]).map (finish2 h) := finish_eq Try.f55 _ rfl
@[go_sem] theorem fin_56 (E : Env) (s : Slots) (h : Heap) : finish E Try.f56 ⟨s, h⟩ = (mapO (resultVar E ⟨s, h⟩) [.tmp 2]).map (finish2 h) := finish_eq Try.f56 _ rfl
@[go_sem] theorem fin_57 (E : Env) (s : Slots) (h : Heap) : finish E Try.f57 ⟨s, h⟩ = (mapO (resultVar E ⟨s, h⟩) [.tmp 2]).map (finish2 h) := finish_eq Try.f57 _ rfl
@[go_sem] theorem fin_58 (E : Env) (s : Slots) (h : Heap) : finish E Try.f58 ⟨s, h⟩ = (mapO (resultVar E ⟨s, h⟩) [.tmp 4]).map (finish2 h) := finish_eq Try.f58 _ rfl
@[go_sem] theorem fin_59 (E : Env) (s : Slots) (h : Heap) : finish E Try.f59 ⟨s, h⟩ = (mapO (resultVar E ⟨s, h⟩) [.tmp 2]).map (finish2 h) := finish_eq Try.f59 _ rfl
@[go_sem] theorem fin_65 (E : Env) (s : Slots) (h : Heap) : finish E Try.f65 ⟨s, h⟩ = (mapO (resultVar E ⟨s, h⟩) [.tmp 4]).map (finish2 h) := finish_eq Try.f65 _ rfl
@[go_sem] theorem fin_66 (E : Env) (s : Slots) (h : Heap) : finish E Try.f66 ⟨s, h⟩ = (mapO (resultVar E ⟨s, h⟩) [.cell 2 38]).map (finish2 h) := finish_eq Try.f66 _ rfl
@[go_sem] theorem fin_89 (E : Env) (s : Slots) (h : Heap) : finish E Try.f89 ⟨s, h⟩ = (mapO (resultVar E ⟨s, h⟩) [.tmp 4]).map (finish2 h) := finish_eq Try.f89 _ rfl
@[go_sem] theorem fin_90 (E : Env) (s : Slots) (h : Heap) : finish E Try.f90 ⟨s, h⟩ = (mapO (resultVar E ⟨s, h⟩) [.tmp 2]).map (finish2 h) := finish_eq Try.f90 _ rfl
@[go_sem] theorem fin_91 (E : Env) (s : Slots) (h : Heap) : finish E Try.f91 ⟨s, h⟩ = (mapO (resultVar E ⟨s, h⟩) [.tmp 2]).map (finish2 h) := finish_eq Try.f91 _ rfl
@[go_sem] theorem fin_93 (E : Env) (s : Slots) (h : Heap) : finish E Try.f93 ⟨s, h⟩ = (mapO (resultVar E ⟨s, h⟩) [.tmp 4]).map (finish2 h) := finish_eq Try.f93 _ rfl
@[go_sem] theorem fin_94 (E : Env) (s : Slots) (h : Heap) : finish E Try.f94 ⟨s, h⟩ = (mapO (resultVar E ⟨s, h⟩) [.tmp 4]).map (finish2 h) := finish_eq Try.f94 _ rfl
@[go_sem] theorem fin_95 (E : Env) (s : Slots) (h : Heap) : finish E Try.f95 ⟨s, h⟩ = (mapO (resultVar E ⟨s, h⟩) [.tmp 3]).map (finish2 h) := finish_eq Try.f95 _ rfl
@[go_sem] theorem fin_96 (E : Env) (s : Slots) (h : Heap) : finish E Try.f96 ⟨s, h⟩ = (mapO (resultVar E ⟨s, h⟩) []).map (finish2 h) := finish_eq Try.f96 _ rfl
@[go_sem] theorem fin_97 (E : Env) (s : Slots) (h : Heap) : finish E Try.f97 ⟨s, h⟩ = (mapO (resultVar E ⟨s, h⟩) [.tmp 6]).map (finish2 h) := finish_eq Try.f97 _ rfl
@[go_sem] theorem fin_98 (E : Env) (s : Slots) (h : Heap) : finish E Try.f98 ⟨s, h⟩ = (mapO (resultVar E ⟨s, h⟩) [.tmp 4]).map (finish2 h) := finish_eq Try.f98 _ rfl
@[go_sem] theorem fin_99 (E : Env) (s : Slots) (h : Heap) : finish E Try.f99 ⟨s, h⟩ = (mapO (resultVar E ⟨s, h⟩) [.tmp 2]).map (finish2 h) := finish_eq Try.f99 _ rfl
@[go_sem] theorem fin_100 (E : Env) (s : Slots) (h : Heap) : finish E Try.f100 ⟨s, h⟩ = (mapO (resultVar E ⟨s, h⟩) [.tmp 4]).map (finish2 h) := finish_eq Try.f100 _ rfl
@[go_sem] theorem fin_101 (E : Env) (s : Slots) (h : Heap) : finish E Try.f101 ⟨s, h⟩ = (mapO (resultVar E ⟨s, h⟩) [.tmp 4]).map (finish2 h) := finish_eq Try.f101 _ rfl
@[go_sem] theorem fin_114 (E : Env) (s : Slots) (h : Heap) : finish E Try.f114 ⟨s, h⟩ = (mapO (resultVar E ⟨s, h⟩) [.tmp 4]).map (finish2 h) := finish_eq Try.f114 _ rfl
@[go_sem] theorem fin_117 (E : Env) (s : Slots) (h : Heap) : finish E Try.f117 ⟨s, h⟩ = (mapO (resultVar E ⟨s, h⟩) [.tmp 4]).map (finish2 h) := finish_eq Try.f117 _ rfl
@[go_sem] theorem fin_118 (E : Env) (s : Slots) (h : Heap) : finish E Try.f118 ⟨s, h⟩ = (mapO (resultVar E ⟨s, h⟩) [.tmp 4]).map (finish2 h) := finish_eq Try.f118 _ rfl
@[go_sem] theorem fin_119 (E : Env) (s : Slots) (h : Heap) : finish E Try.f119 ⟨s, h⟩ = (mapO (resultVar E ⟨s, h⟩) [.tmp 4]).map (finish2 h) := finish_eq Try.f119 _ rfl
@[go_sem] theorem by_3 : pr.byref 3 = [] := rfl
@[go_sem] theorem by_10 : pr.byref 10 = [] := rfl
@[go_sem] theorem by_11 : pr.byref 11 = [] := rfl
@[go_sem] theorem by_12 : pr.byref 12 = [] := rfl
@[go_sem] theorem by_13 : pr.byref 13 = [] := rfl
@[go_sem] theorem by_14 : pr.byref 14 = [] := rfl
@[go_sem] theorem by_15 : pr.byref 15 = [] := rfl
@[go_sem] theorem by_16 : pr.byref 16 = [] := rfl
@[go_sem] theorem by_17 : pr.byref 17 = [] := rfl
@[go_sem] theorem by_18 : pr.byref 18 = [] := rfl
@[go_sem] theorem by_19 : pr.byref 19 = [] := rfl
@[go_sem] theorem by_20 : pr.byref 20 = [] := rfl
@[go_sem] theorem by_42 : pr.byref 42 = [] := rfl
@[go_sem] theorem by_43 : pr.byref 43 = [] := rfl
@[go_sem] theorem by_44 : pr.byref 44 = [0] := rfl
@[go_sem] theorem by_45 : pr.byref 45 = [] := rfl
@[go_sem] theorem by_46 : pr.byref 46 = [] := rfl
@[go_sem] theorem by_47 : pr.byref 47 = [] := rfl
@[go_sem] theorem by_48 : pr.byref 48 = [] := rfl
@[go_sem] theorem by_49 : pr.byref 49 = [] := rfl
@[go_sem] theorem by_50 : pr.byref 50 = [] := rfl
@[go_sem] theorem by_51 : pr.byref 51 = [] := rfl
@[go_sem] theorem by_52 : pr.byref 52 = [0] := rfl
@[go_sem] theorem by_53 : pr.byref 53 = [] := rfl
@[go_sem] theorem by_54 : pr.byref 54 = [] := rfl
@[go_sem] theorem by_55 : pr.byref 55 = [] := rfl
@[go_sem] theorem by_56 : pr.byref 56 = [] := rfl
@[go_sem] theorem by_57 : pr.byref 57 = [] := rfl
@[go_sem] theorem by_58 : pr.byref 58 = [] := rfl
@[go_sem] theorem by_59 : pr.byref 59 = [] := rfl
@[go_sem] theorem by_65 : pr.byref 65 = [] := rfl
@[go_sem] theorem by_66 : pr.byref 66 = [] := rfl
@[go_sem] theorem by_89 : pr.byref 89 = [] := rfl
@[go_sem] theorem by_90 : pr.byref 90 = [0] := rfl
@[go_sem] theorem by_91 : pr.byref 91 = [] := rfl
@[go_sem] theorem by_93 : pr.byref 93 = [] := rfl
@[go_sem] theorem by_94 : pr.byref 94 = [] := rfl
@[go_sem] theorem by_95 : pr.byref 95 = [] := rfl
@[go_sem] theorem by_96 : pr.byref 96 = [0] := rfl
@[go_sem] theorem by_97 : pr.byref 97 = [0] := rfl
@[go_sem] theorem by_98 : pr.byref 98 = [] := rfl
@[go_sem] theorem by_99 : pr.byref 99 = [] := rfl
@[go_sem] theorem by_100 : pr.byref 100 = [] := rfl
@[go_sem] theorem by_101 : pr.byref 101 = [] := rfl
@[go_sem] theorem by_114 : pr.byref 114 = [] := rfl
@[go_sem] theorem by_117 : pr.byref 117 = [] := rfl
@[go_sem] theorem by_118 : pr.byref 118 = [] := rfl
@[go_sem] theorem by_119 : pr.byref 119 = [] := rfl
@[go_sem] theorem by_92 : pr.byref 92 = [] := rfl
@[go_sem] theorem by_106 : pr.byref 106 = [] := rfl
@[go_sem] theorem by_107 : pr.byref 107 = [] := rfl
@[go_sem] theorem by_115 : pr.byref 115 = [0] := rfl
@[go_sem] theorem by_116 : pr.byref 116 = [0] := rfl
@[go_sem] theorem pr_tab : pr.tab = tab := rfl
@[go_sem] theorem pr_ty : pr.ty = tyOf := rfl
end Go.Proofs.Ythmnlokdikomkaa.PI
