/- The functions of the program, for the interpreter: printed by a program of the session. -/
import Derived.Test.YticbfkoialmojaaPITab
import Derived.Test.YticbfkoialmojaaGQIns2
namespace Go.Proofs.Yticbfkoialmojaa.PI
open Go Go.Q
noncomputable def fnL : List (Nat × Func) := [(5, Try.f5), (13, Try.f13), (15, Try.f15), (16, Try.f16), (17, Try.f17), (20, Try.f20), (21, Try.f21), (22, Try.f22), (31, Try.f31), (32, Try.f32), (34, Try.f34), (35, Try.f35), (38, Try.f38), (40, Try.f40), (41, Try.f41), (42, Try.f42), (43, Try.f43), (44, Try.f44), (47, Try.f47), (48, Try.f48), (49, Try.f49), (50, Try.f50), (51, Try.f51), (52, Try.f52), (57, Try.f57), (58, Try.f58), (59, Try.f59), (60, Try.f60), (61, Try.f61), (62, Try.f62), (65, Try.f65), (66, Try.f66), (69, Try.f69), (70, Try.f70), (71, Try.f71), (72, Try.f72), (73, Try.f73), (74, Try.f74), (75, Try.f75), (78, Try.f78), (79, Try.f79), (80, Try.f80), (87, Try.f87), (88, Try.f88), (89, Try.f89), (90, Try.f90), (91, Try.f91), (92, Try.f92), (100, Try.f100), (103, Try.f103), (105, Try.f105), (108, Try.f108), (109, Try.f109), (110, Try.f110), (118, Try.f118), (131, Try.f131), (132, Try.f132)]
def annL : List (Nat × Ann) := [(5, ⟨[(0, [4]), (1, [19, 20]), (2, [0, 1]), (3, [0, 22, 23]), (4, [24, 25, 26]), (5, [1, 27, 28, 29, 30]), (6, [31, 32, 33, 34, 35]), (7, [8, 36, 37, 38, 39, 40, 41]), (8, [42, 43, 44, 45, 46, 47]), (9, [48, 49, 50, 51, 52, 53]), (10, [5, 54, 55, 56, 57, 58, 59]), (11, [9, 11, 13, 15, 17, 60, 61, 62, 63, 64, 65, 66, 67, 68, 69, 70, 71, 72, 73, 74, 75, 76]), (12, [6, 7, 10, 12, 14, 16]), (13, [16, 78, 79]), (14, [12, 18, 80, 81, 82, 83, 84, 85, 86, 87, 88]), (15, [6, 7, 10, 14]), (16, [6, 7, 10, 14, 90, 91, 92, 93, 94, 95, 96, 97, 98, 99, 100, 101, 102, 103, 104, 105, 106])], [], [], [], [], [], [], []⟩),
  (13, ⟨[(0, [4]), (1, [0, 1, 5, 6, 7, 8, 9, 10, 11, 12])], [], [], [], [], [], [], []⟩),
  (15, ⟨[(0, [2]), (1, [0, 7, 8]), (2, [9]), (3, [10, 11, 12]), (4, [13, 14]), (5, [15]), (6, [17, 18]), (7, [19, 20, 21, 22, 23, 24]), (8, [3, 4, 5, 6, 25])], [], [], [], [], [], [], []⟩),
  (16, ⟨[(0, [0, 4, 5]), (1, [6, 7, 8, 9, 10, 11, 12]), (2, [1, 2]), (3, [1, 2, 14, 15, 16])], [], [], [], [], [], [], []⟩),
  (17, ⟨[(0, [4, 5]), (1, [6, 7, 8]), (2, [0, 1]), (3, [0, 1, 10, 11, 12])], [], [], [], [], [], [], []⟩),
  (20, ⟨[(0, [6]), (1, [7]), (2, [0, 1, 2]), (3, [9, 10, 11]), (4, [0, 1, 2, 13, 14, 15, 16, 17, 18, 19]), (5, [0, 1, 2, 20, 21, 22, 23, 24])], [], [], [], [], [], [], []⟩),
  (21, ⟨[(0, [0, 3]), (1, [1, 4, 5, 6, 7, 8, 9])], [], [], [], [], [], [], []⟩),
  (22, ⟨[(0, [4, 5]), (1, [8, 9, 10, 11, 12, 13, 14]), (2, [0, 1]), (3, [16]), (4, [17]), (6, [21]), (7, [22, 23, 24, 25, 26, 27, 28, 29, 30, 31, 32, 33, 34, 35, 36, 37, 38, 39]), (8, [7, 41, 42, 43, 44]), (9, [7, 45]), (10, [0, 1, 6, 18, 19, 46])], [], [], [], [], [], [], []⟩),
  (31, ⟨[(0, [0, 2]), (1, [4, 5, 6]), (2, [1, 3, 7, 8, 9, 10, 11, 12, 13, 14, 15, 16, 17, 18, 19, 20, 21, 22, 23, 24, 25, 26, 27, 28])], [(2, [0, 1, 2, 3, 4, 6, 5, 7, 8, 9, 10, 11, 12, 13, 14, 15, 16, 17, 18, 19, 20, 21, 22])], [], [], [], [], [], []⟩),
  (32, ⟨[(0, [2]), (1, [0, 3, 4, 5, 6, 7, 8, 9])], [], [], [], [], [], [], []⟩),
  (34, ⟨[(0, [0, 4]), (1, [1, 2, 6, 7, 11, 12, 13, 14, 15, 16, 17]), (3, [5]), (5, [22, 23]), (6, [10, 24, 25, 26, 27]), (7, [28]), (8, [8, 18, 19, 20, 29])], [], [], [], [], [], [], []⟩),
  (35, ⟨[(0, [4]), (1, [1, 5, 10, 11, 12, 13, 14, 15]), (2, [0, 16, 17]), (3, [6]), (5, [22, 23]), (6, [9, 24, 25, 26]), (7, [27]), (8, [7, 18, 19, 20, 28])], [], [], [], [], [], [], []⟩),
  (38, ⟨[(0, [2]), (1, [0, 3, 4, 5])], [], [], [], [], [], [], []⟩),
  (40, ⟨[(0, [4]), (1, [6]), (2, [0, 1]), (3, [8, 9]), (4, [10]), (5, [0, 12, 13, 14, 15, 16]), (6, [0, 1, 5, 17, 18, 19])], [], [], [], [], [], [], []⟩),
  (41, ⟨[(0, [4]), (1, [0, 1, 5, 6, 7, 8, 9, 10])], [], [], [], [], [], [], []⟩),
  (42, ⟨[(0, [4]), (1, [0, 1, 5, 6, 7, 8])], [], [], [], [], [], [], []⟩),
  (43, ⟨[(0, [2]), (1, [0, 3, 4])], [], [], [], [], [], [], []⟩),
  (44, ⟨[(0, [0, 2, 6]), (1, [1, 3, 5, 7, 8, 9, 10])], [], [], [], [], [], [], []⟩),
  (47, ⟨[(0, [7]), (1, [10, 11]), (2, [0, 1, 2, 13]), (3, [14]), (4, [0]), (6, [18]), (7, [9, 19, 20, 21, 22, 23, 24, 25, 26]), (8, [27]), (9, [1, 2, 15, 16, 28, 29, 30]), (10, [8, 31])], [(7, [2, 3, 0, 1, 4, 5, 6, 7, 8])], [], [], [], [(7, [[2, 3, 0, 4, 1, 5, 6, 7, 8], [2, 3, 4, 0, 1, 5, 6, 7, 8]])], [], []⟩),
  (48, ⟨[(0, [3]), (1, [0, 1, 4, 5, 6])], [], [], [], [], [], [], []⟩),
  (49, ⟨[(0, [6]), (1, [0, 8, 9]), (2, [10, 11, 12, 13, 14]), (3, [1, 2, 7, 15, 16, 17, 18, 19])], [], [], [], [], [], [], []⟩),
  (50, ⟨[(0, [1]), (1, [0, 2, 3, 4, 5])], [], [], [], [], [], [], []⟩),
  (51, ⟨[(0, [6]), (1, [0, 1, 2, 7, 8, 9, 10, 11, 12, 13, 14])], [], [], [], [], [], [], []⟩),
  (52, ⟨[(0, [2]), (1, [0, 3, 4, 5, 6])], [], [], [], [], [], [], []⟩),
  (57, ⟨[(0, [2]), (1, [0, 3, 4])], [], [], [], [], [], [], []⟩),
  (58, ⟨[(0, [2]), (1, [0, 3, 4])], [], [], [], [], [], [], []⟩),
  (59, ⟨[(0, [4]), (1, [0, 1, 5, 6, 7, 8, 9, 10, 11, 12, 13, 14, 15, 16])], [], [], [], [], [], [], []⟩),
  (60, ⟨[(0, [4]), (1, [0, 1, 5, 6, 7, 8])], [], [], [], [], [], [], []⟩),
  (61, ⟨[(0, [3]), (1, [0, 1, 4, 5, 6, 7])], [], [], [], [], [], [], []⟩),
  (62, ⟨[(0, [1, 2, 6]), (1, [0, 4, 5, 7, 8, 9, 10])], [], [], [], [], [], [], []⟩),
  (65, ⟨[(0, [0, 4, 5, 6]), (1, [16, 17, 18, 19]), (2, [1]), (4, [24, 25]), (5, [7, 11, 26, 27, 28, 29, 30, 31, 32, 33]), (7, [14]), (9, [12, 13, 15, 35, 36, 37, 38, 39, 40, 41, 42, 43]), (10, [44]), (11, [2, 7, 8, 9, 20, 21, 22, 45, 46, 47])], [], [], [], [], [], [], []⟩),
  (66, ⟨[(0, [4, 5]), (1, [13, 14, 15]), (4, [20, 21, 22]), (6, [9, 23, 24, 25, 26, 27]), (7, [10, 28, 29, 30, 31, 32, 33]), (8, [35, 36, 37]), (9, [9, 10]), (10, [39, 40, 41, 42]), (11, [9, 10, 43, 44, 45, 46]), (12, [11, 12, 47, 48, 49, 50, 51, 52, 53, 54]), (13, [55]), (14, [0, 1, 6, 7, 8, 16, 17, 18, 56, 57])], [], [], [], [], [], [], []⟩),
  (69, ⟨[(0, [2]), (2, [4, 5, 6, 7, 8, 9, 10, 11, 12]), (3, [14, 15, 16, 17, 18, 19, 20, 21, 22, 23, 24]), (4, [25, 26, 27, 28, 29, 30, 31]), (5, [32, 33, 34, 35, 36, 37, 38, 39, 40, 41, 42, 43]), (6, [44, 45, 46, 47, 48, 49, 50, 51, 52]), (7, [0, 3, 54]), (8, [0, 3, 55, 56, 57, 58, 59, 60, 61])], [], [], [], [], [], [], []⟩),
  (70, ⟨[(0, [4]), (1, [6]), (3, [10]), (4, [11, 12, 13, 14, 15]), (5, [0, 1, 5, 7, 8, 17]), (6, [5, 18]), (7, [0, 1, 7, 8])], [], [], [], [], [], [], []⟩),
  (71, ⟨[(0, [4]), (1, [7, 8]), (2, [10]), (3, [11, 12, 13]), (5, [14, 15, 16]), (6, [18, 19]), (7, [20, 21, 22, 23, 24, 25, 26]), (8, [28, 29, 30, 31]), (9, [0, 1, 5, 6, 32])], [], [], [], [], [], [], []⟩),
  (72, ⟨[(0, [6]), (1, [2, 3, 8, 9, 10, 11, 12, 13, 14, 15, 16]), (2, [17]), (3, [0, 1, 7, 19]), (4, [0, 1, 7, 20, 21, 22])], [(1, [0, 1, 2, 4, 5, 6, 3, 7, 8, 9])], [], [], [], [], [], []⟩),
  (73, ⟨[(0, [6]), (1, [0, 1, 2, 8, 9, 10, 11]), (2, [12]), (3, [7, 14]), (4, [7])], [], [], [], [], [], [], []⟩),
  (74, ⟨[(0, [4]), (1, [6]), (3, [10]), (4, [11, 12, 13, 14, 15]), (5, [0, 1, 5, 7, 8, 17]), (6, [5, 18]), (7, [0, 1, 7, 8])], [], [], [], [], [], [], []⟩),
  (75, ⟨[(0, [2]), (1, [5]), (2, [0]), (4, [9]), (5, [4, 10, 11, 12, 13]), (6, [14]), (7, [3, 6, 7, 15])], [], [], [], [], [], [], []⟩),
  (78, ⟨[(0, [2]), (1, [6, 7]), (2, [0, 9]), (4, [10, 11, 12]), (5, [14, 15]), (6, [16, 17, 18, 19, 20, 21, 22, 23, 24]), (7, [26, 27, 28]), (9, [29, 30, 31]), (10, [33, 34]), (11, [35, 36, 37, 38, 39, 40, 41, 42, 43]), (12, [45, 46, 47, 48, 49, 50, 51]), (13, [52, 53]), (14, [4, 5, 54, 55, 56]), (15, [0, 3, 57, 58, 59]), (16, [0, 3, 60])], [], [], [], [], [], [], []⟩),
  (79, ⟨[(0, [2]), (1, [0, 4, 5]), (2, [6, 7]), (3, [3, 8])], [], [], [], [], [], [], []⟩),
  (80, ⟨[(0, [0, 2]), (1, [1, 3])], [], [], [], [], [], [], []⟩),
  (87, ⟨[(0, [4]), (1, [6, 7, 8, 9]), (2, [0, 1]), (3, [11]), (5, [15]), (6, [5, 16, 17, 18, 19, 20, 21, 22, 23]), (7, [0, 1, 12, 13]), (8, [25]), (9, [0, 1, 12, 13])], [], [], [], [], [], [], []⟩),
  (88, ⟨[(0, [4]), (1, [6]), (3, [10]), (4, [11, 12, 13, 14, 15]), (5, [0, 1, 5, 7, 8, 17]), (6, [5, 18]), (7, [0, 1, 7, 8])], [], [], [], [], [], [], []⟩),
  (89, ⟨[(0, [4]), (1, [0, 1, 5, 6, 7, 8])], [], [], [], [], [], [], []⟩),
  (90, ⟨[(0, [4]), (1, [0, 1, 2, 5, 6, 7, 8, 9])], [], [], [], [], [], [], []⟩),
  (91, ⟨[(0, [0, 2]), (1, [1, 3, 4, 5, 6, 7])], [], [], [], [], [], [], []⟩),
  (92, ⟨[(0, [0, 6, 7, 8]), (1, [13, 14, 15]), (2, [16]), (3, [1, 2, 3, 9, 18, 19, 20, 21, 22, 23, 24]), (4, [1, 9, 25, 26, 27, 28, 29]), (5, [30, 31, 32, 33]), (6, [2, 11, 34, 35, 36, 37]), (7, [3, 10, 12, 38, 39, 40, 41, 42])], [], [], [], [], [], [], []⟩),
  (100, ⟨[(0, [6]), (1, [0, 1, 8, 9, 10, 11, 12]), (2, [13]), (3, [2, 7]), (4, [2, 7, 15, 16, 17])], [], [], [], [], [], [], []⟩),
  (103, ⟨[(0, [2]), (1, [0, 3, 4])], [], [], [], [], [], [], []⟩),
  (105, ⟨[(0, [1]), (2, [9, 10]), (3, [4, 11, 12, 13]), (4, [15])], [], [], [], [], [], [], []⟩),
  (108, ⟨[(0, [4]), (1, [9]), (2, [11]), (3, [1, 12, 13, 14, 15, 16, 17, 18, 19, 20]), (4, [5, 21, 22, 23, 24, 25]), (5, [27]), (6, [6, 28, 29, 30]), (7, [0, 31, 32, 33]), (8, [34, 35, 36]), (9, [38, 39, 40, 41, 42, 43, 44, 45, 46]), (10, [7, 8, 47])], [], [], [], [], [], [], []⟩),
  (109, ⟨[(0, [4]), (1, [8]), (2, [1]), (4, [13, 14]), (5, [7, 15, 16, 17, 18, 19, 20, 21]), (6, [22]), (7, [0, 5, 9, 10, 11, 23])], [], [], [], [], [], [], []⟩),
  (110, ⟨[(0, [2]), (1, [3]), (2, [0]), (3, [0, 5, 6, 7])], [], [], [], [], [], [], []⟩),
  (118, ⟨[(0, [4, 5]), (1, [0, 1, 10, 11, 12, 13, 14, 15, 16, 17]), (2, [6, 7, 18, 19, 20, 21]), (3, [0, 1, 22, 23, 24, 25, 26, 27]), (4, [8, 9, 28, 29])], [], [], [], [], [], [], []⟩),
  (131, ⟨[(0, [4, 5]), (1, [0, 1, 7, 8, 9, 10, 11]), (2, [6, 12, 13, 14, 15, 16])], [], [], [], [], [], [], []⟩),
  (132, ⟨[(0, [4, 5]), (1, [14, 15]), (2, [16, 17]), (3, [18, 19]), (4, [20, 21]), (5, [22, 23, 24]), (6, [8, 10, 25, 26, 27, 28, 29, 30]), (7, [31, 32]), (8, [11, 33, 34]), (9, [6, 35, 36, 37, 38, 39]), (10, [7, 9, 12, 13, 40, 41, 42, 43, 44, 45, 46, 47]), (11, [0, 1, 48, 49, 50])], [], [], [], [], [], [], []⟩)]
/-- What is not interpreted. -/
def given (f : Nat) (vs : List AV) (h : Heap) : Option (AV × Heap) := if f = 115 then match vs, h with
  | [.nilS, .fn g [.rp [.d (.slice (.int .i64)) xs]]], [] => if g = 105 ∧ List.length xs ≤ 1000000 then some (if List.length xs = 0 then .nilS else .os (.t 64), if List.length xs = 0 then [] else [(64, .arr true false (.int .i64) xs)]) else none
  | _, _ => none
  else if f = 104 then match vs, h with
  | [.nilS], [] => some (.tuple [], [])
  | [.os (.t 1000000)], [(1000000, .arr m false (.int .i64) xs)] => if List.length xs ≤ 1000000 then some (.tuple [], [(1000000, .arr m false (.int .i64) (List.mergeSort xs fun x y => decide (x ≤ y)))]) else none
  | _, _ => none
  else if f = 76 then match vs, h with
  | [.os (.t 1000000), .d (.int .i64) i, .d (.int .i64) j], [(1000000, .arr m false (.int .i64) xs)] => if 0 ≤ i ∧ i < j ∧ j ≤ List.length xs then some (.sub (.t 1000000) 0 (List.length xs - (j.toNat - i.toNat)), [(1000000, .arr m false (.int .i64) (List.take i.toNat xs ++ List.drop j.toNat xs ++ List.replicate (j.toNat - i.toNat) 0))]) else none
  | _, _ => none
  else if f = 77 then match vs, h with
  | [.sub (.t 1000000) 0 n, .d (.int .i64) i, .os (.t 1000001)], [(1000000, .arr m false (.int .i64) xs), (1000001, .arr m2 false (.int .i64) [x])] => if 0 ≤ i ∧ i ≤ n ∧ n < List.length xs then some (.sub (.t 1000000) 0 (n + 1), [(1000000, .arr m false (.int .i64) (insAt xs n i.toNat x)), (1000001, .arr m2 false (.int .i64) [x])]) else none
  | _, _ => none
  else none
noncomputable def pr : Prog := ⟨tab, tyOf, by_, lookT fnL, fun f => (lookT annL f).getD ⟨[], [], [], [], [], [], [], []⟩, given⟩
theorem fns : ∀ x ∈ fnL, Try.prog.funcs[x.1]? = some x.2 ∧ fnOkB pr x.1 = true := by
  unfold fnL
  simp only [List.forall_mem_cons, List.not_mem_nil, false_implies, implies_true, and_true]
  exact ⟨⟨Try.func5, by kernel_rfl⟩, ⟨Try.func13, by kernel_rfl⟩, ⟨Try.func15, by kernel_rfl⟩, ⟨Try.func16, by kernel_rfl⟩, ⟨Try.func17, by kernel_rfl⟩, ⟨Try.func20, by kernel_rfl⟩, ⟨Try.func21, by kernel_rfl⟩, ⟨Try.func22, by kernel_rfl⟩, ⟨Try.func31, by kernel_rfl⟩, ⟨Try.func32, by kernel_rfl⟩, ⟨Try.func34, by kernel_rfl⟩, ⟨Try.func35, by kernel_rfl⟩, ⟨Try.func38, by kernel_rfl⟩, ⟨Try.func40, by kernel_rfl⟩, ⟨Try.func41, by kernel_rfl⟩, ⟨Try.func42, by kernel_rfl⟩, ⟨Try.func43, by kernel_rfl⟩, ⟨Try.func44, by kernel_rfl⟩, ⟨Try.func47, by kernel_rfl⟩, ⟨Try.func48, by kernel_rfl⟩, ⟨Try.func49, by kernel_rfl⟩, ⟨Try.func50, by kernel_rfl⟩, ⟨Try.func51, by kernel_rfl⟩, ⟨Try.func52, by kernel_rfl⟩, ⟨Try.func57, by kernel_rfl⟩, ⟨Try.func58, by kernel_rfl⟩, ⟨Try.func59, by kernel_rfl⟩, ⟨Try.func60, by kernel_rfl⟩, ⟨Try.func61, by kernel_rfl⟩, ⟨Try.func62, by kernel_rfl⟩, ⟨Try.func65, by kernel_rfl⟩, ⟨Try.func66, by kernel_rfl⟩, ⟨Try.func69, by kernel_rfl⟩, ⟨Try.func70, by kernel_rfl⟩, ⟨Try.func71, by kernel_rfl⟩, ⟨Try.func72, by kernel_rfl⟩, ⟨Try.func73, by kernel_rfl⟩, ⟨Try.func74, by kernel_rfl⟩, ⟨Try.func75, by kernel_rfl⟩, ⟨Try.func78, by kernel_rfl⟩, ⟨Try.func79, by kernel_rfl⟩, ⟨Try.func80, by kernel_rfl⟩, ⟨Try.func87, by kernel_rfl⟩, ⟨Try.func88, by kernel_rfl⟩, ⟨Try.func89, by kernel_rfl⟩, ⟨Try.func90, by kernel_rfl⟩, ⟨Try.func91, by kernel_rfl⟩, ⟨Try.func92, by kernel_rfl⟩, ⟨Try.func100, by kernel_rfl⟩, ⟨Try.func103, by kernel_rfl⟩, ⟨Try.func105, by kernel_rfl⟩, ⟨Try.func108, by kernel_rfl⟩, ⟨Try.func109, by kernel_rfl⟩, ⟨Try.func110, by kernel_rfl⟩, ⟨Try.func118, by kernel_rfl⟩, ⟨Try.func131, by kernel_rfl⟩, ⟨Try.func132, by kernel_rfl⟩⟩
theorem fn_5 : pr.fn 5 = some Try.f5 := rfl
theorem ann_5 : pr.ann 5 = ⟨[(0, [4]), (1, [19, 20]), (2, [0, 1]), (3, [0, 22, 23]), (4, [24, 25, 26]), (5, [1, 27, 28, 29, 30]), (6, [31, 32, 33, 34, 35]), (7, [8, 36, 37, 38, 39, 40, 41]), (8, [42, 43, 44, 45, 46, 47]), (9, [48, 49, 50, 51, 52, 53]), (10, [5, 54, 55, 56, 57, 58, 59]), (11, [9, 11, 13, 15, 17, 60, 61, 62, 63, 64, 65, 66, 67, 68, 69, 70, 71, 72, 73, 74, 75, 76]), (12, [6, 7, 10, 12, 14, 16]), (13, [16, 78, 79]), (14, [12, 18, 80, 81, 82, 83, 84, 85, 86, 87, 88]), (15, [6, 7, 10, 14]), (16, [6, 7, 10, 14, 90, 91, 92, 93, 94, 95, 96, 97, 98, 99, 100, 101, 102, 103, 104, 105, 106])], [], [], [], [], [], [], []⟩ := rfl
theorem fn_13 : pr.fn 13 = some Try.f13 := rfl
theorem ann_13 : pr.ann 13 = ⟨[(0, [4]), (1, [0, 1, 5, 6, 7, 8, 9, 10, 11, 12])], [], [], [], [], [], [], []⟩ := rfl
theorem fn_15 : pr.fn 15 = some Try.f15 := rfl
theorem ann_15 : pr.ann 15 = ⟨[(0, [2]), (1, [0, 7, 8]), (2, [9]), (3, [10, 11, 12]), (4, [13, 14]), (5, [15]), (6, [17, 18]), (7, [19, 20, 21, 22, 23, 24]), (8, [3, 4, 5, 6, 25])], [], [], [], [], [], [], []⟩ := rfl
theorem fn_16 : pr.fn 16 = some Try.f16 := rfl
theorem ann_16 : pr.ann 16 = ⟨[(0, [0, 4, 5]), (1, [6, 7, 8, 9, 10, 11, 12]), (2, [1, 2]), (3, [1, 2, 14, 15, 16])], [], [], [], [], [], [], []⟩ := rfl
theorem fn_17 : pr.fn 17 = some Try.f17 := rfl
theorem ann_17 : pr.ann 17 = ⟨[(0, [4, 5]), (1, [6, 7, 8]), (2, [0, 1]), (3, [0, 1, 10, 11, 12])], [], [], [], [], [], [], []⟩ := rfl
theorem fn_20 : pr.fn 20 = some Try.f20 := rfl
theorem ann_20 : pr.ann 20 = ⟨[(0, [6]), (1, [7]), (2, [0, 1, 2]), (3, [9, 10, 11]), (4, [0, 1, 2, 13, 14, 15, 16, 17, 18, 19]), (5, [0, 1, 2, 20, 21, 22, 23, 24])], [], [], [], [], [], [], []⟩ := rfl
theorem fn_21 : pr.fn 21 = some Try.f21 := rfl
theorem ann_21 : pr.ann 21 = ⟨[(0, [0, 3]), (1, [1, 4, 5, 6, 7, 8, 9])], [], [], [], [], [], [], []⟩ := rfl
theorem fn_22 : pr.fn 22 = some Try.f22 := rfl
theorem ann_22 : pr.ann 22 = ⟨[(0, [4, 5]), (1, [8, 9, 10, 11, 12, 13, 14]), (2, [0, 1]), (3, [16]), (4, [17]), (6, [21]), (7, [22, 23, 24, 25, 26, 27, 28, 29, 30, 31, 32, 33, 34, 35, 36, 37, 38, 39]), (8, [7, 41, 42, 43, 44]), (9, [7, 45]), (10, [0, 1, 6, 18, 19, 46])], [], [], [], [], [], [], []⟩ := rfl
theorem fn_31 : pr.fn 31 = some Try.f31 := rfl
theorem ann_31 : pr.ann 31 = ⟨[(0, [0, 2]), (1, [4, 5, 6]), (2, [1, 3, 7, 8, 9, 10, 11, 12, 13, 14, 15, 16, 17, 18, 19, 20, 21, 22, 23, 24, 25, 26, 27, 28])], [(2, [0, 1, 2, 3, 4, 6, 5, 7, 8, 9, 10, 11, 12, 13, 14, 15, 16, 17, 18, 19, 20, 21, 22])], [], [], [], [], [], []⟩ := rfl
theorem fn_32 : pr.fn 32 = some Try.f32 := rfl
theorem ann_32 : pr.ann 32 = ⟨[(0, [2]), (1, [0, 3, 4, 5, 6, 7, 8, 9])], [], [], [], [], [], [], []⟩ := rfl
theorem fn_34 : pr.fn 34 = some Try.f34 := rfl
theorem ann_34 : pr.ann 34 = ⟨[(0, [0, 4]), (1, [1, 2, 6, 7, 11, 12, 13, 14, 15, 16, 17]), (3, [5]), (5, [22, 23]), (6, [10, 24, 25, 26, 27]), (7, [28]), (8, [8, 18, 19, 20, 29])], [], [], [], [], [], [], []⟩ := rfl
theorem fn_35 : pr.fn 35 = some Try.f35 := rfl
theorem ann_35 : pr.ann 35 = ⟨[(0, [4]), (1, [1, 5, 10, 11, 12, 13, 14, 15]), (2, [0, 16, 17]), (3, [6]), (5, [22, 23]), (6, [9, 24, 25, 26]), (7, [27]), (8, [7, 18, 19, 20, 28])], [], [], [], [], [], [], []⟩ := rfl
theorem fn_38 : pr.fn 38 = some Try.f38 := rfl
theorem ann_38 : pr.ann 38 = ⟨[(0, [2]), (1, [0, 3, 4, 5])], [], [], [], [], [], [], []⟩ := rfl
theorem fn_40 : pr.fn 40 = some Try.f40 := rfl
theorem ann_40 : pr.ann 40 = ⟨[(0, [4]), (1, [6]), (2, [0, 1]), (3, [8, 9]), (4, [10]), (5, [0, 12, 13, 14, 15, 16]), (6, [0, 1, 5, 17, 18, 19])], [], [], [], [], [], [], []⟩ := rfl
theorem fn_41 : pr.fn 41 = some Try.f41 := rfl
theorem ann_41 : pr.ann 41 = ⟨[(0, [4]), (1, [0, 1, 5, 6, 7, 8, 9, 10])], [], [], [], [], [], [], []⟩ := rfl
theorem fn_42 : pr.fn 42 = some Try.f42 := rfl
theorem ann_42 : pr.ann 42 = ⟨[(0, [4]), (1, [0, 1, 5, 6, 7, 8])], [], [], [], [], [], [], []⟩ := rfl
theorem fn_43 : pr.fn 43 = some Try.f43 := rfl
theorem ann_43 : pr.ann 43 = ⟨[(0, [2]), (1, [0, 3, 4])], [], [], [], [], [], [], []⟩ := rfl
theorem fn_44 : pr.fn 44 = some Try.f44 := rfl
theorem ann_44 : pr.ann 44 = ⟨[(0, [0, 2, 6]), (1, [1, 3, 5, 7, 8, 9, 10])], [], [], [], [], [], [], []⟩ := rfl
theorem fn_47 : pr.fn 47 = some Try.f47 := rfl
theorem ann_47 : pr.ann 47 = ⟨[(0, [7]), (1, [10, 11]), (2, [0, 1, 2, 13]), (3, [14]), (4, [0]), (6, [18]), (7, [9, 19, 20, 21, 22, 23, 24, 25, 26]), (8, [27]), (9, [1, 2, 15, 16, 28, 29, 30]), (10, [8, 31])], [(7, [2, 3, 0, 1, 4, 5, 6, 7, 8])], [], [], [], [(7, [[2, 3, 0, 4, 1, 5, 6, 7, 8], [2, 3, 4, 0, 1, 5, 6, 7, 8]])], [], []⟩ := rfl
theorem fn_48 : pr.fn 48 = some Try.f48 := rfl
theorem ann_48 : pr.ann 48 = ⟨[(0, [3]), (1, [0, 1, 4, 5, 6])], [], [], [], [], [], [], []⟩ := rfl
theorem fn_49 : pr.fn 49 = some Try.f49 := rfl
theorem ann_49 : pr.ann 49 = ⟨[(0, [6]), (1, [0, 8, 9]), (2, [10, 11, 12, 13, 14]), (3, [1, 2, 7, 15, 16, 17, 18, 19])], [], [], [], [], [], [], []⟩ := rfl
theorem fn_50 : pr.fn 50 = some Try.f50 := rfl
theorem ann_50 : pr.ann 50 = ⟨[(0, [1]), (1, [0, 2, 3, 4, 5])], [], [], [], [], [], [], []⟩ := rfl
theorem fn_51 : pr.fn 51 = some Try.f51 := rfl
theorem ann_51 : pr.ann 51 = ⟨[(0, [6]), (1, [0, 1, 2, 7, 8, 9, 10, 11, 12, 13, 14])], [], [], [], [], [], [], []⟩ := rfl
theorem fn_52 : pr.fn 52 = some Try.f52 := rfl
theorem ann_52 : pr.ann 52 = ⟨[(0, [2]), (1, [0, 3, 4, 5, 6])], [], [], [], [], [], [], []⟩ := rfl
theorem fn_57 : pr.fn 57 = some Try.f57 := rfl
theorem ann_57 : pr.ann 57 = ⟨[(0, [2]), (1, [0, 3, 4])], [], [], [], [], [], [], []⟩ := rfl
theorem fn_58 : pr.fn 58 = some Try.f58 := rfl
theorem ann_58 : pr.ann 58 = ⟨[(0, [2]), (1, [0, 3, 4])], [], [], [], [], [], [], []⟩ := rfl
theorem fn_59 : pr.fn 59 = some Try.f59 := rfl
theorem ann_59 : pr.ann 59 = ⟨[(0, [4]), (1, [0, 1, 5, 6, 7, 8, 9, 10, 11, 12, 13, 14, 15, 16])], [], [], [], [], [], [], []⟩ := rfl
theorem fn_60 : pr.fn 60 = some Try.f60 := rfl
theorem ann_60 : pr.ann 60 = ⟨[(0, [4]), (1, [0, 1, 5, 6, 7, 8])], [], [], [], [], [], [], []⟩ := rfl
theorem fn_61 : pr.fn 61 = some Try.f61 := rfl
theorem ann_61 : pr.ann 61 = ⟨[(0, [3]), (1, [0, 1, 4, 5, 6, 7])], [], [], [], [], [], [], []⟩ := rfl
theorem fn_62 : pr.fn 62 = some Try.f62 := rfl
theorem ann_62 : pr.ann 62 = ⟨[(0, [1, 2, 6]), (1, [0, 4, 5, 7, 8, 9, 10])], [], [], [], [], [], [], []⟩ := rfl
theorem fn_65 : pr.fn 65 = some Try.f65 := rfl
theorem ann_65 : pr.ann 65 = ⟨[(0, [0, 4, 5, 6]), (1, [16, 17, 18, 19]), (2, [1]), (4, [24, 25]), (5, [7, 11, 26, 27, 28, 29, 30, 31, 32, 33]), (7, [14]), (9, [12, 13, 15, 35, 36, 37, 38, 39, 40, 41, 42, 43]), (10, [44]), (11, [2, 7, 8, 9, 20, 21, 22, 45, 46, 47])], [], [], [], [], [], [], []⟩ := rfl
theorem fn_66 : pr.fn 66 = some Try.f66 := rfl
theorem ann_66 : pr.ann 66 = ⟨[(0, [4, 5]), (1, [13, 14, 15]), (4, [20, 21, 22]), (6, [9, 23, 24, 25, 26, 27]), (7, [10, 28, 29, 30, 31, 32, 33]), (8, [35, 36, 37]), (9, [9, 10]), (10, [39, 40, 41, 42]), (11, [9, 10, 43, 44, 45, 46]), (12, [11, 12, 47, 48, 49, 50, 51, 52, 53, 54]), (13, [55]), (14, [0, 1, 6, 7, 8, 16, 17, 18, 56, 57])], [], [], [], [], [], [], []⟩ := rfl
theorem fn_69 : pr.fn 69 = some Try.f69 := rfl
theorem ann_69 : pr.ann 69 = ⟨[(0, [2]), (2, [4, 5, 6, 7, 8, 9, 10, 11, 12]), (3, [14, 15, 16, 17, 18, 19, 20, 21, 22, 23, 24]), (4, [25, 26, 27, 28, 29, 30, 31]), (5, [32, 33, 34, 35, 36, 37, 38, 39, 40, 41, 42, 43]), (6, [44, 45, 46, 47, 48, 49, 50, 51, 52]), (7, [0, 3, 54]), (8, [0, 3, 55, 56, 57, 58, 59, 60, 61])], [], [], [], [], [], [], []⟩ := rfl
theorem fn_70 : pr.fn 70 = some Try.f70 := rfl
theorem ann_70 : pr.ann 70 = ⟨[(0, [4]), (1, [6]), (3, [10]), (4, [11, 12, 13, 14, 15]), (5, [0, 1, 5, 7, 8, 17]), (6, [5, 18]), (7, [0, 1, 7, 8])], [], [], [], [], [], [], []⟩ := rfl
theorem fn_71 : pr.fn 71 = some Try.f71 := rfl
theorem ann_71 : pr.ann 71 = ⟨[(0, [4]), (1, [7, 8]), (2, [10]), (3, [11, 12, 13]), (5, [14, 15, 16]), (6, [18, 19]), (7, [20, 21, 22, 23, 24, 25, 26]), (8, [28, 29, 30, 31]), (9, [0, 1, 5, 6, 32])], [], [], [], [], [], [], []⟩ := rfl
theorem fn_72 : pr.fn 72 = some Try.f72 := rfl
theorem ann_72 : pr.ann 72 = ⟨[(0, [6]), (1, [2, 3, 8, 9, 10, 11, 12, 13, 14, 15, 16]), (2, [17]), (3, [0, 1, 7, 19]), (4, [0, 1, 7, 20, 21, 22])], [(1, [0, 1, 2, 4, 5, 6, 3, 7, 8, 9])], [], [], [], [], [], []⟩ := rfl
theorem fn_73 : pr.fn 73 = some Try.f73 := rfl
theorem ann_73 : pr.ann 73 = ⟨[(0, [6]), (1, [0, 1, 2, 8, 9, 10, 11]), (2, [12]), (3, [7, 14]), (4, [7])], [], [], [], [], [], [], []⟩ := rfl
theorem fn_74 : pr.fn 74 = some Try.f74 := rfl
theorem ann_74 : pr.ann 74 = ⟨[(0, [4]), (1, [6]), (3, [10]), (4, [11, 12, 13, 14, 15]), (5, [0, 1, 5, 7, 8, 17]), (6, [5, 18]), (7, [0, 1, 7, 8])], [], [], [], [], [], [], []⟩ := rfl
theorem fn_75 : pr.fn 75 = some Try.f75 := rfl
theorem ann_75 : pr.ann 75 = ⟨[(0, [2]), (1, [5]), (2, [0]), (4, [9]), (5, [4, 10, 11, 12, 13]), (6, [14]), (7, [3, 6, 7, 15])], [], [], [], [], [], [], []⟩ := rfl
theorem fn_78 : pr.fn 78 = some Try.f78 := rfl
theorem ann_78 : pr.ann 78 = ⟨[(0, [2]), (1, [6, 7]), (2, [0, 9]), (4, [10, 11, 12]), (5, [14, 15]), (6, [16, 17, 18, 19, 20, 21, 22, 23, 24]), (7, [26, 27, 28]), (9, [29, 30, 31]), (10, [33, 34]), (11, [35, 36, 37, 38, 39, 40, 41, 42, 43]), (12, [45, 46, 47, 48, 49, 50, 51]), (13, [52, 53]), (14, [4, 5, 54, 55, 56]), (15, [0, 3, 57, 58, 59]), (16, [0, 3, 60])], [], [], [], [], [], [], []⟩ := rfl
theorem fn_79 : pr.fn 79 = some Try.f79 := rfl
theorem ann_79 : pr.ann 79 = ⟨[(0, [2]), (1, [0, 4, 5]), (2, [6, 7]), (3, [3, 8])], [], [], [], [], [], [], []⟩ := rfl
theorem fn_80 : pr.fn 80 = some Try.f80 := rfl
theorem ann_80 : pr.ann 80 = ⟨[(0, [0, 2]), (1, [1, 3])], [], [], [], [], [], [], []⟩ := rfl
theorem fn_87 : pr.fn 87 = some Try.f87 := rfl
theorem ann_87 : pr.ann 87 = ⟨[(0, [4]), (1, [6, 7, 8, 9]), (2, [0, 1]), (3, [11]), (5, [15]), (6, [5, 16, 17, 18, 19, 20, 21, 22, 23]), (7, [0, 1, 12, 13]), (8, [25]), (9, [0, 1, 12, 13])], [], [], [], [], [], [], []⟩ := rfl
theorem fn_88 : pr.fn 88 = some Try.f88 := rfl
theorem ann_88 : pr.ann 88 = ⟨[(0, [4]), (1, [6]), (3, [10]), (4, [11, 12, 13, 14, 15]), (5, [0, 1, 5, 7, 8, 17]), (6, [5, 18]), (7, [0, 1, 7, 8])], [], [], [], [], [], [], []⟩ := rfl
theorem fn_89 : pr.fn 89 = some Try.f89 := rfl
theorem ann_89 : pr.ann 89 = ⟨[(0, [4]), (1, [0, 1, 5, 6, 7, 8])], [], [], [], [], [], [], []⟩ := rfl
theorem fn_90 : pr.fn 90 = some Try.f90 := rfl
theorem ann_90 : pr.ann 90 = ⟨[(0, [4]), (1, [0, 1, 2, 5, 6, 7, 8, 9])], [], [], [], [], [], [], []⟩ := rfl
theorem fn_91 : pr.fn 91 = some Try.f91 := rfl
theorem ann_91 : pr.ann 91 = ⟨[(0, [0, 2]), (1, [1, 3, 4, 5, 6, 7])], [], [], [], [], [], [], []⟩ := rfl
theorem fn_92 : pr.fn 92 = some Try.f92 := rfl
theorem ann_92 : pr.ann 92 = ⟨[(0, [0, 6, 7, 8]), (1, [13, 14, 15]), (2, [16]), (3, [1, 2, 3, 9, 18, 19, 20, 21, 22, 23, 24]), (4, [1, 9, 25, 26, 27, 28, 29]), (5, [30, 31, 32, 33]), (6, [2, 11, 34, 35, 36, 37]), (7, [3, 10, 12, 38, 39, 40, 41, 42])], [], [], [], [], [], [], []⟩ := rfl
theorem fn_100 : pr.fn 100 = some Try.f100 := rfl
theorem ann_100 : pr.ann 100 = ⟨[(0, [6]), (1, [0, 1, 8, 9, 10, 11, 12]), (2, [13]), (3, [2, 7]), (4, [2, 7, 15, 16, 17])], [], [], [], [], [], [], []⟩ := rfl
theorem fn_103 : pr.fn 103 = some Try.f103 := rfl
theorem ann_103 : pr.ann 103 = ⟨[(0, [2]), (1, [0, 3, 4])], [], [], [], [], [], [], []⟩ := rfl
theorem fn_105 : pr.fn 105 = some Try.f105 := rfl
theorem ann_105 : pr.ann 105 = ⟨[(0, [1]), (2, [9, 10]), (3, [4, 11, 12, 13]), (4, [15])], [], [], [], [], [], [], []⟩ := rfl
theorem fn_108 : pr.fn 108 = some Try.f108 := rfl
theorem ann_108 : pr.ann 108 = ⟨[(0, [4]), (1, [9]), (2, [11]), (3, [1, 12, 13, 14, 15, 16, 17, 18, 19, 20]), (4, [5, 21, 22, 23, 24, 25]), (5, [27]), (6, [6, 28, 29, 30]), (7, [0, 31, 32, 33]), (8, [34, 35, 36]), (9, [38, 39, 40, 41, 42, 43, 44, 45, 46]), (10, [7, 8, 47])], [], [], [], [], [], [], []⟩ := rfl
theorem fn_109 : pr.fn 109 = some Try.f109 := rfl
theorem ann_109 : pr.ann 109 = ⟨[(0, [4]), (1, [8]), (2, [1]), (4, [13, 14]), (5, [7, 15, 16, 17, 18, 19, 20, 21]), (6, [22]), (7, [0, 5, 9, 10, 11, 23])], [], [], [], [], [], [], []⟩ := rfl
theorem fn_110 : pr.fn 110 = some Try.f110 := rfl
theorem ann_110 : pr.ann 110 = ⟨[(0, [2]), (1, [3]), (2, [0]), (3, [0, 5, 6, 7])], [], [], [], [], [], [], []⟩ := rfl
theorem fn_118 : pr.fn 118 = some Try.f118 := rfl
theorem ann_118 : pr.ann 118 = ⟨[(0, [4, 5]), (1, [0, 1, 10, 11, 12, 13, 14, 15, 16, 17]), (2, [6, 7, 18, 19, 20, 21]), (3, [0, 1, 22, 23, 24, 25, 26, 27]), (4, [8, 9, 28, 29])], [], [], [], [], [], [], []⟩ := rfl
theorem fn_131 : pr.fn 131 = some Try.f131 := rfl
theorem ann_131 : pr.ann 131 = ⟨[(0, [4, 5]), (1, [0, 1, 7, 8, 9, 10, 11]), (2, [6, 12, 13, 14, 15, 16])], [], [], [], [], [], [], []⟩ := rfl
theorem fn_132 : pr.fn 132 = some Try.f132 := rfl
theorem ann_132 : pr.ann 132 = ⟨[(0, [4, 5]), (1, [14, 15]), (2, [16, 17]), (3, [18, 19]), (4, [20, 21]), (5, [22, 23, 24]), (6, [8, 10, 25, 26, 27, 28, 29, 30]), (7, [31, 32]), (8, [11, 33, 34]), (9, [6, 35, 36, 37, 38, 39]), (10, [7, 9, 12, 13, 40, 41, 42, 43, 44, 45, 46, 47]), (11, [0, 1, 48, 49, 50])], [], [], [], [], [], [], []⟩ := rfl
@[go_sem] theorem fin_5 (E : Env) (s : Slots) (h : Heap) : finish E Try.f5 ⟨s, h⟩ = (mapO (resultVar E ⟨s, h⟩) [.tmp 4]).map (finish2 h) := finish_eq Try.f5 _ rfl
@[go_sem] theorem fin_13 (E : Env) (s : Slots) (h : Heap) : finish E Try.f13 ⟨s, h⟩ = (mapO (resultVar E ⟨s, h⟩) [.tmp 4]).map (finish2 h) := finish_eq Try.f13 _ rfl
@[go_sem] theorem fin_15 (E : Env) (s : Slots) (h : Heap) : finish E Try.f15 ⟨s, h⟩ = (mapO (resultVar E ⟨s, h⟩) [.tmp 2]).map (finish2 h) := finish_eq Try.f15 _ rfl
@[go_sem] theorem fin_16 (E : Env) (s : Slots) (h : Heap) : finish E Try.f16 ⟨s, h⟩ = (mapO (resultVar E ⟨s, h⟩) [.tmp 4, .tmp 5]).map (finish2 h) := finish_eq Try.f16 _ rfl
@[go_sem] theorem fin_17 (E : Env) (s : Slots) (h : Heap) : finish E Try.f17 ⟨s, h⟩ = (mapO (resultVar E ⟨s, h⟩) [.tmp 4, .tmp 5]).map (finish2 h) := finish_eq Try.f17 _ rfl
@[go_sem] theorem fin_20 (E : Env) (s : Slots) (h : Heap) : finish E Try.f20 ⟨s, h⟩ = (mapO (resultVar E ⟨s, h⟩) [.tmp 6]).map (finish2 h) := finish_eq Try.f20 _ rfl
@[go_sem] theorem fin_21 (E : Env) (s : Slots) (h : Heap) : finish E Try.f21 ⟨s, h⟩ = (mapO (resultVar E ⟨s, h⟩) [.cell 2 29, .tmp 3]).map (finish2 h) := finish_eq Try.f21 _ rfl
@[go_sem] theorem fin_22 (E : Env) (s : Slots) (h : Heap) : finish E Try.f22 ⟨s, h⟩ = (mapO (resultVar E ⟨s, h⟩) [.tmp 4, .tmp 5]).map (finish2 h) := finish_eq Try.f22 _ rfl
@[go_sem] theorem fin_31 (E : Env) (s : Slots) (h : Heap) : finish E Try.f31 ⟨s, h⟩ = (mapO (resultVar E ⟨s, h⟩) [.tmp 2]).map (finish2 h) := finish_eq Try.f31 _ rfl
@[go_sem] theorem fin_32 (E : Env) (s : Slots) (h : Heap) : finish E Try.f32 ⟨s, h⟩ = (mapO (resultVar E ⟨s, h⟩) [.tmp 2]).map (finish2 h) := finish_eq Try.f32 _ rfl
@[go_sem] theorem fin_34 (E : Env) (s : Slots) (h : Heap) : finish E Try.f34 ⟨s, h⟩ = (mapO (resultVar E ⟨s, h⟩) [.tmp 4]).map (finish2 h) := finish_eq Try.f34 _ rfl
@[go_sem] theorem fin_35 (E : Env) (s : Slots) (h : Heap) : finish E Try.f35 ⟨s, h⟩ = (mapO (resultVar E ⟨s, h⟩) [.tmp 4]).map (finish2 h) := finish_eq Try.f35 _ rfl
@[go_sem] theorem fin_38 (E : Env) (s : Slots) (h : Heap) : finish E Try.f38 ⟨s, h⟩ = (mapO (resultVar E ⟨s, h⟩) [.tmp 2]).map (finish2 h) := finish_eq Try.f38 _ rfl
@[go_sem] theorem fin_40 (E : Env) (s : Slots) (h : Heap) : finish E Try.f40 ⟨s, h⟩ = (mapO (resultVar E ⟨s, h⟩) [.tmp 4]).map (finish2 h) := finish_eq Try.f40 _ rfl
@[go_sem] theorem fin_41 (E : Env) (s : Slots) (h : Heap) : finish E Try.f41 ⟨s, h⟩ = (mapO (resultVar E ⟨s, h⟩) [.tmp 4]).map (finish2 h) := finish_eq Try.f41 _ rfl
@[go_sem] theorem fin_42 (E : Env) (s : Slots) (h : Heap) : finish E Try.f42 ⟨s, h⟩ = (mapO (resultVar E ⟨s, h⟩) [.tmp 4]).map (finish2 h) := finish_eq Try.f42 _ rfl
@[go_sem] theorem fin_43 (E : Env) (s : Slots) (h : Heap) : finish E Try.f43 ⟨s, h⟩ = (mapO (resultVar E ⟨s, h⟩) [.tmp 2]).map (finish2 h) := finish_eq Try.f43 _ rfl
@[go_sem] theorem fin_44 (E : Env) (s : Slots) (h : Heap) : finish E Try.f44 ⟨s, h⟩ = (mapO (resultVar E ⟨s, h⟩) [.tmp 6]).map (finish2 h) := finish_eq Try.f44 _ rfl
@[go_sem] theorem fin_47 (E : Env) (s : Slots) (h : Heap) : finish E Try.f47 ⟨s, h⟩ = (mapO (resultVar E ⟨s, h⟩) [.cell 6 29, .tmp 7]).map (finish2 h) := finish_eq Try.f47 _ rfl
@[go_sem] theorem fin_48 (E : Env) (s : Slots) (h : Heap) : finish E Try.f48 ⟨s, h⟩ = (mapO (resultVar E ⟨s, h⟩) [.tmp 3]).map (finish2 h) := finish_eq Try.f48 _ rfl
@[go_sem] theorem fin_49 (E : Env) (s : Slots) (h : Heap) : finish E Try.f49 ⟨s, h⟩ = (mapO (resultVar E ⟨s, h⟩) [.tmp 6]).map (finish2 h) := finish_eq Try.f49 _ rfl
@[go_sem] theorem fin_50 (E : Env) (s : Slots) (h : Heap) : finish E Try.f50 ⟨s, h⟩ = (mapO (resultVar E ⟨s, h⟩) [.tmp 1]).map (finish2 h) := finish_eq Try.f50 _ rfl
@[go_sem] theorem fin_51 (E : Env) (s : Slots) (h : Heap) : finish E Try.f51 ⟨s, h⟩ = (mapO (resultVar E ⟨s, h⟩) [.tmp 6]).map (finish2 h) := finish_eq Try.f51 _ rfl
@[go_sem] theorem fin_52 (E : Env) (s : Slots) (h : Heap) : finish E Try.f52 ⟨s, h⟩ = (mapO (resultVar E ⟨s, h⟩) [.tmp 2]).map (finish2 h) := finish_eq Try.f52 _ rfl
@[go_sem] theorem fin_57 (E : Env) (s : Slots) (h : Heap) : finish E Try.f57 ⟨s, h⟩ = (mapO (resultVar E ⟨s, h⟩) [.tmp 2]).map (finish2 h) := finish_eq Try.f57 _ rfl
@[go_sem] theorem fin_58 (E : Env) (s : Slots) (h : Heap) : finish E Try.f58 ⟨s, h⟩ = (mapO (resultVar E ⟨s, h⟩) [.tmp 2]).map (finish2 h) := finish_eq Try.f58 _ rfl
@[go_sem] theorem fin_59 (E : Env) (s : Slots) (h : Heap) : finish E Try.f59 ⟨s, h⟩ = (mapO (resultVar E ⟨s, h⟩) [.tmp 4]).map (finish2 h) := finish_eq Try.f59 _ rfl
@[go_sem] theorem fin_60 (E : Env) (s : Slots) (h : Heap) : finish E Try.f60 ⟨s, h⟩ = (mapO (resultVar E ⟨s, h⟩) [.tmp 4]).map (finish2 h) := finish_eq Try.f60 _ rfl
@[go_sem] theorem fin_61 (E : Env) (s : Slots) (h : Heap) : finish E Try.f61 ⟨s, h⟩ = (mapO (resultVar E ⟨s, h⟩) [.tmp 3]).map (finish2 h) := finish_eq Try.f61 _ rfl
@[go_sem] theorem fin_62 (E : Env) (s : Slots) (h : Heap) : finish E Try.f62 ⟨s, h⟩ = (mapO (resultVar E ⟨s, h⟩) [.tmp 6]).map (finish2 h) := finish_eq Try.f62 _ rfl
@[go_sem] theorem fin_65 (E : Env) (s : Slots) (h : Heap) : finish E Try.f65 ⟨s, h⟩ = (mapO (resultVar E ⟨s, h⟩) [.tmp 4, .tmp 5, .tmp 6]).map (finish2 h) := finish_eq Try.f65 _ rfl
@[go_sem] theorem fin_66 (E : Env) (s : Slots) (h : Heap) : finish E Try.f66 ⟨s, h⟩ = (mapO (resultVar E ⟨s, h⟩) [.tmp 4, .tmp 5]).map (finish2 h) := finish_eq Try.f66 _ rfl
@[go_sem] theorem fin_69 (E : Env) (s : Slots) (h : Heap) : finish E Try.f69 ⟨s, h⟩ = (mapO (resultVar E ⟨s, h⟩) [.tmp 2]).map (finish2 h) := finish_eq Try.f69 _ rfl
@[go_sem] theorem fin_70 (E : Env) (s : Slots) (h : Heap) : finish E Try.f70 ⟨s, h⟩ = (mapO (resultVar E ⟨s, h⟩) [.tmp 4]).map (finish2 h) := finish_eq Try.f70 _ rfl
@[go_sem] theorem fin_71 (E : Env) (s : Slots) (h : Heap) : finish E Try.f71 ⟨s, h⟩ = (mapO (resultVar E ⟨s, h⟩) [.tmp 4]).map (finish2 h) := finish_eq Try.f71 _ rfl
@[go_sem] theorem fin_72 (E : Env) (s : Slots) (h : Heap) : finish E Try.f72 ⟨s, h⟩ = (mapO (resultVar E ⟨s, h⟩) [.tmp 6]).map (finish2 h) := finish_eq Try.f72 _ rfl
@[go_sem] theorem fin_73 (E : Env) (s : Slots) (h : Heap) : finish E Try.f73 ⟨s, h⟩ = (mapO (resultVar E ⟨s, h⟩) [.tmp 6]).map (finish2 h) := finish_eq Try.f73 _ rfl
@[go_sem] theorem fin_74 (E : Env) (s : Slots) (h : Heap) : finish E Try.f74 ⟨s, h⟩ = (mapO (resultVar E ⟨s, h⟩) [.tmp 4]).map (finish2 h) := finish_eq Try.f74 _ rfl
@[go_sem] theorem fin_75 (E : Env) (s : Slots) (h : Heap) : finish E Try.f75 ⟨s, h⟩ = (mapO (resultVar E ⟨s, h⟩) [.tmp 2]).map (finish2 h) := finish_eq Try.f75 _ rfl
@[go_sem] theorem fin_78 (E : Env) (s : Slots) (h : Heap) : finish E Try.f78 ⟨s, h⟩ = (mapO (resultVar E ⟨s, h⟩) [.tmp 2]).map (finish2 h) := finish_eq Try.f78 _ rfl
@[go_sem] theorem fin_79 (E : Env) (s : Slots) (h : Heap) : finish E Try.f79 ⟨s, h⟩ = (mapO (resultVar E ⟨s, h⟩) [.tmp 2]).map (finish2 h) := finish_eq Try.f79 _ rfl
@[go_sem] theorem fin_80 (E : Env) (s : Slots) (h : Heap) : finish E Try.f80 ⟨s, h⟩ = (mapO (resultVar E ⟨s, h⟩) [.tmp 2]).map (finish2 h) := finish_eq Try.f80 _ rfl
@[go_sem] theorem fin_87 (E : Env) (s : Slots) (h : Heap) : finish E Try.f87 ⟨s, h⟩ = (mapO (resultVar E ⟨s, h⟩) [.tmp 4]).map (finish2 h) := finish_eq Try.f87 _ rfl
@[go_sem] theorem fin_88 (E : Env) (s : Slots) (h : Heap) : finish E Try.f88 ⟨s, h⟩ = (mapO (resultVar E ⟨s, h⟩) [.tmp 4]).map (finish2 h) := finish_eq Try.f88 _ rfl
@[go_sem] theorem fin_89 (E : Env) (s : Slots) (h : Heap) : finish E Try.f89 ⟨s, h⟩ = (mapO (resultVar E ⟨s, h⟩) [.tmp 4]).map (finish2 h) := finish_eq Try.f89 _ rfl
@[go_sem] theorem fin_90 (E : Env) (s : Slots) (h : Heap) : finish E Try.f90 ⟨s, h⟩ = (mapO (resultVar E ⟨s, h⟩) [.tmp 4]).map (finish2 h) := finish_eq Try.f90 _ rfl
@[go_sem] theorem fin_91 (E : Env) (s : Slots) (h : Heap) : finish E Try.f91 ⟨s, h⟩ = (mapO (resultVar E ⟨s, h⟩) [.tmp 2]).map (finish2 h) := finish_eq Try.f91 _ rfl
@[go_sem] theorem fin_92 (E : Env) (s : Slots) (h : Heap) : finish E Try.f92 ⟨s, h⟩ = (mapO (resultVar E ⟨s, h⟩) [.tmp 6, .tmp 7, .tmp 8]).map (finish2 h) := finish_eq Try.f92 _ rfl
@[go_sem] theorem fin_100 (E : Env) (s : Slots) (h : Heap) : finish E Try.f100 ⟨s, h⟩ = (mapO (resultVar E ⟨s, h⟩) [.tmp 6]).map (finish2 h) := finish_eq Try.f100 _ rfl
@[go_sem] theorem fin_103 (E : Env) (s : Slots) (h : Heap) : finish E Try.f103 ⟨s, h⟩ = (mapO (resultVar E ⟨s, h⟩) [.tmp 2]).map (finish2 h) := finish_eq Try.f103 _ rfl
@[go_sem] theorem fin_105 (E : Env) (s : Slots) (h : Heap) : finish E Try.f105 ⟨s, h⟩ = (mapO (resultVar E ⟨s, h⟩) []).map (finish2 h) := finish_eq Try.f105 _ rfl
@[go_sem] theorem fin_108 (E : Env) (s : Slots) (h : Heap) : finish E Try.f108 ⟨s, h⟩ = (mapO (resultVar E ⟨s, h⟩) [.tmp 4]).map (finish2 h) := finish_eq Try.f108 _ rfl
@[go_sem] theorem fin_109 (E : Env) (s : Slots) (h : Heap) : finish E Try.f109 ⟨s, h⟩ = (mapO (resultVar E ⟨s, h⟩) [.tmp 4]).map (finish2 h) := finish_eq Try.f109 _ rfl
@[go_sem] theorem fin_110 (E : Env) (s : Slots) (h : Heap) : finish E Try.f110 ⟨s, h⟩ = (mapO (resultVar E ⟨s, h⟩) [.tmp 2]).map (finish2 h) := finish_eq Try.f110 _ rfl
@[go_sem] theorem fin_118 (E : Env) (s : Slots) (h : Heap) : finish E Try.f118 ⟨s, h⟩ = (mapO (resultVar E ⟨s, h⟩) [.tmp 4, .tmp 5]).map (finish2 h) := finish_eq Try.f118 _ rfl
@[go_sem] theorem fin_131 (E : Env) (s : Slots) (h : Heap) : finish E Try.f131 ⟨s, h⟩ = (mapO (resultVar E ⟨s, h⟩) [.tmp 4, .tmp 5]).map (finish2 h) := finish_eq Try.f131 _ rfl
@[go_sem] theorem fin_132 (E : Env) (s : Slots) (h : Heap) : finish E Try.f132 ⟨s, h⟩ = (mapO (resultVar E ⟨s, h⟩) [.tmp 4, .tmp 5]).map (finish2 h) := finish_eq Try.f132 _ rfl
@[go_sem] theorem by_5 : pr.byref 5 = [] := rfl
@[go_sem] theorem by_13 : pr.byref 13 = [] := rfl
@[go_sem] theorem by_15 : pr.byref 15 = [] := rfl
@[go_sem] theorem by_16 : pr.byref 16 = [] := rfl
@[go_sem] theorem by_17 : pr.byref 17 = [] := rfl
@[go_sem] theorem by_20 : pr.byref 20 = [] := rfl
@[go_sem] theorem by_21 : pr.byref 21 = [] := rfl
@[go_sem] theorem by_22 : pr.byref 22 = [] := rfl
@[go_sem] theorem by_31 : pr.byref 31 = [] := rfl
@[go_sem] theorem by_32 : pr.byref 32 = [] := rfl
@[go_sem] theorem by_34 : pr.byref 34 = [] := rfl
@[go_sem] theorem by_35 : pr.byref 35 = [] := rfl
@[go_sem] theorem by_38 : pr.byref 38 = [] := rfl
@[go_sem] theorem by_40 : pr.byref 40 = [0] := rfl
@[go_sem] theorem by_41 : pr.byref 41 = [] := rfl
@[go_sem] theorem by_42 : pr.byref 42 = [] := rfl
@[go_sem] theorem by_43 : pr.byref 43 = [] := rfl
@[go_sem] theorem by_44 : pr.byref 44 = [] := rfl
@[go_sem] theorem by_47 : pr.byref 47 = [1, 2] := rfl
@[go_sem] theorem by_48 : pr.byref 48 = [1] := rfl
@[go_sem] theorem by_49 : pr.byref 49 = [] := rfl
@[go_sem] theorem by_50 : pr.byref 50 = [0] := rfl
@[go_sem] theorem by_51 : pr.byref 51 = [] := rfl
@[go_sem] theorem by_52 : pr.byref 52 = [] := rfl
@[go_sem] theorem by_57 : pr.byref 57 = [] := rfl
@[go_sem] theorem by_58 : pr.byref 58 = [] := rfl
@[go_sem] theorem by_59 : pr.byref 59 = [] := rfl
@[go_sem] theorem by_60 : pr.byref 60 = [] := rfl
@[go_sem] theorem by_61 : pr.byref 61 = [] := rfl
@[go_sem] theorem by_62 : pr.byref 62 = [] := rfl
@[go_sem] theorem by_65 : pr.byref 65 = [] := rfl
@[go_sem] theorem by_66 : pr.byref 66 = [] := rfl
@[go_sem] theorem by_69 : pr.byref 69 = [0] := rfl
@[go_sem] theorem by_70 : pr.byref 70 = [] := rfl
@[go_sem] theorem by_71 : pr.byref 71 = [] := rfl
@[go_sem] theorem by_72 : pr.byref 72 = [] := rfl
@[go_sem] theorem by_73 : pr.byref 73 = [] := rfl
@[go_sem] theorem by_74 : pr.byref 74 = [] := rfl
@[go_sem] theorem by_75 : pr.byref 75 = [] := rfl
@[go_sem] theorem by_78 : pr.byref 78 = [0] := rfl
@[go_sem] theorem by_79 : pr.byref 79 = [] := rfl
@[go_sem] theorem by_80 : pr.byref 80 = [] := rfl
@[go_sem] theorem by_87 : pr.byref 87 = [] := rfl
@[go_sem] theorem by_88 : pr.byref 88 = [] := rfl
@[go_sem] theorem by_89 : pr.byref 89 = [] := rfl
@[go_sem] theorem by_90 : pr.byref 90 = [] := rfl
@[go_sem] theorem by_91 : pr.byref 91 = [] := rfl
@[go_sem] theorem by_92 : pr.byref 92 = [] := rfl
@[go_sem] theorem by_100 : pr.byref 100 = [] := rfl
@[go_sem] theorem by_103 : pr.byref 103 = [] := rfl
@[go_sem] theorem by_105 : pr.byref 105 = [] := rfl
@[go_sem] theorem by_108 : pr.byref 108 = [] := rfl
@[go_sem] theorem by_109 : pr.byref 109 = [] := rfl
@[go_sem] theorem by_110 : pr.byref 110 = [] := rfl
@[go_sem] theorem by_118 : pr.byref 118 = [] := rfl
@[go_sem] theorem by_131 : pr.byref 131 = [] := rfl
@[go_sem] theorem by_132 : pr.byref 132 = [] := rfl
@[go_sem] theorem by_76 : pr.byref 76 = [0] := rfl
@[go_sem] theorem by_77 : pr.byref 77 = [0, 2] := rfl
@[go_sem] theorem by_104 : pr.byref 104 = [0] := rfl
@[go_sem] theorem by_115 : pr.byref 115 = [] := rfl
@[go_sem] theorem pr_tab : pr.tab = tab := rfl
@[go_sem] theorem pr_ty : pr.ty = tyOf := rfl
end Go.Proofs.Yticbfkoialmojaa.PI
