/- The functions of the program, for the interpreter: printed by a program of the session. -/
import Derived.Test.YtjcldkfgpifebaaPITab
import Derived.Test.YtjcldkfgpifebaaGQIns2
namespace Go.Proofs.Ytjcldkfgpifebaa.PI
open Go Go.Q
noncomputable def fnL : List (Nat × Func) := [(3, Try.f3), (4, Try.f4), (5, Try.f5), (6, Try.f6), (7, Try.f7), (8, Try.f8), (9, Try.f9), (10, Try.f10), (11, Try.f11), (12, Try.f12), (13, Try.f13), (14, Try.f14), (15, Try.f15), (16, Try.f16), (17, Try.f17), (18, Try.f18), (19, Try.f19), (20, Try.f20), (21, Try.f21), (22, Try.f22), (23, Try.f23), (24, Try.f24), (25, Try.f25), (26, Try.f26), (27, Try.f27), (28, Try.f28), (29, Try.f29), (30, Try.f30), (31, Try.f31), (32, Try.f32), (33, Try.f33), (34, Try.f34), (35, Try.f35), (36, Try.f36), (37, Try.f37), (38, Try.f38), (39, Try.f39), (40, Try.f40), (43, Try.f43), (44, Try.f44), (45, Try.f45), (46, Try.f46), (47, Try.f47), (48, Try.f48), (49, Try.f49), (50, Try.f50), (52, Try.f52), (55, Try.f55), (56, Try.f56), (57, Try.f57), (58, Try.f58), (63, Try.f63), (64, Try.f64), (65, Try.f65), (66, Try.f66), (79, Try.f79), (86, Try.f86), (87, Try.f87)]
def annL : List (Nat × Ann) := [(3, ⟨[(0, [4]), (1, [22, 23]), (2, [0, 1]), (3, [0, 25, 26]), (4, [27, 28, 29, 30, 31]), (5, [32, 33, 34, 35, 36]), (6, [37, 38, 39, 40, 41]), (7, [7, 9, 11, 42, 43, 44, 45, 46, 47, 48, 49, 50, 51, 52, 53, 54, 55, 56, 57, 58, 59, 60, 61, 62, 63, 64, 65, 66, 67, 68, 69, 70, 71, 72, 73, 74, 75, 76, 77, 78, 79, 80, 81]), (8, [1, 5, 6, 8, 10]), (10, [83, 84, 85]), (11, [87, 88]), (13, [89, 90, 91]), (14, [93, 94, 95, 96, 97]), (15, [13, 98, 99, 100, 101, 102, 103, 104, 105, 106, 107, 108]), (16, [1, 5, 6, 8, 10, 12]), (17, [10, 12]), (18, [110]), (19, [112, 113]), (20, [114, 115, 116, 117, 118]), (21, [15, 119, 120, 121, 122, 123, 124]), (22, [16, 17, 18, 125, 126, 127, 128, 129, 130, 131, 132, 133, 134, 135, 136, 137]), (23, [1, 5, 6, 8, 14]), (24, [1, 14, 139, 140]), (25, [5, 141, 142, 143, 144, 145, 146]), (26, [8, 147, 148, 149, 150, 151]), (27, [6, 19, 20, 21]), (28, [6, 19, 20, 21, 153, 154, 155, 156, 157, 158, 159, 160, 161, 162, 163, 164, 165, 166, 167, 168, 169, 170, 171, 172, 173, 174, 175, 176, 177, 178, 179, 180, 181, 182, 183])], [], [], [], [], [], [], []⟩),
  (4, ⟨[(0, [4]), (1, [0, 1, 5, 6, 7, 8, 9, 10, 11, 12])], [], [], [], [], [], [], []⟩),
  (5, ⟨[(0, [2]), (1, [0, 6, 7]), (2, [8, 9]), (3, [10, 11, 12]), (4, [3, 4, 5, 13, 14, 15, 16])], [], [], [], [], [], [], []⟩),
  (6, ⟨[(0, [4, 5]), (1, [6, 7, 8, 9, 10, 11, 12]), (2, [0, 1]), (3, [0, 1, 14, 15, 16, 17])], [], [], [], [], [], [], []⟩),
  (7, ⟨[(0, [2, 3]), (1, [4, 5]), (2, [0]), (3, [0, 7, 8])], [], [], [], [], [], [], []⟩),
  (8, ⟨[(0, [2, 3]), (1, [7, 8]), (2, [0]), (3, [10]), (4, [0, 11]), (6, [16, 17]), (7, [18, 19, 20]), (8, [22, 23, 24]), (9, [25]), (10, [6, 27, 28, 29, 30, 31, 32]), (11, [6, 33]), (12, [4, 12, 13, 14, 34])], [], [], [], [], [], [], []⟩),
  (9, ⟨[(0, [2]), (3, [5, 6, 7]), (4, [9, 10]), (5, [11, 12, 13, 14, 15, 16]), (6, [0, 3, 4, 17])], [], [], [], [], [], [], []⟩),
  (10, ⟨[(0, [0, 3]), (1, [1, 4, 5, 6, 7, 8, 9])], [], [], [], [], [], [], []⟩),
  (11, ⟨[(0, [0, 4, 5]), (1, [6, 7, 8, 9, 10, 11, 12]), (2, [1, 2]), (3, [1, 2, 14, 15, 16])], [], [], [], [], [], [], []⟩),
  (12, ⟨[(0, [6]), (1, [7, 8, 9, 10, 11, 12, 13]), (2, [0, 1, 2]), (3, [0, 1, 2, 15, 16, 17, 18, 19, 20, 21])], [], [], [], [], [], [], []⟩),
  (13, ⟨[(0, [1, 4, 5]), (1, [7, 8, 9, 10, 11, 12, 13]), (2, [0, 3]), (3, [0, 3, 15, 16, 17, 18, 19]), (4, [20]), (5, [6]), (6, [6, 22])], [], [], [], [], [], [], []⟩),
  (14, ⟨[(0, [2]), (1, [0, 3, 4, 5])], [], [], [], [], [], [], []⟩),
  (15, ⟨[(0, [4]), (1, [6]), (2, [0, 1]), (3, [8, 9]), (4, [10]), (5, [0, 12, 13, 14, 15, 16]), (6, [0, 1, 5, 17, 18, 19])], [], [], [], [], [], [], []⟩),
  (16, ⟨[(0, [6]), (1, [10]), (3, [11, 12]), (4, [14, 15]), (5, [16, 17, 18, 19, 20]), (6, [2, 8, 21]), (7, [22]), (8, [24, 25]), (9, [26, 27, 28, 29, 30, 31]), (10, [0, 1, 7, 9, 32])], [], [], [], [], [], [], []⟩),
  (17, ⟨[(0, [2]), (1, [0, 3, 4, 5, 6, 7, 8, 9])], [], [], [], [], [], [], []⟩),
  (18, ⟨[(0, [2]), (1, [0, 3, 4])], [], [], [], [], [], [], []⟩),
  (19, ⟨[(0, [4]), (1, [10]), (2, [1, 11]), (4, [15]), (8, [20, 21]), (9, [9, 22, 23, 24, 25, 26, 27]), (10, [29, 30]), (11, [31]), (12, [6, 7, 16, 17, 18, 32, 33, 34, 35]), (13, [36]), (14, [0, 5, 12, 13, 37])], [], [], [], [], [], [], []⟩),
  (20, ⟨[(0, [2]), (1, [8]), (4, [13, 14, 15]), (6, [5, 16, 17, 18, 19, 20]), (7, [21]), (8, [4, 7, 23, 24, 25, 26, 27, 28, 29]), (9, [4, 6, 7, 30, 31, 32, 33]), (10, [34]), (11, [0, 3, 9, 10, 11, 35])], [], [], [], [], [], [], []⟩),
  (21, ⟨[(0, [2]), (1, [0, 3, 4, 5, 6])], [], [], [], [], [], [], []⟩),
  (22, ⟨[(0, [2]), (1, [0, 3, 4])], [], [], [], [], [], [], []⟩),
  (23, ⟨[(0, [7]), (1, [10, 11]), (2, [0, 1, 2, 13]), (3, [14]), (4, [0]), (6, [18]), (7, [9, 19, 20, 21, 22, 23, 24, 25, 26]), (8, [27]), (9, [1, 2, 15, 16, 28, 29, 30]), (10, [8, 31])], [(7, [2, 3, 0, 1, 4, 5, 6, 7, 8])], [], [], [], [(7, [[2, 3, 0, 4, 1, 5, 6, 7, 8], [2, 3, 4, 0, 1, 5, 6, 7, 8]])], [], []⟩),
  (24, ⟨[(0, [3]), (1, [0, 1, 4, 5, 6])], [], [], [], [], [], [], []⟩),
  (25, ⟨[(0, [6]), (1, [0, 8, 9]), (2, [10, 11, 12, 13, 14]), (3, [1, 2, 7, 15, 16, 17, 18, 19])], [], [], [], [], [], [], []⟩),
  (26, ⟨[(0, [1]), (1, [0, 2, 3, 4, 5])], [], [], [], [], [], [], []⟩),
  (27, ⟨[(0, [0, 2]), (1, [4, 5, 6]), (2, [1, 3, 7, 8, 9, 10, 11, 12, 13, 14, 15, 16, 17, 18, 19, 20, 21, 22, 23, 24, 25, 26, 27, 28])], [(2, [0, 1, 2, 3, 4, 6, 5, 7, 8, 9, 10, 11, 12, 13, 14, 15, 16, 17, 18, 19, 20, 21, 22])], [], [], [], [], [], []⟩),
  (28, ⟨[(0, [0, 4]), (1, [1, 2, 6, 7, 11, 12, 13, 14, 15, 16, 17]), (3, [5]), (5, [22, 23]), (6, [10, 24, 25, 26, 27]), (7, [28]), (8, [8, 18, 19, 20, 29])], [], [], [], [], [], [], []⟩),
  (29, ⟨[(0, [4]), (1, [6]), (3, [10]), (4, [11, 12, 13, 14, 15]), (5, [0, 1, 5, 7, 8, 17]), (6, [5, 18]), (7, [0, 1, 7, 8])], [], [], [], [], [], [], []⟩),
  (30, ⟨[(0, [3]), (1, [0, 1, 4, 5, 6])], [], [], [], [], [], [], []⟩),
  (31, ⟨[(0, [2]), (2, [4, 5, 6, 7, 8, 9, 10, 11, 12]), (3, [14, 15, 16, 17, 18, 19, 20, 21, 22, 23, 24]), (4, [25, 26, 27, 28, 29, 30, 31]), (5, [32, 33, 34, 35, 36, 37, 38, 39, 40, 41, 42, 43]), (6, [44, 45, 46, 47, 48, 49, 50, 51, 52]), (7, [0, 3, 54]), (8, [0, 3, 55, 56, 57, 58, 59, 60, 61])], [], [], [], [], [], [], []⟩),
  (32, ⟨[(0, [4]), (1, [0, 1, 5, 6, 7, 8, 9, 10, 11])], [], [], [], [], [], [], []⟩),
  (33, ⟨[(0, [1, 2, 6]), (1, [0, 4, 5, 7, 8, 9, 10])], [], [], [], [], [], [], []⟩),
  (34, ⟨[(0, [6]), (1, [0, 1, 2, 7, 8, 9, 10, 11, 12, 13, 14])], [], [], [], [], [], [], []⟩),
  (35, ⟨[(0, [4]), (1, [6, 7, 8]), (2, [9]), (3, [11, 12]), (4, [13, 14, 15, 16, 17]), (5, [0, 1, 5, 19]), (6, [0, 1, 5])], [], [], [], [], [], [], []⟩),
  (36, ⟨[(0, [2]), (1, [6, 7]), (2, [0, 9]), (4, [10, 11, 12]), (5, [14, 15]), (6, [16, 17, 18, 19, 20, 21, 22, 23, 24]), (7, [26, 27, 28]), (9, [29, 30, 31]), (10, [33, 34]), (11, [35, 36, 37, 38, 39, 40, 41, 42, 43]), (12, [45, 46, 47, 48, 49, 50, 51]), (13, [52, 53]), (14, [4, 5, 54, 55, 56]), (15, [0, 3, 57, 58, 59]), (16, [0, 3, 60])], [], [], [], [], [], [], []⟩),
  (37, ⟨[(0, [2]), (1, [0, 4, 5]), (2, [6, 7]), (3, [3, 8])], [], [], [], [], [], [], []⟩),
  (38, ⟨[(0, [0, 2]), (1, [1, 3])], [], [], [], [], [], [], []⟩),
  (39, ⟨[(0, [2]), (1, [0, 3, 4])], [], [], [], [], [], [], []⟩),
  (40, ⟨[(0, [2]), (1, [5]), (2, [0]), (4, [9]), (5, [4, 10, 11, 12, 13]), (6, [14]), (7, [3, 6, 7, 15])], [], [], [], [], [], [], []⟩),
  (43, ⟨[(0, [2]), (1, [0, 3, 4])], [], [], [], [], [], [], []⟩),
  (44, ⟨[(0, [4]), (1, [0, 1, 5, 6, 7, 8, 9, 10, 11, 12, 13, 14, 15, 16])], [], [], [], [], [], [], []⟩),
  (45, ⟨[(0, [4]), (1, [0, 1, 5, 6, 7, 8])], [], [], [], [], [], [], []⟩),
  (46, ⟨[(0, [3]), (1, [0, 1, 4, 5, 6, 7])], [], [], [], [], [], [], []⟩),
  (47, ⟨[(0, [0, 4, 5, 6]), (1, [16, 17, 18, 19]), (2, [1]), (4, [24, 25]), (5, [7, 11, 26, 27, 28, 29, 30, 31, 32, 33]), (7, [14]), (9, [12, 13, 15, 35, 36, 37, 38, 39, 40, 41, 42, 43]), (10, [44]), (11, [2, 7, 8, 9, 20, 21, 22, 45, 46, 47])], [], [], [], [], [], [], []⟩),
  (48, ⟨[(0, [4]), (1, [0, 1, 5, 6, 7, 8])], [], [], [], [], [], [], []⟩),
  (49, ⟨[(0, [4]), (1, [0, 1, 2, 5, 6, 7, 8, 9])], [], [], [], [], [], [], []⟩),
  (50, ⟨[(0, [2]), (1, [0, 3, 4])], [], [], [], [], [], [], []⟩),
  (52, ⟨[(0, [1]), (2, [9, 10]), (3, [4, 11, 12, 13]), (4, [15])], [], [], [], [], [], [], []⟩),
  (55, ⟨[(0, [4]), (1, [6, 7, 8, 9]), (2, [0, 1]), (3, [11]), (5, [15]), (6, [5, 16, 17, 18, 19, 20, 21, 22, 23]), (7, [0, 1, 12, 13]), (8, [25]), (9, [0, 1, 12, 13])], [], [], [], [], [], [], []⟩),
  (56, ⟨[(0, [4]), (1, [6]), (3, [10]), (4, [11, 12, 13, 14, 15]), (5, [0, 1, 5, 7, 8, 17]), (6, [5, 18]), (7, [0, 1, 7, 8])], [], [], [], [], [], [], []⟩),
  (57, ⟨[(0, [0, 2]), (1, [1, 3, 4, 5, 6, 7])], [], [], [], [], [], [], []⟩),
  (58, ⟨[(0, [0, 6, 7, 8]), (1, [13, 14, 15]), (2, [16]), (3, [1, 2, 3, 9, 18, 19, 20, 21, 22, 23, 24]), (4, [1, 9, 25, 26, 27, 28, 29]), (5, [30, 31, 32, 33]), (6, [2, 11, 34, 35, 36, 37]), (7, [3, 10, 12, 38, 39, 40, 41, 42])], [], [], [], [], [], [], []⟩),
  (63, ⟨[(0, [4]), (1, [9]), (2, [11]), (3, [1, 12, 13, 14, 15, 16, 17, 18, 19, 20]), (4, [5, 21, 22, 23, 24, 25]), (5, [27]), (6, [6, 28, 29, 30]), (7, [0, 31, 32, 33]), (8, [34, 35, 36]), (9, [38, 39, 40, 41, 42, 43, 44, 45, 46]), (10, [7, 8, 47])], [], [], [], [], [], [], []⟩),
  (64, ⟨[(0, [4]), (1, [6]), (3, [10]), (4, [11, 12, 13, 14, 15]), (5, [0, 1, 5, 7, 8, 17]), (6, [5, 18]), (7, [0, 1, 7, 8])], [], [], [], [], [], [], []⟩),
  (65, ⟨[(0, [4]), (1, [8]), (2, [1]), (4, [13, 14]), (5, [7, 15, 16, 17, 18, 19, 20, 21]), (6, [22]), (7, [0, 5, 9, 10, 11, 23])], [], [], [], [], [], [], []⟩),
  (66, ⟨[(0, [2]), (1, [3]), (2, [0]), (3, [0, 5, 6, 7])], [], [], [], [], [], [], []⟩),
  (79, ⟨[(0, [4, 5]), (1, [0, 1, 10, 11, 12, 13, 14, 15, 16, 17]), (2, [6, 7, 18, 19, 20, 21]), (3, [0, 1, 22, 23, 24, 25, 26, 27]), (4, [8, 9, 28, 29])], [], [], [], [], [], [], []⟩),
  (86, ⟨[(0, [4, 5]), (1, [0, 1, 7, 8, 9, 10, 11]), (2, [6, 12, 13, 14, 15, 16])], [], [], [], [], [], [], []⟩),
  (87, ⟨[(0, [4, 5]), (1, [14, 15]), (2, [16, 17]), (3, [18, 19]), (4, [20, 21]), (5, [22, 23, 24]), (6, [8, 10, 25, 26, 27, 28, 29, 30]), (7, [31, 32]), (8, [11, 33, 34]), (9, [6, 35, 36, 37, 38, 39]), (10, [7, 9, 12, 13, 40, 41, 42, 43, 44, 45, 46, 47]), (11, [0, 1, 48, 49, 50])], [], [], [], [], [], [], []⟩)]
/-- What is not interpreted. -/
def given (f : Nat) (vs : List AV) (h : Heap) : Option (AV × Heap) := if f = 59 then match vs, h with
  | [.nilS, .fn g [.rp [.d (.slice (.int .i64)) xs]]], [] => if g = 52 ∧ List.length xs ≤ 1000000 then some (if List.length xs = 0 then .nilS else .os (.t 64), if List.length xs = 0 then [] else [(64, .arr true false (.int .i64) xs)]) else none
  | _, _ => none
  else if f = 51 then match vs, h with
  | [.nilS], [] => some (.tuple [], [])
  | [.os (.t 1000000)], [(1000000, .arr m false (.int .i64) xs)] => if List.length xs ≤ 1000000 then some (.tuple [], [(1000000, .arr m false (.int .i64) (List.mergeSort xs fun x y => decide (x ≤ y)))]) else none
  | _, _ => none
  else if f = 41 then match vs, h with
  | [.os (.t 1000000), .d (.int .i64) i, .d (.int .i64) j], [(1000000, .arr m false (.int .i64) xs)] => if 0 ≤ i ∧ i < j ∧ j ≤ List.length xs then some (.sub (.t 1000000) 0 (List.length xs - (j.toNat - i.toNat)), [(1000000, .arr m false (.int .i64) (List.take i.toNat xs ++ List.drop j.toNat xs ++ List.replicate (j.toNat - i.toNat) 0))]) else none
  | _, _ => none
  else if f = 42 then match vs, h with
  | [.sub (.t 1000000) 0 n, .d (.int .i64) i, .os (.t 1000001)], [(1000000, .arr m false (.int .i64) xs), (1000001, .arr m2 false (.int .i64) [x])] => if 0 ≤ i ∧ i ≤ n ∧ n < List.length xs then some (.sub (.t 1000000) 0 (n + 1), [(1000000, .arr m false (.int .i64) (insAt xs n i.toNat x)), (1000001, .arr m2 false (.int .i64) [x])]) else none
  | _, _ => none
  else none
noncomputable def pr : Prog := ⟨tab, tyOf, by_, lookT fnL, fun f => (lookT annL f).getD ⟨[], [], [], [], [], [], [], []⟩, given⟩
theorem fns : ∀ x ∈ fnL, Try.prog.funcs[x.1]? = some x.2 ∧ fnOkB pr x.1 = true := by
  unfold fnL
  simp only [List.forall_mem_cons, List.not_mem_nil, false_implies, implies_true, and_true]
  exact ⟨⟨Try.func3, by kernel_rfl⟩, ⟨Try.func4, by kernel_rfl⟩, ⟨Try.func5, by kernel_rfl⟩, ⟨Try.func6, by kernel_rfl⟩, ⟨Try.func7, by kernel_rfl⟩, ⟨Try.func8, by kernel_rfl⟩, ⟨Try.func9, by kernel_rfl⟩, ⟨Try.func10, by kernel_rfl⟩, ⟨Try.func11, by kernel_rfl⟩, ⟨Try.func12, by kernel_rfl⟩, ⟨Try.func13, by kernel_rfl⟩, ⟨Try.func14, by kernel_rfl⟩, ⟨Try.func15, by kernel_rfl⟩, ⟨Try.func16, by kernel_rfl⟩, ⟨Try.func17, by kernel_rfl⟩, ⟨Try.func18, by kernel_rfl⟩, ⟨Try.func19, by kernel_rfl⟩, ⟨Try.func20, by kernel_rfl⟩, ⟨Try.func21, by kernel_rfl⟩, ⟨Try.func22, by kernel_rfl⟩, ⟨Try.func23, by kernel_rfl⟩, ⟨Try.func24, by kernel_rfl⟩, ⟨Try.func25, by kernel_rfl⟩, ⟨Try.func26, by kernel_rfl⟩, ⟨Try.func27, by kernel_rfl⟩, ⟨Try.func28, by kernel_rfl⟩, ⟨Try.func29, by kernel_rfl⟩, ⟨Try.func30, by kernel_rfl⟩, ⟨Try.func31, by kernel_rfl⟩, ⟨Try.func32, by kernel_rfl⟩, ⟨Try.func33, by kernel_rfl⟩, ⟨Try.func34, by kernel_rfl⟩, ⟨Try.func35, by kernel_rfl⟩, ⟨Try.func36, by kernel_rfl⟩, ⟨Try.func37, by kernel_rfl⟩, ⟨Try.func38, by kernel_rfl⟩, ⟨Try.func39, by kernel_rfl⟩, ⟨Try.func40, by kernel_rfl⟩, ⟨Try.func43, by kernel_rfl⟩, ⟨Try.func44, by kernel_rfl⟩, ⟨Try.func45, by kernel_rfl⟩, ⟨Try.func46, by kernel_rfl⟩, ⟨Try.func47, by kernel_rfl⟩, ⟨Try.func48, by kernel_rfl⟩, ⟨Try.func49, by kernel_rfl⟩, ⟨Try.func50, by kernel_rfl⟩, ⟨Try.func52, by kernel_rfl⟩, ⟨Try.func55, by kernel_rfl⟩, ⟨Try.func56, by kernel_rfl⟩, ⟨Try.func57, by kernel_rfl⟩, ⟨Try.func58, by kernel_rfl⟩, ⟨Try.func63, by kernel_rfl⟩, ⟨Try.func64, by kernel_rfl⟩, ⟨Try.func65, by kernel_rfl⟩, ⟨Try.func66, by kernel_rfl⟩, ⟨Try.func79, by kernel_rfl⟩, ⟨Try.func86, by kernel_rfl⟩, ⟨Try.func87, by kernel_rfl⟩⟩
theorem fn_3 : pr.fn 3 = some Try.f3 := rfl
theorem ann_3 : pr.ann 3 = ⟨[(0, [4]), (1, [22, 23]), (2, [0, 1]), (3, [0, 25, 26]), (4, [27, 28, 29, 30, 31]), (5, [32, 33, 34, 35, 36]), (6, [37, 38, 39, 40, 41]), (7, [7, 9, 11, 42, 43, 44, 45, 46, 47, 48, 49, 50, 51, 52, 53, 54, 55, 56, 57, 58, 59, 60, 61, 62, 63, 64, 65, 66, 67, 68, 69, 70, 71, 72, 73, 74, 75, 76, 77, 78, 79, 80, 81]), (8, [1, 5, 6, 8, 10]), (10, [83, 84, 85]), (11, [87, 88]), (13, [89, 90, 91]), (14, [93, 94, 95, 96, 97]), (15, [13, 98, 99, 100, 101, 102, 103, 104, 105, 106, 107, 108]), (16, [1, 5, 6, 8, 10, 12]), (17, [10, 12]), (18, [110]), (19, [112, 113]), (20, [114, 115, 116, 117, 118]), (21, [15, 119, 120, 121, 122, 123, 124]), (22, [16, 17, 18, 125, 126, 127, 128, 129, 130, 131, 132, 133, 134, 135, 136, 137]), (23, [1, 5, 6, 8, 14]), (24, [1, 14, 139, 140]), (25, [5, 141, 142, 143, 144, 145, 146]), (26, [8, 147, 148, 149, 150, 151]), (27, [6, 19, 20, 21]), (28, [6, 19, 20, 21, 153, 154, 155, 156, 157, 158, 159, 160, 161, 162, 163, 164, 165, 166, 167, 168, 169, 170, 171, 172, 173, 174, 175, 176, 177, 178, 179, 180, 181, 182, 183])], [], [], [], [], [], [], []⟩ := rfl
theorem fn_4 : pr.fn 4 = some Try.f4 := rfl
theorem ann_4 : pr.ann 4 = ⟨[(0, [4]), (1, [0, 1, 5, 6, 7, 8, 9, 10, 11, 12])], [], [], [], [], [], [], []⟩ := rfl
theorem fn_5 : pr.fn 5 = some Try.f5 := rfl
theorem ann_5 : pr.ann 5 = ⟨[(0, [2]), (1, [0, 6, 7]), (2, [8, 9]), (3, [10, 11, 12]), (4, [3, 4, 5, 13, 14, 15, 16])], [], [], [], [], [], [], []⟩ := rfl
theorem fn_6 : pr.fn 6 = some Try.f6 := rfl
theorem ann_6 : pr.ann 6 = ⟨[(0, [4, 5]), (1, [6, 7, 8, 9, 10, 11, 12]), (2, [0, 1]), (3, [0, 1, 14, 15, 16, 17])], [], [], [], [], [], [], []⟩ := rfl
theorem fn_7 : pr.fn 7 = some Try.f7 := rfl
theorem ann_7 : pr.ann 7 = ⟨[(0, [2, 3]), (1, [4, 5]), (2, [0]), (3, [0, 7, 8])], [], [], [], [], [], [], []⟩ := rfl
theorem fn_8 : pr.fn 8 = some Try.f8 := rfl
theorem ann_8 : pr.ann 8 = ⟨[(0, [2, 3]), (1, [7, 8]), (2, [0]), (3, [10]), (4, [0, 11]), (6, [16, 17]), (7, [18, 19, 20]), (8, [22, 23, 24]), (9, [25]), (10, [6, 27, 28, 29, 30, 31, 32]), (11, [6, 33]), (12, [4, 12, 13, 14, 34])], [], [], [], [], [], [], []⟩ := rfl
theorem fn_9 : pr.fn 9 = some Try.f9 := rfl
theorem ann_9 : pr.ann 9 = ⟨[(0, [2]), (3, [5, 6, 7]), (4, [9, 10]), (5, [11, 12, 13, 14, 15, 16]), (6, [0, 3, 4, 17])], [], [], [], [], [], [], []⟩ := rfl
theorem fn_10 : pr.fn 10 = some Try.f10 := rfl
theorem ann_10 : pr.ann 10 = ⟨[(0, [0, 3]), (1, [1, 4, 5, 6, 7, 8, 9])], [], [], [], [], [], [], []⟩ := rfl
theorem fn_11 : pr.fn 11 = some Try.f11 := rfl
theorem ann_11 : pr.ann 11 = ⟨[(0, [0, 4, 5]), (1, [6, 7, 8, 9, 10, 11, 12]), (2, [1, 2]), (3, [1, 2, 14, 15, 16])], [], [], [], [], [], [], []⟩ := rfl
theorem fn_12 : pr.fn 12 = some Try.f12 := rfl
theorem ann_12 : pr.ann 12 = ⟨[(0, [6]), (1, [7, 8, 9, 10, 11, 12, 13]), (2, [0, 1, 2]), (3, [0, 1, 2, 15, 16, 17, 18, 19, 20, 21])], [], [], [], [], [], [], []⟩ := rfl
theorem fn_13 : pr.fn 13 = some Try.f13 := rfl
theorem ann_13 : pr.ann 13 = ⟨[(0, [1, 4, 5]), (1, [7, 8, 9, 10, 11, 12, 13]), (2, [0, 3]), (3, [0, 3, 15, 16, 17, 18, 19]), (4, [20]), (5, [6]), (6, [6, 22])], [], [], [], [], [], [], []⟩ := rfl
theorem fn_14 : pr.fn 14 = some Try.f14 := rfl
theorem ann_14 : pr.ann 14 = ⟨[(0, [2]), (1, [0, 3, 4, 5])], [], [], [], [], [], [], []⟩ := rfl
theorem fn_15 : pr.fn 15 = some Try.f15 := rfl
theorem ann_15 : pr.ann 15 = ⟨[(0, [4]), (1, [6]), (2, [0, 1]), (3, [8, 9]), (4, [10]), (5, [0, 12, 13, 14, 15, 16]), (6, [0, 1, 5, 17, 18, 19])], [], [], [], [], [], [], []⟩ := rfl
theorem fn_16 : pr.fn 16 = some Try.f16 := rfl
theorem ann_16 : pr.ann 16 = ⟨[(0, [6]), (1, [10]), (3, [11, 12]), (4, [14, 15]), (5, [16, 17, 18, 19, 20]), (6, [2, 8, 21]), (7, [22]), (8, [24, 25]), (9, [26, 27, 28, 29, 30, 31]), (10, [0, 1, 7, 9, 32])], [], [], [], [], [], [], []⟩ := rfl
theorem fn_17 : pr.fn 17 = some Try.f17 := rfl
theorem ann_17 : pr.ann 17 = ⟨[(0, [2]), (1, [0, 3, 4, 5, 6, 7, 8, 9])], [], [], [], [], [], [], []⟩ := rfl
theorem fn_18 : pr.fn 18 = some Try.f18 := rfl
theorem ann_18 : pr.ann 18 = ⟨[(0, [2]), (1, [0, 3, 4])], [], [], [], [], [], [], []⟩ := rfl
theorem fn_19 : pr.fn 19 = some Try.f19 := rfl
theorem ann_19 : pr.ann 19 = ⟨[(0, [4]), (1, [10]), (2, [1, 11]), (4, [15]), (8, [20, 21]), (9, [9, 22, 23, 24, 25, 26, 27]), (10, [29, 30]), (11, [31]), (12, [6, 7, 16, 17, 18, 32, 33, 34, 35]), (13, [36]), (14, [0, 5, 12, 13, 37])], [], [], [], [], [], [], []⟩ := rfl
theorem fn_20 : pr.fn 20 = some Try.f20 := rfl
theorem ann_20 : pr.ann 20 = ⟨[(0, [2]), (1, [8]), (4, [13, 14, 15]), (6, [5, 16, 17, 18, 19, 20]), (7, [21]), (8, [4, 7, 23, 24, 25, 26, 27, 28, 29]), (9, [4, 6, 7, 30, 31, 32, 33]), (10, [34]), (11, [0, 3, 9, 10, 11, 35])], [], [], [], [], [], [], []⟩ := rfl
theorem fn_21 : pr.fn 21 = some Try.f21 := rfl
theorem ann_21 : pr.ann 21 = ⟨[(0, [2]), (1, [0, 3, 4, 5, 6])], [], [], [], [], [], [], []⟩ := rfl
theorem fn_22 : pr.fn 22 = some Try.f22 := rfl
theorem ann_22 : pr.ann 22 = ⟨[(0, [2]), (1, [0, 3, 4])], [], [], [], [], [], [], []⟩ := rfl
theorem fn_23 : pr.fn 23 = some Try.f23 := rfl
theorem ann_23 : pr.ann 23 = ⟨[(0, [7]), (1, [10, 11]), (2, [0, 1, 2, 13]), (3, [14]), (4, [0]), (6, [18]), (7, [9, 19, 20, 21, 22, 23, 24, 25, 26]), (8, [27]), (9, [1, 2, 15, 16, 28, 29, 30]), (10, [8, 31])], [(7, [2, 3, 0, 1, 4, 5, 6, 7, 8])], [], [], [], [(7, [[2, 3, 0, 4, 1, 5, 6, 7, 8], [2, 3, 4, 0, 1, 5, 6, 7, 8]])], [], []⟩ := rfl
theorem fn_24 : pr.fn 24 = some Try.f24 := rfl
theorem ann_24 : pr.ann 24 = ⟨[(0, [3]), (1, [0, 1, 4, 5, 6])], [], [], [], [], [], [], []⟩ := rfl
theorem fn_25 : pr.fn 25 = some Try.f25 := rfl
theorem ann_25 : pr.ann 25 = ⟨[(0, [6]), (1, [0, 8, 9]), (2, [10, 11, 12, 13, 14]), (3, [1, 2, 7, 15, 16, 17, 18, 19])], [], [], [], [], [], [], []⟩ := rfl
theorem fn_26 : pr.fn 26 = some Try.f26 := rfl
theorem ann_26 : pr.ann 26 = ⟨[(0, [1]), (1, [0, 2, 3, 4, 5])], [], [], [], [], [], [], []⟩ := rfl
theorem fn_27 : pr.fn 27 = some Try.f27 := rfl
theorem ann_27 : pr.ann 27 = ⟨[(0, [0, 2]), (1, [4, 5, 6]), (2, [1, 3, 7, 8, 9, 10, 11, 12, 13, 14, 15, 16, 17, 18, 19, 20, 21, 22, 23, 24, 25, 26, 27, 28])], [(2, [0, 1, 2, 3, 4, 6, 5, 7, 8, 9, 10, 11, 12, 13, 14, 15, 16, 17, 18, 19, 20, 21, 22])], [], [], [], [], [], []⟩ := rfl
theorem fn_28 : pr.fn 28 = some Try.f28 := rfl
theorem ann_28 : pr.ann 28 = ⟨[(0, [0, 4]), (1, [1, 2, 6, 7, 11, 12, 13, 14, 15, 16, 17]), (3, [5]), (5, [22, 23]), (6, [10, 24, 25, 26, 27]), (7, [28]), (8, [8, 18, 19, 20, 29])], [], [], [], [], [], [], []⟩ := rfl
theorem fn_29 : pr.fn 29 = some Try.f29 := rfl
theorem ann_29 : pr.ann 29 = ⟨[(0, [4]), (1, [6]), (3, [10]), (4, [11, 12, 13, 14, 15]), (5, [0, 1, 5, 7, 8, 17]), (6, [5, 18]), (7, [0, 1, 7, 8])], [], [], [], [], [], [], []⟩ := rfl
theorem fn_30 : pr.fn 30 = some Try.f30 := rfl
theorem ann_30 : pr.ann 30 = ⟨[(0, [3]), (1, [0, 1, 4, 5, 6])], [], [], [], [], [], [], []⟩ := rfl
theorem fn_31 : pr.fn 31 = some Try.f31 := rfl
theorem ann_31 : pr.ann 31 = ⟨[(0, [2]), (2, [4, 5, 6, 7, 8, 9, 10, 11, 12]), (3, [14, 15, 16, 17, 18, 19, 20, 21, 22, 23, 24]), (4, [25, 26, 27, 28, 29, 30, 31]), (5, [32, 33, 34, 35, 36, 37, 38, 39, 40, 41, 42, 43]), (6, [44, 45, 46, 47, 48, 49, 50, 51, 52]), (7, [0, 3, 54]), (8, [0, 3, 55, 56, 57, 58, 59, 60, 61])], [], [], [], [], [], [], []⟩ := rfl
theorem fn_32 : pr.fn 32 = some Try.f32 := rfl
theorem ann_32 : pr.ann 32 = ⟨[(0, [4]), (1, [0, 1, 5, 6, 7, 8, 9, 10, 11])], [], [], [], [], [], [], []⟩ := rfl
theorem fn_33 : pr.fn 33 = some Try.f33 := rfl
theorem ann_33 : pr.ann 33 = ⟨[(0, [1, 2, 6]), (1, [0, 4, 5, 7, 8, 9, 10])], [], [], [], [], [], [], []⟩ := rfl
theorem fn_34 : pr.fn 34 = some Try.f34 := rfl
theorem ann_34 : pr.ann 34 = ⟨[(0, [6]), (1, [0, 1, 2, 7, 8, 9, 10, 11, 12, 13, 14])], [], [], [], [], [], [], []⟩ := rfl
theorem fn_35 : pr.fn 35 = some Try.f35 := rfl
theorem ann_35 : pr.ann 35 = ⟨[(0, [4]), (1, [6, 7, 8]), (2, [9]), (3, [11, 12]), (4, [13, 14, 15, 16, 17]), (5, [0, 1, 5, 19]), (6, [0, 1, 5])], [], [], [], [], [], [], []⟩ := rfl
theorem fn_36 : pr.fn 36 = some Try.f36 := rfl
theorem ann_36 : pr.ann 36 = ⟨[(0, [2]), (1, [6, 7]), (2, [0, 9]), (4, [10, 11, 12]), (5, [14, 15]), (6, [16, 17, 18, 19, 20, 21, 22, 23, 24]), (7, [26, 27, 28]), (9, [29, 30, 31]), (10, [33, 34]), (11, [35, 36, 37, 38, 39, 40, 41, 42, 43]), (12, [45, 46, 47, 48, 49, 50, 51]), (13, [52, 53]), (14, [4, 5, 54, 55, 56]), (15, [0, 3, 57, 58, 59]), (16, [0, 3, 60])], [], [], [], [], [], [], []⟩ := rfl
theorem fn_37 : pr.fn 37 = some Try.f37 := rfl
theorem ann_37 : pr.ann 37 = ⟨[(0, [2]), (1, [0, 4, 5]), (2, [6, 7]), (3, [3, 8])], [], [], [], [], [], [], []⟩ := rfl
theorem fn_38 : pr.fn 38 = some Try.f38 := rfl
theorem ann_38 : pr.ann 38 = ⟨[(0, [0, 2]), (1, [1, 3])], [], [], [], [], [], [], []⟩ := rfl
theorem fn_39 : pr.fn 39 = some Try.f39 := rfl
theorem ann_39 : pr.ann 39 = ⟨[(0, [2]), (1, [0, 3, 4])], [], [], [], [], [], [], []⟩ := rfl
theorem fn_40 : pr.fn 40 = some Try.f40 := rfl
theorem ann_40 : pr.ann 40 = ⟨[(0, [2]), (1, [5]), (2, [0]), (4, [9]), (5, [4, 10, 11, 12, 13]), (6, [14]), (7, [3, 6, 7, 15])], [], [], [], [], [], [], []⟩ := rfl
theorem fn_43 : pr.fn 43 = some Try.f43 := rfl
theorem ann_43 : pr.ann 43 = ⟨[(0, [2]), (1, [0, 3, 4])], [], [], [], [], [], [], []⟩ := rfl
theorem fn_44 : pr.fn 44 = some Try.f44 := rfl
theorem ann_44 : pr.ann 44 = ⟨[(0, [4]), (1, [0, 1, 5, 6, 7, 8, 9, 10, 11, 12, 13, 14, 15, 16])], [], [], [], [], [], [], []⟩ := rfl
theorem fn_45 : pr.fn 45 = some Try.f45 := rfl
theorem ann_45 : pr.ann 45 = ⟨[(0, [4]), (1, [0, 1, 5, 6, 7, 8])], [], [], [], [], [], [], []⟩ := rfl
theorem fn_46 : pr.fn 46 = some Try.f46 := rfl
theorem ann_46 : pr.ann 46 = ⟨[(0, [3]), (1, [0, 1, 4, 5, 6, 7])], [], [], [], [], [], [], []⟩ := rfl
theorem fn_47 : pr.fn 47 = some Try.f47 := rfl
theorem ann_47 : pr.ann 47 = ⟨[(0, [0, 4, 5, 6]), (1, [16, 17, 18, 19]), (2, [1]), (4, [24, 25]), (5, [7, 11, 26, 27, 28, 29, 30, 31, 32, 33]), (7, [14]), (9, [12, 13, 15, 35, 36, 37, 38, 39, 40, 41, 42, 43]), (10, [44]), (11, [2, 7, 8, 9, 20, 21, 22, 45, 46, 47])], [], [], [], [], [], [], []⟩ := rfl
theorem fn_48 : pr.fn 48 = some Try.f48 := rfl
theorem ann_48 : pr.ann 48 = ⟨[(0, [4]), (1, [0, 1, 5, 6, 7, 8])], [], [], [], [], [], [], []⟩ := rfl
theorem fn_49 : pr.fn 49 = some Try.f49 := rfl
theorem ann_49 : pr.ann 49 = ⟨[(0, [4]), (1, [0, 1, 2, 5, 6, 7, 8, 9])], [], [], [], [], [], [], []⟩ := rfl
theorem fn_50 : pr.fn 50 = some Try.f50 := rfl
theorem ann_50 : pr.ann 50 = ⟨[(0, [2]), (1, [0, 3, 4])], [], [], [], [], [], [], []⟩ := rfl
theorem fn_52 : pr.fn 52 = some Try.f52 := rfl
theorem ann_52 : pr.ann 52 = ⟨[(0, [1]), (2, [9, 10]), (3, [4, 11, 12, 13]), (4, [15])], [], [], [], [], [], [], []⟩ := rfl
theorem fn_55 : pr.fn 55 = some Try.f55 := rfl
theorem ann_55 : pr.ann 55 = ⟨[(0, [4]), (1, [6, 7, 8, 9]), (2, [0, 1]), (3, [11]), (5, [15]), (6, [5, 16, 17, 18, 19, 20, 21, 22, 23]), (7, [0, 1, 12, 13]), (8, [25]), (9, [0, 1, 12, 13])], [], [], [], [], [], [], []⟩ := rfl
theorem fn_56 : pr.fn 56 = some Try.f56 := rfl
theorem ann_56 : pr.ann 56 = ⟨[(0, [4]), (1, [6]), (3, [10]), (4, [11, 12, 13, 14, 15]), (5, [0, 1, 5, 7, 8, 17]), (6, [5, 18]), (7, [0, 1, 7, 8])], [], [], [], [], [], [], []⟩ := rfl
theorem fn_57 : pr.fn 57 = some Try.f57 := rfl
theorem ann_57 : pr.ann 57 = ⟨[(0, [0, 2]), (1, [1, 3, 4, 5, 6, 7])], [], [], [], [], [], [], []⟩ := rfl
theorem fn_58 : pr.fn 58 = some Try.f58 := rfl
theorem ann_58 : pr.ann 58 = ⟨[(0, [0, 6, 7, 8]), (1, [13, 14, 15]), (2, [16]), (3, [1, 2, 3, 9, 18, 19, 20, 21, 22, 23, 24]), (4, [1, 9, 25, 26, 27, 28, 29]), (5, [30, 31, 32, 33]), (6, [2, 11, 34, 35, 36, 37]), (7, [3, 10, 12, 38, 39, 40, 41, 42])], [], [], [], [], [], [], []⟩ := rfl
theorem fn_63 : pr.fn 63 = some Try.f63 := rfl
theorem ann_63 : pr.ann 63 = ⟨[(0, [4]), (1, [9]), (2, [11]), (3, [1, 12, 13, 14, 15, 16, 17, 18, 19, 20]), (4, [5, 21, 22, 23, 24, 25]), (5, [27]), (6, [6, 28, 29, 30]), (7, [0, 31, 32, 33]), (8, [34, 35, 36]), (9, [38, 39, 40, 41, 42, 43, 44, 45, 46]), (10, [7, 8, 47])], [], [], [], [], [], [], []⟩ := rfl
theorem fn_64 : pr.fn 64 = some Try.f64 := rfl
theorem ann_64 : pr.ann 64 = ⟨[(0, [4]), (1, [6]), (3, [10]), (4, [11, 12, 13, 14, 15]), (5, [0, 1, 5, 7, 8, 17]), (6, [5, 18]), (7, [0, 1, 7, 8])], [], [], [], [], [], [], []⟩ := rfl
theorem fn_65 : pr.fn 65 = some Try.f65 := rfl
theorem ann_65 : pr.ann 65 = ⟨[(0, [4]), (1, [8]), (2, [1]), (4, [13, 14]), (5, [7, 15, 16, 17, 18, 19, 20, 21]), (6, [22]), (7, [0, 5, 9, 10, 11, 23])], [], [], [], [], [], [], []⟩ := rfl
theorem fn_66 : pr.fn 66 = some Try.f66 := rfl
theorem ann_66 : pr.ann 66 = ⟨[(0, [2]), (1, [3]), (2, [0]), (3, [0, 5, 6, 7])], [], [], [], [], [], [], []⟩ := rfl
theorem fn_79 : pr.fn 79 = some Try.f79 := rfl
theorem ann_79 : pr.ann 79 = ⟨[(0, [4, 5]), (1, [0, 1, 10, 11, 12, 13, 14, 15, 16, 17]), (2, [6, 7, 18, 19, 20, 21]), (3, [0, 1, 22, 23, 24, 25, 26, 27]), (4, [8, 9, 28, 29])], [], [], [], [], [], [], []⟩ := rfl
theorem fn_86 : pr.fn 86 = some Try.f86 := rfl
theorem ann_86 : pr.ann 86 = ⟨[(0, [4, 5]), (1, [0, 1, 7, 8, 9, 10, 11]), (2, [6, 12, 13, 14, 15, 16])], [], [], [], [], [], [], []⟩ := rfl
theorem fn_87 : pr.fn 87 = some Try.f87 := rfl
theorem ann_87 : pr.ann 87 = ⟨[(0, [4, 5]), (1, [14, 15]), (2, [16, 17]), (3, [18, 19]), (4, [20, 21]), (5, [22, 23, 24]), (6, [8, 10, 25, 26, 27, 28, 29, 30]), (7, [31, 32]), (8, [11, 33, 34]), (9, [6, 35, 36, 37, 38, 39]), (10, [7, 9, 12, 13, 40, 41, 42, 43, 44, 45, 46, 47]), (11, [0, 1, 48, 49, 50])], [], [], [], [], [], [], []⟩ := rfl
@[go_sem] theorem fin_3 (E : Env) (s : Slots) (h : Heap) : finish E Try.f3 ⟨s, h⟩ = (mapO (resultVar E ⟨s, h⟩) [.tmp 4]).map (finish2 h) := finish_eq Try.f3 _ rfl
@[go_sem] theorem fin_4 (E : Env) (s : Slots) (h : Heap) : finish E Try.f4 ⟨s, h⟩ = (mapO (resultVar E ⟨s, h⟩) [.tmp 4]).map (finish2 h) := finish_eq Try.f4 _ rfl
@[go_sem] theorem fin_5 (E : Env) (s : Slots) (h : Heap) : finish E Try.f5 ⟨s, h⟩ = (mapO (resultVar E ⟨s, h⟩) [.tmp 2]).map (finish2 h) := finish_eq Try.f5 _ rfl
@[go_sem] theorem fin_6 (E : Env) (s : Slots) (h : Heap) : finish E Try.f6 ⟨s, h⟩ = (mapO (resultVar E ⟨s, h⟩) [.tmp 4, .tmp 5]).map (finish2 h) := finish_eq Try.f6 _ rfl
@[go_sem] theorem fin_7 (E : Env) (s : Slots) (h : Heap) : finish E Try.f7 ⟨s, h⟩ = (mapO (resultVar E ⟨s, h⟩) [.tmp 2, .tmp 3]).map (finish2 h) := finish_eq Try.f7 _ rfl
@[go_sem] theorem fin_8 (E : Env) (s : Slots) (h : Heap) : finish E Try.f8 ⟨s, h⟩ = (mapO (resultVar E ⟨s, h⟩) [.tmp 2, .tmp 3]).map (finish2 h) := finish_eq Try.f8 _ rfl
@[go_sem] theorem fin_9 (E : Env) (s : Slots) (h : Heap) : finish E Try.f9 ⟨s, h⟩ = (mapO (resultVar E ⟨s, h⟩) [.tmp 2]).map (finish2 h) := finish_eq Try.f9 _ rfl
@[go_sem] theorem fin_10 (E : Env) (s : Slots) (h : Heap) : finish E Try.f10 ⟨s, h⟩ = (mapO (resultVar E ⟨s, h⟩) [.cell 2 32, .tmp 3]).map (finish2 h) := finish_eq Try.f10 _ rfl
@[go_sem] theorem fin_11 (E : Env) (s : Slots) (h : Heap) : finish E Try.f11 ⟨s, h⟩ = (mapO (resultVar E ⟨s, h⟩) [.tmp 4, .tmp 5]).map (finish2 h) := finish_eq Try.f11 _ rfl
@[go_sem] theorem fin_12 (E : Env) (s : Slots) (h : Heap) : finish E Try.f12 ⟨s, h⟩ = (mapO (resultVar E ⟨s, h⟩) [.tmp 6]).map (finish2 h) := finish_eq Try.f12 _ rfl
@[go_sem] theorem fin_13 (E : Env) (s : Slots) (h : Heap) : finish E Try.f13 ⟨s, h⟩ = (mapO (resultVar E ⟨s, h⟩) [.tmp 4, .tmp 5]).map (finish2 h) := finish_eq Try.f13 _ rfl
@[go_sem] theorem fin_14 (E : Env) (s : Slots) (h : Heap) : finish E Try.f14 ⟨s, h⟩ = (mapO (resultVar E ⟨s, h⟩) [.tmp 2]).map (finish2 h) := finish_eq Try.f14 _ rfl
@[go_sem] theorem fin_15 (E : Env) (s : Slots) (h : Heap) : finish E Try.f15 ⟨s, h⟩ = (mapO (resultVar E ⟨s, h⟩) [.tmp 4]).map (finish2 h) := finish_eq Try.f15 _ rfl
@[go_sem] theorem fin_16 (E : Env) (s : Slots) (h : Heap) : finish E Try.f16 ⟨s, h⟩ = (mapO (resultVar E ⟨s, h⟩) [.tmp 6]).map (finish2 h) := finish_eq Try.f16 _ rfl
@[go_sem] theorem fin_17 (E : Env) (s : Slots) (h : Heap) : finish E Try.f17 ⟨s, h⟩ = (mapO (resultVar E ⟨s, h⟩) [.tmp 2]).map (finish2 h) := finish_eq Try.f17 _ rfl
@[go_sem] theorem fin_18 (E : Env) (s : Slots) (h : Heap) : finish E Try.f18 ⟨s, h⟩ = (mapO (resultVar E ⟨s, h⟩) [.tmp 2]).map (finish2 h) := finish_eq Try.f18 _ rfl
@[go_sem] theorem fin_19 (E : Env) (s : Slots) (h : Heap) : finish E Try.f19 ⟨s, h⟩ = (mapO (resultVar E ⟨s, h⟩) [.tmp 4]).map (finish2 h) := finish_eq Try.f19 _ rfl
@[go_sem] theorem fin_20 (E : Env) (s : Slots) (h : Heap) : finish E Try.f20 ⟨s, h⟩ = (mapO (resultVar E ⟨s, h⟩) [.tmp 2]).map (finish2 h) := finish_eq Try.f20 _ rfl
@[go_sem] theorem fin_21 (E : Env) (s : Slots) (h : Heap) : finish E Try.f21 ⟨s, h⟩ = (mapO (resultVar E ⟨s, h⟩) [.tmp 2]).map (finish2 h) := finish_eq Try.f21 _ rfl
@[go_sem] theorem fin_22 (E : Env) (s : Slots) (h : Heap) : finish E Try.f22 ⟨s, h⟩ = (mapO (resultVar E ⟨s, h⟩) [.tmp 2]).map (finish2 h) := finish_eq Try.f22 _ rfl
@[go_sem] theorem fin_23 (E : Env) (s : Slots) (h : Heap) : finish E Try.f23 ⟨s, h⟩ = (mapO (resultVar E ⟨s, h⟩) [.cell 6 32, .tmp 7]).map (finish2 h) := finish_eq Try.f23 _ rfl
@[go_sem] theorem fin_24 (E : Env) (s : Slots) (h : Heap) : finish E Try.f24 ⟨s, h⟩ = (mapO (resultVar E ⟨s, h⟩) [.tmp 3]).map (finish2 h) := finish_eq Try.f24 _ rfl
@[go_sem] theorem fin_25 (E : Env) (s : Slots) (h : Heap) : finish E Try.f25 ⟨s, h⟩ = (mapO (resultVar E ⟨s, h⟩) [.tmp 6]).map (finish2 h) := finish_eq Try.f25 _ rfl
@[go_sem] theorem fin_26 (E : Env) (s : Slots) (h : Heap) : finish E Try.f26 ⟨s, h⟩ = (mapO (resultVar E ⟨s, h⟩) [.tmp 1]).map (finish2 h) := finish_eq Try.f26 _ rfl
@[go_sem] theorem fin_27 (E : Env) (s : Slots) (h : Heap) : finish E Try.f27 ⟨s, h⟩ = (mapO (resultVar E ⟨s, h⟩) [.tmp 2]).map (finish2 h) := finish_eq Try.f27 _ rfl
@[go_sem] theorem fin_28 (E : Env) (s : Slots) (h : Heap) : finish E Try.f28 ⟨s, h⟩ = (mapO (resultVar E ⟨s, h⟩) [.tmp 4]).map (finish2 h) := finish_eq Try.f28 _ rfl
@[go_sem] theorem fin_29 (E : Env) (s : Slots) (h : Heap) : finish E Try.f29 ⟨s, h⟩ = (mapO (resultVar E ⟨s, h⟩) [.tmp 4]).map (finish2 h) := finish_eq Try.f29 _ rfl
@[go_sem] theorem fin_30 (E : Env) (s : Slots) (h : Heap) : finish E Try.f30 ⟨s, h⟩ = (mapO (resultVar E ⟨s, h⟩) [.tmp 3]).map (finish2 h) := finish_eq Try.f30 _ rfl
@[go_sem] theorem fin_31 (E : Env) (s : Slots) (h : Heap) : finish E Try.f31 ⟨s, h⟩ = (mapO (resultVar E ⟨s, h⟩) [.tmp 2]).map (finish2 h) := finish_eq Try.f31 _ rfl
@[go_sem] theorem fin_32 (E : Env) (s : Slots) (h : Heap) : finish E Try.f32 ⟨s, h⟩ = (mapO (resultVar E ⟨s, h⟩) [.tmp 4]).map (finish2 h) := finish_eq Try.f32 _ rfl
@[go_sem] theorem fin_33 (E : Env) (s : Slots) (h : Heap) : finish E Try.f33 ⟨s, h⟩ = (mapO (resultVar E ⟨s, h⟩) [.tmp 6]).map (finish2 h) := finish_eq Try.f33 _ rfl
@[go_sem] theorem fin_34 (E : Env) (s : Slots) (h : Heap) : finish E Try.f34 ⟨s, h⟩ = (mapO (resultVar E ⟨s, h⟩) [.tmp 6]).map (finish2 h) := finish_eq Try.f34 _ rfl
@[go_sem] theorem fin_35 (E : Env) (s : Slots) (h : Heap) : finish E Try.f35 ⟨s, h⟩ = (mapO (resultVar E ⟨s, h⟩) [.tmp 4]).map (finish2 h) := finish_eq Try.f35 _ rfl
@[go_sem] theorem fin_36 (E : Env) (s : Slots) (h : Heap) : finish E Try.f36 ⟨s, h⟩ = (mapO (resultVar E ⟨s, h⟩) [.tmp 2]).map (finish2 h) := finish_eq Try.f36 _ rfl
@[go_sem] theorem fin_37 (E : Env) (s : Slots) (h : Heap) : finish E Try.f37 ⟨s, h⟩ = (mapO (resultVar E ⟨s, h⟩) [.tmp 2]).map (finish2 h) := finish_eq Try.f37 _ rfl
@[go_sem] theorem fin_38 (E : Env) (s : Slots) (h : Heap) : finish E Try.f38 ⟨s, h⟩ = (mapO (resultVar E ⟨s, h⟩) [.tmp 2]).map (finish2 h) := finish_eq Try.f38 _ rfl
@[go_sem] theorem fin_39 (E : Env) (s : Slots) (h : Heap) : finish E Try.f39 ⟨s, h⟩ = (mapO (resultVar E ⟨s, h⟩) [.tmp 2]).map (finish2 h) := finish_eq Try.f39 _ rfl
@[go_sem] theorem fin_40 (E : Env) (s : Slots) (h : Heap) : finish E Try.f40 ⟨s, h⟩ = (mapO (resultVar E ⟨s, h⟩) [.tmp 2]).map (finish2 h) := finish_eq Try.f40 _ rfl
@[go_sem] theorem fin_43 (E : Env) (s : Slots) (h : Heap) : finish E Try.f43 ⟨s, h⟩ = (mapO (resultVar E ⟨s, h⟩) [.tmp 2]).map (finish2 h) := finish_eq Try.f43 _ rfl
@[go_sem] theorem fin_44 (E : Env) (s : Slots) (h : Heap) : finish E Try.f44 ⟨s, h⟩ = (mapO (resultVar E ⟨s, h⟩) [.tmp 4]).map (finish2 h) := finish_eq Try.f44 _ rfl
@[go_sem] theorem fin_45 (E : Env) (s : Slots) (h : Heap) : finish E Try.f45 ⟨s, h⟩ = (mapO (resultVar E ⟨s, h⟩) [.tmp 4]).map (finish2 h) := finish_eq Try.f45 _ rfl
@[go_sem] theorem fin_46 (E : Env) (s : Slots) (h : Heap) : finish E Try.f46 ⟨s, h⟩ = (mapO (resultVar E ⟨s, h⟩) [.tmp 3]).map (finish2 h) := finish_eq Try.f46 _ rfl
@[go_sem] theorem fin_47 (E : Env) (s : Slots) (h : Heap) : finish E Try.f47 ⟨s, h⟩ = (mapO (resultVar E ⟨s, h⟩) [.tmp 4, .tmp 5, .tmp 6]).map (finish2 h) := finish_eq Try.f47 _ rfl
@[go_sem] theorem fin_48 (E : Env) (s : Slots) (h : Heap) : finish E Try.f48 ⟨s, h⟩ = (mapO (resultVar E ⟨s, h⟩) [.tmp 4]).map (finish2 h) := finish_eq Try.f48 _ rfl
@[go_sem] theorem fin_49 (E : Env) (s : Slots) (h : Heap) : finish E Try.f49 ⟨s, h⟩ = (mapO (resultVar E ⟨s, h⟩) [.tmp 4]).map (finish2 h) := finish_eq Try.f49 _ rfl
@[go_sem] theorem fin_50 (E : Env) (s : Slots) (h : Heap) : finish E Try.f50 ⟨s, h⟩ = (mapO (resultVar E ⟨s, h⟩) [.tmp 2]).map (finish2 h) := finish_eq Try.f50 _ rfl
@[go_sem] theorem fin_52 (E : Env) (s : Slots) (h : Heap) : finish E Try.f52 ⟨s, h⟩ = (mapO (resultVar E ⟨s, h⟩) []).map (finish2 h) := finish_eq Try.f52 _ rfl
@[go_sem] theorem fin_55 (E : Env) (s : Slots) (h : Heap) : finish E Try.f55 ⟨s, h⟩ = (mapO (resultVar E ⟨s, h⟩) [.tmp 4]).map (finish2 h) := finish_eq Try.f55 _ rfl
@[go_sem] theorem fin_56 (E : Env) (s : Slots) (h : Heap) : finish E Try.f56 ⟨s, h⟩ = (mapO (resultVar E ⟨s, h⟩) [.tmp 4]).map (finish2 h) := finish_eq Try.f56 _ rfl
@[go_sem] theorem fin_57 (E : Env) (s : Slots) (h : Heap) : finish E Try.f57 ⟨s, h⟩ = (mapO (resultVar E ⟨s, h⟩) [.tmp 2]).map (finish2 h) := finish_eq Try.f57 _ rfl
@[go_sem] theorem fin_58 (E : Env) (s : Slots) (h : Heap) : finish E Try.f58 ⟨s, h⟩ = (mapO (resultVar E ⟨s, h⟩) [.tmp 6, .tmp 7, .tmp 8]).map (finish2 h) := finish_eq Try.f58 _ rfl
@[go_sem] theorem fin_63 (E : Env) (s : Slots) (h : Heap) : finish E Try.f63 ⟨s, h⟩ = (mapO (resultVar E ⟨s, h⟩) [.tmp 4]).map (finish2 h) := finish_eq Try.f63 _ rfl
@[go_sem] theorem fin_64 (E : Env) (s : Slots) (h : Heap) : finish E Try.f64 ⟨s, h⟩ = (mapO (resultVar E ⟨s, h⟩) [.tmp 4]).map (finish2 h) := finish_eq Try.f64 _ rfl
@[go_sem] theorem fin_65 (E : Env) (s : Slots) (h : Heap) : finish E Try.f65 ⟨s, h⟩ = (mapO (resultVar E ⟨s, h⟩) [.tmp 4]).map (finish2 h) := finish_eq Try.f65 _ rfl
@[go_sem] theorem fin_66 (E : Env) (s : Slots) (h : Heap) : finish E Try.f66 ⟨s, h⟩ = (mapO (resultVar E ⟨s, h⟩) [.tmp 2]).map (finish2 h) := finish_eq Try.f66 _ rfl
@[go_sem] theorem fin_79 (E : Env) (s : Slots) (h : Heap) : finish E Try.f79 ⟨s, h⟩ = (mapO (resultVar E ⟨s, h⟩) [.tmp 4, .tmp 5]).map (finish2 h) := finish_eq Try.f79 _ rfl
@[go_sem] theorem fin_86 (E : Env) (s : Slots) (h : Heap) : finish E Try.f86 ⟨s, h⟩ = (mapO (resultVar E ⟨s, h⟩) [.tmp 4, .tmp 5]).map (finish2 h) := finish_eq Try.f86 _ rfl
@[go_sem] theorem fin_87 (E : Env) (s : Slots) (h : Heap) : finish E Try.f87 ⟨s, h⟩ = (mapO (resultVar E ⟨s, h⟩) [.tmp 4, .tmp 5]).map (finish2 h) := finish_eq Try.f87 _ rfl
@[go_sem] theorem by_3 : pr.byref 3 = [] := rfl
@[go_sem] theorem by_4 : pr.byref 4 = [] := rfl
@[go_sem] theorem by_5 : pr.byref 5 = [] := rfl
@[go_sem] theorem by_6 : pr.byref 6 = [] := rfl
@[go_sem] theorem by_7 : pr.byref 7 = [] := rfl
@[go_sem] theorem by_8 : pr.byref 8 = [] := rfl
@[go_sem] theorem by_9 : pr.byref 9 = [] := rfl
@[go_sem] theorem by_10 : pr.byref 10 = [] := rfl
@[go_sem] theorem by_11 : pr.byref 11 = [] := rfl
@[go_sem] theorem by_12 : pr.byref 12 = [] := rfl
@[go_sem] theorem by_13 : pr.byref 13 = [] := rfl
@[go_sem] theorem by_14 : pr.byref 14 = [] := rfl
@[go_sem] theorem by_15 : pr.byref 15 = [0] := rfl
@[go_sem] theorem by_16 : pr.byref 16 = [0] := rfl
@[go_sem] theorem by_17 : pr.byref 17 = [] := rfl
@[go_sem] theorem by_18 : pr.byref 18 = [] := rfl
@[go_sem] theorem by_19 : pr.byref 19 = [] := rfl
@[go_sem] theorem by_20 : pr.byref 20 = [] := rfl
@[go_sem] theorem by_21 : pr.byref 21 = [] := rfl
@[go_sem] theorem by_22 : pr.byref 22 = [] := rfl
@[go_sem] theorem by_23 : pr.byref 23 = [1, 2] := rfl
@[go_sem] theorem by_24 : pr.byref 24 = [1] := rfl
@[go_sem] theorem by_25 : pr.byref 25 = [] := rfl
@[go_sem] theorem by_26 : pr.byref 26 = [0] := rfl
@[go_sem] theorem by_27 : pr.byref 27 = [] := rfl
@[go_sem] theorem by_28 : pr.byref 28 = [] := rfl
@[go_sem] theorem by_29 : pr.byref 29 = [] := rfl
@[go_sem] theorem by_30 : pr.byref 30 = [] := rfl
@[go_sem] theorem by_31 : pr.byref 31 = [0] := rfl
@[go_sem] theorem by_32 : pr.byref 32 = [0, 1] := rfl
@[go_sem] theorem by_33 : pr.byref 33 = [] := rfl
@[go_sem] theorem by_34 : pr.byref 34 = [] := rfl
@[go_sem] theorem by_35 : pr.byref 35 = [] := rfl
@[go_sem] theorem by_36 : pr.byref 36 = [0] := rfl
@[go_sem] theorem by_37 : pr.byref 37 = [] := rfl
@[go_sem] theorem by_38 : pr.byref 38 = [] := rfl
@[go_sem] theorem by_39 : pr.byref 39 = [] := rfl
@[go_sem] theorem by_40 : pr.byref 40 = [] := rfl
@[go_sem] theorem by_43 : pr.byref 43 = [] := rfl
@[go_sem] theorem by_44 : pr.byref 44 = [] := rfl
@[go_sem] theorem by_45 : pr.byref 45 = [] := rfl
@[go_sem] theorem by_46 : pr.byref 46 = [] := rfl
@[go_sem] theorem by_47 : pr.byref 47 = [] := rfl
@[go_sem] theorem by_48 : pr.byref 48 = [] := rfl
@[go_sem] theorem by_49 : pr.byref 49 = [] := rfl
@[go_sem] theorem by_50 : pr.byref 50 = [] := rfl
@[go_sem] theorem by_52 : pr.byref 52 = [] := rfl
@[go_sem] theorem by_55 : pr.byref 55 = [] := rfl
@[go_sem] theorem by_56 : pr.byref 56 = [] := rfl
@[go_sem] theorem by_57 : pr.byref 57 = [] := rfl
@[go_sem] theorem by_58 : pr.byref 58 = [] := rfl
@[go_sem] theorem by_63 : pr.byref 63 = [] := rfl
@[go_sem] theorem by_64 : pr.byref 64 = [] := rfl
@[go_sem] theorem by_65 : pr.byref 65 = [] := rfl
@[go_sem] theorem by_66 : pr.byref 66 = [] := rfl
@[go_sem] theorem by_79 : pr.byref 79 = [] := rfl
@[go_sem] theorem by_86 : pr.byref 86 = [] := rfl
@[go_sem] theorem by_87 : pr.byref 87 = [] := rfl
@[go_sem] theorem by_41 : pr.byref 41 = [0] := rfl
@[go_sem] theorem by_42 : pr.byref 42 = [0, 2] := rfl
@[go_sem] theorem by_51 : pr.byref 51 = [0] := rfl
@[go_sem] theorem by_59 : pr.byref 59 = [] := rfl
@[go_sem] theorem pr_tab : pr.tab = tab := rfl
@[go_sem] theorem pr_ty : pr.ty = tyOf := rfl
end Go.Proofs.Ytjcldkfgpifebaa.PI
