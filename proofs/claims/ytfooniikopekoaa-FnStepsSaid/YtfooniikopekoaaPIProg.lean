/- The functions of the program, for the interpreter: printed by a program of the session. -/
import Derived.Test.YtfooniikopekoaaPITab
import Derived.Test.YtfooniikopekoaaGQIns2
namespace Go.Proofs.Ytfooniikopekoaa.PI
open Go Go.Q
noncomputable def fnL : List (Nat × Func) := [(8, Try.f8), (18, Try.f18), (22, Try.f22), (27, Try.f27), (28, Try.f28), (29, Try.f29), (33, Try.f33), (34, Try.f34), (35, Try.f35), (36, Try.f36), (37, Try.f37), (38, Try.f38), (39, Try.f39), (44, Try.f44), (52, Try.f52), (53, Try.f53), (57, Try.f57), (60, Try.f60), (61, Try.f61), (67, Try.f67), (69, Try.f69), (70, Try.f70), (71, Try.f71), (72, Try.f72), (73, Try.f73), (74, Try.f74), (75, Try.f75), (76, Try.f76), (77, Try.f77), (83, Try.f83), (84, Try.f84), (85, Try.f85), (86, Try.f86), (87, Try.f87), (88, Try.f88), (92, Try.f92), (94, Try.f94), (97, Try.f97), (98, Try.f98), (99, Try.f99), (100, Try.f100), (101, Try.f101), (102, Try.f102), (103, Try.f103), (104, Try.f104), (105, Try.f105), (106, Try.f106), (107, Try.f107), (108, Try.f108), (111, Try.f111), (112, Try.f112), (117, Try.f117), (118, Try.f118), (119, Try.f119), (120, Try.f120), (121, Try.f121), (122, Try.f122), (123, Try.f123), (124, Try.f124), (125, Try.f125), (127, Try.f127), (129, Try.f129), (130, Try.f130), (131, Try.f131), (132, Try.f132), (133, Try.f133)]
def annL : List (Nat × Ann) := [(8, ⟨[(0, [4]), (1, [20, 21]), (2, [0, 1]), (3, [0, 23, 24]), (4, [1, 25, 26]), (5, [27, 28, 29, 30, 31, 32, 33]), (6, [34, 35, 36, 37, 38, 39]), (7, [40, 41, 42, 43, 44, 45]), (8, [46, 47, 48, 49, 50]), (9, [9, 10, 11, 13, 15, 51, 52, 53, 54, 55, 56, 57, 58, 59, 60, 61, 62, 63, 64, 65, 66, 67, 68, 69, 70, 71, 72, 73, 74, 75, 76, 77, 78, 79, 80, 81, 82, 83, 84, 85, 86, 87, 88, 89, 90, 91, 92, 93, 94]), (10, [5, 6, 7, 8, 12, 14]), (12, [96, 97, 98]), (13, [100, 101]), (14, [102, 103, 104, 105, 106, 107, 108, 109, 110, 111, 112]), (15, [19, 113, 114, 115, 116, 117, 118, 119, 120, 121, 122, 123, 124, 125, 126, 127, 128, 129, 130, 131, 132, 133, 134, 135, 136, 137, 138, 139, 140, 141, 142, 143, 144, 145, 146, 147]), (16, [5, 6, 7, 8, 12, 14, 16, 17, 18]), (17, [14, 18, 149, 150, 151, 152, 153, 154, 155, 156, 157, 158, 159, 160, 161, 162, 163, 164, 165, 166, 167, 168, 169, 170, 171, 172]), (18, [5, 6, 7, 8, 12, 16, 17]), (19, [17, 174]), (20, [5, 6, 7, 8, 12, 14, 16, 175, 176, 177])], [], [], [], [], [], [(8, [14]), (19, [14])], []⟩),
  (18, ⟨[(0, [0, 4, 5]), (1, [6, 7, 8, 9, 10, 11, 12]), (2, [1, 2]), (3, [1, 2, 14, 15, 16])], [], [], [], [], [], [], []⟩),
  (22, ⟨[(0, [0, 4, 5]), (1, [9, 10, 11, 12, 13, 14, 15]), (2, [1, 2]), (3, [1, 2, 6, 8, 17, 18, 19, 20, 21, 22, 23]), (4, [7, 24])], [], [], [], [], [], [], []⟩),
  (27, ⟨[(0, [0, 4, 5, 6]), (1, [10, 11, 12, 13, 14, 15, 16]), (2, [1, 2]), (3, [1, 2, 8, 18, 19, 20, 21, 22, 23, 24]), (4, [7, 9, 25, 26])], [], [], [], [], [], [], []⟩),
  (28, ⟨[(0, [4]), (1, [0, 1, 5, 6, 7, 8, 9, 10, 11, 12])], [], [], [], [], [], [], []⟩),
  (29, ⟨[(0, [2]), (1, [0, 7, 8]), (2, [9]), (3, [10, 11, 12]), (4, [13, 14]), (5, [15]), (6, [17, 18]), (7, [19, 20, 21, 22, 23, 24]), (8, [3, 4, 5, 6, 25])], [], [], [], [], [], [], []⟩),
  (33, ⟨[(0, [4]), (2, [6, 7, 8]), (3, [10, 11]), (4, [12, 13, 14, 15, 16]), (5, [0, 1, 5]), (6, [0, 1, 5])], [], [], [], [], [], [], []⟩),
  (34, ⟨[(0, [4]), (1, [6, 7, 8, 9]), (2, [0, 1]), (4, [11, 12, 13]), (5, [15, 16]), (6, [17, 18, 19, 20, 21, 22, 23, 24]), (7, [0, 1, 5]), (8, [0, 1, 5])], [], [], [], [], [], [], []⟩),
  (35, ⟨[(1, [0, 4, 5]), (2, [3, 6, 7])], [], [], [], [], [], [], []⟩),
  (36, ⟨[(0, [0, 2, 3]), (1, [4, 5]), (2, [1]), (3, [1, 7, 8])], [], [], [], [], [], [], []⟩),
  (37, ⟨[(0, [2]), (3, [5, 6, 7]), (4, [9, 10]), (5, [11, 12, 13, 14, 15, 16]), (6, [0, 3, 4, 17])], [], [], [], [], [], [], []⟩),
  (38, ⟨[(0, [0, 6, 7, 8]), (1, [12, 13, 14, 15, 16, 17, 18, 19]), (2, [1, 2, 3]), (3, [1, 2, 3, 10, 21, 22, 23, 24, 25, 26, 27, 28]), (4, [9, 11, 29, 30])], [], [], [], [], [], [], []⟩),
  (39, ⟨[(0, [0, 4]), (1, [2, 6, 7, 8, 9, 10, 11, 12, 13, 14, 15, 16, 17, 18, 19, 20]), (2, [1]), (3, [1, 22, 23, 24]), (4, [5, 25, 26, 27, 28, 29, 30])], [], [], [], [], [], [], []⟩),
  (44, ⟨[(0, [0, 2]), (1, [4, 5, 6]), (2, [1, 3, 7, 8, 9, 10, 11, 12, 13, 14, 15, 16, 17, 18, 19, 20, 21, 22, 23, 24, 25, 26, 27, 28])], [(2, [0, 1, 2, 3, 4, 6, 5, 7, 8, 9, 10, 11, 12, 13, 14, 15, 16, 17, 18, 19, 20, 21, 22])], [], [], [], [], [], []⟩),
  (52, ⟨[(0, [2]), (1, [0, 3, 4, 5, 6, 7, 8, 9])], [], [], [], [], [], [], []⟩),
  (53, ⟨[(0, [0, 4]), (1, [1, 2, 6, 7, 11, 12, 13, 14, 15, 16, 17]), (3, [5]), (5, [22, 23]), (6, [10, 24, 25, 26, 27]), (7, [28]), (8, [8, 18, 19, 20, 29])], [], [], [], [], [], [], []⟩),
  (57, ⟨[(0, [0, 4, 5, 6]), (1, [16, 17, 18, 19]), (2, [1]), (4, [24, 25]), (5, [7, 11, 26, 27, 28, 29, 30, 31, 32, 33]), (7, [14]), (9, [12, 13, 15, 35, 36, 37, 38, 39, 40, 41, 42, 43]), (10, [44]), (11, [2, 7, 8, 9, 20, 21, 22, 45, 46, 47])], [], [], [], [], [], [], []⟩),
  (60, ⟨[(0, [2]), (1, [0, 3, 4, 5])], [], [], [], [], [], [], []⟩),
  (61, ⟨[(0, [4]), (1, [6]), (2, [0, 1]), (3, [8, 9]), (4, [10]), (5, [0, 12, 13, 14, 15, 16]), (6, [0, 1, 5, 17, 18, 19])], [], [], [], [], [], [], []⟩),
  (67, ⟨[(0, [2]), (1, [5]), (2, [0]), (4, [9]), (5, [4, 10, 11, 12, 13]), (6, [14]), (7, [3, 6, 7, 15])], [], [], [], [], [], [], []⟩),
  (69, ⟨[(1, [4, 5, 6]), (2, [7]), (4, [0, 3, 9, 10, 11])], [], [], [], [], [], [], []⟩),
  (70, ⟨[(0, [0, 2]), (1, [1, 3, 4, 5, 6, 7])], [], [], [], [], [], [], []⟩),
  (71, ⟨[(0, [2]), (1, [0, 3, 4])], [], [], [], [], [], [], []⟩),
  (72, ⟨[(0, [0, 6, 7, 8]), (1, [13, 14, 15]), (2, [16]), (3, [1, 2, 3, 9, 18, 19, 20, 21, 22, 23, 24]), (4, [1, 9, 25, 26, 27, 28, 29]), (5, [30, 31, 32, 33]), (6, [2, 11, 34, 35, 36, 37]), (7, [3, 10, 12, 38, 39, 40, 41, 42])], [], [], [], [], [], [], []⟩),
  (73, ⟨[(0, [1, 2, 6]), (1, [0, 4, 5, 7, 8, 9, 10])], [], [], [], [], [], [], []⟩),
  (74, ⟨[(0, [4]), (1, [8, 9, 10]), (2, [11]), (3, [0, 1, 5, 13]), (4, [14, 15]), (5, [16, 17, 18]), (6, [7, 20, 21]), (7, [22, 23, 24, 25]), (8, [26, 27, 28]), (9, [7, 30, 31, 32, 33]), (10, [34, 35]), (11, [1, 6, 36, 37, 38]), (12, [0, 5, 39, 40, 41])], [], [], [], [], [], [], []⟩),
  (75, ⟨[(0, [2]), (1, [3]), (2, [0]), (3, [0, 5, 6, 7])], [], [], [], [], [], [], []⟩),
  (76, ⟨[(0, [2]), (1, [0, 3, 4])], [], [], [], [], [], [], []⟩),
  (77, ⟨[(0, [2]), (1, [0, 3, 4, 5, 6])], [], [], [], [], [], [], []⟩),
  (83, ⟨[(0, [2]), (1, [0, 3, 4])], [], [], [], [], [], [], []⟩),
  (84, ⟨[(0, [2]), (1, [0, 3, 4])], [], [], [], [], [], [], []⟩),
  (85, ⟨[(0, [2]), (1, [0, 3, 4])], [], [], [], [], [], [], []⟩),
  (86, ⟨[(0, [4]), (1, [0, 1, 5, 6, 7, 8, 9, 10, 11, 12, 13, 14, 15, 16])], [], [], [], [], [], [], []⟩),
  (87, ⟨[(0, [4]), (1, [0, 1, 5, 6, 7, 8])], [], [], [], [], [], [], []⟩),
  (88, ⟨[(0, [3]), (1, [0, 1, 4, 5, 6, 7])], [], [], [], [], [], [], []⟩),
  (92, ⟨[(0, [2]), (1, [0, 3, 4, 5])], [], [], [], [], [], [], []⟩),
  (94, ⟨[(0, [2]), (2, [4, 5, 6, 7, 8, 9, 10, 11, 12]), (3, [14, 15, 16, 17, 18, 19, 20, 21, 22, 23, 24]), (4, [25, 26, 27, 28, 29, 30, 31]), (5, [32, 33, 34, 35, 36, 37, 38, 39, 40, 41, 42, 43]), (6, [44, 45, 46, 47, 48, 49, 50, 51, 52]), (7, [0, 3, 54]), (8, [0, 3, 55, 56, 57, 58, 59, 60, 61])], [], [], [], [], [], [], []⟩),
  (97, ⟨[(0, [4]), (1, [0, 1, 5, 6, 7, 8])], [], [], [], [], [], [], []⟩),
  (98, ⟨[(1, [9]), (2, [12]), (3, [0, 1, 10, 13, 14]), (4, [16]), (5, [0, 1, 10, 17, 18]), (6, [20]), (7, [0, 1, 10, 21, 22]), (8, [24]), (9, [10, 25, 26, 27, 28, 29]), (10, [0, 1, 31, 32]), (11, [10, 34]), (12, [0, 1, 35, 36, 37, 38, 39]), (13, [40, 41]), (14, [42, 43, 44]), (15, [8, 45, 46, 47, 48, 49, 50, 51, 52]), (16, [53]), (17, [0, 1, 6, 7, 55, 56, 57, 58, 59]), (18, [0, 60]), (19, [1, 6, 7, 62, 63, 64, 65, 66, 67]), (20, [1, 6, 7, 68, 69]), (21, [5, 70])], [], [], [], [], [], [], []⟩),
  (99, ⟨[(0, [4]), (1, [9]), (2, [11]), (3, [1, 12, 13, 14, 15, 16, 17, 18, 19, 20]), (4, [5, 21, 22, 23, 24, 25]), (5, [27]), (6, [6, 28, 29, 30]), (7, [0, 31, 32, 33]), (8, [34, 35, 36]), (9, [38, 39, 40, 41, 42, 43, 44, 45, 46]), (10, [7, 8, 47])], [], [], [], [], [], [], []⟩),
  (100, ⟨[(0, [6]), (1, [0, 1, 2, 7, 8, 9, 10, 11, 12, 13, 14])], [], [], [], [], [], [], []⟩),
  (101, ⟨[(0, [4]), (1, [6]), (3, [10]), (4, [11, 12, 13, 14, 15]), (5, [0, 1, 5, 7, 8, 17]), (6, [5, 18]), (7, [0, 1, 7, 8])], [], [], [], [], [], [], []⟩),
  (102, ⟨[(0, [4]), (1, [8]), (2, [1]), (4, [13, 14]), (5, [7, 15, 16, 17, 18, 19, 20, 21]), (6, [22]), (7, [0, 5, 9, 10, 11, 23])], [], [], [], [], [], [], []⟩),
  (103, ⟨[(0, [4]), (1, [0, 1, 5, 6, 7, 8])], [], [], [], [], [], [], []⟩),
  (104, ⟨[(0, [4]), (1, [0, 1, 2, 5, 6, 7, 8, 9])], [], [], [], [], [], [], []⟩),
  (105, ⟨[(0, [4]), (1, [6]), (3, [10]), (4, [11, 12, 13, 14, 15]), (5, [0, 1, 5, 7, 8, 17]), (6, [5, 18]), (7, [0, 1, 7, 8])], [], [], [], [], [], [], []⟩),
  (106, ⟨[(0, [2]), (1, [6, 7]), (2, [0, 9]), (4, [10, 11, 12]), (5, [14, 15]), (6, [16, 17, 18, 19, 20, 21, 22, 23, 24]), (7, [26, 27, 28]), (9, [29, 30, 31]), (10, [33, 34]), (11, [35, 36, 37, 38, 39, 40, 41, 42, 43]), (12, [45, 46, 47, 48, 49, 50, 51]), (13, [52, 53]), (14, [4, 5, 54, 55, 56]), (15, [0, 3, 57, 58, 59]), (16, [0, 3, 60])], [], [], [], [], [], [], []⟩),
  (107, ⟨[(0, [2]), (1, [0, 4, 5]), (2, [6, 7]), (3, [3, 8])], [], [], [], [], [], [], []⟩),
  (108, ⟨[(0, [0, 2]), (1, [1, 3])], [], [], [], [], [], [], []⟩),
  (111, ⟨[(0, [4]), (1, [6, 7, 8, 9]), (2, [0, 1]), (3, [11]), (5, [15]), (6, [5, 16, 17, 18, 19, 20, 21, 22, 23]), (7, [0, 1, 12, 13]), (8, [25]), (9, [0, 1, 12, 13])], [], [], [], [], [], [], []⟩),
  (112, ⟨[(0, [4]), (1, [6]), (3, [10]), (4, [11, 12, 13, 14, 15]), (5, [0, 1, 5, 7, 8, 17]), (6, [5, 18]), (7, [0, 1, 7, 8])], [], [], [], [], [], [], []⟩),
  (117, ⟨[(1, [5, 6, 7, 8, 9]), (3, [10, 11]), (4, [13, 14]), (5, [15, 16, 17, 18, 19, 20, 21, 22]), (6, [0, 3, 4, 23])], [], [], [], [], [], [], []⟩),
  (118, ⟨[(1, [5, 6, 7, 8, 9]), (3, [10, 11]), (4, [13, 14]), (5, [15, 16, 17, 18, 19, 20, 21]), (6, [0, 3, 4, 22])], [], [], [], [], [], [], []⟩),
  (119, ⟨[(1, [5, 6, 7]), (3, [8, 9]), (4, [11, 12]), (5, [13, 14, 15, 16, 17, 18, 19, 20]), (6, [0, 3, 4, 21])], [], [], [], [], [], [], []⟩),
  (120, ⟨[(1, [6]), (3, [7, 8]), (4, [10, 11]), (5, [12, 13, 14, 15]), (6, [16]), (7, [18, 19, 20, 21, 22, 23, 24, 25, 26, 27, 28]), (8, [5, 29, 30, 31, 32, 33, 34]), (9, [0, 4, 35, 36, 37, 38, 39, 40, 41, 42]), (10, [3, 43])], [], [], [], [], [], [], []⟩),
  (121, ⟨[(1, [9]), (3, [10, 11]), (4, [13, 14]), (5, [1, 15, 16, 17, 18, 19, 20]), (6, [7, 21, 22, 23, 24, 25, 26]), (7, [8, 27]), (8, [0, 1, 6, 28, 29, 30, 31, 32, 33, 34]), (9, [5, 35])], [], [], [], [], [], [], []⟩),
  (122, ⟨[(0, [4, 5]), (1, [11]), (3, [12, 13]), (4, [15, 16]), (5, [17, 18, 19, 20]), (6, [1, 7, 21, 22]), (7, [23]), (8, [25, 26]), (9, [27, 28]), (10, [29, 30, 31, 32]), (11, [33, 34, 35, 36]), (12, [37, 38, 39, 40, 41, 42, 43]), (13, [9, 10, 44, 45, 46, 47]), (14, [0, 6, 8, 48, 49])], [], [], [], [], [], [], []⟩),
  (123, ⟨[(0, [2]), (1, [0, 3, 4, 5, 6])], [], [], [], [], [], [], []⟩),
  (124, ⟨[(0, [4, 5]), (1, [0, 1, 10, 11, 12, 13, 14, 15, 16, 17]), (2, [6, 7, 18, 19, 20, 21]), (3, [0, 1, 22, 23, 24, 25, 26, 27]), (4, [8, 9, 28, 29])], [], [], [], [], [], [], []⟩),
  (125, ⟨[(0, [2]), (1, [0, 3, 4])], [], [], [], [], [], [], []⟩),
  (127, ⟨[(0, [1]), (2, [9, 10]), (3, [4, 11, 12, 13]), (4, [15])], [], [], [], [], [], [], []⟩),
  (129, ⟨[(0, [4]), (1, [7, 8]), (3, [9, 10]), (4, [12, 13]), (5, [14, 15]), (6, [17, 18, 19, 20]), (7, [0, 1, 5, 6, 21])], [], [], [], [], [], [], []⟩),
  (130, ⟨[(0, [4]), (1, [7]), (3, [8, 9]), (4, [11, 12]), (5, [13, 14]), (6, [16, 17, 18, 19]), (7, [0, 1, 5, 6, 20, 21, 22, 23])], [], [], [], [], [], [], []⟩),
  (131, ⟨[(0, [2]), (1, [0, 3, 4, 5])], [], [], [], [], [], [], []⟩),
  (132, ⟨[(0, [4, 5]), (1, [0, 1, 7, 8, 9, 10, 11]), (2, [6, 12, 13, 14, 15, 16])], [], [], [], [], [], [], []⟩),
  (133, ⟨[(0, [4, 5]), (1, [14, 15]), (2, [16, 17]), (3, [18, 19]), (4, [20, 21]), (5, [22, 23, 24]), (6, [8, 10, 25, 26, 27, 28, 29, 30]), (7, [31, 32]), (8, [11, 33, 34]), (9, [6, 35, 36, 37, 38, 39]), (10, [7, 9, 12, 13, 40, 41, 42, 43, 44, 45, 46, 47]), (11, [0, 1, 48, 49, 50])], [], [], [], [], [], [], []⟩)]
/-- What is not interpreted. -/
def given (f : Nat) (vs : List AV) (h : Heap) : Option (AV × Heap) := if f = 134 then match vs, h with
  | [.nilS, .fn g [.rp [.d (.slice (.int .i64)) xs]]], [] => if g = 127 ∧ List.length xs ≤ 1000000 then some (if List.length xs = 0 then .nilS else .os (.t 64), if List.length xs = 0 then [] else [(64, .arr true false (.int .i64) xs)]) else none
  | _, _ => none
  else if f = 126 then match vs, h with
  | [.nilS], [] => some (.tuple [], [])
  | [.os (.t 1000000)], [(1000000, .arr m false (.int .i64) xs)] => if List.length xs ≤ 1000000 then some (.tuple [], [(1000000, .arr m false (.int .i64) (List.mergeSort xs fun x y => decide (x ≤ y)))]) else none
  | _, _ => none
  else if f = 95 then match vs, h with
  | [.os (.t 1000000), .d (.int .i64) i, .d (.int .i64) j], [(1000000, .arr m false (.int .i64) xs)] => if 0 ≤ i ∧ i < j ∧ j ≤ List.length xs then some (.sub (.t 1000000) 0 (List.length xs - (j.toNat - i.toNat)), [(1000000, .arr m false (.int .i64) (List.take i.toNat xs ++ List.drop j.toNat xs ++ List.replicate (j.toNat - i.toNat) 0))]) else none
  | _, _ => none
  else if f = 96 then match vs, h with
  | [.sub (.t 1000000) 0 n, .d (.int .i64) i, .os (.t 1000001)], [(1000000, .arr m false (.int .i64) xs), (1000001, .arr m2 false (.int .i64) [x])] => if 0 ≤ i ∧ i ≤ n ∧ n < List.length xs then some (.sub (.t 1000000) 0 (n + 1), [(1000000, .arr m false (.int .i64) (insAt xs n i.toNat x)), (1000001, .arr m2 false (.int .i64) [x])]) else none
  | _, _ => none
  else none
noncomputable def pr : Prog := ⟨tab, tyOf, by_, lookT fnL, fun f => (lookT annL f).getD ⟨[], [], [], [], [], [], [], []⟩, given⟩
theorem fns : ∀ x ∈ fnL, Try.prog.funcs[x.1]? = some x.2 ∧ fnOkB pr x.1 = true := by
  unfold fnL
  simp only [List.forall_mem_cons, List.not_mem_nil, false_implies, implies_true, and_true]
  exact ⟨⟨Try.func8, by kernel_rfl⟩, ⟨Try.func18, by kernel_rfl⟩, ⟨Try.func22, by kernel_rfl⟩, ⟨Try.func27, by kernel_rfl⟩, ⟨Try.func28, by kernel_rfl⟩, ⟨Try.func29, by kernel_rfl⟩, ⟨Try.func33, by kernel_rfl⟩, ⟨Try.func34, by kernel_rfl⟩, ⟨Try.func35, by kernel_rfl⟩, ⟨Try.func36, by kernel_rfl⟩, ⟨Try.func37, by kernel_rfl⟩, ⟨Try.func38, by kernel_rfl⟩, ⟨Try.func39, by kernel_rfl⟩, ⟨Try.func44, by kernel_rfl⟩, ⟨Try.func52, by kernel_rfl⟩, ⟨Try.func53, by kernel_rfl⟩, ⟨Try.func57, by kernel_rfl⟩, ⟨Try.func60, by kernel_rfl⟩, ⟨Try.func61, by kernel_rfl⟩, ⟨Try.func67, by kernel_rfl⟩, ⟨Try.func69, by kernel_rfl⟩, ⟨Try.func70, by kernel_rfl⟩, ⟨Try.func71, by kernel_rfl⟩, ⟨Try.func72, by kernel_rfl⟩, ⟨Try.func73, by kernel_rfl⟩, ⟨Try.func74, by kernel_rfl⟩, ⟨Try.func75, by kernel_rfl⟩, ⟨Try.func76, by kernel_rfl⟩, ⟨Try.func77, by kernel_rfl⟩, ⟨Try.func83, by kernel_rfl⟩, ⟨Try.func84, by kernel_rfl⟩, ⟨Try.func85, by kernel_rfl⟩, ⟨Try.func86, by kernel_rfl⟩, ⟨Try.func87, by kernel_rfl⟩, ⟨Try.func88, by kernel_rfl⟩, ⟨Try.func92, by kernel_rfl⟩, ⟨Try.func94, by kernel_rfl⟩, ⟨Try.func97, by kernel_rfl⟩, ⟨Try.func98, by kernel_rfl⟩, ⟨Try.func99, by kernel_rfl⟩, ⟨Try.func100, by kernel_rfl⟩, ⟨Try.func101, by kernel_rfl⟩, ⟨Try.func102, by kernel_rfl⟩, ⟨Try.func103, by kernel_rfl⟩, ⟨Try.func104, by kernel_rfl⟩, ⟨Try.func105, by kernel_rfl⟩, ⟨Try.func106, by kernel_rfl⟩, ⟨Try.func107, by kernel_rfl⟩, ⟨Try.func108, by kernel_rfl⟩, ⟨Try.func111, by kernel_rfl⟩, ⟨Try.func112, by kernel_rfl⟩, ⟨Try.func117, by kernel_rfl⟩, ⟨Try.func118, by kernel_rfl⟩, ⟨Try.func119, by kernel_rfl⟩, ⟨Try.func120, by kernel_rfl⟩, ⟨Try.func121, by kernel_rfl⟩, ⟨Try.func122, by kernel_rfl⟩, ⟨Try.func123, by kernel_rfl⟩, ⟨Try.func124, by kernel_rfl⟩, ⟨Try.func125, by kernel_rfl⟩, ⟨Try.func127, by kernel_rfl⟩, ⟨Try.func129, by kernel_rfl⟩, ⟨Try.func130, by kernel_rfl⟩, ⟨Try.func131, by kernel_rfl⟩, ⟨Try.func132, by kernel_rfl⟩, ⟨Try.func133, by kernel_rfl⟩⟩
theorem fn_8 : pr.fn 8 = some Try.f8 := rfl
theorem ann_8 : pr.ann 8 = ⟨[(0, [4]), (1, [20, 21]), (2, [0, 1]), (3, [0, 23, 24]), (4, [1, 25, 26]), (5, [27, 28, 29, 30, 31, 32, 33]), (6, [34, 35, 36, 37, 38, 39]), (7, [40, 41, 42, 43, 44, 45]), (8, [46, 47, 48, 49, 50]), (9, [9, 10, 11, 13, 15, 51, 52, 53, 54, 55, 56, 57, 58, 59, 60, 61, 62, 63, 64, 65, 66, 67, 68, 69, 70, 71, 72, 73, 74, 75, 76, 77, 78, 79, 80, 81, 82, 83, 84, 85, 86, 87, 88, 89, 90, 91, 92, 93, 94]), (10, [5, 6, 7, 8, 12, 14]), (12, [96, 97, 98]), (13, [100, 101]), (14, [102, 103, 104, 105, 106, 107, 108, 109, 110, 111, 112]), (15, [19, 113, 114, 115, 116, 117, 118, 119, 120, 121, 122, 123, 124, 125, 126, 127, 128, 129, 130, 131, 132, 133, 134, 135, 136, 137, 138, 139, 140, 141, 142, 143, 144, 145, 146, 147]), (16, [5, 6, 7, 8, 12, 14, 16, 17, 18]), (17, [14, 18, 149, 150, 151, 152, 153, 154, 155, 156, 157, 158, 159, 160, 161, 162, 163, 164, 165, 166, 167, 168, 169, 170, 171, 172]), (18, [5, 6, 7, 8, 12, 16, 17]), (19, [17, 174]), (20, [5, 6, 7, 8, 12, 14, 16, 175, 176, 177])], [], [], [], [], [], [(8, [14]), (19, [14])], []⟩ := rfl
theorem fn_18 : pr.fn 18 = some Try.f18 := rfl
theorem ann_18 : pr.ann 18 = ⟨[(0, [0, 4, 5]), (1, [6, 7, 8, 9, 10, 11, 12]), (2, [1, 2]), (3, [1, 2, 14, 15, 16])], [], [], [], [], [], [], []⟩ := rfl
theorem fn_22 : pr.fn 22 = some Try.f22 := rfl
theorem ann_22 : pr.ann 22 = ⟨[(0, [0, 4, 5]), (1, [9, 10, 11, 12, 13, 14, 15]), (2, [1, 2]), (3, [1, 2, 6, 8, 17, 18, 19, 20, 21, 22, 23]), (4, [7, 24])], [], [], [], [], [], [], []⟩ := rfl
theorem fn_27 : pr.fn 27 = some Try.f27 := rfl
theorem ann_27 : pr.ann 27 = ⟨[(0, [0, 4, 5, 6]), (1, [10, 11, 12, 13, 14, 15, 16]), (2, [1, 2]), (3, [1, 2, 8, 18, 19, 20, 21, 22, 23, 24]), (4, [7, 9, 25, 26])], [], [], [], [], [], [], []⟩ := rfl
theorem fn_28 : pr.fn 28 = some Try.f28 := rfl
theorem ann_28 : pr.ann 28 = ⟨[(0, [4]), (1, [0, 1, 5, 6, 7, 8, 9, 10, 11, 12])], [], [], [], [], [], [], []⟩ := rfl
theorem fn_29 : pr.fn 29 = some Try.f29 := rfl
theorem ann_29 : pr.ann 29 = ⟨[(0, [2]), (1, [0, 7, 8]), (2, [9]), (3, [10, 11, 12]), (4, [13, 14]), (5, [15]), (6, [17, 18]), (7, [19, 20, 21, 22, 23, 24]), (8, [3, 4, 5, 6, 25])], [], [], [], [], [], [], []⟩ := rfl
theorem fn_33 : pr.fn 33 = some Try.f33 := rfl
theorem ann_33 : pr.ann 33 = ⟨[(0, [4]), (2, [6, 7, 8]), (3, [10, 11]), (4, [12, 13, 14, 15, 16]), (5, [0, 1, 5]), (6, [0, 1, 5])], [], [], [], [], [], [], []⟩ := rfl
theorem fn_34 : pr.fn 34 = some Try.f34 := rfl
theorem ann_34 : pr.ann 34 = ⟨[(0, [4]), (1, [6, 7, 8, 9]), (2, [0, 1]), (4, [11, 12, 13]), (5, [15, 16]), (6, [17, 18, 19, 20, 21, 22, 23, 24]), (7, [0, 1, 5]), (8, [0, 1, 5])], [], [], [], [], [], [], []⟩ := rfl
theorem fn_35 : pr.fn 35 = some Try.f35 := rfl
theorem ann_35 : pr.ann 35 = ⟨[(1, [0, 4, 5]), (2, [3, 6, 7])], [], [], [], [], [], [], []⟩ := rfl
theorem fn_36 : pr.fn 36 = some Try.f36 := rfl
theorem ann_36 : pr.ann 36 = ⟨[(0, [0, 2, 3]), (1, [4, 5]), (2, [1]), (3, [1, 7, 8])], [], [], [], [], [], [], []⟩ := rfl
theorem fn_37 : pr.fn 37 = some Try.f37 := rfl
theorem ann_37 : pr.ann 37 = ⟨[(0, [2]), (3, [5, 6, 7]), (4, [9, 10]), (5, [11, 12, 13, 14, 15, 16]), (6, [0, 3, 4, 17])], [], [], [], [], [], [], []⟩ := rfl
theorem fn_38 : pr.fn 38 = some Try.f38 := rfl
theorem ann_38 : pr.ann 38 = ⟨[(0, [0, 6, 7, 8]), (1, [12, 13, 14, 15, 16, 17, 18, 19]), (2, [1, 2, 3]), (3, [1, 2, 3, 10, 21, 22, 23, 24, 25, 26, 27, 28]), (4, [9, 11, 29, 30])], [], [], [], [], [], [], []⟩ := rfl
theorem fn_39 : pr.fn 39 = some Try.f39 := rfl
theorem ann_39 : pr.ann 39 = ⟨[(0, [0, 4]), (1, [2, 6, 7, 8, 9, 10, 11, 12, 13, 14, 15, 16, 17, 18, 19, 20]), (2, [1]), (3, [1, 22, 23, 24]), (4, [5, 25, 26, 27, 28, 29, 30])], [], [], [], [], [], [], []⟩ := rfl
theorem fn_44 : pr.fn 44 = some Try.f44 := rfl
theorem ann_44 : pr.ann 44 = ⟨[(0, [0, 2]), (1, [4, 5, 6]), (2, [1, 3, 7, 8, 9, 10, 11, 12, 13, 14, 15, 16, 17, 18, 19, 20, 21, 22, 23, 24, 25, 26, 27, 28])], [(2, [0, 1, 2, 3, 4, 6, 5, 7, 8, 9, 10, 11, 12, 13, 14, 15, 16, 17, 18, 19, 20, 21, 22])], [], [], [], [], [], []⟩ := rfl
theorem fn_52 : pr.fn 52 = some Try.f52 := rfl
theorem ann_52 : pr.ann 52 = ⟨[(0, [2]), (1, [0, 3, 4, 5, 6, 7, 8, 9])], [], [], [], [], [], [], []⟩ := rfl
theorem fn_53 : pr.fn 53 = some Try.f53 := rfl
theorem ann_53 : pr.ann 53 = ⟨[(0, [0, 4]), (1, [1, 2, 6, 7, 11, 12, 13, 14, 15, 16, 17]), (3, [5]), (5, [22, 23]), (6, [10, 24, 25, 26, 27]), (7, [28]), (8, [8, 18, 19, 20, 29])], [], [], [], [], [], [], []⟩ := rfl
theorem fn_57 : pr.fn 57 = some Try.f57 := rfl
theorem ann_57 : pr.ann 57 = ⟨[(0, [0, 4, 5, 6]), (1, [16, 17, 18, 19]), (2, [1]), (4, [24, 25]), (5, [7, 11, 26, 27, 28, 29, 30, 31, 32, 33]), (7, [14]), (9, [12, 13, 15, 35, 36, 37, 38, 39, 40, 41, 42, 43]), (10, [44]), (11, [2, 7, 8, 9, 20, 21, 22, 45, 46, 47])], [], [], [], [], [], [], []⟩ := rfl
theorem fn_60 : pr.fn 60 = some Try.f60 := rfl
theorem ann_60 : pr.ann 60 = ⟨[(0, [2]), (1, [0, 3, 4, 5])], [], [], [], [], [], [], []⟩ := rfl
theorem fn_61 : pr.fn 61 = some Try.f61 := rfl
theorem ann_61 : pr.ann 61 = ⟨[(0, [4]), (1, [6]), (2, [0, 1]), (3, [8, 9]), (4, [10]), (5, [0, 12, 13, 14, 15, 16]), (6, [0, 1, 5, 17, 18, 19])], [], [], [], [], [], [], []⟩ := rfl
theorem fn_67 : pr.fn 67 = some Try.f67 := rfl
theorem ann_67 : pr.ann 67 = ⟨[(0, [2]), (1, [5]), (2, [0]), (4, [9]), (5, [4, 10, 11, 12, 13]), (6, [14]), (7, [3, 6, 7, 15])], [], [], [], [], [], [], []⟩ := rfl
theorem fn_69 : pr.fn 69 = some Try.f69 := rfl
theorem ann_69 : pr.ann 69 = ⟨[(1, [4, 5, 6]), (2, [7]), (4, [0, 3, 9, 10, 11])], [], [], [], [], [], [], []⟩ := rfl
theorem fn_70 : pr.fn 70 = some Try.f70 := rfl
theorem ann_70 : pr.ann 70 = ⟨[(0, [0, 2]), (1, [1, 3, 4, 5, 6, 7])], [], [], [], [], [], [], []⟩ := rfl
theorem fn_71 : pr.fn 71 = some Try.f71 := rfl
theorem ann_71 : pr.ann 71 = ⟨[(0, [2]), (1, [0, 3, 4])], [], [], [], [], [], [], []⟩ := rfl
theorem fn_72 : pr.fn 72 = some Try.f72 := rfl
theorem ann_72 : pr.ann 72 = ⟨[(0, [0, 6, 7, 8]), (1, [13, 14, 15]), (2, [16]), (3, [1, 2, 3, 9, 18, 19, 20, 21, 22, 23, 24]), (4, [1, 9, 25, 26, 27, 28, 29]), (5, [30, 31, 32, 33]), (6, [2, 11, 34, 35, 36, 37]), (7, [3, 10, 12, 38, 39, 40, 41, 42])], [], [], [], [], [], [], []⟩ := rfl
theorem fn_73 : pr.fn 73 = some Try.f73 := rfl
theorem ann_73 : pr.ann 73 = ⟨[(0, [1, 2, 6]), (1, [0, 4, 5, 7, 8, 9, 10])], [], [], [], [], [], [], []⟩ := rfl
theorem fn_74 : pr.fn 74 = some Try.f74 := rfl
theorem ann_74 : pr.ann 74 = ⟨[(0, [4]), (1, [8, 9, 10]), (2, [11]), (3, [0, 1, 5, 13]), (4, [14, 15]), (5, [16, 17, 18]), (6, [7, 20, 21]), (7, [22, 23, 24, 25]), (8, [26, 27, 28]), (9, [7, 30, 31, 32, 33]), (10, [34, 35]), (11, [1, 6, 36, 37, 38]), (12, [0, 5, 39, 40, 41])], [], [], [], [], [], [], []⟩ := rfl
theorem fn_75 : pr.fn 75 = some Try.f75 := rfl
theorem ann_75 : pr.ann 75 = ⟨[(0, [2]), (1, [3]), (2, [0]), (3, [0, 5, 6, 7])], [], [], [], [], [], [], []⟩ := rfl
theorem fn_76 : pr.fn 76 = some Try.f76 := rfl
theorem ann_76 : pr.ann 76 = ⟨[(0, [2]), (1, [0, 3, 4])], [], [], [], [], [], [], []⟩ := rfl
theorem fn_77 : pr.fn 77 = some Try.f77 := rfl
theorem ann_77 : pr.ann 77 = ⟨[(0, [2]), (1, [0, 3, 4, 5, 6])], [], [], [], [], [], [], []⟩ := rfl
theorem fn_83 : pr.fn 83 = some Try.f83 := rfl
theorem ann_83 : pr.ann 83 = ⟨[(0, [2]), (1, [0, 3, 4])], [], [], [], [], [], [], []⟩ := rfl
theorem fn_84 : pr.fn 84 = some Try.f84 := rfl
theorem ann_84 : pr.ann 84 = ⟨[(0, [2]), (1, [0, 3, 4])], [], [], [], [], [], [], []⟩ := rfl
theorem fn_85 : pr.fn 85 = some Try.f85 := rfl
theorem ann_85 : pr.ann 85 = ⟨[(0, [2]), (1, [0, 3, 4])], [], [], [], [], [], [], []⟩ := rfl
theorem fn_86 : pr.fn 86 = some Try.f86 := rfl
theorem ann_86 : pr.ann 86 = ⟨[(0, [4]), (1, [0, 1, 5, 6, 7, 8, 9, 10, 11, 12, 13, 14, 15, 16])], [], [], [], [], [], [], []⟩ := rfl
theorem fn_87 : pr.fn 87 = some Try.f87 := rfl
theorem ann_87 : pr.ann 87 = ⟨[(0, [4]), (1, [0, 1, 5, 6, 7, 8])], [], [], [], [], [], [], []⟩ := rfl
theorem fn_88 : pr.fn 88 = some Try.f88 := rfl
theorem ann_88 : pr.ann 88 = ⟨[(0, [3]), (1, [0, 1, 4, 5, 6, 7])], [], [], [], [], [], [], []⟩ := rfl
theorem fn_92 : pr.fn 92 = some Try.f92 := rfl
theorem ann_92 : pr.ann 92 = ⟨[(0, [2]), (1, [0, 3, 4, 5])], [], [], [], [], [], [], []⟩ := rfl
theorem fn_94 : pr.fn 94 = some Try.f94 := rfl
theorem ann_94 : pr.ann 94 = ⟨[(0, [2]), (2, [4, 5, 6, 7, 8, 9, 10, 11, 12]), (3, [14, 15, 16, 17, 18, 19, 20, 21, 22, 23, 24]), (4, [25, 26, 27, 28, 29, 30, 31]), (5, [32, 33, 34, 35, 36, 37, 38, 39, 40, 41, 42, 43]), (6, [44, 45, 46, 47, 48, 49, 50, 51, 52]), (7, [0, 3, 54]), (8, [0, 3, 55, 56, 57, 58, 59, 60, 61])], [], [], [], [], [], [], []⟩ := rfl
theorem fn_97 : pr.fn 97 = some Try.f97 := rfl
theorem ann_97 : pr.ann 97 = ⟨[(0, [4]), (1, [0, 1, 5, 6, 7, 8])], [], [], [], [], [], [], []⟩ := rfl
theorem fn_98 : pr.fn 98 = some Try.f98 := rfl
theorem ann_98 : pr.ann 98 = ⟨[(1, [9]), (2, [12]), (3, [0, 1, 10, 13, 14]), (4, [16]), (5, [0, 1, 10, 17, 18]), (6, [20]), (7, [0, 1, 10, 21, 22]), (8, [24]), (9, [10, 25, 26, 27, 28, 29]), (10, [0, 1, 31, 32]), (11, [10, 34]), (12, [0, 1, 35, 36, 37, 38, 39]), (13, [40, 41]), (14, [42, 43, 44]), (15, [8, 45, 46, 47, 48, 49, 50, 51, 52]), (16, [53]), (17, [0, 1, 6, 7, 55, 56, 57, 58, 59]), (18, [0, 60]), (19, [1, 6, 7, 62, 63, 64, 65, 66, 67]), (20, [1, 6, 7, 68, 69]), (21, [5, 70])], [], [], [], [], [], [], []⟩ := rfl
theorem fn_99 : pr.fn 99 = some Try.f99 := rfl
theorem ann_99 : pr.ann 99 = ⟨[(0, [4]), (1, [9]), (2, [11]), (3, [1, 12, 13, 14, 15, 16, 17, 18, 19, 20]), (4, [5, 21, 22, 23, 24, 25]), (5, [27]), (6, [6, 28, 29, 30]), (7, [0, 31, 32, 33]), (8, [34, 35, 36]), (9, [38, 39, 40, 41, 42, 43, 44, 45, 46]), (10, [7, 8, 47])], [], [], [], [], [], [], []⟩ := rfl
theorem fn_100 : pr.fn 100 = some Try.f100 := rfl
theorem ann_100 : pr.ann 100 = ⟨[(0, [6]), (1, [0, 1, 2, 7, 8, 9, 10, 11, 12, 13, 14])], [], [], [], [], [], [], []⟩ := rfl
theorem fn_101 : pr.fn 101 = some Try.f101 := rfl
theorem ann_101 : pr.ann 101 = ⟨[(0, [4]), (1, [6]), (3, [10]), (4, [11, 12, 13, 14, 15]), (5, [0, 1, 5, 7, 8, 17]), (6, [5, 18]), (7, [0, 1, 7, 8])], [], [], [], [], [], [], []⟩ := rfl
theorem fn_102 : pr.fn 102 = some Try.f102 := rfl
theorem ann_102 : pr.ann 102 = ⟨[(0, [4]), (1, [8]), (2, [1]), (4, [13, 14]), (5, [7, 15, 16, 17, 18, 19, 20, 21]), (6, [22]), (7, [0, 5, 9, 10, 11, 23])], [], [], [], [], [], [], []⟩ := rfl
theorem fn_103 : pr.fn 103 = some Try.f103 := rfl
theorem ann_103 : pr.ann 103 = ⟨[(0, [4]), (1, [0, 1, 5, 6, 7, 8])], [], [], [], [], [], [], []⟩ := rfl
theorem fn_104 : pr.fn 104 = some Try.f104 := rfl
theorem ann_104 : pr.ann 104 = ⟨[(0, [4]), (1, [0, 1, 2, 5, 6, 7, 8, 9])], [], [], [], [], [], [], []⟩ := rfl
theorem fn_105 : pr.fn 105 = some Try.f105 := rfl
theorem ann_105 : pr.ann 105 = ⟨[(0, [4]), (1, [6]), (3, [10]), (4, [11, 12, 13, 14, 15]), (5, [0, 1, 5, 7, 8, 17]), (6, [5, 18]), (7, [0, 1, 7, 8])], [], [], [], [], [], [], []⟩ := rfl
theorem fn_106 : pr.fn 106 = some Try.f106 := rfl
theorem ann_106 : pr.ann 106 = ⟨[(0, [2]), (1, [6, 7]), (2, [0, 9]), (4, [10, 11, 12]), (5, [14, 15]), (6, [16, 17, 18, 19, 20, 21, 22, 23, 24]), (7, [26, 27, 28]), (9, [29, 30, 31]), (10, [33, 34]), (11, [35, 36, 37, 38, 39, 40, 41, 42, 43]), (12, [45, 46, 47, 48, 49, 50, 51]), (13, [52, 53]), (14, [4, 5, 54, 55, 56]), (15, [0, 3, 57, 58, 59]), (16, [0, 3, 60])], [], [], [], [], [], [], []⟩ := rfl
theorem fn_107 : pr.fn 107 = some Try.f107 := rfl
theorem ann_107 : pr.ann 107 = ⟨[(0, [2]), (1, [0, 4, 5]), (2, [6, 7]), (3, [3, 8])], [], [], [], [], [], [], []⟩ := rfl
theorem fn_108 : pr.fn 108 = some Try.f108 := rfl
theorem ann_108 : pr.ann 108 = ⟨[(0, [0, 2]), (1, [1, 3])], [], [], [], [], [], [], []⟩ := rfl
theorem fn_111 : pr.fn 111 = some Try.f111 := rfl
theorem ann_111 : pr.ann 111 = ⟨[(0, [4]), (1, [6, 7, 8, 9]), (2, [0, 1]), (3, [11]), (5, [15]), (6, [5, 16, 17, 18, 19, 20, 21, 22, 23]), (7, [0, 1, 12, 13]), (8, [25]), (9, [0, 1, 12, 13])], [], [], [], [], [], [], []⟩ := rfl
theorem fn_112 : pr.fn 112 = some Try.f112 := rfl
theorem ann_112 : pr.ann 112 = ⟨[(0, [4]), (1, [6]), (3, [10]), (4, [11, 12, 13, 14, 15]), (5, [0, 1, 5, 7, 8, 17]), (6, [5, 18]), (7, [0, 1, 7, 8])], [], [], [], [], [], [], []⟩ := rfl
theorem fn_117 : pr.fn 117 = some Try.f117 := rfl
theorem ann_117 : pr.ann 117 = ⟨[(1, [5, 6, 7, 8, 9]), (3, [10, 11]), (4, [13, 14]), (5, [15, 16, 17, 18, 19, 20, 21, 22]), (6, [0, 3, 4, 23])], [], [], [], [], [], [], []⟩ := rfl
theorem fn_118 : pr.fn 118 = some Try.f118 := rfl
theorem ann_118 : pr.ann 118 = ⟨[(1, [5, 6, 7, 8, 9]), (3, [10, 11]), (4, [13, 14]), (5, [15, 16, 17, 18, 19, 20, 21]), (6, [0, 3, 4, 22])], [], [], [], [], [], [], []⟩ := rfl
theorem fn_119 : pr.fn 119 = some Try.f119 := rfl
theorem ann_119 : pr.ann 119 = ⟨[(1, [5, 6, 7]), (3, [8, 9]), (4, [11, 12]), (5, [13, 14, 15, 16, 17, 18, 19, 20]), (6, [0, 3, 4, 21])], [], [], [], [], [], [], []⟩ := rfl
theorem fn_120 : pr.fn 120 = some Try.f120 := rfl
theorem ann_120 : pr.ann 120 = ⟨[(1, [6]), (3, [7, 8]), (4, [10, 11]), (5, [12, 13, 14, 15]), (6, [16]), (7, [18, 19, 20, 21, 22, 23, 24, 25, 26, 27, 28]), (8, [5, 29, 30, 31, 32, 33, 34]), (9, [0, 4, 35, 36, 37, 38, 39, 40, 41, 42]), (10, [3, 43])], [], [], [], [], [], [], []⟩ := rfl
theorem fn_121 : pr.fn 121 = some Try.f121 := rfl
theorem ann_121 : pr.ann 121 = ⟨[(1, [9]), (3, [10, 11]), (4, [13, 14]), (5, [1, 15, 16, 17, 18, 19, 20]), (6, [7, 21, 22, 23, 24, 25, 26]), (7, [8, 27]), (8, [0, 1, 6, 28, 29, 30, 31, 32, 33, 34]), (9, [5, 35])], [], [], [], [], [], [], []⟩ := rfl
theorem fn_122 : pr.fn 122 = some Try.f122 := rfl
theorem ann_122 : pr.ann 122 = ⟨[(0, [4, 5]), (1, [11]), (3, [12, 13]), (4, [15, 16]), (5, [17, 18, 19, 20]), (6, [1, 7, 21, 22]), (7, [23]), (8, [25, 26]), (9, [27, 28]), (10, [29, 30, 31, 32]), (11, [33, 34, 35, 36]), (12, [37, 38, 39, 40, 41, 42, 43]), (13, [9, 10, 44, 45, 46, 47]), (14, [0, 6, 8, 48, 49])], [], [], [], [], [], [], []⟩ := rfl
theorem fn_123 : pr.fn 123 = some Try.f123 := rfl
theorem ann_123 : pr.ann 123 = ⟨[(0, [2]), (1, [0, 3, 4, 5, 6])], [], [], [], [], [], [], []⟩ := rfl
theorem fn_124 : pr.fn 124 = some Try.f124 := rfl
theorem ann_124 : pr.ann 124 = ⟨[(0, [4, 5]), (1, [0, 1, 10, 11, 12, 13, 14, 15, 16, 17]), (2, [6, 7, 18, 19, 20, 21]), (3, [0, 1, 22, 23, 24, 25, 26, 27]), (4, [8, 9, 28, 29])], [], [], [], [], [], [], []⟩ := rfl
theorem fn_125 : pr.fn 125 = some Try.f125 := rfl
theorem ann_125 : pr.ann 125 = ⟨[(0, [2]), (1, [0, 3, 4])], [], [], [], [], [], [], []⟩ := rfl
theorem fn_127 : pr.fn 127 = some Try.f127 := rfl
theorem ann_127 : pr.ann 127 = ⟨[(0, [1]), (2, [9, 10]), (3, [4, 11, 12, 13]), (4, [15])], [], [], [], [], [], [], []⟩ := rfl
theorem fn_129 : pr.fn 129 = some Try.f129 := rfl
theorem ann_129 : pr.ann 129 = ⟨[(0, [4]), (1, [7, 8]), (3, [9, 10]), (4, [12, 13]), (5, [14, 15]), (6, [17, 18, 19, 20]), (7, [0, 1, 5, 6, 21])], [], [], [], [], [], [], []⟩ := rfl
theorem fn_130 : pr.fn 130 = some Try.f130 := rfl
theorem ann_130 : pr.ann 130 = ⟨[(0, [4]), (1, [7]), (3, [8, 9]), (4, [11, 12]), (5, [13, 14]), (6, [16, 17, 18, 19]), (7, [0, 1, 5, 6, 20, 21, 22, 23])], [], [], [], [], [], [], []⟩ := rfl
theorem fn_131 : pr.fn 131 = some Try.f131 := rfl
theorem ann_131 : pr.ann 131 = ⟨[(0, [2]), (1, [0, 3, 4, 5])], [], [], [], [], [], [], []⟩ := rfl
theorem fn_132 : pr.fn 132 = some Try.f132 := rfl
theorem ann_132 : pr.ann 132 = ⟨[(0, [4, 5]), (1, [0, 1, 7, 8, 9, 10, 11]), (2, [6, 12, 13, 14, 15, 16])], [], [], [], [], [], [], []⟩ := rfl
theorem fn_133 : pr.fn 133 = some Try.f133 := rfl
theorem ann_133 : pr.ann 133 = ⟨[(0, [4, 5]), (1, [14, 15]), (2, [16, 17]), (3, [18, 19]), (4, [20, 21]), (5, [22, 23, 24]), (6, [8, 10, 25, 26, 27, 28, 29, 30]), (7, [31, 32]), (8, [11, 33, 34]), (9, [6, 35, 36, 37, 38, 39]), (10, [7, 9, 12, 13, 40, 41, 42, 43, 44, 45, 46, 47]), (11, [0, 1, 48, 49, 50])], [], [], [], [], [], [], []⟩ := rfl
@[go_sem] theorem fin_8 (E : Env) (s : Slots) (h : Heap) : finish E Try.f8 ⟨s, h⟩ = (mapO (resultVar E ⟨s, h⟩) [.tmp 4]).map (finish2 h) := finish_eq Try.f8 _ rfl
@[go_sem] theorem fin_18 (E : Env) (s : Slots) (h : Heap) : finish E Try.f18 ⟨s, h⟩ = (mapO (resultVar E ⟨s, h⟩) [.tmp 4, .tmp 5]).map (finish2 h) := finish_eq Try.f18 _ rfl
@[go_sem] theorem fin_22 (E : Env) (s : Slots) (h : Heap) : finish E Try.f22 ⟨s, h⟩ = (mapO (resultVar E ⟨s, h⟩) [.tmp 4, .tmp 5]).map (finish2 h) := finish_eq Try.f22 _ rfl
@[go_sem] theorem fin_27 (E : Env) (s : Slots) (h : Heap) : finish E Try.f27 ⟨s, h⟩ = (mapO (resultVar E ⟨s, h⟩) [.tmp 4, .tmp 5, .tmp 6]).map (finish2 h) := finish_eq Try.f27 _ rfl
@[go_sem] theorem fin_28 (E : Env) (s : Slots) (h : Heap) : finish E Try.f28 ⟨s, h⟩ = (mapO (resultVar E ⟨s, h⟩) [.tmp 4]).map (finish2 h) := finish_eq Try.f28 _ rfl
@[go_sem] theorem fin_29 (E : Env) (s : Slots) (h : Heap) : finish E Try.f29 ⟨s, h⟩ = (mapO (resultVar E ⟨s, h⟩) [.tmp 2]).map (finish2 h) := finish_eq Try.f29 _ rfl
@[go_sem] theorem fin_33 (E : Env) (s : Slots) (h : Heap) : finish E Try.f33 ⟨s, h⟩ = (mapO (resultVar E ⟨s, h⟩) [.tmp 4]).map (finish2 h) := finish_eq Try.f33 _ rfl
@[go_sem] theorem fin_34 (E : Env) (s : Slots) (h : Heap) : finish E Try.f34 ⟨s, h⟩ = (mapO (resultVar E ⟨s, h⟩) [.tmp 4]).map (finish2 h) := finish_eq Try.f34 _ rfl
@[go_sem] theorem fin_35 (E : Env) (s : Slots) (h : Heap) : finish E Try.f35 ⟨s, h⟩ = (mapO (resultVar E ⟨s, h⟩) [.cell 2 32]).map (finish2 h) := finish_eq Try.f35 _ rfl
@[go_sem] theorem fin_36 (E : Env) (s : Slots) (h : Heap) : finish E Try.f36 ⟨s, h⟩ = (mapO (resultVar E ⟨s, h⟩) [.tmp 2, .tmp 3]).map (finish2 h) := finish_eq Try.f36 _ rfl
@[go_sem] theorem fin_37 (E : Env) (s : Slots) (h : Heap) : finish E Try.f37 ⟨s, h⟩ = (mapO (resultVar E ⟨s, h⟩) [.tmp 2]).map (finish2 h) := finish_eq Try.f37 _ rfl
@[go_sem] theorem fin_38 (E : Env) (s : Slots) (h : Heap) : finish E Try.f38 ⟨s, h⟩ = (mapO (resultVar E ⟨s, h⟩) [.tmp 6, .tmp 7, .tmp 8]).map (finish2 h) := finish_eq Try.f38 _ rfl
@[go_sem] theorem fin_39 (E : Env) (s : Slots) (h : Heap) : finish E Try.f39 ⟨s, h⟩ = (mapO (resultVar E ⟨s, h⟩) [.tmp 4]).map (finish2 h) := finish_eq Try.f39 _ rfl
@[go_sem] theorem fin_44 (E : Env) (s : Slots) (h : Heap) : finish E Try.f44 ⟨s, h⟩ = (mapO (resultVar E ⟨s, h⟩) [.tmp 2]).map (finish2 h) := finish_eq Try.f44 _ rfl
@[go_sem] theorem fin_52 (E : Env) (s : Slots) (h : Heap) : finish E Try.f52 ⟨s, h⟩ = (mapO (resultVar E ⟨s, h⟩) [.tmp 2]).map (finish2 h) := finish_eq Try.f52 _ rfl
@[go_sem] theorem fin_53 (E : Env) (s : Slots) (h : Heap) : finish E Try.f53 ⟨s, h⟩ = (mapO (resultVar E ⟨s, h⟩) [.tmp 4]).map (finish2 h) := finish_eq Try.f53 _ rfl
@[go_sem] theorem fin_57 (E : Env) (s : Slots) (h : Heap) : finish E Try.f57 ⟨s, h⟩ = (mapO (resultVar E ⟨s, h⟩) [.tmp 4, .tmp 5, .tmp 6]).map (finish2 h) := finish_eq Try.f57 _ rfl
@[go_sem] theorem fin_60 (E : Env) (s : Slots) (h : Heap) : finish E Try.f60 ⟨s, h⟩ = (mapO (resultVar E ⟨s, h⟩) [.tmp 2]).map (finish2 h) := finish_eq Try.f60 _ rfl
@[go_sem] theorem fin_61 (E : Env) (s : Slots) (h : Heap) : finish E Try.f61 ⟨s, h⟩ = (mapO (resultVar E ⟨s, h⟩) [.tmp 4]).map (finish2 h) := finish_eq Try.f61 _ rfl
@[go_sem] theorem fin_67 (E : Env) (s : Slots) (h : Heap) : finish E Try.f67 ⟨s, h⟩ = (mapO (resultVar E ⟨s, h⟩) [.tmp 2]).map (finish2 h) := finish_eq Try.f67 _ rfl
@[go_sem] theorem fin_69 (E : Env) (s : Slots) (h : Heap) : finish E Try.f69 ⟨s, h⟩ = (mapO (resultVar E ⟨s, h⟩) [.cell 2 32]).map (finish2 h) := finish_eq Try.f69 _ rfl
@[go_sem] theorem fin_70 (E : Env) (s : Slots) (h : Heap) : finish E Try.f70 ⟨s, h⟩ = (mapO (resultVar E ⟨s, h⟩) [.tmp 2]).map (finish2 h) := finish_eq Try.f70 _ rfl
@[go_sem] theorem fin_71 (E : Env) (s : Slots) (h : Heap) : finish E Try.f71 ⟨s, h⟩ = (mapO (resultVar E ⟨s, h⟩) [.tmp 2]).map (finish2 h) := finish_eq Try.f71 _ rfl
@[go_sem] theorem fin_72 (E : Env) (s : Slots) (h : Heap) : finish E Try.f72 ⟨s, h⟩ = (mapO (resultVar E ⟨s, h⟩) [.tmp 6, .tmp 7, .tmp 8]).map (finish2 h) := finish_eq Try.f72 _ rfl
@[go_sem] theorem fin_73 (E : Env) (s : Slots) (h : Heap) : finish E Try.f73 ⟨s, h⟩ = (mapO (resultVar E ⟨s, h⟩) [.tmp 6]).map (finish2 h) := finish_eq Try.f73 _ rfl
@[go_sem] theorem fin_74 (E : Env) (s : Slots) (h : Heap) : finish E Try.f74 ⟨s, h⟩ = (mapO (resultVar E ⟨s, h⟩) [.tmp 4]).map (finish2 h) := finish_eq Try.f74 _ rfl
@[go_sem] theorem fin_75 (E : Env) (s : Slots) (h : Heap) : finish E Try.f75 ⟨s, h⟩ = (mapO (resultVar E ⟨s, h⟩) [.tmp 2]).map (finish2 h) := finish_eq Try.f75 _ rfl
@[go_sem] theorem fin_76 (E : Env) (s : Slots) (h : Heap) : finish E Try.f76 ⟨s, h⟩ = (mapO (resultVar E ⟨s, h⟩) [.tmp 2]).map (finish2 h) := finish_eq Try.f76 _ rfl
@[go_sem] theorem fin_77 (E : Env) (s : Slots) (h : Heap) : finish E Try.f77 ⟨s, h⟩ = (mapO (resultVar E ⟨s, h⟩) [.tmp 2]).map (finish2 h) := finish_eq Try.f77 _ rfl
@[go_sem] theorem fin_83 (E : Env) (s : Slots) (h : Heap) : finish E Try.f83 ⟨s, h⟩ = (mapO (resultVar E ⟨s, h⟩) [.tmp 2]).map (finish2 h) := finish_eq Try.f83 _ rfl
@[go_sem] theorem fin_84 (E : Env) (s : Slots) (h : Heap) : finish E Try.f84 ⟨s, h⟩ = (mapO (resultVar E ⟨s, h⟩) [.tmp 2]).map (finish2 h) := finish_eq Try.f84 _ rfl
@[go_sem] theorem fin_85 (E : Env) (s : Slots) (h : Heap) : finish E Try.f85 ⟨s, h⟩ = (mapO (resultVar E ⟨s, h⟩) [.tmp 2]).map (finish2 h) := finish_eq Try.f85 _ rfl
@[go_sem] theorem fin_86 (E : Env) (s : Slots) (h : Heap) : finish E Try.f86 ⟨s, h⟩ = (mapO (resultVar E ⟨s, h⟩) [.tmp 4]).map (finish2 h) := finish_eq Try.f86 _ rfl
@[go_sem] theorem fin_87 (E : Env) (s : Slots) (h : Heap) : finish E Try.f87 ⟨s, h⟩ = (mapO (resultVar E ⟨s, h⟩) [.tmp 4]).map (finish2 h) := finish_eq Try.f87 _ rfl
@[go_sem] theorem fin_88 (E : Env) (s : Slots) (h : Heap) : finish E Try.f88 ⟨s, h⟩ = (mapO (resultVar E ⟨s, h⟩) [.tmp 3]).map (finish2 h) := finish_eq Try.f88 _ rfl
@[go_sem] theorem fin_92 (E : Env) (s : Slots) (h : Heap) : finish E Try.f92 ⟨s, h⟩ = (mapO (resultVar E ⟨s, h⟩) [.tmp 2]).map (finish2 h) := finish_eq Try.f92 _ rfl
@[go_sem] theorem fin_94 (E : Env) (s : Slots) (h : Heap) : finish E Try.f94 ⟨s, h⟩ = (mapO (resultVar E ⟨s, h⟩) [.tmp 2]).map (finish2 h) := finish_eq Try.f94 _ rfl
@[go_sem] theorem fin_97 (E : Env) (s : Slots) (h : Heap) : finish E Try.f97 ⟨s, h⟩ = (mapO (resultVar E ⟨s, h⟩) [.tmp 4]).map (finish2 h) := finish_eq Try.f97 _ rfl
@[go_sem] theorem fin_98 (E : Env) (s : Slots) (h : Heap) : finish E Try.f98 ⟨s, h⟩ = (mapO (resultVar E ⟨s, h⟩) [.cell 4 32]).map (finish2 h) := finish_eq Try.f98 _ rfl
@[go_sem] theorem fin_99 (E : Env) (s : Slots) (h : Heap) : finish E Try.f99 ⟨s, h⟩ = (mapO (resultVar E ⟨s, h⟩) [.tmp 4]).map (finish2 h) := finish_eq Try.f99 _ rfl
@[go_sem] theorem fin_100 (E : Env) (s : Slots) (h : Heap) : finish E Try.f100 ⟨s, h⟩ = (mapO (resultVar E ⟨s, h⟩) [.tmp 6]).map (finish2 h) := finish_eq Try.f100 _ rfl
@[go_sem] theorem fin_101 (E : Env) (s : Slots) (h : Heap) : finish E Try.f101 ⟨s, h⟩ = (mapO (resultVar E ⟨s, h⟩) [.tmp 4]).map (finish2 h) := finish_eq Try.f101 _ rfl
@[go_sem] theorem fin_102 (E : Env) (s : Slots) (h : Heap) : finish E Try.f102 ⟨s, h⟩ = (mapO (resultVar E ⟨s, h⟩) [.tmp 4]).map (finish2 h) := finish_eq Try.f102 _ rfl
@[go_sem] theorem fin_103 (E : Env) (s : Slots) (h : Heap) : finish E Try.f103 ⟨s, h⟩ = (mapO (resultVar E ⟨s, h⟩) [.tmp 4]).map (finish2 h) := finish_eq Try.f103 _ rfl
@[go_sem] theorem fin_104 (E : Env) (s : Slots) (h : Heap) : finish E Try.f104 ⟨s, h⟩ = (mapO (resultVar E ⟨s, h⟩) [.tmp 4]).map (finish2 h) := finish_eq Try.f104 _ rfl
@[go_sem] theorem fin_105 (E : Env) (s : Slots) (h : Heap) : finish E Try.f105 ⟨s, h⟩ = (mapO (resultVar E ⟨s, h⟩) [.tmp 4]).map (finish2 h) := finish_eq Try.f105 _ rfl
@[go_sem] theorem fin_106 (E : Env) (s : Slots) (h : Heap) : finish E Try.f106 ⟨s, h⟩ = (mapO (resultVar E ⟨s, h⟩) [.tmp 2]).map (finish2 h) := finish_eq Try.f106 _ rfl
@[go_sem] theorem fin_107 (E : Env) (s : Slots) (h : Heap) : finish E Try.f107 ⟨s, h⟩ = (mapO (resultVar E ⟨s, h⟩) [.tmp 2]).map (finish2 h) := finish_eq Try.f107 _ rfl
@[go_sem] theorem fin_108 (E : Env) (s : Slots) (h : Heap) : finish E Try.f108 ⟨s, h⟩ = (mapO (resultVar E ⟨s, h⟩) [.tmp 2]).map (finish2 h) := finish_eq Try.f108 _ rfl
@[go_sem] theorem fin_111 (E : Env) (s : Slots) (h : Heap) : finish E Try.f111 ⟨s, h⟩ = (mapO (resultVar E ⟨s, h⟩) [.tmp 4]).map (finish2 h) := finish_eq Try.f111 _ rfl
@[go_sem] theorem fin_112 (E : Env) (s : Slots) (h : Heap) : finish E Try.f112 ⟨s, h⟩ = (mapO (resultVar E ⟨s, h⟩) [.tmp 4]).map (finish2 h) := finish_eq Try.f112 _ rfl
@[go_sem] theorem fin_117 (E : Env) (s : Slots) (h : Heap) : finish E Try.f117 ⟨s, h⟩ = (mapO (resultVar E ⟨s, h⟩) [.cell 2 32]).map (finish2 h) := finish_eq Try.f117 _ rfl
@[go_sem] theorem fin_118 (E : Env) (s : Slots) (h : Heap) : finish E Try.f118 ⟨s, h⟩ = (mapO (resultVar E ⟨s, h⟩) [.cell 2 32]).map (finish2 h) := finish_eq Try.f118 _ rfl
@[go_sem] theorem fin_119 (E : Env) (s : Slots) (h : Heap) : finish E Try.f119 ⟨s, h⟩ = (mapO (resultVar E ⟨s, h⟩) [.cell 2 32]).map (finish2 h) := finish_eq Try.f119 _ rfl
@[go_sem] theorem fin_120 (E : Env) (s : Slots) (h : Heap) : finish E Try.f120 ⟨s, h⟩ = (mapO (resultVar E ⟨s, h⟩) [.cell 2 32]).map (finish2 h) := finish_eq Try.f120 _ rfl
@[go_sem] theorem fin_121 (E : Env) (s : Slots) (h : Heap) : finish E Try.f121 ⟨s, h⟩ = (mapO (resultVar E ⟨s, h⟩) [.cell 4 32]).map (finish2 h) := finish_eq Try.f121 _ rfl
@[go_sem] theorem fin_122 (E : Env) (s : Slots) (h : Heap) : finish E Try.f122 ⟨s, h⟩ = (mapO (resultVar E ⟨s, h⟩) [.tmp 4, .tmp 5]).map (finish2 h) := finish_eq Try.f122 _ rfl
@[go_sem] theorem fin_123 (E : Env) (s : Slots) (h : Heap) : finish E Try.f123 ⟨s, h⟩ = (mapO (resultVar E ⟨s, h⟩) [.tmp 2]).map (finish2 h) := finish_eq Try.f123 _ rfl
@[go_sem] theorem fin_124 (E : Env) (s : Slots) (h : Heap) : finish E Try.f124 ⟨s, h⟩ = (mapO (resultVar E ⟨s, h⟩) [.tmp 4, .tmp 5]).map (finish2 h) := finish_eq Try.f124 _ rfl
@[go_sem] theorem fin_125 (E : Env) (s : Slots) (h : Heap) : finish E Try.f125 ⟨s, h⟩ = (mapO (resultVar E ⟨s, h⟩) [.tmp 2]).map (finish2 h) := finish_eq Try.f125 _ rfl
@[go_sem] theorem fin_127 (E : Env) (s : Slots) (h : Heap) : finish E Try.f127 ⟨s, h⟩ = (mapO (resultVar E ⟨s, h⟩) []).map (finish2 h) := finish_eq Try.f127 _ rfl
@[go_sem] theorem fin_129 (E : Env) (s : Slots) (h : Heap) : finish E Try.f129 ⟨s, h⟩ = (mapO (resultVar E ⟨s, h⟩) [.tmp 4]).map (finish2 h) := finish_eq Try.f129 _ rfl
@[go_sem] theorem fin_130 (E : Env) (s : Slots) (h : Heap) : finish E Try.f130 ⟨s, h⟩ = (mapO (resultVar E ⟨s, h⟩) [.tmp 4]).map (finish2 h) := finish_eq Try.f130 _ rfl
@[go_sem] theorem fin_131 (E : Env) (s : Slots) (h : Heap) : finish E Try.f131 ⟨s, h⟩ = (mapO (resultVar E ⟨s, h⟩) [.tmp 2]).map (finish2 h) := finish_eq Try.f131 _ rfl
@[go_sem] theorem fin_132 (E : Env) (s : Slots) (h : Heap) : finish E Try.f132 ⟨s, h⟩ = (mapO (resultVar E ⟨s, h⟩) [.tmp 4, .tmp 5]).map (finish2 h) := finish_eq Try.f132 _ rfl
@[go_sem] theorem fin_133 (E : Env) (s : Slots) (h : Heap) : finish E Try.f133 ⟨s, h⟩ = (mapO (resultVar E ⟨s, h⟩) [.tmp 4, .tmp 5]).map (finish2 h) := finish_eq Try.f133 _ rfl
@[go_sem] theorem by_8 : pr.byref 8 = [] := rfl
@[go_sem] theorem by_18 : pr.byref 18 = [] := rfl
@[go_sem] theorem by_22 : pr.byref 22 = [] := rfl
@[go_sem] theorem by_27 : pr.byref 27 = [] := rfl
@[go_sem] theorem by_28 : pr.byref 28 = [] := rfl
@[go_sem] theorem by_29 : pr.byref 29 = [] := rfl
@[go_sem] theorem by_33 : pr.byref 33 = [] := rfl
@[go_sem] theorem by_34 : pr.byref 34 = [] := rfl
@[go_sem] theorem by_35 : pr.byref 35 = [] := rfl
@[go_sem] theorem by_36 : pr.byref 36 = [] := rfl
@[go_sem] theorem by_37 : pr.byref 37 = [] := rfl
@[go_sem] theorem by_38 : pr.byref 38 = [] := rfl
@[go_sem] theorem by_39 : pr.byref 39 = [] := rfl
@[go_sem] theorem by_44 : pr.byref 44 = [] := rfl
@[go_sem] theorem by_52 : pr.byref 52 = [] := rfl
@[go_sem] theorem by_53 : pr.byref 53 = [] := rfl
@[go_sem] theorem by_57 : pr.byref 57 = [] := rfl
@[go_sem] theorem by_60 : pr.byref 60 = [] := rfl
@[go_sem] theorem by_61 : pr.byref 61 = [0] := rfl
@[go_sem] theorem by_67 : pr.byref 67 = [] := rfl
@[go_sem] theorem by_69 : pr.byref 69 = [0] := rfl
@[go_sem] theorem by_70 : pr.byref 70 = [] := rfl
@[go_sem] theorem by_71 : pr.byref 71 = [] := rfl
@[go_sem] theorem by_72 : pr.byref 72 = [] := rfl
@[go_sem] theorem by_73 : pr.byref 73 = [] := rfl
@[go_sem] theorem by_74 : pr.byref 74 = [0] := rfl
@[go_sem] theorem by_75 : pr.byref 75 = [] := rfl
@[go_sem] theorem by_76 : pr.byref 76 = [] := rfl
@[go_sem] theorem by_77 : pr.byref 77 = [] := rfl
@[go_sem] theorem by_83 : pr.byref 83 = [] := rfl
@[go_sem] theorem by_84 : pr.byref 84 = [] := rfl
@[go_sem] theorem by_85 : pr.byref 85 = [] := rfl
@[go_sem] theorem by_86 : pr.byref 86 = [] := rfl
@[go_sem] theorem by_87 : pr.byref 87 = [] := rfl
@[go_sem] theorem by_88 : pr.byref 88 = [] := rfl
@[go_sem] theorem by_92 : pr.byref 92 = [] := rfl
@[go_sem] theorem by_94 : pr.byref 94 = [0] := rfl
@[go_sem] theorem by_97 : pr.byref 97 = [0] := rfl
@[go_sem] theorem by_98 : pr.byref 98 = [0] := rfl
@[go_sem] theorem by_99 : pr.byref 99 = [] := rfl
@[go_sem] theorem by_100 : pr.byref 100 = [] := rfl
@[go_sem] theorem by_101 : pr.byref 101 = [] := rfl
@[go_sem] theorem by_102 : pr.byref 102 = [] := rfl
@[go_sem] theorem by_103 : pr.byref 103 = [] := rfl
@[go_sem] theorem by_104 : pr.byref 104 = [] := rfl
@[go_sem] theorem by_105 : pr.byref 105 = [] := rfl
@[go_sem] theorem by_106 : pr.byref 106 = [0] := rfl
@[go_sem] theorem by_107 : pr.byref 107 = [] := rfl
@[go_sem] theorem by_108 : pr.byref 108 = [] := rfl
@[go_sem] theorem by_111 : pr.byref 111 = [] := rfl
@[go_sem] theorem by_112 : pr.byref 112 = [] := rfl
@[go_sem] theorem by_117 : pr.byref 117 = [] := rfl
@[go_sem] theorem by_118 : pr.byref 118 = [] := rfl
@[go_sem] theorem by_119 : pr.byref 119 = [] := rfl
@[go_sem] theorem by_120 : pr.byref 120 = [] := rfl
@[go_sem] theorem by_121 : pr.byref 121 = [] := rfl
@[go_sem] theorem by_122 : pr.byref 122 = [] := rfl
@[go_sem] theorem by_123 : pr.byref 123 = [] := rfl
@[go_sem] theorem by_124 : pr.byref 124 = [] := rfl
@[go_sem] theorem by_125 : pr.byref 125 = [] := rfl
@[go_sem] theorem by_127 : pr.byref 127 = [] := rfl
@[go_sem] theorem by_129 : pr.byref 129 = [] := rfl
@[go_sem] theorem by_130 : pr.byref 130 = [] := rfl
@[go_sem] theorem by_131 : pr.byref 131 = [] := rfl
@[go_sem] theorem by_132 : pr.byref 132 = [] := rfl
@[go_sem] theorem by_133 : pr.byref 133 = [] := rfl
@[go_sem] theorem by_95 : pr.byref 95 = [0] := rfl
@[go_sem] theorem by_96 : pr.byref 96 = [0, 2] := rfl
@[go_sem] theorem by_126 : pr.byref 126 = [0] := rfl
@[go_sem] theorem by_134 : pr.byref 134 = [] := rfl
@[go_sem] theorem pr_tab : pr.tab = tab := rfl
@[go_sem] theorem pr_ty : pr.ty = tyOf := rfl
end Go.Proofs.Ytfooniikopekoaa.PI
