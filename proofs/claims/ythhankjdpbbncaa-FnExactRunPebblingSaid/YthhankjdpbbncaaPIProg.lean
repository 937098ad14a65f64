/- The functions of the program, for the interpreter: printed by a program of the session. -/
import Derived.Test.YthhankjdpbbncaaPITab
namespace Go.Proofs.Ythhankjdpbbncaa.PI
open Go Go.Q
noncomputable def fnL : List (Nat × Func) := [(6, Try.f6), (7, Try.f7), (25, Try.f25), (27, Try.f27), (29, Try.f29), (30, Try.f30), (31, Try.f31), (32, Try.f32), (33, Try.f33), (34, Try.f34), (35, Try.f35), (36, Try.f36), (37, Try.f37), (38, Try.f38), (39, Try.f39), (40, Try.f40), (41, Try.f41), (59, Try.f59), (60, Try.f60), (61, Try.f61), (62, Try.f62), (63, Try.f63), (64, Try.f64), (65, Try.f65), (66, Try.f66), (68, Try.f68), (69, Try.f69), (70, Try.f70), (71, Try.f71), (72, Try.f72), (73, Try.f73), (74, Try.f74), (75, Try.f75), (76, Try.f76), (77, Try.f77), (78, Try.f78), (80, Try.f80), (81, Try.f81), (83, Try.f83), (86, Try.f86), (94, Try.f94), (96, Try.f96), (97, Try.f97), (98, Try.f98), (99, Try.f99), (100, Try.f100), (101, Try.f101), (102, Try.f102), (103, Try.f103), (104, Try.f104), (105, Try.f105), (106, Try.f106), (107, Try.f107), (108, Try.f108), (109, Try.f109), (110, Try.f110), (111, Try.f111), (112, Try.f112), (113, Try.f113), (114, Try.f114), (123, Try.f123), (124, Try.f124), (125, Try.f125), (126, Try.f126), (127, Try.f127), (128, Try.f128)]
def annL : List (Nat × Ann) := [(6, ⟨[(0, [0, 6]), (2, [12, 13, 14]), (3, [15]), (4, [1, 2, 3, 7]), (5, [17, 18, 19]), (6, [7, 20]), (7, [1, 2, 3]), (8, [22, 23, 24, 25, 26, 27]), (9, [28, 29]), (10, [30, 31]), (11, [1, 32, 33, 34, 35]), (12, [8, 11, 36, 37]), (13, [2, 3, 9, 10]), (14, [3, 9, 39, 40, 41, 42]), (15, [2, 10]), (16, [2, 10, 44, 45, 46, 47])], [], []⟩),
  (7, ⟨[(0, [0, 6]), (2, [25, 26, 27]), (3, [28]), (4, [1, 2, 3, 7]), (5, [30, 31, 32]), (6, [7, 33]), (7, [1, 2, 3]), (8, [35, 36, 37, 38, 39, 40, 41, 42, 43, 44, 45]), (9, [46, 47]), (10, [48, 49]), (11, [50, 51, 52, 53, 54, 55, 56, 57, 58]), (12, [59, 60, 61, 62, 63, 64, 65, 66, 67, 68, 69, 70, 71, 72, 73, 74, 75, 76, 77]), (13, [1, 2, 3, 8, 9, 10, 11, 12, 13, 14, 15, 16, 17]), (14, [79, 80, 81, 82]), (15, [1, 2, 3, 8, 9, 10, 11, 12, 13, 14, 15, 16, 17]), (16, [84, 85, 86, 87]), (17, [1, 2, 3, 8, 9, 10, 11, 12, 13, 14, 15, 16, 17]), (19, [12, 89, 90, 91]), (20, [13, 92, 93, 94]), (21, [16, 17, 18, 95, 96, 97, 98, 99, 100, 101, 102, 103, 104, 105, 106, 107, 108, 109, 110, 111, 112, 113, 114, 115, 116, 117]), (22, [1, 2, 3, 8, 9, 10, 11, 14, 15]), (24, [119, 120, 121]), (25, [122, 123, 124]), (27, [125, 126, 127]), (28, [128]), (29, [1, 2, 3, 8, 9, 10, 11, 14, 15, 19, 20]), (30, [130, 131, 132]), (31, [133]), (32, [1, 2, 3, 8, 9, 10, 11, 14, 15, 19, 20]), (33, [20, 135, 136]), (34, [1, 2, 3, 8, 9, 10, 11, 14, 15, 19]), (35, [1, 2, 3, 138, 139, 140, 141, 142, 143, 144, 145, 146, 147, 148]), (36, [8, 9, 10, 11, 21, 22, 23, 24, 149, 150, 151, 152, 153, 154, 155, 156, 157, 158, 159, 160, 161, 162, 163, 164, 165, 166, 167]), (37, [14, 15, 19]), (39, [14, 169, 170, 171]), (40, [172]), (41, [15, 19, 20]), (42, [15, 174, 175, 176]), (43, [177]), (44, [19, 20]), (45, [19, 20, 179, 180])], [], []⟩),
  (25, ⟨[(0, [0, 4]), (1, [2, 5, 6, 7, 8]), (2, [9]), (3, [1]), (4, [1, 11])], [], []⟩),
  (27, ⟨[(0, [0]), (2, [1, 4, 5, 6, 7]), (3, [3, 8])], [], []⟩),
  (29, ⟨[(0, [0, 1, 4]), (1, [2, 3, 5, 6, 7, 8, 9])], [], []⟩),
  (30, ⟨[(0, [4]), (1, [0, 5, 6, 7, 8]), (2, [9]), (3, [1]), (4, [1, 11])], [], []⟩),
  (31, ⟨[(0, [0, 6]), (1, [11, 12, 13, 14, 15, 16, 17, 18, 19, 20, 21]), (2, [1, 2, 3]), (3, [1, 2, 7, 9, 23, 24, 25, 26, 27, 28, 29, 30]), (4, [3, 8, 10, 31, 32, 33, 34, 35, 36, 37])], [], []⟩),
  (32, ⟨[(0, [2]), (1, [5, 6, 7]), (3, [8, 9, 10]), (4, [12, 13]), (5, [14, 15, 16, 17, 18, 19, 20, 21]), (6, [0, 3, 4, 22])], [], []⟩),
  (33, ⟨[(0, [0, 6]), (1, [1, 2, 8, 10, 11, 12, 13, 14, 15, 16, 17]), (2, [3, 7, 9, 18, 19, 20, 21, 22, 23])], [], []⟩),
  (34, ⟨[(0, [4]), (1, [6, 7, 8, 9]), (2, [0, 1]), (4, [11, 12, 13]), (5, [15, 16]), (6, [17, 18, 19, 20, 21, 22, 23, 24, 25]), (7, [0, 1, 5]), (8, [0, 1, 5])], [], []⟩),
  (35, ⟨[(0, [0, 6, 7, 8, 9]), (1, [14, 15, 16, 17, 18, 19, 20, 21, 22, 23, 24]), (2, [1, 2, 3]), (3, [1, 2, 3, 26, 27, 28, 29, 30, 31, 32, 33]), (4, [13, 34]), (5, [10, 11, 12]), (6, [10, 11, 12, 36, 37, 38, 39, 40])], [], []⟩),
  (36, ⟨[(0, [0, 6, 7, 8, 9]), (1, [1, 2, 3, 13, 14, 15, 16, 17, 18, 19, 20]), (2, [12, 21]), (3, [10, 11]), (4, [10, 11, 23, 24, 25, 26, 27, 28, 29])], [(4, [0, 1, 3, 4, 6, 2, 5, 7, 8, 9, 10])], []⟩),
  (37, ⟨[(0, [4]), (1, [6, 7, 8, 9]), (2, [0, 1]), (4, [11, 12, 13]), (5, [15, 16]), (6, [17, 18, 19, 20, 21, 22, 23, 24]), (7, [0, 1, 5]), (8, [0, 1, 5])], [], []⟩),
  (38, ⟨[(0, [0, 4]), (1, [2, 5, 6, 7, 8]), (2, [1, 9])], [], []⟩),
  (39, ⟨[(0, [4]), (2, [6, 7, 8]), (3, [10, 11]), (4, [12, 13, 14, 15, 16]), (5, [17, 18]), (6, [19, 20, 21, 22, 23]), (7, [24, 25]), (8, [0, 1, 5, 26])], [], []⟩),
  (40, ⟨[(0, [4]), (2, [6, 7, 8]), (3, [10, 11]), (4, [12, 13, 14, 15]), (5, [16, 17]), (6, [0, 1, 5, 18])], [], []⟩),
  (41, ⟨[(0, [4]), (2, [6, 7, 8]), (3, [10, 11]), (4, [12, 13, 14, 15, 16]), (5, [0, 1, 5]), (6, [18, 19]), (7, [0, 1, 5, 20])], [], []⟩),
  (59, ⟨[(0, [0, 2]), (1, [5, 6, 7, 8]), (2, [1]), (3, [1, 10]), (5, [15, 16, 17]), (6, [3, 4, 18, 19, 20, 21, 22, 23, 24, 25, 26]), (7, [11, 12, 13]), (8, [28]), (9, [11, 12, 13])], [], []⟩),
  (60, ⟨[(0, [0, 2]), (1, [1, 3, 4, 5])], [], []⟩),
  (61, ⟨[(0, [0, 2]), (1, [1, 3, 4, 5])], [], []⟩),
  (62, ⟨[(0, [2]), (2, [0]), (4, [10, 11]), (5, [5, 12, 13, 14, 15]), (6, [16]), (7, [3, 6, 7, 8, 17])], [], []⟩),
  (63, ⟨[(0, [2]), (1, [0, 3, 4])], [], []⟩),
  (64, ⟨[(0, [0, 2]), (1, [1, 3, 4, 5])], [], []⟩),
  (65, ⟨[(0, [4]), (1, [6, 7, 8, 9]), (2, [10]), (3, [0, 1]), (5, [12, 13, 14]), (6, [16, 17]), (7, [18, 19, 20, 21, 22, 23]), (8, [24]), (9, [0, 1, 5]), (10, [0, 1, 5, 26])], [], []⟩),
  (66, ⟨[(0, [2]), (1, [5, 6, 7, 8, 9]), (2, [10, 11, 12, 13, 14]), (3, [0, 3]), (5, [16, 17]), (6, [19, 20]), (7, [21, 22, 23, 24, 25, 26, 27, 28, 29, 30]), (8, [0, 3, 4]), (9, [0, 3, 4])], [], []⟩),
  (68, ⟨[(0, [2]), (1, [5, 6, 7]), (3, [8, 9, 10]), (4, [12, 13]), (5, [14, 15, 16, 17, 18, 19, 20, 21]), (6, [0, 3, 4, 22])], [], []⟩),
  (69, ⟨[(0, [4]), (1, [6, 7, 8, 9]), (2, [0, 1]), (4, [11, 12, 13]), (5, [15, 16]), (6, [17, 18, 19, 20, 21, 22, 23, 24, 25]), (7, [0, 1, 5]), (8, [0, 1, 5])], [], []⟩),
  (70, ⟨[(0, [2]), (1, [0, 3, 4])], [], []⟩),
  (71, ⟨[(0, [6, 7, 8, 9]), (2, [17, 18]), (5, [19, 20, 21]), (6, [23, 24]), (7, [10, 11, 25, 26, 27, 28, 29, 30, 31, 32, 33, 34, 35, 36, 37]), (8, [16, 38]), (9, [0, 1, 2, 12, 13, 14, 15]), (10, [14, 40]), (11, [15, 41]), (12, [42, 43, 44, 45, 46, 47, 48, 49, 50, 51, 52, 53, 54]), (13, [56, 57]), (14, [0, 1, 2, 10, 11, 12, 13, 58, 59, 60])], [], []⟩),
  (72, ⟨[(0, [2]), (1, [6, 7, 8, 9, 10, 11, 12, 13]), (3, [14, 15, 16, 17, 18, 19]), (4, [5, 21, 22]), (6, [23, 24, 25, 26, 27, 28, 29, 30, 31]), (7, [33, 34]), (8, [35, 36, 37, 38, 39, 40, 41, 42, 43, 44, 45, 46, 47, 48]), (9, [0, 3, 4, 49])], [], []⟩),
  (73, ⟨[(0, [0]), (2, [4, 5, 6]), (3, [1, 7, 8, 9]), (4, [3, 10])], [], []⟩),
  (74, ⟨[(0, [0, 7, 8]), (1, [15, 16, 17, 18, 19, 20, 21, 22]), (2, [1, 2, 3, 24]), (3, [25, 26]), (4, [2]), (6, [31, 32]), (7, [33, 34, 35, 36, 37, 38, 39, 40]), (8, [14, 41]), (9, [1, 3, 9, 10, 12, 13, 27, 28, 29, 43]), (10, [12, 44]), (11, [46, 47]), (12, [13, 48]), (13, [49]), (14, [1, 3, 9, 10, 27, 28, 29, 50, 51])], [], []⟩),
  (75, ⟨[(0, [0, 1, 4]), (1, [2, 6, 7, 8]), (2, [3, 5, 9, 10, 11, 12, 13, 14])], [], []⟩),
  (76, ⟨[(0, [0, 1, 4]), (1, [5, 6, 7, 8]), (2, [2, 3]), (3, [2, 3, 10, 11, 12, 13])], [], []⟩),
  (77, ⟨[(0, [2]), (1, [5]), (3, [6]), (4, [8, 9]), (5, [10, 11, 12, 13, 14]), (6, [16, 17, 18, 19]), (7, [0, 3, 4, 20])], [], []⟩),
  (78, ⟨[(0, [4]), (2, [6, 7, 8]), (3, [10, 11]), (4, [12, 13, 14, 15, 16, 17]), (5, [0, 1, 5, 18])], [], []⟩),
  (80, ⟨[(0, [2]), (3, [5, 6, 7, 8, 9, 10]), (4, [12, 13]), (5, [14, 15, 16, 17, 18, 19, 20, 21]), (6, [23, 24, 25, 26, 27]), (7, [0, 3, 4, 28])], [], []⟩),
  (81, ⟨[(0, [0]), (1, [1, 3, 4, 5, 6])], [], []⟩),
  (83, ⟨[(0, [0, 1, 3, 9]), (1, [13, 14, 15, 16, 17, 18, 19]), (2, [2, 4, 5, 7, 21]), (3, [22, 23, 24, 25]), (4, [26]), (5, [2, 5, 10, 11, 28]), (6, [30]), (7, [4, 7, 27, 31, 32, 33, 34]), (8, [2, 5, 10, 11, 36]), (9, [10, 37, 38, 39, 40, 41]), (10, [43]), (11, [4, 7, 27, 44, 45, 46, 47]), (12, [2, 5, 10, 11, 49]), (13, [10, 50, 51, 52, 53, 54]), (14, [56]), (15, [4, 7, 27, 57, 58, 59, 60, 61, 62, 63]), (16, [12, 64, 65, 66, 67, 68, 69, 70, 71, 72]), (17, [2, 5, 10, 11, 74]), (18, [10, 75, 76, 77, 78, 79]), (19, [4, 7, 27, 81]), (20, [10, 82, 83, 84, 85, 86]), (21, [2, 5, 11, 87, 88, 89, 90, 91, 92, 93, 94, 95, 96, 97, 98])], [(21, [0, 1, 2, 3, 4, 5, 6, 9, 7, 8, 10, 11, 12, 13])], []⟩),
  (86, ⟨[(0, [4, 10, 11, 12]), (1, [17, 18, 19, 20, 21, 22, 23, 24, 25]), (2, [0, 1, 2, 3, 9]), (3, [27, 28, 29, 30]), (4, [31, 32, 33, 34]), (5, [35, 36, 37, 38]), (6, [39]), (7, [1, 2, 3, 13, 14]), (8, [42]), (9, [0, 9, 14, 15, 40, 43, 44, 45, 46]), (10, [1, 2, 3, 13]), (11, [13, 48, 49, 50]), (12, [52]), (13, [0, 9, 14, 15, 40, 53, 54, 55, 56]), (14, [1, 2, 3, 13]), (15, [13, 58, 59, 60]), (16, [15, 62]), (17, [14, 40, 63, 64, 65, 66, 67, 68, 69, 70, 71, 72, 73, 74]), (18, [0, 1, 2, 3, 9, 13]), (20, [76, 77, 78, 79, 80, 81, 82, 83, 84, 85]), (21, [87, 88]), (22, [89, 90, 91, 92, 93, 94, 95, 96, 97, 98, 99, 100, 101, 102, 103]), (23, [0, 1, 2, 3, 9, 13, 16]), (24, [0, 9, 13, 16, 105, 106, 107]), (25, [0, 9, 40, 109]), (26, [14, 110]), (27, [1, 2, 3, 13]), (28, [13, 112, 113, 114]), (29, [1, 2, 3, 115, 116, 117, 118, 119, 120])], [], []⟩),
  (94, ⟨[(0, [0, 4]), (1, [1, 2, 5, 6, 7, 8, 9, 10])], [], []⟩),
  (96, ⟨[(0, [6]), (1, [0, 1, 2, 7, 8, 9, 10, 11, 12, 13, 14])], [], []⟩),
  (97, ⟨[(0, [2]), (1, [0, 3, 4])], [], []⟩),
  (98, ⟨[(0, [1, 2, 6]), (1, [0, 4, 5, 7, 8, 9, 10])], [], []⟩),
  (99, ⟨[(0, [2]), (2, [4, 5, 6]), (3, [8, 9]), (4, [10, 11, 12, 13, 14, 15, 16, 17, 18]), (5, [0, 3]), (6, [0, 3])], [], []⟩),
  (100, ⟨[(0, [0, 1, 4]), (1, [2, 3, 5, 6, 7, 8, 9, 10])], [], []⟩),
  (101, ⟨[(0, [3]), (1, [0, 1, 4, 5, 6, 7, 8, 9, 10])], [], []⟩),
  (102, ⟨[(0, [0, 3]), (1, [1, 2, 4, 5, 6, 7, 8])], [], []⟩),
  (103, ⟨[(0, [4]), (1, [0, 1, 5, 6, 7, 8])], [], []⟩),
  (104, ⟨[(0, [3]), (1, [0, 1, 4, 5, 6])], [], []⟩),
  (105, ⟨[(0, [4]), (1, [0, 1, 5, 6, 7, 8])], [], []⟩),
  (106, ⟨[(0, [4]), (1, [8, 9, 10]), (2, [11]), (3, [0, 1, 5, 13]), (4, [14, 15]), (5, [16, 17, 18]), (6, [7, 20, 21]), (7, [22, 23, 24, 25]), (8, [26, 27, 28]), (9, [7, 30, 31, 32, 33]), (10, [34, 35]), (11, [1, 6, 36, 37, 38]), (12, [0, 5, 39, 40, 41])], [], []⟩),
  (107, ⟨[(0, [2]), (1, [5]), (2, [0]), (4, [9]), (5, [4, 10, 11, 12, 13]), (6, [14]), (7, [3, 6, 7, 15])], [], []⟩),
  (108, ⟨[(0, [3]), (1, [0, 1, 4, 5, 6, 7, 8])], [], []⟩),
  (109, ⟨[(0, [4]), (1, [0, 5, 6, 7, 8]), (2, [9]), (3, [1]), (4, [1, 11])], [], []⟩),
  (110, ⟨[(0, [6]), (2, [8, 9, 10]), (3, [12, 13]), (4, [14, 15, 16, 17, 18, 19, 20, 21, 22, 23, 24, 25, 26, 27, 28, 29, 30, 31, 32, 33, 34, 35, 36]), (5, [0, 1, 2, 7]), (6, [0, 1, 2, 7])], [], []⟩),
  (111, ⟨[(0, [2]), (1, [5, 6, 7]), (3, [8, 9, 10]), (4, [12, 13]), (5, [14, 15, 16, 17, 18, 19, 20]), (6, [0, 3, 4, 21])], [], []⟩),
  (112, ⟨[(0, [6]), (1, [0, 1, 2, 7, 8, 9, 10, 11, 12, 13, 14])], [], []⟩),
  (113, ⟨[(0, [0, 2]), (1, [1, 3, 4, 5, 6, 7, 8, 9, 10])], [], []⟩),
  (114, ⟨[(0, [2]), (2, [4]), (3, [6, 7, 8, 9]), (4, [10, 11]), (5, [0, 3, 12])], [], []⟩),
  (123, ⟨[(0, [4]), (1, [0, 1, 5, 6, 7, 8])], [], []⟩),
  (124, ⟨[(0, [4]), (1, [0, 1, 2, 5, 6, 7, 8, 9])], [], []⟩),
  (125, ⟨[(0, [3]), (1, [0, 1, 4, 5, 6, 7])], [], []⟩),
  (126, ⟨[(0, [4]), (1, [6]), (3, [10]), (4, [11, 12, 13, 14, 15]), (5, [0, 1, 5, 7, 8, 17]), (6, [5, 18]), (7, [0, 1, 7, 8])], [], []⟩),
  (127, ⟨[(0, [4]), (1, [6]), (3, [10]), (4, [11, 12, 13, 14, 15]), (5, [0, 1, 5, 7, 8, 17]), (6, [5, 18]), (7, [0, 1, 7, 8])], [], []⟩),
  (128, ⟨[(0, [4]), (1, [6]), (3, [10]), (4, [11, 12, 13, 14, 15]), (5, [0, 1, 5, 7, 8, 17]), (6, [5, 18]), (7, [0, 1, 7, 8])], [], []⟩)]
def given (_ : Nat) (_ : List AV) (_ : Heap) : Option (AV × Heap) := none
theorem givenOK : CallOK Try.prog given := fun _ _ _ _ h => by cases h
noncomputable def pr : Prog := ⟨tab, tyOf, by_, lookT fnL, fun f => (lookT annL f).getD ⟨[], [], []⟩, given⟩
theorem fns : ∀ x ∈ fnL, Try.prog.funcs[x.1]? = some x.2 ∧ fnOkB pr x.1 = true := by
  unfold fnL
  simp only [List.forall_mem_cons, List.not_mem_nil, false_implies, implies_true, and_true]
  exact ⟨⟨Try.func6, by kernel_rfl⟩, ⟨Try.func7, by kernel_rfl⟩, ⟨Try.func25, by kernel_rfl⟩, ⟨Try.func27, by kernel_rfl⟩, ⟨Try.func29, by kernel_rfl⟩, ⟨Try.func30, by kernel_rfl⟩, ⟨Try.func31, by kernel_rfl⟩, ⟨Try.func32, by kernel_rfl⟩, ⟨Try.func33, by kernel_rfl⟩, ⟨Try.func34, by kernel_rfl⟩, ⟨Try.func35, by kernel_rfl⟩, ⟨Try.func36, by kernel_rfl⟩, ⟨Try.func37, by kernel_rfl⟩, ⟨Try.func38, by kernel_rfl⟩, ⟨Try.func39, by kernel_rfl⟩, ⟨Try.func40, by kernel_rfl⟩, ⟨Try.func41, by kernel_rfl⟩, ⟨Try.func59, by kernel_rfl⟩, ⟨Try.func60, by kernel_rfl⟩, ⟨Try.func61, by kernel_rfl⟩, ⟨Try.func62, by kernel_rfl⟩, ⟨Try.func63, by kernel_rfl⟩, ⟨Try.func64, by kernel_rfl⟩, ⟨Try.func65, by kernel_rfl⟩, ⟨Try.func66, by kernel_rfl⟩, ⟨Try.func68, by kernel_rfl⟩, ⟨Try.func69, by kernel_rfl⟩, ⟨Try.func70, by kernel_rfl⟩, ⟨Try.func71, by kernel_rfl⟩, ⟨Try.func72, by kernel_rfl⟩, ⟨Try.func73, by kernel_rfl⟩, ⟨Try.func74, by kernel_rfl⟩, ⟨Try.func75, by kernel_rfl⟩, ⟨Try.func76, by kernel_rfl⟩, ⟨Try.func77, by kernel_rfl⟩, ⟨Try.func78, by kernel_rfl⟩, ⟨Try.func80, by kernel_rfl⟩, ⟨Try.func81, by kernel_rfl⟩, ⟨Try.func83, by kernel_rfl⟩, ⟨Try.func86, by kernel_rfl⟩, ⟨Try.func94, by kernel_rfl⟩, ⟨Try.func96, by kernel_rfl⟩, ⟨Try.func97, by kernel_rfl⟩, ⟨Try.func98, by kernel_rfl⟩, ⟨Try.func99, by kernel_rfl⟩, ⟨Try.func100, by kernel_rfl⟩, ⟨Try.func101, by kernel_rfl⟩, ⟨Try.func102, by kernel_rfl⟩, ⟨Try.func103, by kernel_rfl⟩, ⟨Try.func104, by kernel_rfl⟩, ⟨Try.func105, by kernel_rfl⟩, ⟨Try.func106, by kernel_rfl⟩, ⟨Try.func107, by kernel_rfl⟩, ⟨Try.func108, by kernel_rfl⟩, ⟨Try.func109, by kernel_rfl⟩, ⟨Try.func110, by kernel_rfl⟩, ⟨Try.func111, by kernel_rfl⟩, ⟨Try.func112, by kernel_rfl⟩, ⟨Try.func113, by kernel_rfl⟩, ⟨Try.func114, by kernel_rfl⟩, ⟨Try.func123, by kernel_rfl⟩, ⟨Try.func124, by kernel_rfl⟩, ⟨Try.func125, by kernel_rfl⟩, ⟨Try.func126, by kernel_rfl⟩, ⟨Try.func127, by kernel_rfl⟩, ⟨Try.func128, by kernel_rfl⟩⟩
theorem fn_6 : pr.fn 6 = some Try.f6 := rfl
theorem ann_6 : pr.ann 6 = ⟨[(0, [0, 6]), (2, [12, 13, 14]), (3, [15]), (4, [1, 2, 3, 7]), (5, [17, 18, 19]), (6, [7, 20]), (7, [1, 2, 3]), (8, [22, 23, 24, 25, 26, 27]), (9, [28, 29]), (10, [30, 31]), (11, [1, 32, 33, 34, 35]), (12, [8, 11, 36, 37]), (13, [2, 3, 9, 10]), (14, [3, 9, 39, 40, 41, 42]), (15, [2, 10]), (16, [2, 10, 44, 45, 46, 47])], [], []⟩ := rfl
theorem fn_7 : pr.fn 7 = some Try.f7 := rfl
theorem ann_7 : pr.ann 7 = ⟨[(0, [0, 6]), (2, [25, 26, 27]), (3, [28]), (4, [1, 2, 3, 7]), (5, [30, 31, 32]), (6, [7, 33]), (7, [1, 2, 3]), (8, [35, 36, 37, 38, 39, 40, 41, 42, 43, 44, 45]), (9, [46, 47]), (10, [48, 49]), (11, [50, 51, 52, 53, 54, 55, 56, 57, 58]), (12, [59, 60, 61, 62, 63, 64, 65, 66, 67, 68, 69, 70, 71, 72, 73, 74, 75, 76, 77]), (13, [1, 2, 3, 8, 9, 10, 11, 12, 13, 14, 15, 16, 17]), (14, [79, 80, 81, 82]), (15, [1, 2, 3, 8, 9, 10, 11, 12, 13, 14, 15, 16, 17]), (16, [84, 85, 86, 87]), (17, [1, 2, 3, 8, 9, 10, 11, 12, 13, 14, 15, 16, 17]), (19, [12, 89, 90, 91]), (20, [13, 92, 93, 94]), (21, [16, 17, 18, 95, 96, 97, 98, 99, 100, 101, 102, 103, 104, 105, 106, 107, 108, 109, 110, 111, 112, 113, 114, 115, 116, 117]), (22, [1, 2, 3, 8, 9, 10, 11, 14, 15]), (24, [119, 120, 121]), (25, [122, 123, 124]), (27, [125, 126, 127]), (28, [128]), (29, [1, 2, 3, 8, 9, 10, 11, 14, 15, 19, 20]), (30, [130, 131, 132]), (31, [133]), (32, [1, 2, 3, 8, 9, 10, 11, 14, 15, 19, 20]), (33, [20, 135, 136]), (34, [1, 2, 3, 8, 9, 10, 11, 14, 15, 19]), (35, [1, 2, 3, 138, 139, 140, 141, 142, 143, 144, 145, 146, 147, 148]), (36, [8, 9, 10, 11, 21, 22, 23, 24, 149, 150, 151, 152, 153, 154, 155, 156, 157, 158, 159, 160, 161, 162, 163, 164, 165, 166, 167]), (37, [14, 15, 19]), (39, [14, 169, 170, 171]), (40, [172]), (41, [15, 19, 20]), (42, [15, 174, 175, 176]), (43, [177]), (44, [19, 20]), (45, [19, 20, 179, 180])], [], []⟩ := rfl
theorem fn_25 : pr.fn 25 = some Try.f25 := rfl
theorem ann_25 : pr.ann 25 = ⟨[(0, [0, 4]), (1, [2, 5, 6, 7, 8]), (2, [9]), (3, [1]), (4, [1, 11])], [], []⟩ := rfl
theorem fn_27 : pr.fn 27 = some Try.f27 := rfl
theorem ann_27 : pr.ann 27 = ⟨[(0, [0]), (2, [1, 4, 5, 6, 7]), (3, [3, 8])], [], []⟩ := rfl
theorem fn_29 : pr.fn 29 = some Try.f29 := rfl
theorem ann_29 : pr.ann 29 = ⟨[(0, [0, 1, 4]), (1, [2, 3, 5, 6, 7, 8, 9])], [], []⟩ := rfl
theorem fn_30 : pr.fn 30 = some Try.f30 := rfl
theorem ann_30 : pr.ann 30 = ⟨[(0, [4]), (1, [0, 5, 6, 7, 8]), (2, [9]), (3, [1]), (4, [1, 11])], [], []⟩ := rfl
theorem fn_31 : pr.fn 31 = some Try.f31 := rfl
theorem ann_31 : pr.ann 31 = ⟨[(0, [0, 6]), (1, [11, 12, 13, 14, 15, 16, 17, 18, 19, 20, 21]), (2, [1, 2, 3]), (3, [1, 2, 7, 9, 23, 24, 25, 26, 27, 28, 29, 30]), (4, [3, 8, 10, 31, 32, 33, 34, 35, 36, 37])], [], []⟩ := rfl
theorem fn_32 : pr.fn 32 = some Try.f32 := rfl
theorem ann_32 : pr.ann 32 = ⟨[(0, [2]), (1, [5, 6, 7]), (3, [8, 9, 10]), (4, [12, 13]), (5, [14, 15, 16, 17, 18, 19, 20, 21]), (6, [0, 3, 4, 22])], [], []⟩ := rfl
theorem fn_33 : pr.fn 33 = some Try.f33 := rfl
theorem ann_33 : pr.ann 33 = ⟨[(0, [0, 6]), (1, [1, 2, 8, 10, 11, 12, 13, 14, 15, 16, 17]), (2, [3, 7, 9, 18, 19, 20, 21, 22, 23])], [], []⟩ := rfl
theorem fn_34 : pr.fn 34 = some Try.f34 := rfl
theorem ann_34 : pr.ann 34 = ⟨[(0, [4]), (1, [6, 7, 8, 9]), (2, [0, 1]), (4, [11, 12, 13]), (5, [15, 16]), (6, [17, 18, 19, 20, 21, 22, 23, 24, 25]), (7, [0, 1, 5]), (8, [0, 1, 5])], [], []⟩ := rfl
theorem fn_35 : pr.fn 35 = some Try.f35 := rfl
theorem ann_35 : pr.ann 35 = ⟨[(0, [0, 6, 7, 8, 9]), (1, [14, 15, 16, 17, 18, 19, 20, 21, 22, 23, 24]), (2, [1, 2, 3]), (3, [1, 2, 3, 26, 27, 28, 29, 30, 31, 32, 33]), (4, [13, 34]), (5, [10, 11, 12]), (6, [10, 11, 12, 36, 37, 38, 39, 40])], [], []⟩ := rfl
theorem fn_36 : pr.fn 36 = some Try.f36 := rfl
theorem ann_36 : pr.ann 36 = ⟨[(0, [0, 6, 7, 8, 9]), (1, [1, 2, 3, 13, 14, 15, 16, 17, 18, 19, 20]), (2, [12, 21]), (3, [10, 11]), (4, [10, 11, 23, 24, 25, 26, 27, 28, 29])], [(4, [0, 1, 3, 4, 6, 2, 5, 7, 8, 9, 10])], []⟩ := rfl
theorem fn_37 : pr.fn 37 = some Try.f37 := rfl
theorem ann_37 : pr.ann 37 = ⟨[(0, [4]), (1, [6, 7, 8, 9]), (2, [0, 1]), (4, [11, 12, 13]), (5, [15, 16]), (6, [17, 18, 19, 20, 21, 22, 23, 24]), (7, [0, 1, 5]), (8, [0, 1, 5])], [], []⟩ := rfl
theorem fn_38 : pr.fn 38 = some Try.f38 := rfl
theorem ann_38 : pr.ann 38 = ⟨[(0, [0, 4]), (1, [2, 5, 6, 7, 8]), (2, [1, 9])], [], []⟩ := rfl
theorem fn_39 : pr.fn 39 = some Try.f39 := rfl
theorem ann_39 : pr.ann 39 = ⟨[(0, [4]), (2, [6, 7, 8]), (3, [10, 11]), (4, [12, 13, 14, 15, 16]), (5, [17, 18]), (6, [19, 20, 21, 22, 23]), (7, [24, 25]), (8, [0, 1, 5, 26])], [], []⟩ := rfl
theorem fn_40 : pr.fn 40 = some Try.f40 := rfl
theorem ann_40 : pr.ann 40 = ⟨[(0, [4]), (2, [6, 7, 8]), (3, [10, 11]), (4, [12, 13, 14, 15]), (5, [16, 17]), (6, [0, 1, 5, 18])], [], []⟩ := rfl
theorem fn_41 : pr.fn 41 = some Try.f41 := rfl
theorem ann_41 : pr.ann 41 = ⟨[(0, [4]), (2, [6, 7, 8]), (3, [10, 11]), (4, [12, 13, 14, 15, 16]), (5, [0, 1, 5]), (6, [18, 19]), (7, [0, 1, 5, 20])], [], []⟩ := rfl
theorem fn_59 : pr.fn 59 = some Try.f59 := rfl
theorem ann_59 : pr.ann 59 = ⟨[(0, [0, 2]), (1, [5, 6, 7, 8]), (2, [1]), (3, [1, 10]), (5, [15, 16, 17]), (6, [3, 4, 18, 19, 20, 21, 22, 23, 24, 25, 26]), (7, [11, 12, 13]), (8, [28]), (9, [11, 12, 13])], [], []⟩ := rfl
theorem fn_60 : pr.fn 60 = some Try.f60 := rfl
theorem ann_60 : pr.ann 60 = ⟨[(0, [0, 2]), (1, [1, 3, 4, 5])], [], []⟩ := rfl
theorem fn_61 : pr.fn 61 = some Try.f61 := rfl
theorem ann_61 : pr.ann 61 = ⟨[(0, [0, 2]), (1, [1, 3, 4, 5])], [], []⟩ := rfl
theorem fn_62 : pr.fn 62 = some Try.f62 := rfl
theorem ann_62 : pr.ann 62 = ⟨[(0, [2]), (2, [0]), (4, [10, 11]), (5, [5, 12, 13, 14, 15]), (6, [16]), (7, [3, 6, 7, 8, 17])], [], []⟩ := rfl
theorem fn_63 : pr.fn 63 = some Try.f63 := rfl
theorem ann_63 : pr.ann 63 = ⟨[(0, [2]), (1, [0, 3, 4])], [], []⟩ := rfl
theorem fn_64 : pr.fn 64 = some Try.f64 := rfl
theorem ann_64 : pr.ann 64 = ⟨[(0, [0, 2]), (1, [1, 3, 4, 5])], [], []⟩ := rfl
theorem fn_65 : pr.fn 65 = some Try.f65 := rfl
theorem ann_65 : pr.ann 65 = ⟨[(0, [4]), (1, [6, 7, 8, 9]), (2, [10]), (3, [0, 1]), (5, [12, 13, 14]), (6, [16, 17]), (7, [18, 19, 20, 21, 22, 23]), (8, [24]), (9, [0, 1, 5]), (10, [0, 1, 5, 26])], [], []⟩ := rfl
theorem fn_66 : pr.fn 66 = some Try.f66 := rfl
theorem ann_66 : pr.ann 66 = ⟨[(0, [2]), (1, [5, 6, 7, 8, 9]), (2, [10, 11, 12, 13, 14]), (3, [0, 3]), (5, [16, 17]), (6, [19, 20]), (7, [21, 22, 23, 24, 25, 26, 27, 28, 29, 30]), (8, [0, 3, 4]), (9, [0, 3, 4])], [], []⟩ := rfl
theorem fn_68 : pr.fn 68 = some Try.f68 := rfl
theorem ann_68 : pr.ann 68 = ⟨[(0, [2]), (1, [5, 6, 7]), (3, [8, 9, 10]), (4, [12, 13]), (5, [14, 15, 16, 17, 18, 19, 20, 21]), (6, [0, 3, 4, 22])], [], []⟩ := rfl
theorem fn_69 : pr.fn 69 = some Try.f69 := rfl
theorem ann_69 : pr.ann 69 = ⟨[(0, [4]), (1, [6, 7, 8, 9]), (2, [0, 1]), (4, [11, 12, 13]), (5, [15, 16]), (6, [17, 18, 19, 20, 21, 22, 23, 24, 25]), (7, [0, 1, 5]), (8, [0, 1, 5])], [], []⟩ := rfl
theorem fn_70 : pr.fn 70 = some Try.f70 := rfl
theorem ann_70 : pr.ann 70 = ⟨[(0, [2]), (1, [0, 3, 4])], [], []⟩ := rfl
theorem fn_71 : pr.fn 71 = some Try.f71 := rfl
theorem ann_71 : pr.ann 71 = ⟨[(0, [6, 7, 8, 9]), (2, [17, 18]), (5, [19, 20, 21]), (6, [23, 24]), (7, [10, 11, 25, 26, 27, 28, 29, 30, 31, 32, 33, 34, 35, 36, 37]), (8, [16, 38]), (9, [0, 1, 2, 12, 13, 14, 15]), (10, [14, 40]), (11, [15, 41]), (12, [42, 43, 44, 45, 46, 47, 48, 49, 50, 51, 52, 53, 54]), (13, [56, 57]), (14, [0, 1, 2, 10, 11, 12, 13, 58, 59, 60])], [], []⟩ := rfl
theorem fn_72 : pr.fn 72 = some Try.f72 := rfl
theorem ann_72 : pr.ann 72 = ⟨[(0, [2]), (1, [6, 7, 8, 9, 10, 11, 12, 13]), (3, [14, 15, 16, 17, 18, 19]), (4, [5, 21, 22]), (6, [23, 24, 25, 26, 27, 28, 29, 30, 31]), (7, [33, 34]), (8, [35, 36, 37, 38, 39, 40, 41, 42, 43, 44, 45, 46, 47, 48]), (9, [0, 3, 4, 49])], [], []⟩ := rfl
theorem fn_73 : pr.fn 73 = some Try.f73 := rfl
theorem ann_73 : pr.ann 73 = ⟨[(0, [0]), (2, [4, 5, 6]), (3, [1, 7, 8, 9]), (4, [3, 10])], [], []⟩ := rfl
theorem fn_74 : pr.fn 74 = some Try.f74 := rfl
theorem ann_74 : pr.ann 74 = ⟨[(0, [0, 7, 8]), (1, [15, 16, 17, 18, 19, 20, 21, 22]), (2, [1, 2, 3, 24]), (3, [25, 26]), (4, [2]), (6, [31, 32]), (7, [33, 34, 35, 36, 37, 38, 39, 40]), (8, [14, 41]), (9, [1, 3, 9, 10, 12, 13, 27, 28, 29, 43]), (10, [12, 44]), (11, [46, 47]), (12, [13, 48]), (13, [49]), (14, [1, 3, 9, 10, 27, 28, 29, 50, 51])], [], []⟩ := rfl
theorem fn_75 : pr.fn 75 = some Try.f75 := rfl
theorem ann_75 : pr.ann 75 = ⟨[(0, [0, 1, 4]), (1, [2, 6, 7, 8]), (2, [3, 5, 9, 10, 11, 12, 13, 14])], [], []⟩ := rfl
theorem fn_76 : pr.fn 76 = some Try.f76 := rfl
theorem ann_76 : pr.ann 76 = ⟨[(0, [0, 1, 4]), (1, [5, 6, 7, 8]), (2, [2, 3]), (3, [2, 3, 10, 11, 12, 13])], [], []⟩ := rfl
theorem fn_77 : pr.fn 77 = some Try.f77 := rfl
theorem ann_77 : pr.ann 77 = ⟨[(0, [2]), (1, [5]), (3, [6]), (4, [8, 9]), (5, [10, 11, 12, 13, 14]), (6, [16, 17, 18, 19]), (7, [0, 3, 4, 20])], [], []⟩ := rfl
theorem fn_78 : pr.fn 78 = some Try.f78 := rfl
theorem ann_78 : pr.ann 78 = ⟨[(0, [4]), (2, [6, 7, 8]), (3, [10, 11]), (4, [12, 13, 14, 15, 16, 17]), (5, [0, 1, 5, 18])], [], []⟩ := rfl
theorem fn_80 : pr.fn 80 = some Try.f80 := rfl
theorem ann_80 : pr.ann 80 = ⟨[(0, [2]), (3, [5, 6, 7, 8, 9, 10]), (4, [12, 13]), (5, [14, 15, 16, 17, 18, 19, 20, 21]), (6, [23, 24, 25, 26, 27]), (7, [0, 3, 4, 28])], [], []⟩ := rfl
theorem fn_81 : pr.fn 81 = some Try.f81 := rfl
theorem ann_81 : pr.ann 81 = ⟨[(0, [0]), (1, [1, 3, 4, 5, 6])], [], []⟩ := rfl
theorem fn_83 : pr.fn 83 = some Try.f83 := rfl
theorem ann_83 : pr.ann 83 = ⟨[(0, [0, 1, 3, 9]), (1, [13, 14, 15, 16, 17, 18, 19]), (2, [2, 4, 5, 7, 21]), (3, [22, 23, 24, 25]), (4, [26]), (5, [2, 5, 10, 11, 28]), (6, [30]), (7, [4, 7, 27, 31, 32, 33, 34]), (8, [2, 5, 10, 11, 36]), (9, [10, 37, 38, 39, 40, 41]), (10, [43]), (11, [4, 7, 27, 44, 45, 46, 47]), (12, [2, 5, 10, 11, 49]), (13, [10, 50, 51, 52, 53, 54]), (14, [56]), (15, [4, 7, 27, 57, 58, 59, 60, 61, 62, 63]), (16, [12, 64, 65, 66, 67, 68, 69, 70, 71, 72]), (17, [2, 5, 10, 11, 74]), (18, [10, 75, 76, 77, 78, 79]), (19, [4, 7, 27, 81]), (20, [10, 82, 83, 84, 85, 86]), (21, [2, 5, 11, 87, 88, 89, 90, 91, 92, 93, 94, 95, 96, 97, 98])], [(21, [0, 1, 2, 3, 4, 5, 6, 9, 7, 8, 10, 11, 12, 13])], []⟩ := rfl
theorem fn_86 : pr.fn 86 = some Try.f86 := rfl
theorem ann_86 : pr.ann 86 = ⟨[(0, [4, 10, 11, 12]), (1, [17, 18, 19, 20, 21, 22, 23, 24, 25]), (2, [0, 1, 2, 3, 9]), (3, [27, 28, 29, 30]), (4, [31, 32, 33, 34]), (5, [35, 36, 37, 38]), (6, [39]), (7, [1, 2, 3, 13, 14]), (8, [42]), (9, [0, 9, 14, 15, 40, 43, 44, 45, 46]), (10, [1, 2, 3, 13]), (11, [13, 48, 49, 50]), (12, [52]), (13, [0, 9, 14, 15, 40, 53, 54, 55, 56]), (14, [1, 2, 3, 13]), (15, [13, 58, 59, 60]), (16, [15, 62]), (17, [14, 40, 63, 64, 65, 66, 67, 68, 69, 70, 71, 72, 73, 74]), (18, [0, 1, 2, 3, 9, 13]), (20, [76, 77, 78, 79, 80, 81, 82, 83, 84, 85]), (21, [87, 88]), (22, [89, 90, 91, 92, 93, 94, 95, 96, 97, 98, 99, 100, 101, 102, 103]), (23, [0, 1, 2, 3, 9, 13, 16]), (24, [0, 9, 13, 16, 105, 106, 107]), (25, [0, 9, 40, 109]), (26, [14, 110]), (27, [1, 2, 3, 13]), (28, [13, 112, 113, 114]), (29, [1, 2, 3, 115, 116, 117, 118, 119, 120])], [], []⟩ := rfl
theorem fn_94 : pr.fn 94 = some Try.f94 := rfl
theorem ann_94 : pr.ann 94 = ⟨[(0, [0, 4]), (1, [1, 2, 5, 6, 7, 8, 9, 10])], [], []⟩ := rfl
theorem fn_96 : pr.fn 96 = some Try.f96 := rfl
theorem ann_96 : pr.ann 96 = ⟨[(0, [6]), (1, [0, 1, 2, 7, 8, 9, 10, 11, 12, 13, 14])], [], []⟩ := rfl
theorem fn_97 : pr.fn 97 = some Try.f97 := rfl
theorem ann_97 : pr.ann 97 = ⟨[(0, [2]), (1, [0, 3, 4])], [], []⟩ := rfl
theorem fn_98 : pr.fn 98 = some Try.f98 := rfl
theorem ann_98 : pr.ann 98 = ⟨[(0, [1, 2, 6]), (1, [0, 4, 5, 7, 8, 9, 10])], [], []⟩ := rfl
theorem fn_99 : pr.fn 99 = some Try.f99 := rfl
theorem ann_99 : pr.ann 99 = ⟨[(0, [2]), (2, [4, 5, 6]), (3, [8, 9]), (4, [10, 11, 12, 13, 14, 15, 16, 17, 18]), (5, [0, 3]), (6, [0, 3])], [], []⟩ := rfl
theorem fn_100 : pr.fn 100 = some Try.f100 := rfl
theorem ann_100 : pr.ann 100 = ⟨[(0, [0, 1, 4]), (1, [2, 3, 5, 6, 7, 8, 9, 10])], [], []⟩ := rfl
theorem fn_101 : pr.fn 101 = some Try.f101 := rfl
theorem ann_101 : pr.ann 101 = ⟨[(0, [3]), (1, [0, 1, 4, 5, 6, 7, 8, 9, 10])], [], []⟩ := rfl
theorem fn_102 : pr.fn 102 = some Try.f102 := rfl
theorem ann_102 : pr.ann 102 = ⟨[(0, [0, 3]), (1, [1, 2, 4, 5, 6, 7, 8])], [], []⟩ := rfl
theorem fn_103 : pr.fn 103 = some Try.f103 := rfl
theorem ann_103 : pr.ann 103 = ⟨[(0, [4]), (1, [0, 1, 5, 6, 7, 8])], [], []⟩ := rfl
theorem fn_104 : pr.fn 104 = some Try.f104 := rfl
theorem ann_104 : pr.ann 104 = ⟨[(0, [3]), (1, [0, 1, 4, 5, 6])], [], []⟩ := rfl
theorem fn_105 : pr.fn 105 = some Try.f105 := rfl
theorem ann_105 : pr.ann 105 = ⟨[(0, [4]), (1, [0, 1, 5, 6, 7, 8])], [], []⟩ := rfl
theorem fn_106 : pr.fn 106 = some Try.f106 := rfl
theorem ann_106 : pr.ann 106 = ⟨[(0, [4]), (1, [8, 9, 10]), (2, [11]), (3, [0, 1, 5, 13]), (4, [14, 15]), (5, [16, 17, 18]), (6, [7, 20, 21]), (7, [22, 23, 24, 25]), (8, [26, 27, 28]), (9, [7, 30, 31, 32, 33]), (10, [34, 35]), (11, [1, 6, 36, 37, 38]), (12, [0, 5, 39, 40, 41])], [], []⟩ := rfl
theorem fn_107 : pr.fn 107 = some Try.f107 := rfl
theorem ann_107 : pr.ann 107 = ⟨[(0, [2]), (1, [5]), (2, [0]), (4, [9]), (5, [4, 10, 11, 12, 13]), (6, [14]), (7, [3, 6, 7, 15])], [], []⟩ := rfl
theorem fn_108 : pr.fn 108 = some Try.f108 := rfl
theorem ann_108 : pr.ann 108 = ⟨[(0, [3]), (1, [0, 1, 4, 5, 6, 7, 8])], [], []⟩ := rfl
theorem fn_109 : pr.fn 109 = some Try.f109 := rfl
theorem ann_109 : pr.ann 109 = ⟨[(0, [4]), (1, [0, 5, 6, 7, 8]), (2, [9]), (3, [1]), (4, [1, 11])], [], []⟩ := rfl
theorem fn_110 : pr.fn 110 = some Try.f110 := rfl
theorem ann_110 : pr.ann 110 = ⟨[(0, [6]), (2, [8, 9, 10]), (3, [12, 13]), (4, [14, 15, 16, 17, 18, 19, 20, 21, 22, 23, 24, 25, 26, 27, 28, 29, 30, 31, 32, 33, 34, 35, 36]), (5, [0, 1, 2, 7]), (6, [0, 1, 2, 7])], [], []⟩ := rfl
theorem fn_111 : pr.fn 111 = some Try.f111 := rfl
theorem ann_111 : pr.ann 111 = ⟨[(0, [2]), (1, [5, 6, 7]), (3, [8, 9, 10]), (4, [12, 13]), (5, [14, 15, 16, 17, 18, 19, 20]), (6, [0, 3, 4, 21])], [], []⟩ := rfl
theorem fn_112 : pr.fn 112 = some Try.f112 := rfl
theorem ann_112 : pr.ann 112 = ⟨[(0, [6]), (1, [0, 1, 2, 7, 8, 9, 10, 11, 12, 13, 14])], [], []⟩ := rfl
theorem fn_113 : pr.fn 113 = some Try.f113 := rfl
theorem ann_113 : pr.ann 113 = ⟨[(0, [0, 2]), (1, [1, 3, 4, 5, 6, 7, 8, 9, 10])], [], []⟩ := rfl
theorem fn_114 : pr.fn 114 = some Try.f114 := rfl
theorem ann_114 : pr.ann 114 = ⟨[(0, [2]), (2, [4]), (3, [6, 7, 8, 9]), (4, [10, 11]), (5, [0, 3, 12])], [], []⟩ := rfl
theorem fn_123 : pr.fn 123 = some Try.f123 := rfl
theorem ann_123 : pr.ann 123 = ⟨[(0, [4]), (1, [0, 1, 5, 6, 7, 8])], [], []⟩ := rfl
theorem fn_124 : pr.fn 124 = some Try.f124 := rfl
theorem ann_124 : pr.ann 124 = ⟨[(0, [4]), (1, [0, 1, 2, 5, 6, 7, 8, 9])], [], []⟩ := rfl
theorem fn_125 : pr.fn 125 = some Try.f125 := rfl
theorem ann_125 : pr.ann 125 = ⟨[(0, [3]), (1, [0, 1, 4, 5, 6, 7])], [], []⟩ := rfl
theorem fn_126 : pr.fn 126 = some Try.f126 := rfl
theorem ann_126 : pr.ann 126 = ⟨[(0, [4]), (1, [6]), (3, [10]), (4, [11, 12, 13, 14, 15]), (5, [0, 1, 5, 7, 8, 17]), (6, [5, 18]), (7, [0, 1, 7, 8])], [], []⟩ := rfl
theorem fn_127 : pr.fn 127 = some Try.f127 := rfl
theorem ann_127 : pr.ann 127 = ⟨[(0, [4]), (1, [6]), (3, [10]), (4, [11, 12, 13, 14, 15]), (5, [0, 1, 5, 7, 8, 17]), (6, [5, 18]), (7, [0, 1, 7, 8])], [], []⟩ := rfl
theorem fn_128 : pr.fn 128 = some Try.f128 := rfl
theorem ann_128 : pr.ann 128 = ⟨[(0, [4]), (1, [6]), (3, [10]), (4, [11, 12, 13, 14, 15]), (5, [0, 1, 5, 7, 8, 17]), (6, [5, 18]), (7, [0, 1, 7, 8])], [], []⟩ := rfl
@[go_sem] theorem fin_6 (E : Env) (s : Slots) (h : Heap) : finish E Try.f6 ⟨s, h⟩ = (mapO (resultVar E ⟨s, h⟩) [.tmp 6]).map (finish2 h) := finish_eq Try.f6 _ rfl
@[go_sem] theorem fin_7 (E : Env) (s : Slots) (h : Heap) : finish E Try.f7 ⟨s, h⟩ = (mapO (resultVar E ⟨s, h⟩) [.tmp 6]).map (finish2 h) := finish_eq Try.f7 _ rfl
@[go_sem] theorem fin_25 (E : Env) (s : Slots) (h : Heap) : finish E Try.f25 ⟨s, h⟩ = (mapO (resultVar E ⟨s, h⟩) [.tmp 4]).map (finish2 h) := finish_eq Try.f25 _ rfl
@[go_sem] theorem fin_27 (E : Env) (s : Slots) (h : Heap) : finish E Try.f27 ⟨s, h⟩ = (mapO (resultVar E ⟨s, h⟩) [.cell 2 33]).map (finish2 h) := finish_eq Try.f27 _ rfl
@[go_sem] theorem fin_29 (E : Env) (s : Slots) (h : Heap) : finish E Try.f29 ⟨s, h⟩ = (mapO (resultVar E ⟨s, h⟩) [.tmp 4]).map (finish2 h) := finish_eq Try.f29 _ rfl
@[go_sem] theorem fin_30 (E : Env) (s : Slots) (h : Heap) : finish E Try.f30 ⟨s, h⟩ = (mapO (resultVar E ⟨s, h⟩) [.tmp 4]).map (finish2 h) := finish_eq Try.f30 _ rfl
@[go_sem] theorem fin_31 (E : Env) (s : Slots) (h : Heap) : finish E Try.f31 ⟨s, h⟩ = (mapO (resultVar E ⟨s, h⟩) [.tmp 6]).map (finish2 h) := finish_eq Try.f31 _ rfl
@[go_sem] theorem fin_32 (E : Env) (s : Slots) (h : Heap) : finish E Try.f32 ⟨s, h⟩ = (mapO (resultVar E ⟨s, h⟩) [.tmp 2]).map (finish2 h) := finish_eq Try.f32 _ rfl
@[go_sem] theorem fin_33 (E : Env) (s : Slots) (h : Heap) : finish E Try.f33 ⟨s, h⟩ = (mapO (resultVar E ⟨s, h⟩) [.tmp 6]).map (finish2 h) := finish_eq Try.f33 _ rfl
@[go_sem] theorem fin_34 (E : Env) (s : Slots) (h : Heap) : finish E Try.f34 ⟨s, h⟩ = (mapO (resultVar E ⟨s, h⟩) [.tmp 4]).map (finish2 h) := finish_eq Try.f34 _ rfl
@[go_sem] theorem fin_35 (E : Env) (s : Slots) (h : Heap) : finish E Try.f35 ⟨s, h⟩ = (mapO (resultVar E ⟨s, h⟩) [.tmp 6, .tmp 7, .tmp 8, .tmp 9]).map (finish2 h) := finish_eq Try.f35 _ rfl
@[go_sem] theorem fin_36 (E : Env) (s : Slots) (h : Heap) : finish E Try.f36 ⟨s, h⟩ = (mapO (resultVar E ⟨s, h⟩) [.tmp 6, .tmp 7, .tmp 8, .tmp 9]).map (finish2 h) := finish_eq Try.f36 _ rfl
@[go_sem] theorem fin_37 (E : Env) (s : Slots) (h : Heap) : finish E Try.f37 ⟨s, h⟩ = (mapO (resultVar E ⟨s, h⟩) [.tmp 4]).map (finish2 h) := finish_eq Try.f37 _ rfl
@[go_sem] theorem fin_38 (E : Env) (s : Slots) (h : Heap) : finish E Try.f38 ⟨s, h⟩ = (mapO (resultVar E ⟨s, h⟩) [.tmp 4]).map (finish2 h) := finish_eq Try.f38 _ rfl
@[go_sem] theorem fin_39 (E : Env) (s : Slots) (h : Heap) : finish E Try.f39 ⟨s, h⟩ = (mapO (resultVar E ⟨s, h⟩) [.tmp 4]).map (finish2 h) := finish_eq Try.f39 _ rfl
@[go_sem] theorem fin_40 (E : Env) (s : Slots) (h : Heap) : finish E Try.f40 ⟨s, h⟩ = (mapO (resultVar E ⟨s, h⟩) [.tmp 4]).map (finish2 h) := finish_eq Try.f40 _ rfl
@[go_sem] theorem fin_41 (E : Env) (s : Slots) (h : Heap) : finish E Try.f41 ⟨s, h⟩ = (mapO (resultVar E ⟨s, h⟩) [.tmp 4]).map (finish2 h) := finish_eq Try.f41 _ rfl
@[go_sem] theorem fin_59 (E : Env) (s : Slots) (h : Heap) : finish E Try.f59 ⟨s, h⟩ = (mapO (resultVar E ⟨s, h⟩) [.tmp 2]).map (finish2 h) := finish_eq Try.f59 _ rfl
@[go_sem] theorem fin_60 (E : Env) (s : Slots) (h : Heap) : finish E Try.f60 ⟨s, h⟩ = (mapO (resultVar E ⟨s, h⟩) [.tmp 2]).map (finish2 h) := finish_eq Try.f60 _ rfl
@[go_sem] theorem fin_61 (E : Env) (s : Slots) (h : Heap) : finish E Try.f61 ⟨s, h⟩ = (mapO (resultVar E ⟨s, h⟩) [.tmp 2]).map (finish2 h) := finish_eq Try.f61 _ rfl
@[go_sem] theorem fin_62 (E : Env) (s : Slots) (h : Heap) : finish E Try.f62 ⟨s, h⟩ = (mapO (resultVar E ⟨s, h⟩) [.tmp 2]).map (finish2 h) := finish_eq Try.f62 _ rfl
@[go_sem] theorem fin_63 (E : Env) (s : Slots) (h : Heap) : finish E Try.f63 ⟨s, h⟩ = (mapO (resultVar E ⟨s, h⟩) [.tmp 2]).map (finish2 h) := finish_eq Try.f63 _ rfl
@[go_sem] theorem fin_64 (E : Env) (s : Slots) (h : Heap) : finish E Try.f64 ⟨s, h⟩ = (mapO (resultVar E ⟨s, h⟩) [.tmp 2]).map (finish2 h) := finish_eq Try.f64 _ rfl
@[go_sem] theorem fin_65 (E : Env) (s : Slots) (h : Heap) : finish E Try.f65 ⟨s, h⟩ = (mapO (resultVar E ⟨s, h⟩) [.tmp 4]).map (finish2 h) := finish_eq Try.f65 _ rfl
@[go_sem] theorem fin_66 (E : Env) (s : Slots) (h : Heap) : finish E Try.f66 ⟨s, h⟩ = (mapO (resultVar E ⟨s, h⟩) [.tmp 2]).map (finish2 h) := finish_eq Try.f66 _ rfl
@[go_sem] theorem fin_68 (E : Env) (s : Slots) (h : Heap) : finish E Try.f68 ⟨s, h⟩ = (mapO (resultVar E ⟨s, h⟩) [.tmp 2]).map (finish2 h) := finish_eq Try.f68 _ rfl
@[go_sem] theorem fin_69 (E : Env) (s : Slots) (h : Heap) : finish E Try.f69 ⟨s, h⟩ = (mapO (resultVar E ⟨s, h⟩) [.tmp 4]).map (finish2 h) := finish_eq Try.f69 _ rfl
@[go_sem] theorem fin_70 (E : Env) (s : Slots) (h : Heap) : finish E Try.f70 ⟨s, h⟩ = (mapO (resultVar E ⟨s, h⟩) [.tmp 2]).map (finish2 h) := finish_eq Try.f70 _ rfl
@[go_sem] theorem fin_71 (E : Env) (s : Slots) (h : Heap) : finish E Try.f71 ⟨s, h⟩ = (mapO (resultVar E ⟨s, h⟩) [.tmp 6, .tmp 7, .tmp 8, .tmp 9]).map (finish2 h) := finish_eq Try.f71 _ rfl
@[go_sem] theorem fin_72 (E : Env) (s : Slots) (h : Heap) : finish E Try.f72 ⟨s, h⟩ = (mapO (resultVar E ⟨s, h⟩) [.tmp 2]).map (finish2 h) := finish_eq Try.f72 _ rfl
@[go_sem] theorem fin_73 (E : Env) (s : Slots) (h : Heap) : finish E Try.f73 ⟨s, h⟩ = (mapO (resultVar E ⟨s, h⟩) [.cell 2 103]).map (finish2 h) := finish_eq Try.f73 _ rfl
@[go_sem] theorem fin_74 (E : Env) (s : Slots) (h : Heap) : finish E Try.f74 ⟨s, h⟩ = (mapO (resultVar E ⟨s, h⟩) [.cell 6 107, .tmp 7, .tmp 8]).map (finish2 h) := finish_eq Try.f74 _ rfl
@[go_sem] theorem fin_75 (E : Env) (s : Slots) (h : Heap) : finish E Try.f75 ⟨s, h⟩ = (mapO (resultVar E ⟨s, h⟩) [.tmp 4]).map (finish2 h) := finish_eq Try.f75 _ rfl
@[go_sem] theorem fin_76 (E : Env) (s : Slots) (h : Heap) : finish E Try.f76 ⟨s, h⟩ = (mapO (resultVar E ⟨s, h⟩) [.tmp 4]).map (finish2 h) := finish_eq Try.f76 _ rfl
@[go_sem] theorem fin_77 (E : Env) (s : Slots) (h : Heap) : finish E Try.f77 ⟨s, h⟩ = (mapO (resultVar E ⟨s, h⟩) [.tmp 2]).map (finish2 h) := finish_eq Try.f77 _ rfl
@[go_sem] theorem fin_78 (E : Env) (s : Slots) (h : Heap) : finish E Try.f78 ⟨s, h⟩ = (mapO (resultVar E ⟨s, h⟩) [.tmp 4]).map (finish2 h) := finish_eq Try.f78 _ rfl
@[go_sem] theorem fin_80 (E : Env) (s : Slots) (h : Heap) : finish E Try.f80 ⟨s, h⟩ = (mapO (resultVar E ⟨s, h⟩) [.tmp 2]).map (finish2 h) := finish_eq Try.f80 _ rfl
@[go_sem] theorem fin_81 (E : Env) (s : Slots) (h : Heap) : finish E Try.f81 ⟨s, h⟩ = (mapO (resultVar E ⟨s, h⟩) [.cell 2 107]).map (finish2 h) := finish_eq Try.f81 _ rfl
@[go_sem] theorem fin_83 (E : Env) (s : Slots) (h : Heap) : finish E Try.f83 ⟨s, h⟩ = (mapO (resultVar E ⟨s, h⟩) [.cell 8 107, .tmp 9]).map (finish2 h) := finish_eq Try.f83 _ rfl
@[go_sem] theorem fin_86 (E : Env) (s : Slots) (h : Heap) : finish E Try.f86 ⟨s, h⟩ = (mapO (resultVar E ⟨s, h⟩) [.tmp 10, .tmp 11, .tmp 12]).map (finish2 h) := finish_eq Try.f86 _ rfl
@[go_sem] theorem fin_94 (E : Env) (s : Slots) (h : Heap) : finish E Try.f94 ⟨s, h⟩ = (mapO (resultVar E ⟨s, h⟩) [.tmp 4]).map (finish2 h) := finish_eq Try.f94 _ rfl
@[go_sem] theorem fin_96 (E : Env) (s : Slots) (h : Heap) : finish E Try.f96 ⟨s, h⟩ = (mapO (resultVar E ⟨s, h⟩) [.tmp 6]).map (finish2 h) := finish_eq Try.f96 _ rfl
@[go_sem] theorem fin_97 (E : Env) (s : Slots) (h : Heap) : finish E Try.f97 ⟨s, h⟩ = (mapO (resultVar E ⟨s, h⟩) [.tmp 2]).map (finish2 h) := finish_eq Try.f97 _ rfl
@[go_sem] theorem fin_98 (E : Env) (s : Slots) (h : Heap) : finish E Try.f98 ⟨s, h⟩ = (mapO (resultVar E ⟨s, h⟩) [.tmp 6]).map (finish2 h) := finish_eq Try.f98 _ rfl
@[go_sem] theorem fin_99 (E : Env) (s : Slots) (h : Heap) : finish E Try.f99 ⟨s, h⟩ = (mapO (resultVar E ⟨s, h⟩) [.tmp 2]).map (finish2 h) := finish_eq Try.f99 _ rfl
@[go_sem] theorem fin_100 (E : Env) (s : Slots) (h : Heap) : finish E Try.f100 ⟨s, h⟩ = (mapO (resultVar E ⟨s, h⟩) [.tmp 4]).map (finish2 h) := finish_eq Try.f100 _ rfl
@[go_sem] theorem fin_101 (E : Env) (s : Slots) (h : Heap) : finish E Try.f101 ⟨s, h⟩ = (mapO (resultVar E ⟨s, h⟩) [.tmp 3]).map (finish2 h) := finish_eq Try.f101 _ rfl
@[go_sem] theorem fin_102 (E : Env) (s : Slots) (h : Heap) : finish E Try.f102 ⟨s, h⟩ = (mapO (resultVar E ⟨s, h⟩) [.tmp 3]).map (finish2 h) := finish_eq Try.f102 _ rfl
@[go_sem] theorem fin_103 (E : Env) (s : Slots) (h : Heap) : finish E Try.f103 ⟨s, h⟩ = (mapO (resultVar E ⟨s, h⟩) [.tmp 4]).map (finish2 h) := finish_eq Try.f103 _ rfl
@[go_sem] theorem fin_104 (E : Env) (s : Slots) (h : Heap) : finish E Try.f104 ⟨s, h⟩ = (mapO (resultVar E ⟨s, h⟩) [.tmp 3]).map (finish2 h) := finish_eq Try.f104 _ rfl
@[go_sem] theorem fin_105 (E : Env) (s : Slots) (h : Heap) : finish E Try.f105 ⟨s, h⟩ = (mapO (resultVar E ⟨s, h⟩) [.tmp 4]).map (finish2 h) := finish_eq Try.f105 _ rfl
@[go_sem] theorem fin_106 (E : Env) (s : Slots) (h : Heap) : finish E Try.f106 ⟨s, h⟩ = (mapO (resultVar E ⟨s, h⟩) [.tmp 4]).map (finish2 h) := finish_eq Try.f106 _ rfl
@[go_sem] theorem fin_107 (E : Env) (s : Slots) (h : Heap) : finish E Try.f107 ⟨s, h⟩ = (mapO (resultVar E ⟨s, h⟩) [.tmp 2]).map (finish2 h) := finish_eq Try.f107 _ rfl
@[go_sem] theorem fin_108 (E : Env) (s : Slots) (h : Heap) : finish E Try.f108 ⟨s, h⟩ = (mapO (resultVar E ⟨s, h⟩) [.tmp 3]).map (finish2 h) := finish_eq Try.f108 _ rfl
@[go_sem] theorem fin_109 (E : Env) (s : Slots) (h : Heap) : finish E Try.f109 ⟨s, h⟩ = (mapO (resultVar E ⟨s, h⟩) [.tmp 4]).map (finish2 h) := finish_eq Try.f109 _ rfl
@[go_sem] theorem fin_110 (E : Env) (s : Slots) (h : Heap) : finish E Try.f110 ⟨s, h⟩ = (mapO (resultVar E ⟨s, h⟩) [.tmp 6]).map (finish2 h) := finish_eq Try.f110 _ rfl
@[go_sem] theorem fin_111 (E : Env) (s : Slots) (h : Heap) : finish E Try.f111 ⟨s, h⟩ = (mapO (resultVar E ⟨s, h⟩) [.tmp 2]).map (finish2 h) := finish_eq Try.f111 _ rfl
@[go_sem] theorem fin_112 (E : Env) (s : Slots) (h : Heap) : finish E Try.f112 ⟨s, h⟩ = (mapO (resultVar E ⟨s, h⟩) [.tmp 6]).map (finish2 h) := finish_eq Try.f112 _ rfl
@[go_sem] theorem fin_113 (E : Env) (s : Slots) (h : Heap) : finish E Try.f113 ⟨s, h⟩ = (mapO (resultVar E ⟨s, h⟩) [.tmp 2]).map (finish2 h) := finish_eq Try.f113 _ rfl
@[go_sem] theorem fin_114 (E : Env) (s : Slots) (h : Heap) : finish E Try.f114 ⟨s, h⟩ = (mapO (resultVar E ⟨s, h⟩) [.tmp 2]).map (finish2 h) := finish_eq Try.f114 _ rfl
@[go_sem] theorem fin_123 (E : Env) (s : Slots) (h : Heap) : finish E Try.f123 ⟨s, h⟩ = (mapO (resultVar E ⟨s, h⟩) [.tmp 4]).map (finish2 h) := finish_eq Try.f123 _ rfl
@[go_sem] theorem fin_124 (E : Env) (s : Slots) (h : Heap) : finish E Try.f124 ⟨s, h⟩ = (mapO (resultVar E ⟨s, h⟩) [.tmp 4]).map (finish2 h) := finish_eq Try.f124 _ rfl
@[go_sem] theorem fin_125 (E : Env) (s : Slots) (h : Heap) : finish E Try.f125 ⟨s, h⟩ = (mapO (resultVar E ⟨s, h⟩) [.tmp 3]).map (finish2 h) := finish_eq Try.f125 _ rfl
@[go_sem] theorem fin_126 (E : Env) (s : Slots) (h : Heap) : finish E Try.f126 ⟨s, h⟩ = (mapO (resultVar E ⟨s, h⟩) [.tmp 4]).map (finish2 h) := finish_eq Try.f126 _ rfl
@[go_sem] theorem fin_127 (E : Env) (s : Slots) (h : Heap) : finish E Try.f127 ⟨s, h⟩ = (mapO (resultVar E ⟨s, h⟩) [.tmp 4]).map (finish2 h) := finish_eq Try.f127 _ rfl
@[go_sem] theorem fin_128 (E : Env) (s : Slots) (h : Heap) : finish E Try.f128 ⟨s, h⟩ = (mapO (resultVar E ⟨s, h⟩) [.tmp 4]).map (finish2 h) := finish_eq Try.f128 _ rfl
@[go_sem] theorem by_6 : pr.byref 6 = [] := rfl
@[go_sem] theorem by_7 : pr.byref 7 = [] := rfl
@[go_sem] theorem by_25 : pr.byref 25 = [] := rfl
@[go_sem] theorem by_27 : pr.byref 27 = [] := rfl
@[go_sem] theorem by_29 : pr.byref 29 = [] := rfl
@[go_sem] theorem by_30 : pr.byref 30 = [] := rfl
@[go_sem] theorem by_31 : pr.byref 31 = [] := rfl
@[go_sem] theorem by_32 : pr.byref 32 = [] := rfl
@[go_sem] theorem by_33 : pr.byref 33 = [] := rfl
@[go_sem] theorem by_34 : pr.byref 34 = [] := rfl
@[go_sem] theorem by_35 : pr.byref 35 = [] := rfl
@[go_sem] theorem by_36 : pr.byref 36 = [] := rfl
@[go_sem] theorem by_37 : pr.byref 37 = [] := rfl
@[go_sem] theorem by_38 : pr.byref 38 = [0] := rfl
@[go_sem] theorem by_39 : pr.byref 39 = [0] := rfl
@[go_sem] theorem by_40 : pr.byref 40 = [0] := rfl
@[go_sem] theorem by_41 : pr.byref 41 = [] := rfl
@[go_sem] theorem by_59 : pr.byref 59 = [] := rfl
@[go_sem] theorem by_60 : pr.byref 60 = [] := rfl
@[go_sem] theorem by_61 : pr.byref 61 = [] := rfl
@[go_sem] theorem by_62 : pr.byref 62 = [] := rfl
@[go_sem] theorem by_63 : pr.byref 63 = [] := rfl
@[go_sem] theorem by_64 : pr.byref 64 = [] := rfl
@[go_sem] theorem by_65 : pr.byref 65 = [] := rfl
@[go_sem] theorem by_66 : pr.byref 66 = [] := rfl
@[go_sem] theorem by_68 : pr.byref 68 = [] := rfl
@[go_sem] theorem by_69 : pr.byref 69 = [] := rfl
@[go_sem] theorem by_70 : pr.byref 70 = [] := rfl
@[go_sem] theorem by_71 : pr.byref 71 = [] := rfl
@[go_sem] theorem by_72 : pr.byref 72 = [] := rfl
@[go_sem] theorem by_73 : pr.byref 73 = [] := rfl
@[go_sem] theorem by_74 : pr.byref 74 = [] := rfl
@[go_sem] theorem by_75 : pr.byref 75 = [] := rfl
@[go_sem] theorem by_76 : pr.byref 76 = [] := rfl
@[go_sem] theorem by_77 : pr.byref 77 = [] := rfl
@[go_sem] theorem by_78 : pr.byref 78 = [0] := rfl
@[go_sem] theorem by_80 : pr.byref 80 = [] := rfl
@[go_sem] theorem by_81 : pr.byref 81 = [] := rfl
@[go_sem] theorem by_83 : pr.byref 83 = [] := rfl
@[go_sem] theorem by_86 : pr.byref 86 = [] := rfl
@[go_sem] theorem by_94 : pr.byref 94 = [] := rfl
@[go_sem] theorem by_96 : pr.byref 96 = [] := rfl
@[go_sem] theorem by_97 : pr.byref 97 = [] := rfl
@[go_sem] theorem by_98 : pr.byref 98 = [] := rfl
@[go_sem] theorem by_99 : pr.byref 99 = [] := rfl
@[go_sem] theorem by_100 : pr.byref 100 = [] := rfl
@[go_sem] theorem by_101 : pr.byref 101 = [] := rfl
@[go_sem] theorem by_102 : pr.byref 102 = [] := rfl
@[go_sem] theorem by_103 : pr.byref 103 = [] := rfl
@[go_sem] theorem by_104 : pr.byref 104 = [] := rfl
@[go_sem] theorem by_105 : pr.byref 105 = [] := rfl
@[go_sem] theorem by_106 : pr.byref 106 = [0] := rfl
@[go_sem] theorem by_107 : pr.byref 107 = [] := rfl
@[go_sem] theorem by_108 : pr.byref 108 = [] := rfl
@[go_sem] theorem by_109 : pr.byref 109 = [] := rfl
@[go_sem] theorem by_110 : pr.byref 110 = [] := rfl
@[go_sem] theorem by_111 : pr.byref 111 = [] := rfl
@[go_sem] theorem by_112 : pr.byref 112 = [] := rfl
@[go_sem] theorem by_113 : pr.byref 113 = [] := rfl
@[go_sem] theorem by_114 : pr.byref 114 = [] := rfl
@[go_sem] theorem by_123 : pr.byref 123 = [] := rfl
@[go_sem] theorem by_124 : pr.byref 124 = [] := rfl
@[go_sem] theorem by_125 : pr.byref 125 = [] := rfl
@[go_sem] theorem by_126 : pr.byref 126 = [] := rfl
@[go_sem] theorem by_127 : pr.byref 127 = [] := rfl
@[go_sem] theorem by_128 : pr.byref 128 = [] := rfl
@[go_sem] theorem pr_tab : pr.tab = tab := rfl
@[go_sem] theorem pr_ty : pr.ty = tyOf := rfl
end Go.Proofs.Ythhankjdpbbncaa.PI
