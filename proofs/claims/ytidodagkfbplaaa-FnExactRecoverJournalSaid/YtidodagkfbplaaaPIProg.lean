/- The functions of the program, for the interpreter: printed by a program of the session. -/
import Derived.Test.YtidodagkfbplaaaPITab
import Derived.Lib.Bytealg
namespace Go.Proofs.Ytidodagkfbplaaa.PI
open Go Go.Q
noncomputable def fnL : List (Nat × Func) := [(3, Try.f3), (4, Try.f4), (6, Try.f6), (7, Try.f7), (8, Try.f8), (9, Try.f9), (10, Try.f10), (11, Try.f11), (12, Try.f12), (13, Try.f13), (14, Try.f14), (15, Try.f15), (16, Try.f16), (17, Try.f17), (18, Try.f18), (23, Try.f23), (24, Try.f24), (25, Try.f25), (26, Try.f26), (27, Try.f27), (28, Try.f28), (29, Try.f29), (30, Try.f30), (31, Try.f31), (32, Try.f32), (33, Try.f33), (34, Try.f34), (35, Try.f35), (36, Try.f36), (37, Try.f37), (38, Try.f38), (39, Try.f39), (40, Try.f40), (41, Try.f41), (42, Try.f42), (43, Try.f43), (44, Try.f44), (45, Try.f45), (51, Try.f51), (52, Try.f52), (53, Try.f53), (54, Try.f54), (55, Try.f55), (56, Try.f56), (57, Try.f57), (58, Try.f58), (59, Try.f59), (60, Try.f60), (61, Try.f61), (62, Try.f62), (63, Try.f63), (64, Try.f64), (65, Try.f65), (66, Try.f66), (69, Try.f69), (70, Try.f70), (71, Try.f71), (72, Try.f72), (73, Try.f73), (74, Try.f74), (75, Try.f75), (76, Try.f76), (77, Try.f77), (78, Try.f78), (79, Try.f79), (80, Try.f80), (82, Try.f82), (83, Try.f83), (84, Try.f84)]
def annL : List (Nat × Ann) := [(3, ⟨[(0, [0, 2]), (2, [7, 8, 9]), (3, [3, 10]), (4, [1]), (5, [12, 13, 14]), (6, [15, 16]), (7, [17, 18]), (8, [4, 6, 19, 20]), (9, [1, 5]), (10, [1, 5, 22, 23, 24, 25])], [], []⟩),
  (4, ⟨[(0, [2]), (1, [14, 15]), (2, [0]), (3, [17, 18, 19, 20, 21, 22]), (4, [23, 24, 25, 26, 27, 28]), (5, [7, 8, 29, 30, 31, 32, 33, 34, 35, 36, 37, 38, 39, 40, 41]), (6, [0, 3, 4, 5, 6]), (8, [43, 44, 45]), (10, [46, 47, 48]), (11, [49]), (12, [0, 3, 4, 5, 6, 9, 10]), (13, [10, 51, 52]), (14, [0, 3, 4, 5, 6, 9]), (15, [0, 54, 55, 56, 57, 58, 59]), (16, [3, 4, 5, 11, 12, 13, 60, 61, 62, 63, 64, 65, 66, 67, 68, 69, 70, 71, 72]), (17, [6, 9]), (19, [6, 74, 75, 76]), (20, [77]), (21, [9, 10]), (22, [9, 10, 79, 80])], [], []⟩),
  (6, ⟨[(0, [0, 2]), (2, [14, 15, 16]), (3, [3, 17]), (4, [1]), (5, [19, 20, 21, 22, 23, 24]), (6, [25, 26]), (7, [27, 28, 29, 30, 31]), (8, [32, 33, 34, 35, 36, 37, 38, 39]), (9, [1, 4, 5, 6, 7, 8]), (10, [41, 42, 43, 44]), (11, [1, 4, 5, 6, 7, 8]), (13, [6, 46, 47, 48]), (14, [8, 9, 49, 50, 51, 52, 53, 54, 55, 56, 57, 58, 59, 60]), (15, [1, 4, 5, 7]), (17, [62, 63, 64]), (19, [65, 66, 67]), (20, [68]), (21, [1, 4, 5, 7, 10, 11]), (22, [11, 70, 71]), (23, [1, 4, 5, 7, 10]), (24, [1, 73, 74, 75, 76, 77, 78]), (25, [4, 5, 12, 13, 79, 80, 81, 82, 83, 84, 85, 86]), (26, [7, 10]), (28, [7, 88, 89, 90]), (29, [91]), (30, [10, 11]), (31, [10, 11, 93, 94])], [], []⟩),
  (7, ⟨[(0, [0, 2]), (2, [9, 10, 11]), (3, [3, 12]), (4, [1]), (5, [14, 15, 16, 17, 18, 19]), (6, [20, 21]), (7, [22, 23, 24, 25, 26]), (8, [4, 5, 7, 8, 27, 28, 29, 30, 31, 32, 33]), (9, [1, 6]), (10, [1, 6, 35, 36, 37, 38])], [], []⟩),
  (8, ⟨[(0, [0, 2]), (2, [14, 15, 16]), (3, [3, 17]), (4, [1]), (5, [19, 20, 21, 22, 23, 24]), (6, [25, 26]), (7, [27, 28, 29, 30, 31]), (8, [32, 33, 34, 35, 36, 37, 38, 39]), (9, [1, 4, 5, 6, 7, 8]), (10, [41, 42, 43, 44]), (11, [1, 4, 5, 6, 7, 8]), (13, [6, 46, 47, 48]), (14, [8, 9, 49, 50, 51, 52, 53, 54, 55, 56, 57, 58, 59, 60]), (15, [1, 4, 5, 7]), (17, [62, 63, 64]), (19, [65, 66, 67]), (20, [68]), (21, [1, 4, 5, 7, 10, 11]), (22, [11, 70, 71]), (23, [1, 4, 5, 7, 10]), (24, [1, 73, 74, 75, 76, 77, 78]), (25, [4, 5, 12, 13, 79, 80, 81, 82, 83, 84, 85, 86]), (26, [7, 10]), (28, [7, 88, 89, 90]), (29, [91]), (30, [10, 11]), (31, [10, 11, 93, 94])], [], []⟩),
  (9, ⟨[(0, [0, 4]), (1, [2, 5, 6, 7, 8]), (2, [9]), (3, [1]), (4, [1, 11])], [], []⟩),
  (10, ⟨[(0, [0, 2]), (1, [1, 3])], [], []⟩),
  (11, ⟨[(0, [0]), (2, [1, 4, 5, 6, 7]), (3, [3, 8])], [], []⟩),
  (12, ⟨[(0, [0, 2]), (1, [5, 6, 7, 8]), (2, [1]), (3, [1, 10]), (5, [15, 16, 17]), (6, [3, 4, 18, 19, 20, 21, 22, 23, 24, 25, 26]), (7, [11, 12, 13]), (8, [28]), (9, [11, 12, 13])], [], []⟩),
  (13, ⟨[(0, [0, 1, 4]), (1, [2, 3, 5, 6, 7, 8, 9])], [], []⟩),
  (14, ⟨[(0, [2, 3, 4]), (1, [12, 13]), (2, [0]), (3, [0, 6, 15, 16, 17, 18, 19]), (4, [20]), (8, [21, 22, 23]), (9, [25, 26]), (10, [27, 28, 29, 30]), (11, [8, 31, 32, 33, 34, 35, 36, 37, 38, 39, 40, 41, 42, 43, 44, 45, 46, 47]), (12, [49, 50]), (13, [51, 52, 53, 54, 55]), (14, [11, 56, 57, 58, 59, 60]), (15, [5, 7, 8, 9, 10, 11, 61, 62])], [(11, [0, 1, 2, 3, 4, 5, 6, 7, 8, 9, 10, 11, 12, 14, 15, 13, 16, 17])], []⟩),
  (15, ⟨[(0, [2, 3, 4]), (1, [15, 16]), (2, [0]), (3, [18]), (4, [9, 19, 20, 21, 22, 23, 24, 25, 26]), (5, [11, 27, 28, 29, 30, 31, 32]), (6, [7, 33, 34, 35, 36]), (7, [10, 13, 37, 38, 39, 40, 41, 42, 43, 44, 45, 46, 47, 48, 49]), (8, [0, 5, 6, 8, 12, 14, 51, 52]), (9, [12, 14, 53, 54, 55, 56, 57]), (10, [8, 58, 59, 60, 61, 62])], [], []⟩),
  (16, ⟨[(0, [4]), (1, [6, 7, 8, 9]), (2, [0, 1]), (4, [11, 12, 13]), (5, [15, 16]), (6, [17, 18, 19, 20, 21, 22, 23, 24]), (7, [0, 1, 5]), (8, [0, 1, 5])], [], []⟩),
  (17, ⟨[(0, [4]), (2, [6, 7, 8]), (3, [10, 11]), (4, [12, 13, 14, 15, 16]), (5, [17, 18]), (6, [0, 1, 5, 19])], [], []⟩),
  (18, ⟨[(0, [4]), (2, [6, 7, 8]), (3, [10, 11]), (4, [12, 13, 14, 15, 16, 17]), (5, [0, 1, 5]), (6, [19, 20]), (7, [0, 1, 5, 21])], [], []⟩),
  (23, ⟨[(0, [0, 2, 3]), (1, [4]), (2, [1]), (3, [1, 6, 7])], [], []⟩),
  (24, ⟨[(0, [0, 2, 3]), (1, [4, 5]), (2, [1]), (3, [1, 7, 8])], [], []⟩),
  (25, ⟨[(0, [4]), (1, [6, 7, 8, 9]), (2, [0, 1]), (4, [11, 12, 13]), (5, [15, 16]), (6, [17, 18, 19, 20, 21, 22, 23, 24]), (7, [0, 1, 5]), (8, [0, 1, 5])], [], []⟩),
  (26, ⟨[(0, [0, 4]), (1, [2, 5, 6, 7, 8]), (2, [1, 9])], [], []⟩),
  (27, ⟨[(0, [4]), (2, [6, 7, 8]), (3, [10, 11]), (4, [12, 13, 14, 15]), (5, [16, 17]), (6, [0, 1, 5, 18])], [], []⟩),
  (28, ⟨[(0, [4]), (2, [6, 7, 8]), (3, [10, 11]), (4, [12, 13, 14, 15, 16]), (5, [0, 1, 5]), (6, [18, 19]), (7, [0, 1, 5, 20])], [], []⟩),
  (29, ⟨[(0, [0, 2, 3]), (1, [4]), (2, [1]), (3, [1, 6, 7, 8, 9])], [], []⟩),
  (30, ⟨[(0, [0, 2, 3]), (1, [6, 7]), (2, [1]), (3, [1, 9, 10, 11, 12, 13, 14]), (4, [4, 5, 15, 16, 17, 18, 19])], [(3, [0, 3, 1, 2, 4, 5, 6, 7])], []⟩),
  (31, ⟨[(0, [0, 2, 3]), (1, [4]), (2, [1]), (3, [1, 6, 7])], [], []⟩),
  (32, ⟨[(0, [0, 2, 3]), (1, [4, 5]), (2, [1]), (3, [1, 7, 8])], [], []⟩),
  (33, ⟨[(0, [4]), (1, [6, 7, 8, 9]), (2, [10]), (3, [0, 1]), (5, [12, 13, 14]), (6, [16, 17]), (7, [18, 19, 20, 21, 22, 23]), (8, [24]), (9, [0, 1, 5]), (10, [0, 1, 5, 26])], [], []⟩),
  (34, ⟨[(0, [2]), (1, [5, 6, 7, 8, 9]), (2, [10, 11, 12, 13, 14]), (3, [0, 3]), (5, [16, 17]), (6, [19, 20]), (7, [21, 22, 23, 24, 25, 26, 27, 28, 29, 30]), (8, [0, 3, 4]), (9, [0, 3, 4])], [], []⟩),
  (35, ⟨[(0, [2]), (1, [5, 6, 7]), (3, [8, 9, 10]), (4, [12, 13]), (5, [14, 15, 16, 17, 18, 19, 20, 21]), (6, [0, 3, 4, 22])], [], []⟩),
  (36, ⟨[(0, [6]), (1, [0, 1, 2, 7, 8, 9, 10, 11, 12, 13, 14])], [], []⟩),
  (37, ⟨[(0, [2]), (1, [0, 3, 4])], [], []⟩),
  (38, ⟨[(0, [1, 2, 6]), (1, [0, 4, 5, 7, 8, 9, 10])], [], []⟩),
  (39, ⟨[(0, [2]), (2, [4, 5, 6]), (3, [8, 9]), (4, [10, 11, 12, 13, 14, 15, 16, 17, 18]), (5, [0, 3]), (6, [0, 3])], [], []⟩),
  (40, ⟨[(0, [4]), (1, [6, 7, 8, 9]), (2, [0, 1]), (4, [11, 12, 13]), (5, [15, 16]), (6, [17, 18, 19, 20, 21, 22, 23, 24, 25]), (7, [0, 1, 5]), (8, [0, 1, 5])], [], []⟩),
  (41, ⟨[(0, [2, 3]), (1, [7]), (4, [8, 9, 10]), (5, [12, 13]), (6, [14, 15, 16]), (7, [5, 18, 19, 20, 21, 22, 23, 24]), (8, [25, 26]), (9, [0, 4, 5, 6, 27, 28, 29, 30])], [], []⟩),
  (42, ⟨[(0, [2]), (3, [5, 6, 7]), (4, [9, 10]), (5, [11, 12, 13, 14, 15, 16, 17, 18]), (6, [0, 3, 4, 19, 20, 21, 22, 23, 24, 25, 26, 27, 28])], [], []⟩),
  (43, ⟨[(0, [4, 5, 6]), (1, [0, 1, 7, 8, 9, 10, 11, 12])], [], []⟩),
  (44, ⟨[(0, [2]), (2, [5]), (4, [9]), (5, [4, 10, 11, 12, 13, 14, 15, 16, 17]), (6, [18]), (7, [0, 3, 6, 7, 19, 20, 21, 22, 23, 24, 25, 26, 27, 28])], [], []⟩),
  (45, ⟨[(0, [2]), (1, [4]), (2, [0]), (4, [6]), (5, [8, 9, 10, 11, 12, 13, 14, 15]), (6, [16, 17]), (7, [0, 3, 18, 19])], [], []⟩),
  (51, ⟨[(0, [2]), (1, [5]), (3, [6]), (4, [8, 9]), (5, [10, 11, 12, 13, 14]), (6, [16, 17, 18, 19]), (7, [0, 3, 4, 20])], [], []⟩),
  (52, ⟨[(0, [2]), (3, [5, 6, 7, 8, 9, 10]), (4, [12, 13]), (5, [14, 15, 16, 17, 18, 19, 20, 21]), (6, [23, 24, 25, 26, 27]), (7, [0, 3, 4, 28])], [], []⟩),
  (53, ⟨[(0, [0, 2]), (1, [1, 3, 4, 5])], [], []⟩),
  (54, ⟨[(0, [4]), (2, [6, 7, 8]), (3, [10, 11]), (4, [12, 13, 14, 15, 16, 17]), (5, [0, 1, 5, 18])], [], []⟩),
  (55, ⟨[(0, [2]), (2, [4]), (3, [6, 7, 8, 9]), (4, [10, 11]), (5, [0, 3, 12])], [], []⟩),
  (56, ⟨[(0, [2]), (1, [6, 7, 8, 9, 10, 11, 12, 13]), (3, [14, 15, 16, 17, 18, 19]), (4, [5, 21, 22]), (6, [23, 24, 25, 26, 27, 28, 29, 30, 31]), (7, [33, 34]), (8, [35, 36, 37, 38, 39, 40, 41, 42, 43, 44, 45, 46, 47, 48]), (9, [0, 3, 4, 49])], [], []⟩),
  (57, ⟨[(0, [2]), (2, [0]), (4, [10, 11]), (5, [5, 12, 13, 14, 15]), (6, [16]), (7, [3, 6, 7, 8, 17])], [], []⟩),
  (58, ⟨[(0, [0, 2]), (1, [1, 3, 4, 5])], [], []⟩),
  (59, ⟨[(0, [2]), (1, [0, 3, 4])], [], []⟩),
  (60, ⟨[(0, [0, 2]), (1, [1, 3, 4, 5])], [], []⟩),
  (61, ⟨[(0, [4]), (1, [0, 5, 6, 7, 8]), (2, [9]), (3, [1]), (4, [1, 11])], [], []⟩),
  (62, ⟨[(0, [6]), (2, [8, 9, 10]), (3, [12, 13]), (4, [14, 15, 16, 17, 18, 19, 20, 21, 22, 23, 24, 25, 26, 27, 28, 29, 30, 31, 32, 33, 34, 35, 36]), (5, [0, 1, 2, 7]), (6, [0, 1, 2, 7])], [], []⟩),
  (63, ⟨[(0, [2]), (1, [5, 6, 7]), (3, [8, 9, 10]), (4, [12, 13]), (5, [14, 15, 16, 17, 18, 19, 20]), (6, [0, 3, 4, 21])], [], []⟩),
  (64, ⟨[(0, [4]), (1, [0, 1, 5, 6, 7, 8])], [], []⟩),
  (65, ⟨[(0, [4]), (1, [0, 1, 2, 5, 6, 7, 8, 9])], [], []⟩),
  (66, ⟨[(0, [4, 5, 6]), (1, [8, 9, 10]), (2, [11]), (3, [0, 1, 7, 13, 14, 15, 16, 17, 18, 19, 20, 21]), (4, [0, 1, 7, 22])], [], []⟩),
  (69, ⟨[(0, [0, 1, 4]), (1, [2, 3, 5, 6, 7, 8, 9, 10])], [], []⟩),
  (70, ⟨[(0, [3]), (1, [0, 1, 4, 5, 6, 7, 8, 9, 10])], [], []⟩),
  (71, ⟨[(0, [0, 3]), (1, [1, 2, 4, 5, 6, 7, 8])], [], []⟩),
  (72, ⟨[(0, [4]), (1, [0, 1, 5, 6, 7, 8])], [], []⟩),
  (73, ⟨[(0, [3]), (1, [0, 1, 4, 5, 6])], [], []⟩),
  (74, ⟨[(0, [4]), (1, [0, 1, 5, 6, 7, 8])], [], []⟩),
  (75, ⟨[(0, [4]), (1, [8, 9, 10]), (2, [11]), (3, [0, 1, 5, 13]), (4, [14, 15]), (5, [16, 17, 18]), (6, [7, 20, 21]), (7, [22, 23, 24, 25]), (8, [26, 27, 28]), (9, [7, 30, 31, 32, 33]), (10, [34, 35]), (11, [1, 6, 36, 37, 38]), (12, [0, 5, 39, 40, 41])], [], []⟩),
  (76, ⟨[(0, [2]), (1, [5]), (2, [0]), (4, [9]), (5, [4, 10, 11, 12, 13]), (6, [14]), (7, [3, 6, 7, 15])], [], []⟩),
  (77, ⟨[(0, [3]), (1, [0, 1, 4, 5, 6, 7, 8])], [], []⟩),
  (78, ⟨[(0, [6]), (1, [0, 1, 2, 7, 8, 9, 10, 11, 12, 13, 14])], [], []⟩),
  (79, ⟨[(0, [4]), (1, [6]), (3, [10]), (4, [11, 12, 13, 14, 15]), (5, [0, 1, 5, 7, 8, 17]), (6, [5, 18]), (7, [0, 1, 7, 8])], [], []⟩),
  (80, ⟨[(0, [4]), (1, [14, 15]), (2, [17, 18, 19, 20, 21, 22, 23]), (3, [0, 1, 5]), (4, [25, 26]), (5, [0, 1, 5, 27, 28, 29, 30]), (6, [32, 33, 34, 35]), (7, [0, 1, 5]), (8, [37, 38, 39, 40, 41, 42, 43, 44]), (9, [0, 1, 5, 45, 46, 47]), (10, [48, 49]), (11, [50, 51]), (13, [52, 53, 54, 55, 56]), (15, [57, 58]), (16, [60, 61, 62, 63]), (17, [65, 66, 67, 68, 69, 70, 71]), (18, [72]), (19, [0, 1, 5, 6, 7, 8, 9, 10, 11]), (20, [11, 74, 75, 76, 77]), (21, [78, 79, 80, 81, 82, 83, 84, 85, 86, 87, 88, 89, 90, 91, 92]), (22, [0, 1, 5, 6, 7, 8, 9, 10, 94]), (23, [95, 96]), (24, [97, 98]), (25, [99, 100, 101, 102, 103, 104, 105, 106]), (26, [0, 1, 5, 6, 7, 9, 10, 108, 109, 110, 111, 112]), (27, [113]), (28, [8, 12, 115, 116, 117]), (29, [8, 12]), (30, [118, 119, 120, 121, 122, 123, 124, 125, 126, 127, 128, 129, 130, 131]), (31, [0, 1, 5, 6, 7, 9, 10, 133, 134, 135, 136, 137]), (32, [138]), (33, [8, 13]), (34, [8, 13, 140, 141, 142]), (35, [0, 1, 5, 6, 7, 8, 9, 10])], [], []⟩),
  (82, ⟨[(0, [3]), (1, [0, 1, 4, 5, 6, 7])], [], []⟩),
  (83, ⟨[(0, [4]), (1, [6]), (3, [10]), (4, [11, 12, 13, 14, 15]), (5, [0, 1, 5, 7, 8, 17]), (6, [5, 18]), (7, [0, 1, 7, 8])], [], []⟩),
  (84, ⟨[(0, [4]), (1, [6]), (3, [10]), (4, [11, 12, 13, 14, 15]), (5, [0, 1, 5, 7, 8, 17]), (6, [5, 18]), (7, [0, 1, 7, 8])], [], []⟩)]
/-- What is not interpreted, on plain data. -/
def gP (f : Nat) (vs : List AV) : Option AV := if f = 85 then match vs with
  | [.d .str s, .d (.int .u8) c] => some (.d (.int .i64) (Lib.indexByte s.data.toList c.toNat.toUInt8))
  | _ => none
  else none
def given (f : Nat) (vs : List AV) (h : Heap) : Option (AV × Heap) := match h with
  | [] => (gP f vs).map fun r => (r, [])
  | _ => none
noncomputable def pr : Prog := ⟨tab, tyOf, by_, lookT fnL, fun f => (lookT annL f).getD ⟨[], [], []⟩, given⟩
theorem fns : ∀ x ∈ fnL, Try.prog.funcs[x.1]? = some x.2 ∧ fnOkB pr x.1 = true := by
  unfold fnL
  simp only [List.forall_mem_cons, List.not_mem_nil, false_implies, implies_true, and_true]
  exact ⟨⟨Try.func3, by kernel_rfl⟩, ⟨Try.func4, by kernel_rfl⟩, ⟨Try.func6, by kernel_rfl⟩, ⟨Try.func7, by kernel_rfl⟩, ⟨Try.func8, by kernel_rfl⟩, ⟨Try.func9, by kernel_rfl⟩, ⟨Try.func10, by kernel_rfl⟩, ⟨Try.func11, by kernel_rfl⟩, ⟨Try.func12, by kernel_rfl⟩, ⟨Try.func13, by kernel_rfl⟩, ⟨Try.func14, by kernel_rfl⟩, ⟨Try.func15, by kernel_rfl⟩, ⟨Try.func16, by kernel_rfl⟩, ⟨Try.func17, by kernel_rfl⟩, ⟨Try.func18, by kernel_rfl⟩, ⟨Try.func23, by kernel_rfl⟩, ⟨Try.func24, by kernel_rfl⟩, ⟨Try.func25, by kernel_rfl⟩, ⟨Try.func26, by kernel_rfl⟩, ⟨Try.func27, by kernel_rfl⟩, ⟨Try.func28, by kernel_rfl⟩, ⟨Try.func29, by kernel_rfl⟩, ⟨Try.func30, by kernel_rfl⟩, ⟨Try.func31, by kernel_rfl⟩, ⟨Try.func32, by kernel_rfl⟩, ⟨Try.func33, by kernel_rfl⟩, ⟨Try.func34, by kernel_rfl⟩, ⟨Try.func35, by kernel_rfl⟩, ⟨Try.func36, by kernel_rfl⟩, ⟨Try.func37, by kernel_rfl⟩, ⟨Try.func38, by kernel_rfl⟩, ⟨Try.func39, by kernel_rfl⟩, ⟨Try.func40, by kernel_rfl⟩, ⟨Try.func41, by kernel_rfl⟩, ⟨Try.func42, by kernel_rfl⟩, ⟨Try.func43, by kernel_rfl⟩, ⟨Try.func44, by kernel_rfl⟩, ⟨Try.func45, by kernel_rfl⟩, ⟨Try.func51, by kernel_rfl⟩, ⟨Try.func52, by kernel_rfl⟩, ⟨Try.func53, by kernel_rfl⟩, ⟨Try.func54, by kernel_rfl⟩, ⟨Try.func55, by kernel_rfl⟩, ⟨Try.func56, by kernel_rfl⟩, ⟨Try.func57, by kernel_rfl⟩, ⟨Try.func58, by kernel_rfl⟩, ⟨Try.func59, by kernel_rfl⟩, ⟨Try.func60, by kernel_rfl⟩, ⟨Try.func61, by kernel_rfl⟩, ⟨Try.func62, by kernel_rfl⟩, ⟨Try.func63, by kernel_rfl⟩, ⟨Try.func64, by kernel_rfl⟩, ⟨Try.func65, by kernel_rfl⟩, ⟨Try.func66, by kernel_rfl⟩, ⟨Try.func69, by kernel_rfl⟩, ⟨Try.func70, by kernel_rfl⟩, ⟨Try.func71, by kernel_rfl⟩, ⟨Try.func72, by kernel_rfl⟩, ⟨Try.func73, by kernel_rfl⟩, ⟨Try.func74, by kernel_rfl⟩, ⟨Try.func75, by kernel_rfl⟩, ⟨Try.func76, by kernel_rfl⟩, ⟨Try.func77, by kernel_rfl⟩, ⟨Try.func78, by kernel_rfl⟩, ⟨Try.func79, by kernel_rfl⟩, ⟨Try.func80, by kernel_rfl⟩, ⟨Try.func82, by kernel_rfl⟩, ⟨Try.func83, by kernel_rfl⟩, ⟨Try.func84, by kernel_rfl⟩⟩
theorem fn_3 : pr.fn 3 = some Try.f3 := rfl
theorem ann_3 : pr.ann 3 = ⟨[(0, [0, 2]), (2, [7, 8, 9]), (3, [3, 10]), (4, [1]), (5, [12, 13, 14]), (6, [15, 16]), (7, [17, 18]), (8, [4, 6, 19, 20]), (9, [1, 5]), (10, [1, 5, 22, 23, 24, 25])], [], []⟩ := rfl
theorem fn_4 : pr.fn 4 = some Try.f4 := rfl
theorem ann_4 : pr.ann 4 = ⟨[(0, [2]), (1, [14, 15]), (2, [0]), (3, [17, 18, 19, 20, 21, 22]), (4, [23, 24, 25, 26, 27, 28]), (5, [7, 8, 29, 30, 31, 32, 33, 34, 35, 36, 37, 38, 39, 40, 41]), (6, [0, 3, 4, 5, 6]), (8, [43, 44, 45]), (10, [46, 47, 48]), (11, [49]), (12, [0, 3, 4, 5, 6, 9, 10]), (13, [10, 51, 52]), (14, [0, 3, 4, 5, 6, 9]), (15, [0, 54, 55, 56, 57, 58, 59]), (16, [3, 4, 5, 11, 12, 13, 60, 61, 62, 63, 64, 65, 66, 67, 68, 69, 70, 71, 72]), (17, [6, 9]), (19, [6, 74, 75, 76]), (20, [77]), (21, [9, 10]), (22, [9, 10, 79, 80])], [], []⟩ := rfl
theorem fn_6 : pr.fn 6 = some Try.f6 := rfl
theorem ann_6 : pr.ann 6 = ⟨[(0, [0, 2]), (2, [14, 15, 16]), (3, [3, 17]), (4, [1]), (5, [19, 20, 21, 22, 23, 24]), (6, [25, 26]), (7, [27, 28, 29, 30, 31]), (8, [32, 33, 34, 35, 36, 37, 38, 39]), (9, [1, 4, 5, 6, 7, 8]), (10, [41, 42, 43, 44]), (11, [1, 4, 5, 6, 7, 8]), (13, [6, 46, 47, 48]), (14, [8, 9, 49, 50, 51, 52, 53, 54, 55, 56, 57, 58, 59, 60]), (15, [1, 4, 5, 7]), (17, [62, 63, 64]), (19, [65, 66, 67]), (20, [68]), (21, [1, 4, 5, 7, 10, 11]), (22, [11, 70, 71]), (23, [1, 4, 5, 7, 10]), (24, [1, 73, 74, 75, 76, 77, 78]), (25, [4, 5, 12, 13, 79, 80, 81, 82, 83, 84, 85, 86]), (26, [7, 10]), (28, [7, 88, 89, 90]), (29, [91]), (30, [10, 11]), (31, [10, 11, 93, 94])], [], []⟩ := rfl
theorem fn_7 : pr.fn 7 = some Try.f7 := rfl
theorem ann_7 : pr.ann 7 = ⟨[(0, [0, 2]), (2, [9, 10, 11]), (3, [3, 12]), (4, [1]), (5, [14, 15, 16, 17, 18, 19]), (6, [20, 21]), (7, [22, 23, 24, 25, 26]), (8, [4, 5, 7, 8, 27, 28, 29, 30, 31, 32, 33]), (9, [1, 6]), (10, [1, 6, 35, 36, 37, 38])], [], []⟩ := rfl
theorem fn_8 : pr.fn 8 = some Try.f8 := rfl
theorem ann_8 : pr.ann 8 = ⟨[(0, [0, 2]), (2, [14, 15, 16]), (3, [3, 17]), (4, [1]), (5, [19, 20, 21, 22, 23, 24]), (6, [25, 26]), (7, [27, 28, 29, 30, 31]), (8, [32, 33, 34, 35, 36, 37, 38, 39]), (9, [1, 4, 5, 6, 7, 8]), (10, [41, 42, 43, 44]), (11, [1, 4, 5, 6, 7, 8]), (13, [6, 46, 47, 48]), (14, [8, 9, 49, 50, 51, 52, 53, 54, 55, 56, 57, 58, 59, 60]), (15, [1, 4, 5, 7]), (17, [62, 63, 64]), (19, [65, 66, 67]), (20, [68]), (21, [1, 4, 5, 7, 10, 11]), (22, [11, 70, 71]), (23, [1, 4, 5, 7, 10]), (24, [1, 73, 74, 75, 76, 77, 78]), (25, [4, 5, 12, 13, 79, 80, 81, 82, 83, 84, 85, 86]), (26, [7, 10]), (28, [7, 88, 89, 90]), (29, [91]), (30, [10, 11]), (31, [10, 11, 93, 94])], [], []⟩ := rfl
theorem fn_9 : pr.fn 9 = some Try.f9 := rfl
theorem ann_9 : pr.ann 9 = ⟨[(0, [0, 4]), (1, [2, 5, 6, 7, 8]), (2, [9]), (3, [1]), (4, [1, 11])], [], []⟩ := rfl
theorem fn_10 : pr.fn 10 = some Try.f10 := rfl
theorem ann_10 : pr.ann 10 = ⟨[(0, [0, 2]), (1, [1, 3])], [], []⟩ := rfl
theorem fn_11 : pr.fn 11 = some Try.f11 := rfl
theorem ann_11 : pr.ann 11 = ⟨[(0, [0]), (2, [1, 4, 5, 6, 7]), (3, [3, 8])], [], []⟩ := rfl
theorem fn_12 : pr.fn 12 = some Try.f12 := rfl
theorem ann_12 : pr.ann 12 = ⟨[(0, [0, 2]), (1, [5, 6, 7, 8]), (2, [1]), (3, [1, 10]), (5, [15, 16, 17]), (6, [3, 4, 18, 19, 20, 21, 22, 23, 24, 25, 26]), (7, [11, 12, 13]), (8, [28]), (9, [11, 12, 13])], [], []⟩ := rfl
theorem fn_13 : pr.fn 13 = some Try.f13 := rfl
theorem ann_13 : pr.ann 13 = ⟨[(0, [0, 1, 4]), (1, [2, 3, 5, 6, 7, 8, 9])], [], []⟩ := rfl
theorem fn_14 : pr.fn 14 = some Try.f14 := rfl
theorem ann_14 : pr.ann 14 = ⟨[(0, [2, 3, 4]), (1, [12, 13]), (2, [0]), (3, [0, 6, 15, 16, 17, 18, 19]), (4, [20]), (8, [21, 22, 23]), (9, [25, 26]), (10, [27, 28, 29, 30]), (11, [8, 31, 32, 33, 34, 35, 36, 37, 38, 39, 40, 41, 42, 43, 44, 45, 46, 47]), (12, [49, 50]), (13, [51, 52, 53, 54, 55]), (14, [11, 56, 57, 58, 59, 60]), (15, [5, 7, 8, 9, 10, 11, 61, 62])], [(11, [0, 1, 2, 3, 4, 5, 6, 7, 8, 9, 10, 11, 12, 14, 15, 13, 16, 17])], []⟩ := rfl
theorem fn_15 : pr.fn 15 = some Try.f15 := rfl
theorem ann_15 : pr.ann 15 = ⟨[(0, [2, 3, 4]), (1, [15, 16]), (2, [0]), (3, [18]), (4, [9, 19, 20, 21, 22, 23, 24, 25, 26]), (5, [11, 27, 28, 29, 30, 31, 32]), (6, [7, 33, 34, 35, 36]), (7, [10, 13, 37, 38, 39, 40, 41, 42, 43, 44, 45, 46, 47, 48, 49]), (8, [0, 5, 6, 8, 12, 14, 51, 52]), (9, [12, 14, 53, 54, 55, 56, 57]), (10, [8, 58, 59, 60, 61, 62])], [], []⟩ := rfl
theorem fn_16 : pr.fn 16 = some Try.f16 := rfl
theorem ann_16 : pr.ann 16 = ⟨[(0, [4]), (1, [6, 7, 8, 9]), (2, [0, 1]), (4, [11, 12, 13]), (5, [15, 16]), (6, [17, 18, 19, 20, 21, 22, 23, 24]), (7, [0, 1, 5]), (8, [0, 1, 5])], [], []⟩ := rfl
theorem fn_17 : pr.fn 17 = some Try.f17 := rfl
theorem ann_17 : pr.ann 17 = ⟨[(0, [4]), (2, [6, 7, 8]), (3, [10, 11]), (4, [12, 13, 14, 15, 16]), (5, [17, 18]), (6, [0, 1, 5, 19])], [], []⟩ := rfl
theorem fn_18 : pr.fn 18 = some Try.f18 := rfl
theorem ann_18 : pr.ann 18 = ⟨[(0, [4]), (2, [6, 7, 8]), (3, [10, 11]), (4, [12, 13, 14, 15, 16, 17]), (5, [0, 1, 5]), (6, [19, 20]), (7, [0, 1, 5, 21])], [], []⟩ := rfl
theorem fn_23 : pr.fn 23 = some Try.f23 := rfl
theorem ann_23 : pr.ann 23 = ⟨[(0, [0, 2, 3]), (1, [4]), (2, [1]), (3, [1, 6, 7])], [], []⟩ := rfl
theorem fn_24 : pr.fn 24 = some Try.f24 := rfl
theorem ann_24 : pr.ann 24 = ⟨[(0, [0, 2, 3]), (1, [4, 5]), (2, [1]), (3, [1, 7, 8])], [], []⟩ := rfl
theorem fn_25 : pr.fn 25 = some Try.f25 := rfl
theorem ann_25 : pr.ann 25 = ⟨[(0, [4]), (1, [6, 7, 8, 9]), (2, [0, 1]), (4, [11, 12, 13]), (5, [15, 16]), (6, [17, 18, 19, 20, 21, 22, 23, 24]), (7, [0, 1, 5]), (8, [0, 1, 5])], [], []⟩ := rfl
theorem fn_26 : pr.fn 26 = some Try.f26 := rfl
theorem ann_26 : pr.ann 26 = ⟨[(0, [0, 4]), (1, [2, 5, 6, 7, 8]), (2, [1, 9])], [], []⟩ := rfl
theorem fn_27 : pr.fn 27 = some Try.f27 := rfl
theorem ann_27 : pr.ann 27 = ⟨[(0, [4]), (2, [6, 7, 8]), (3, [10, 11]), (4, [12, 13, 14, 15]), (5, [16, 17]), (6, [0, 1, 5, 18])], [], []⟩ := rfl
theorem fn_28 : pr.fn 28 = some Try.f28 := rfl
theorem ann_28 : pr.ann 28 = ⟨[(0, [4]), (2, [6, 7, 8]), (3, [10, 11]), (4, [12, 13, 14, 15, 16]), (5, [0, 1, 5]), (6, [18, 19]), (7, [0, 1, 5, 20])], [], []⟩ := rfl
theorem fn_29 : pr.fn 29 = some Try.f29 := rfl
theorem ann_29 : pr.ann 29 = ⟨[(0, [0, 2, 3]), (1, [4]), (2, [1]), (3, [1, 6, 7, 8, 9])], [], []⟩ := rfl
theorem fn_30 : pr.fn 30 = some Try.f30 := rfl
theorem ann_30 : pr.ann 30 = ⟨[(0, [0, 2, 3]), (1, [6, 7]), (2, [1]), (3, [1, 9, 10, 11, 12, 13, 14]), (4, [4, 5, 15, 16, 17, 18, 19])], [(3, [0, 3, 1, 2, 4, 5, 6, 7])], []⟩ := rfl
theorem fn_31 : pr.fn 31 = some Try.f31 := rfl
theorem ann_31 : pr.ann 31 = ⟨[(0, [0, 2, 3]), (1, [4]), (2, [1]), (3, [1, 6, 7])], [], []⟩ := rfl
theorem fn_32 : pr.fn 32 = some Try.f32 := rfl
theorem ann_32 : pr.ann 32 = ⟨[(0, [0, 2, 3]), (1, [4, 5]), (2, [1]), (3, [1, 7, 8])], [], []⟩ := rfl
theorem fn_33 : pr.fn 33 = some Try.f33 := rfl
theorem ann_33 : pr.ann 33 = ⟨[(0, [4]), (1, [6, 7, 8, 9]), (2, [10]), (3, [0, 1]), (5, [12, 13, 14]), (6, [16, 17]), (7, [18, 19, 20, 21, 22, 23]), (8, [24]), (9, [0, 1, 5]), (10, [0, 1, 5, 26])], [], []⟩ := rfl
theorem fn_34 : pr.fn 34 = some Try.f34 := rfl
theorem ann_34 : pr.ann 34 = ⟨[(0, [2]), (1, [5, 6, 7, 8, 9]), (2, [10, 11, 12, 13, 14]), (3, [0, 3]), (5, [16, 17]), (6, [19, 20]), (7, [21, 22, 23, 24, 25, 26, 27, 28, 29, 30]), (8, [0, 3, 4]), (9, [0, 3, 4])], [], []⟩ := rfl
theorem fn_35 : pr.fn 35 = some Try.f35 := rfl
theorem ann_35 : pr.ann 35 = ⟨[(0, [2]), (1, [5, 6, 7]), (3, [8, 9, 10]), (4, [12, 13]), (5, [14, 15, 16, 17, 18, 19, 20, 21]), (6, [0, 3, 4, 22])], [], []⟩ := rfl
theorem fn_36 : pr.fn 36 = some Try.f36 := rfl
theorem ann_36 : pr.ann 36 = ⟨[(0, [6]), (1, [0, 1, 2, 7, 8, 9, 10, 11, 12, 13, 14])], [], []⟩ := rfl
theorem fn_37 : pr.fn 37 = some Try.f37 := rfl
theorem ann_37 : pr.ann 37 = ⟨[(0, [2]), (1, [0, 3, 4])], [], []⟩ := rfl
theorem fn_38 : pr.fn 38 = some Try.f38 := rfl
theorem ann_38 : pr.ann 38 = ⟨[(0, [1, 2, 6]), (1, [0, 4, 5, 7, 8, 9, 10])], [], []⟩ := rfl
theorem fn_39 : pr.fn 39 = some Try.f39 := rfl
theorem ann_39 : pr.ann 39 = ⟨[(0, [2]), (2, [4, 5, 6]), (3, [8, 9]), (4, [10, 11, 12, 13, 14, 15, 16, 17, 18]), (5, [0, 3]), (6, [0, 3])], [], []⟩ := rfl
theorem fn_40 : pr.fn 40 = some Try.f40 := rfl
theorem ann_40 : pr.ann 40 = ⟨[(0, [4]), (1, [6, 7, 8, 9]), (2, [0, 1]), (4, [11, 12, 13]), (5, [15, 16]), (6, [17, 18, 19, 20, 21, 22, 23, 24, 25]), (7, [0, 1, 5]), (8, [0, 1, 5])], [], []⟩ := rfl
theorem fn_41 : pr.fn 41 = some Try.f41 := rfl
theorem ann_41 : pr.ann 41 = ⟨[(0, [2, 3]), (1, [7]), (4, [8, 9, 10]), (5, [12, 13]), (6, [14, 15, 16]), (7, [5, 18, 19, 20, 21, 22, 23, 24]), (8, [25, 26]), (9, [0, 4, 5, 6, 27, 28, 29, 30])], [], []⟩ := rfl
theorem fn_42 : pr.fn 42 = some Try.f42 := rfl
theorem ann_42 : pr.ann 42 = ⟨[(0, [2]), (3, [5, 6, 7]), (4, [9, 10]), (5, [11, 12, 13, 14, 15, 16, 17, 18]), (6, [0, 3, 4, 19, 20, 21, 22, 23, 24, 25, 26, 27, 28])], [], []⟩ := rfl
theorem fn_43 : pr.fn 43 = some Try.f43 := rfl
theorem ann_43 : pr.ann 43 = ⟨[(0, [4, 5, 6]), (1, [0, 1, 7, 8, 9, 10, 11, 12])], [], []⟩ := rfl
theorem fn_44 : pr.fn 44 = some Try.f44 := rfl
theorem ann_44 : pr.ann 44 = ⟨[(0, [2]), (2, [5]), (4, [9]), (5, [4, 10, 11, 12, 13, 14, 15, 16, 17]), (6, [18]), (7, [0, 3, 6, 7, 19, 20, 21, 22, 23, 24, 25, 26, 27, 28])], [], []⟩ := rfl
theorem fn_45 : pr.fn 45 = some Try.f45 := rfl
theorem ann_45 : pr.ann 45 = ⟨[(0, [2]), (1, [4]), (2, [0]), (4, [6]), (5, [8, 9, 10, 11, 12, 13, 14, 15]), (6, [16, 17]), (7, [0, 3, 18, 19])], [], []⟩ := rfl
theorem fn_51 : pr.fn 51 = some Try.f51 := rfl
theorem ann_51 : pr.ann 51 = ⟨[(0, [2]), (1, [5]), (3, [6]), (4, [8, 9]), (5, [10, 11, 12, 13, 14]), (6, [16, 17, 18, 19]), (7, [0, 3, 4, 20])], [], []⟩ := rfl
theorem fn_52 : pr.fn 52 = some Try.f52 := rfl
theorem ann_52 : pr.ann 52 = ⟨[(0, [2]), (3, [5, 6, 7, 8, 9, 10]), (4, [12, 13]), (5, [14, 15, 16, 17, 18, 19, 20, 21]), (6, [23, 24, 25, 26, 27]), (7, [0, 3, 4, 28])], [], []⟩ := rfl
theorem fn_53 : pr.fn 53 = some Try.f53 := rfl
theorem ann_53 : pr.ann 53 = ⟨[(0, [0, 2]), (1, [1, 3, 4, 5])], [], []⟩ := rfl
theorem fn_54 : pr.fn 54 = some Try.f54 := rfl
theorem ann_54 : pr.ann 54 = ⟨[(0, [4]), (2, [6, 7, 8]), (3, [10, 11]), (4, [12, 13, 14, 15, 16, 17]), (5, [0, 1, 5, 18])], [], []⟩ := rfl
theorem fn_55 : pr.fn 55 = some Try.f55 := rfl
theorem ann_55 : pr.ann 55 = ⟨[(0, [2]), (2, [4]), (3, [6, 7, 8, 9]), (4, [10, 11]), (5, [0, 3, 12])], [], []⟩ := rfl
theorem fn_56 : pr.fn 56 = some Try.f56 := rfl
theorem ann_56 : pr.ann 56 = ⟨[(0, [2]), (1, [6, 7, 8, 9, 10, 11, 12, 13]), (3, [14, 15, 16, 17, 18, 19]), (4, [5, 21, 22]), (6, [23, 24, 25, 26, 27, 28, 29, 30, 31]), (7, [33, 34]), (8, [35, 36, 37, 38, 39, 40, 41, 42, 43, 44, 45, 46, 47, 48]), (9, [0, 3, 4, 49])], [], []⟩ := rfl
theorem fn_57 : pr.fn 57 = some Try.f57 := rfl
theorem ann_57 : pr.ann 57 = ⟨[(0, [2]), (2, [0]), (4, [10, 11]), (5, [5, 12, 13, 14, 15]), (6, [16]), (7, [3, 6, 7, 8, 17])], [], []⟩ := rfl
theorem fn_58 : pr.fn 58 = some Try.f58 := rfl
theorem ann_58 : pr.ann 58 = ⟨[(0, [0, 2]), (1, [1, 3, 4, 5])], [], []⟩ := rfl
theorem fn_59 : pr.fn 59 = some Try.f59 := rfl
theorem ann_59 : pr.ann 59 = ⟨[(0, [2]), (1, [0, 3, 4])], [], []⟩ := rfl
theorem fn_60 : pr.fn 60 = some Try.f60 := rfl
theorem ann_60 : pr.ann 60 = ⟨[(0, [0, 2]), (1, [1, 3, 4, 5])], [], []⟩ := rfl
theorem fn_61 : pr.fn 61 = some Try.f61 := rfl
theorem ann_61 : pr.ann 61 = ⟨[(0, [4]), (1, [0, 5, 6, 7, 8]), (2, [9]), (3, [1]), (4, [1, 11])], [], []⟩ := rfl
theorem fn_62 : pr.fn 62 = some Try.f62 := rfl
theorem ann_62 : pr.ann 62 = ⟨[(0, [6]), (2, [8, 9, 10]), (3, [12, 13]), (4, [14, 15, 16, 17, 18, 19, 20, 21, 22, 23, 24, 25, 26, 27, 28, 29, 30, 31, 32, 33, 34, 35, 36]), (5, [0, 1, 2, 7]), (6, [0, 1, 2, 7])], [], []⟩ := rfl
theorem fn_63 : pr.fn 63 = some Try.f63 := rfl
theorem ann_63 : pr.ann 63 = ⟨[(0, [2]), (1, [5, 6, 7]), (3, [8, 9, 10]), (4, [12, 13]), (5, [14, 15, 16, 17, 18, 19, 20]), (6, [0, 3, 4, 21])], [], []⟩ := rfl
theorem fn_64 : pr.fn 64 = some Try.f64 := rfl
theorem ann_64 : pr.ann 64 = ⟨[(0, [4]), (1, [0, 1, 5, 6, 7, 8])], [], []⟩ := rfl
theorem fn_65 : pr.fn 65 = some Try.f65 := rfl
theorem ann_65 : pr.ann 65 = ⟨[(0, [4]), (1, [0, 1, 2, 5, 6, 7, 8, 9])], [], []⟩ := rfl
theorem fn_66 : pr.fn 66 = some Try.f66 := rfl
theorem ann_66 : pr.ann 66 = ⟨[(0, [4, 5, 6]), (1, [8, 9, 10]), (2, [11]), (3, [0, 1, 7, 13, 14, 15, 16, 17, 18, 19, 20, 21]), (4, [0, 1, 7, 22])], [], []⟩ := rfl
theorem fn_69 : pr.fn 69 = some Try.f69 := rfl
theorem ann_69 : pr.ann 69 = ⟨[(0, [0, 1, 4]), (1, [2, 3, 5, 6, 7, 8, 9, 10])], [], []⟩ := rfl
theorem fn_70 : pr.fn 70 = some Try.f70 := rfl
theorem ann_70 : pr.ann 70 = ⟨[(0, [3]), (1, [0, 1, 4, 5, 6, 7, 8, 9, 10])], [], []⟩ := rfl
theorem fn_71 : pr.fn 71 = some Try.f71 := rfl
theorem ann_71 : pr.ann 71 = ⟨[(0, [0, 3]), (1, [1, 2, 4, 5, 6, 7, 8])], [], []⟩ := rfl
theorem fn_72 : pr.fn 72 = some Try.f72 := rfl
theorem ann_72 : pr.ann 72 = ⟨[(0, [4]), (1, [0, 1, 5, 6, 7, 8])], [], []⟩ := rfl
theorem fn_73 : pr.fn 73 = some Try.f73 := rfl
theorem ann_73 : pr.ann 73 = ⟨[(0, [3]), (1, [0, 1, 4, 5, 6])], [], []⟩ := rfl
theorem fn_74 : pr.fn 74 = some Try.f74 := rfl
theorem ann_74 : pr.ann 74 = ⟨[(0, [4]), (1, [0, 1, 5, 6, 7, 8])], [], []⟩ := rfl
theorem fn_75 : pr.fn 75 = some Try.f75 := rfl
theorem ann_75 : pr.ann 75 = ⟨[(0, [4]), (1, [8, 9, 10]), (2, [11]), (3, [0, 1, 5, 13]), (4, [14, 15]), (5, [16, 17, 18]), (6, [7, 20, 21]), (7, [22, 23, 24, 25]), (8, [26, 27, 28]), (9, [7, 30, 31, 32, 33]), (10, [34, 35]), (11, [1, 6, 36, 37, 38]), (12, [0, 5, 39, 40, 41])], [], []⟩ := rfl
theorem fn_76 : pr.fn 76 = some Try.f76 := rfl
theorem ann_76 : pr.ann 76 = ⟨[(0, [2]), (1, [5]), (2, [0]), (4, [9]), (5, [4, 10, 11, 12, 13]), (6, [14]), (7, [3, 6, 7, 15])], [], []⟩ := rfl
theorem fn_77 : pr.fn 77 = some Try.f77 := rfl
theorem ann_77 : pr.ann 77 = ⟨[(0, [3]), (1, [0, 1, 4, 5, 6, 7, 8])], [], []⟩ := rfl
theorem fn_78 : pr.fn 78 = some Try.f78 := rfl
theorem ann_78 : pr.ann 78 = ⟨[(0, [6]), (1, [0, 1, 2, 7, 8, 9, 10, 11, 12, 13, 14])], [], []⟩ := rfl
theorem fn_79 : pr.fn 79 = some Try.f79 := rfl
theorem ann_79 : pr.ann 79 = ⟨[(0, [4]), (1, [6]), (3, [10]), (4, [11, 12, 13, 14, 15]), (5, [0, 1, 5, 7, 8, 17]), (6, [5, 18]), (7, [0, 1, 7, 8])], [], []⟩ := rfl
theorem fn_80 : pr.fn 80 = some Try.f80 := rfl
theorem ann_80 : pr.ann 80 = ⟨[(0, [4]), (1, [14, 15]), (2, [17, 18, 19, 20, 21, 22, 23]), (3, [0, 1, 5]), (4, [25, 26]), (5, [0, 1, 5, 27, 28, 29, 30]), (6, [32, 33, 34, 35]), (7, [0, 1, 5]), (8, [37, 38, 39, 40, 41, 42, 43, 44]), (9, [0, 1, 5, 45, 46, 47]), (10, [48, 49]), (11, [50, 51]), (13, [52, 53, 54, 55, 56]), (15, [57, 58]), (16, [60, 61, 62, 63]), (17, [65, 66, 67, 68, 69, 70, 71]), (18, [72]), (19, [0, 1, 5, 6, 7, 8, 9, 10, 11]), (20, [11, 74, 75, 76, 77]), (21, [78, 79, 80, 81, 82, 83, 84, 85, 86, 87, 88, 89, 90, 91, 92]), (22, [0, 1, 5, 6, 7, 8, 9, 10, 94]), (23, [95, 96]), (24, [97, 98]), (25, [99, 100, 101, 102, 103, 104, 105, 106]), (26, [0, 1, 5, 6, 7, 9, 10, 108, 109, 110, 111, 112]), (27, [113]), (28, [8, 12, 115, 116, 117]), (29, [8, 12]), (30, [118, 119, 120, 121, 122, 123, 124, 125, 126, 127, 128, 129, 130, 131]), (31, [0, 1, 5, 6, 7, 9, 10, 133, 134, 135, 136, 137]), (32, [138]), (33, [8, 13]), (34, [8, 13, 140, 141, 142]), (35, [0, 1, 5, 6, 7, 8, 9, 10])], [], []⟩ := rfl
theorem fn_82 : pr.fn 82 = some Try.f82 := rfl
theorem ann_82 : pr.ann 82 = ⟨[(0, [3]), (1, [0, 1, 4, 5, 6, 7])], [], []⟩ := rfl
theorem fn_83 : pr.fn 83 = some Try.f83 := rfl
theorem ann_83 : pr.ann 83 = ⟨[(0, [4]), (1, [6]), (3, [10]), (4, [11, 12, 13, 14, 15]), (5, [0, 1, 5, 7, 8, 17]), (6, [5, 18]), (7, [0, 1, 7, 8])], [], []⟩ := rfl
theorem fn_84 : pr.fn 84 = some Try.f84 := rfl
theorem ann_84 : pr.ann 84 = ⟨[(0, [4]), (1, [6]), (3, [10]), (4, [11, 12, 13, 14, 15]), (5, [0, 1, 5, 7, 8, 17]), (6, [5, 18]), (7, [0, 1, 7, 8])], [], []⟩ := rfl
@[go_sem] theorem fin_3 (E : Env) (s : Slots) (h : Heap) : finish E Try.f3 ⟨s, h⟩ = (mapO (resultVar E ⟨s, h⟩) [.tmp 2]).map (finish2 h) := finish_eq Try.f3 _ rfl
@[go_sem] theorem fin_4 (E : Env) (s : Slots) (h : Heap) : finish E Try.f4 ⟨s, h⟩ = (mapO (resultVar E ⟨s, h⟩) [.tmp 2]).map (finish2 h) := finish_eq Try.f4 _ rfl
@[go_sem] theorem fin_6 (E : Env) (s : Slots) (h : Heap) : finish E Try.f6 ⟨s, h⟩ = (mapO (resultVar E ⟨s, h⟩) [.tmp 2]).map (finish2 h) := finish_eq Try.f6 _ rfl
@[go_sem] theorem fin_7 (E : Env) (s : Slots) (h : Heap) : finish E Try.f7 ⟨s, h⟩ = (mapO (resultVar E ⟨s, h⟩) [.tmp 2]).map (finish2 h) := finish_eq Try.f7 _ rfl
@[go_sem] theorem fin_8 (E : Env) (s : Slots) (h : Heap) : finish E Try.f8 ⟨s, h⟩ = (mapO (resultVar E ⟨s, h⟩) [.tmp 2]).map (finish2 h) := finish_eq Try.f8 _ rfl
@[go_sem] theorem fin_9 (E : Env) (s : Slots) (h : Heap) : finish E Try.f9 ⟨s, h⟩ = (mapO (resultVar E ⟨s, h⟩) [.tmp 4]).map (finish2 h) := finish_eq Try.f9 _ rfl
@[go_sem] theorem fin_10 (E : Env) (s : Slots) (h : Heap) : finish E Try.f10 ⟨s, h⟩ = (mapO (resultVar E ⟨s, h⟩) [.tmp 2]).map (finish2 h) := finish_eq Try.f10 _ rfl
@[go_sem] theorem fin_11 (E : Env) (s : Slots) (h : Heap) : finish E Try.f11 ⟨s, h⟩ = (mapO (resultVar E ⟨s, h⟩) [.cell 2 27]).map (finish2 h) := finish_eq Try.f11 _ rfl
@[go_sem] theorem fin_12 (E : Env) (s : Slots) (h : Heap) : finish E Try.f12 ⟨s, h⟩ = (mapO (resultVar E ⟨s, h⟩) [.tmp 2]).map (finish2 h) := finish_eq Try.f12 _ rfl
@[go_sem] theorem fin_13 (E : Env) (s : Slots) (h : Heap) : finish E Try.f13 ⟨s, h⟩ = (mapO (resultVar E ⟨s, h⟩) [.tmp 4]).map (finish2 h) := finish_eq Try.f13 _ rfl
@[go_sem] theorem fin_14 (E : Env) (s : Slots) (h : Heap) : finish E Try.f14 ⟨s, h⟩ = (mapO (resultVar E ⟨s, h⟩) [.tmp 2, .tmp 3, .tmp 4]).map (finish2 h) := finish_eq Try.f14 _ rfl
@[go_sem] theorem fin_15 (E : Env) (s : Slots) (h : Heap) : finish E Try.f15 ⟨s, h⟩ = (mapO (resultVar E ⟨s, h⟩) [.tmp 2, .tmp 3, .tmp 4]).map (finish2 h) := finish_eq Try.f15 _ rfl
@[go_sem] theorem fin_16 (E : Env) (s : Slots) (h : Heap) : finish E Try.f16 ⟨s, h⟩ = (mapO (resultVar E ⟨s, h⟩) [.tmp 4]).map (finish2 h) := finish_eq Try.f16 _ rfl
@[go_sem] theorem fin_17 (E : Env) (s : Slots) (h : Heap) : finish E Try.f17 ⟨s, h⟩ = (mapO (resultVar E ⟨s, h⟩) [.tmp 4]).map (finish2 h) := finish_eq Try.f17 _ rfl
@[go_sem] theorem fin_18 (E : Env) (s : Slots) (h : Heap) : finish E Try.f18 ⟨s, h⟩ = (mapO (resultVar E ⟨s, h⟩) [.tmp 4]).map (finish2 h) := finish_eq Try.f18 _ rfl
@[go_sem] theorem fin_23 (E : Env) (s : Slots) (h : Heap) : finish E Try.f23 ⟨s, h⟩ = (mapO (resultVar E ⟨s, h⟩) [.tmp 2, .tmp 3]).map (finish2 h) := finish_eq Try.f23 _ rfl
@[go_sem] theorem fin_24 (E : Env) (s : Slots) (h : Heap) : finish E Try.f24 ⟨s, h⟩ = (mapO (resultVar E ⟨s, h⟩) [.tmp 2, .tmp 3]).map (finish2 h) := finish_eq Try.f24 _ rfl
@[go_sem] theorem fin_25 (E : Env) (s : Slots) (h : Heap) : finish E Try.f25 ⟨s, h⟩ = (mapO (resultVar E ⟨s, h⟩) [.tmp 4]).map (finish2 h) := finish_eq Try.f25 _ rfl
@[go_sem] theorem fin_26 (E : Env) (s : Slots) (h : Heap) : finish E Try.f26 ⟨s, h⟩ = (mapO (resultVar E ⟨s, h⟩) [.tmp 4]).map (finish2 h) := finish_eq Try.f26 _ rfl
@[go_sem] theorem fin_27 (E : Env) (s : Slots) (h : Heap) : finish E Try.f27 ⟨s, h⟩ = (mapO (resultVar E ⟨s, h⟩) [.tmp 4]).map (finish2 h) := finish_eq Try.f27 _ rfl
@[go_sem] theorem fin_28 (E : Env) (s : Slots) (h : Heap) : finish E Try.f28 ⟨s, h⟩ = (mapO (resultVar E ⟨s, h⟩) [.tmp 4]).map (finish2 h) := finish_eq Try.f28 _ rfl
@[go_sem] theorem fin_29 (E : Env) (s : Slots) (h : Heap) : finish E Try.f29 ⟨s, h⟩ = (mapO (resultVar E ⟨s, h⟩) [.tmp 2, .tmp 3]).map (finish2 h) := finish_eq Try.f29 _ rfl
@[go_sem] theorem fin_30 (E : Env) (s : Slots) (h : Heap) : finish E Try.f30 ⟨s, h⟩ = (mapO (resultVar E ⟨s, h⟩) [.tmp 2, .tmp 3]).map (finish2 h) := finish_eq Try.f30 _ rfl
@[go_sem] theorem fin_31 (E : Env) (s : Slots) (h : Heap) : finish E Try.f31 ⟨s, h⟩ = (mapO (resultVar E ⟨s, h⟩) [.tmp 2, .tmp 3]).map (finish2 h) := finish_eq Try.f31 _ rfl
@[go_sem] theorem fin_32 (E : Env) (s : Slots) (h : Heap) : finish E Try.f32 ⟨s, h⟩ = (mapO (resultVar E ⟨s, h⟩) [.tmp 2, .tmp 3]).map (finish2 h) := finish_eq Try.f32 _ rfl
@[go_sem] theorem fin_33 (E : Env) (s : Slots) (h : Heap) : finish E Try.f33 ⟨s, h⟩ = (mapO (resultVar E ⟨s, h⟩) [.tmp 4]).map (finish2 h) := finish_eq Try.f33 _ rfl
@[go_sem] theorem fin_34 (E : Env) (s : Slots) (h : Heap) : finish E Try.f34 ⟨s, h⟩ = (mapO (resultVar E ⟨s, h⟩) [.tmp 2]).map (finish2 h) := finish_eq Try.f34 _ rfl
@[go_sem] theorem fin_35 (E : Env) (s : Slots) (h : Heap) : finish E Try.f35 ⟨s, h⟩ = (mapO (resultVar E ⟨s, h⟩) [.tmp 2]).map (finish2 h) := finish_eq Try.f35 _ rfl
@[go_sem] theorem fin_36 (E : Env) (s : Slots) (h : Heap) : finish E Try.f36 ⟨s, h⟩ = (mapO (resultVar E ⟨s, h⟩) [.tmp 6]).map (finish2 h) := finish_eq Try.f36 _ rfl
@[go_sem] theorem fin_37 (E : Env) (s : Slots) (h : Heap) : finish E Try.f37 ⟨s, h⟩ = (mapO (resultVar E ⟨s, h⟩) [.tmp 2]).map (finish2 h) := finish_eq Try.f37 _ rfl
@[go_sem] theorem fin_38 (E : Env) (s : Slots) (h : Heap) : finish E Try.f38 ⟨s, h⟩ = (mapO (resultVar E ⟨s, h⟩) [.tmp 6]).map (finish2 h) := finish_eq Try.f38 _ rfl
@[go_sem] theorem fin_39 (E : Env) (s : Slots) (h : Heap) : finish E Try.f39 ⟨s, h⟩ = (mapO (resultVar E ⟨s, h⟩) [.tmp 2]).map (finish2 h) := finish_eq Try.f39 _ rfl
@[go_sem] theorem fin_40 (E : Env) (s : Slots) (h : Heap) : finish E Try.f40 ⟨s, h⟩ = (mapO (resultVar E ⟨s, h⟩) [.tmp 4]).map (finish2 h) := finish_eq Try.f40 _ rfl
@[go_sem] theorem fin_41 (E : Env) (s : Slots) (h : Heap) : finish E Try.f41 ⟨s, h⟩ = (mapO (resultVar E ⟨s, h⟩) [.tmp 2, .tmp 3]).map (finish2 h) := finish_eq Try.f41 _ rfl
@[go_sem] theorem fin_42 (E : Env) (s : Slots) (h : Heap) : finish E Try.f42 ⟨s, h⟩ = (mapO (resultVar E ⟨s, h⟩) [.tmp 2]).map (finish2 h) := finish_eq Try.f42 _ rfl
@[go_sem] theorem fin_43 (E : Env) (s : Slots) (h : Heap) : finish E Try.f43 ⟨s, h⟩ = (mapO (resultVar E ⟨s, h⟩) [.tmp 4, .tmp 5, .tmp 6]).map (finish2 h) := finish_eq Try.f43 _ rfl
@[go_sem] theorem fin_44 (E : Env) (s : Slots) (h : Heap) : finish E Try.f44 ⟨s, h⟩ = (mapO (resultVar E ⟨s, h⟩) [.tmp 2]).map (finish2 h) := finish_eq Try.f44 _ rfl
@[go_sem] theorem fin_45 (E : Env) (s : Slots) (h : Heap) : finish E Try.f45 ⟨s, h⟩ = (mapO (resultVar E ⟨s, h⟩) [.tmp 2]).map (finish2 h) := finish_eq Try.f45 _ rfl
@[go_sem] theorem fin_51 (E : Env) (s : Slots) (h : Heap) : finish E Try.f51 ⟨s, h⟩ = (mapO (resultVar E ⟨s, h⟩) [.tmp 2]).map (finish2 h) := finish_eq Try.f51 _ rfl
@[go_sem] theorem fin_52 (E : Env) (s : Slots) (h : Heap) : finish E Try.f52 ⟨s, h⟩ = (mapO (resultVar E ⟨s, h⟩) [.tmp 2]).map (finish2 h) := finish_eq Try.f52 _ rfl
@[go_sem] theorem fin_53 (E : Env) (s : Slots) (h : Heap) : finish E Try.f53 ⟨s, h⟩ = (mapO (resultVar E ⟨s, h⟩) [.tmp 2]).map (finish2 h) := finish_eq Try.f53 _ rfl
@[go_sem] theorem fin_54 (E : Env) (s : Slots) (h : Heap) : finish E Try.f54 ⟨s, h⟩ = (mapO (resultVar E ⟨s, h⟩) [.tmp 4]).map (finish2 h) := finish_eq Try.f54 _ rfl
@[go_sem] theorem fin_55 (E : Env) (s : Slots) (h : Heap) : finish E Try.f55 ⟨s, h⟩ = (mapO (resultVar E ⟨s, h⟩) [.tmp 2]).map (finish2 h) := finish_eq Try.f55 _ rfl
@[go_sem] theorem fin_56 (E : Env) (s : Slots) (h : Heap) : finish E Try.f56 ⟨s, h⟩ = (mapO (resultVar E ⟨s, h⟩) [.tmp 2]).map (finish2 h) := finish_eq Try.f56 _ rfl
@[go_sem] theorem fin_57 (E : Env) (s : Slots) (h : Heap) : finish E Try.f57 ⟨s, h⟩ = (mapO (resultVar E ⟨s, h⟩) [.tmp 2]).map (finish2 h) := finish_eq Try.f57 _ rfl
@[go_sem] theorem fin_58 (E : Env) (s : Slots) (h : Heap) : finish E Try.f58 ⟨s, h⟩ = (mapO (resultVar E ⟨s, h⟩) [.tmp 2]).map (finish2 h) := finish_eq Try.f58 _ rfl
@[go_sem] theorem fin_59 (E : Env) (s : Slots) (h : Heap) : finish E Try.f59 ⟨s, h⟩ = (mapO (resultVar E ⟨s, h⟩) [.tmp 2]).map (finish2 h) := finish_eq Try.f59 _ rfl
@[go_sem] theorem fin_60 (E : Env) (s : Slots) (h : Heap) : finish E Try.f60 ⟨s, h⟩ = (mapO (resultVar E ⟨s, h⟩) [.tmp 2]).map (finish2 h) := finish_eq Try.f60 _ rfl
@[go_sem] theorem fin_61 (E : Env) (s : Slots) (h : Heap) : finish E Try.f61 ⟨s, h⟩ = (mapO (resultVar E ⟨s, h⟩) [.tmp 4]).map (finish2 h) := finish_eq Try.f61 _ rfl
@[go_sem] theorem fin_62 (E : Env) (s : Slots) (h : Heap) : finish E Try.f62 ⟨s, h⟩ = (mapO (resultVar E ⟨s, h⟩) [.tmp 6]).map (finish2 h) := finish_eq Try.f62 _ rfl
@[go_sem] theorem fin_63 (E : Env) (s : Slots) (h : Heap) : finish E Try.f63 ⟨s, h⟩ = (mapO (resultVar E ⟨s, h⟩) [.tmp 2]).map (finish2 h) := finish_eq Try.f63 _ rfl
@[go_sem] theorem fin_64 (E : Env) (s : Slots) (h : Heap) : finish E Try.f64 ⟨s, h⟩ = (mapO (resultVar E ⟨s, h⟩) [.tmp 4]).map (finish2 h) := finish_eq Try.f64 _ rfl
@[go_sem] theorem fin_65 (E : Env) (s : Slots) (h : Heap) : finish E Try.f65 ⟨s, h⟩ = (mapO (resultVar E ⟨s, h⟩) [.tmp 4]).map (finish2 h) := finish_eq Try.f65 _ rfl
@[go_sem] theorem fin_66 (E : Env) (s : Slots) (h : Heap) : finish E Try.f66 ⟨s, h⟩ = (mapO (resultVar E ⟨s, h⟩) [.tmp 4, .tmp 5, .tmp 6]).map (finish2 h) := finish_eq Try.f66 _ rfl
@[go_sem] theorem fin_69 (E : Env) (s : Slots) (h : Heap) : finish E Try.f69 ⟨s, h⟩ = (mapO (resultVar E ⟨s, h⟩) [.tmp 4]).map (finish2 h) := finish_eq Try.f69 _ rfl
@[go_sem] theorem fin_70 (E : Env) (s : Slots) (h : Heap) : finish E Try.f70 ⟨s, h⟩ = (mapO (resultVar E ⟨s, h⟩) [.tmp 3]).map (finish2 h) := finish_eq Try.f70 _ rfl
@[go_sem] theorem fin_71 (E : Env) (s : Slots) (h : Heap) : finish E Try.f71 ⟨s, h⟩ = (mapO (resultVar E ⟨s, h⟩) [.tmp 3]).map (finish2 h) := finish_eq Try.f71 _ rfl
@[go_sem] theorem fin_72 (E : Env) (s : Slots) (h : Heap) : finish E Try.f72 ⟨s, h⟩ = (mapO (resultVar E ⟨s, h⟩) [.tmp 4]).map (finish2 h) := finish_eq Try.f72 _ rfl
@[go_sem] theorem fin_73 (E : Env) (s : Slots) (h : Heap) : finish E Try.f73 ⟨s, h⟩ = (mapO (resultVar E ⟨s, h⟩) [.tmp 3]).map (finish2 h) := finish_eq Try.f73 _ rfl
@[go_sem] theorem fin_74 (E : Env) (s : Slots) (h : Heap) : finish E Try.f74 ⟨s, h⟩ = (mapO (resultVar E ⟨s, h⟩) [.tmp 4]).map (finish2 h) := finish_eq Try.f74 _ rfl
@[go_sem] theorem fin_75 (E : Env) (s : Slots) (h : Heap) : finish E Try.f75 ⟨s, h⟩ = (mapO (resultVar E ⟨s, h⟩) [.tmp 4]).map (finish2 h) := finish_eq Try.f75 _ rfl
@[go_sem] theorem fin_76 (E : Env) (s : Slots) (h : Heap) : finish E Try.f76 ⟨s, h⟩ = (mapO (resultVar E ⟨s, h⟩) [.tmp 2]).map (finish2 h) := finish_eq Try.f76 _ rfl
@[go_sem] theorem fin_77 (E : Env) (s : Slots) (h : Heap) : finish E Try.f77 ⟨s, h⟩ = (mapO (resultVar E ⟨s, h⟩) [.tmp 3]).map (finish2 h) := finish_eq Try.f77 _ rfl
@[go_sem] theorem fin_78 (E : Env) (s : Slots) (h : Heap) : finish E Try.f78 ⟨s, h⟩ = (mapO (resultVar E ⟨s, h⟩) [.tmp 6]).map (finish2 h) := finish_eq Try.f78 _ rfl
@[go_sem] theorem fin_79 (E : Env) (s : Slots) (h : Heap) : finish E Try.f79 ⟨s, h⟩ = (mapO (resultVar E ⟨s, h⟩) [.tmp 4]).map (finish2 h) := finish_eq Try.f79 _ rfl
@[go_sem] theorem fin_80 (E : Env) (s : Slots) (h : Heap) : finish E Try.f80 ⟨s, h⟩ = (mapO (resultVar E ⟨s, h⟩) [.tmp 4]).map (finish2 h) := finish_eq Try.f80 _ rfl
@[go_sem] theorem fin_82 (E : Env) (s : Slots) (h : Heap) : finish E Try.f82 ⟨s, h⟩ = (mapO (resultVar E ⟨s, h⟩) [.tmp 3]).map (finish2 h) := finish_eq Try.f82 _ rfl
@[go_sem] theorem fin_83 (E : Env) (s : Slots) (h : Heap) : finish E Try.f83 ⟨s, h⟩ = (mapO (resultVar E ⟨s, h⟩) [.tmp 4]).map (finish2 h) := finish_eq Try.f83 _ rfl
@[go_sem] theorem fin_84 (E : Env) (s : Slots) (h : Heap) : finish E Try.f84 ⟨s, h⟩ = (mapO (resultVar E ⟨s, h⟩) [.tmp 4]).map (finish2 h) := finish_eq Try.f84 _ rfl
@[go_sem] theorem by_3 : pr.byref 3 = [] := rfl
@[go_sem] theorem by_4 : pr.byref 4 = [] := rfl
@[go_sem] theorem by_6 : pr.byref 6 = [] := rfl
@[go_sem] theorem by_7 : pr.byref 7 = [] := rfl
@[go_sem] theorem by_8 : pr.byref 8 = [] := rfl
@[go_sem] theorem by_9 : pr.byref 9 = [] := rfl
@[go_sem] theorem by_10 : pr.byref 10 = [] := rfl
@[go_sem] theorem by_11 : pr.byref 11 = [] := rfl
@[go_sem] theorem by_12 : pr.byref 12 = [] := rfl
@[go_sem] theorem by_13 : pr.byref 13 = [] := rfl
@[go_sem] theorem by_14 : pr.byref 14 = [] := rfl
@[go_sem] theorem by_15 : pr.byref 15 = [] := rfl
@[go_sem] theorem by_16 : pr.byref 16 = [] := rfl
@[go_sem] theorem by_17 : pr.byref 17 = [0] := rfl
@[go_sem] theorem by_18 : pr.byref 18 = [] := rfl
@[go_sem] theorem by_23 : pr.byref 23 = [] := rfl
@[go_sem] theorem by_24 : pr.byref 24 = [] := rfl
@[go_sem] theorem by_25 : pr.byref 25 = [] := rfl
@[go_sem] theorem by_26 : pr.byref 26 = [0] := rfl
@[go_sem] theorem by_27 : pr.byref 27 = [0] := rfl
@[go_sem] theorem by_28 : pr.byref 28 = [] := rfl
@[go_sem] theorem by_29 : pr.byref 29 = [] := rfl
@[go_sem] theorem by_30 : pr.byref 30 = [] := rfl
@[go_sem] theorem by_31 : pr.byref 31 = [] := rfl
@[go_sem] theorem by_32 : pr.byref 32 = [] := rfl
@[go_sem] theorem by_33 : pr.byref 33 = [] := rfl
@[go_sem] theorem by_34 : pr.byref 34 = [] := rfl
@[go_sem] theorem by_35 : pr.byref 35 = [] := rfl
@[go_sem] theorem by_36 : pr.byref 36 = [] := rfl
@[go_sem] theorem by_37 : pr.byref 37 = [] := rfl
@[go_sem] theorem by_38 : pr.byref 38 = [] := rfl
@[go_sem] theorem by_39 : pr.byref 39 = [] := rfl
@[go_sem] theorem by_40 : pr.byref 40 = [] := rfl
@[go_sem] theorem by_41 : pr.byref 41 = [] := rfl
@[go_sem] theorem by_42 : pr.byref 42 = [] := rfl
@[go_sem] theorem by_43 : pr.byref 43 = [] := rfl
@[go_sem] theorem by_44 : pr.byref 44 = [] := rfl
@[go_sem] theorem by_45 : pr.byref 45 = [] := rfl
@[go_sem] theorem by_51 : pr.byref 51 = [] := rfl
@[go_sem] theorem by_52 : pr.byref 52 = [] := rfl
@[go_sem] theorem by_53 : pr.byref 53 = [] := rfl
@[go_sem] theorem by_54 : pr.byref 54 = [0] := rfl
@[go_sem] theorem by_55 : pr.byref 55 = [] := rfl
@[go_sem] theorem by_56 : pr.byref 56 = [] := rfl
@[go_sem] theorem by_57 : pr.byref 57 = [] := rfl
@[go_sem] theorem by_58 : pr.byref 58 = [] := rfl
@[go_sem] theorem by_59 : pr.byref 59 = [] := rfl
@[go_sem] theorem by_60 : pr.byref 60 = [] := rfl
@[go_sem] theorem by_61 : pr.byref 61 = [] := rfl
@[go_sem] theorem by_62 : pr.byref 62 = [] := rfl
@[go_sem] theorem by_63 : pr.byref 63 = [] := rfl
@[go_sem] theorem by_64 : pr.byref 64 = [] := rfl
@[go_sem] theorem by_65 : pr.byref 65 = [] := rfl
@[go_sem] theorem by_66 : pr.byref 66 = [] := rfl
@[go_sem] theorem by_69 : pr.byref 69 = [] := rfl
@[go_sem] theorem by_70 : pr.byref 70 = [] := rfl
@[go_sem] theorem by_71 : pr.byref 71 = [] := rfl
@[go_sem] theorem by_72 : pr.byref 72 = [] := rfl
@[go_sem] theorem by_73 : pr.byref 73 = [] := rfl
@[go_sem] theorem by_74 : pr.byref 74 = [] := rfl
@[go_sem] theorem by_75 : pr.byref 75 = [0] := rfl
@[go_sem] theorem by_76 : pr.byref 76 = [] := rfl
@[go_sem] theorem by_77 : pr.byref 77 = [] := rfl
@[go_sem] theorem by_78 : pr.byref 78 = [] := rfl
@[go_sem] theorem by_79 : pr.byref 79 = [] := rfl
@[go_sem] theorem by_80 : pr.byref 80 = [] := rfl
@[go_sem] theorem by_82 : pr.byref 82 = [] := rfl
@[go_sem] theorem by_83 : pr.byref 83 = [] := rfl
@[go_sem] theorem by_84 : pr.byref 84 = [] := rfl
@[go_sem] theorem by_85 : pr.byref 85 = [] := rfl
@[go_sem] theorem by_86 : pr.byref 86 = [] := rfl
@[go_sem] theorem by_87 : pr.byref 87 = [] := rfl
@[go_sem] theorem by_88 : pr.byref 88 = [] := rfl
@[go_sem] theorem pr_tab : pr.tab = tab := rfl
@[go_sem] theorem pr_ty : pr.ty = tyOf := rfl
end Go.Proofs.Ytidodagkfbplaaa.PI
