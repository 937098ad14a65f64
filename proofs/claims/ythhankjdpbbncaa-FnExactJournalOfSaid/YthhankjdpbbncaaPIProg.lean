/- The functions of the program, for the interpreter: printed by a program of the session. -/
import Derived.Test.YthhankjdpbbncaaPITab
import Derived.Lib.Bytealg
import Derived.Test.YthhankjdpbbncaaGQBuild3
namespace Go.Proofs.Ythhankjdpbbncaa.PI
open Go Go.Q
noncomputable def fnL : List (Nat × Func) := [(3, Try.f3), (12, Try.f12), (13, Try.f13), (14, Try.f14), (15, Try.f15), (16, Try.f16), (49, Try.f49), (50, Try.f50), (52, Try.f52), (90, Try.f90), (92, Try.f92), (121, Try.f121)]
def annL : List (Nat × Ann) := [(3, ⟨[(0, [2]), (2, [9, 10, 11]), (3, [3, 12]), (4, [0]), (5, [14, 15, 16, 17, 18, 19]), (6, [20, 21]), (7, [22, 23, 24, 25, 26]), (8, [4, 5, 7, 8, 27, 28, 29, 30, 31, 32, 33]), (9, [0, 6]), (10, [0, 6, 35, 36, 37, 38])], [], [], [], [], []⟩),
  (12, ⟨[(0, [4]), (1, [6, 7, 8, 9]), (2, [10]), (3, [0, 1]), (5, [12, 13, 14]), (6, [16, 17]), (7, [18, 19, 20, 21, 22, 23, 24]), (8, [25]), (9, [0, 1, 5]), (10, [0, 1, 5, 27])], [], [], [], [], []⟩),
  (13, ⟨[(0, [2, 3]), (3, [7, 8, 9]), (4, [11, 12]), (5, [13, 14, 15, 16, 17, 18, 19, 20]), (7, [21, 22, 23, 24, 25, 26]), (8, [28, 29]), (9, [30, 31, 32, 33, 34, 35]), (10, [0, 4, 5, 6]), (11, [6, 37]), (12, [0, 4, 5]), (13, [0, 4, 5, 39, 40])], [], [], [], [], []⟩),
  (14, ⟨[(0, [2]), (1, [5, 6, 7]), (3, [8, 9, 10]), (4, [12, 13]), (5, [14, 15, 16, 17, 18, 19, 20]), (6, [0, 3, 4, 21])], [], [], [], [], []⟩),
  (15, ⟨[(0, [2, 3]), (3, [0]), (5, [12, 13]), (6, [14, 15, 16, 17]), (7, [18, 19, 20, 21, 22, 23]), (8, [7, 24, 25, 26, 27, 28]), (9, [4, 5, 8, 9, 10]), (10, [30]), (11, [4, 5, 8, 9, 10, 31])], [], [], [], [], []⟩),
  (16, ⟨[(0, [4]), (1, [6, 7, 8, 9]), (2, [0, 1]), (4, [11, 12, 13]), (5, [15, 16]), (6, [17, 18, 19, 20, 21, 22, 23, 24]), (7, [0, 1, 5]), (8, [0, 1, 5])], [], [], [], [], []⟩),
  (49, ⟨[(0, [2]), (4, [6, 7, 8]), (5, [10, 11]), (6, [12, 13, 14, 15, 16, 17, 18]), (7, [19, 20, 21, 22, 23, 24, 25, 26, 27, 28]), (8, [0, 3, 4, 5, 29])], [], [], [], [], []⟩),
  (50, ⟨[(0, [2]), (2, [5]), (4, [9]), (5, [4, 10, 11, 12, 13, 14, 15, 16, 17]), (6, [18]), (7, [0, 3, 6, 7, 19, 20, 21, 22, 23, 24, 25, 26, 27, 28])], [], [], [], [], []⟩),
  (52, ⟨[(0, [4]), (1, [0, 1, 5, 6, 7, 8])], [], [], [], [], []⟩),
  (90, ⟨[(0, [2]), (3, [5, 6, 7]), (4, [9, 10]), (5, [11, 12, 13, 14, 15, 16, 17, 18]), (6, [0, 3, 4, 19, 20, 21, 22, 23, 24, 25, 26, 27, 28])], [], [], [], [], []⟩),
  (92, ⟨[(0, [4]), (1, [0, 1, 5, 6, 7])], [], [], [], [], []⟩),
  (121, ⟨[(0, [4]), (1, [14, 15]), (2, [17, 18, 19, 20, 21, 22, 23]), (3, [0, 1, 5]), (4, [25, 26]), (5, [0, 1, 5, 27, 28, 29, 30]), (6, [32, 33, 34, 35]), (7, [0, 1, 5]), (8, [37, 38, 39, 40, 41, 42, 43, 44]), (9, [0, 1, 5, 45, 46, 47]), (10, [48, 49]), (11, [50, 51]), (13, [52, 53, 54, 55, 56]), (15, [57, 58]), (16, [60, 61, 62, 63]), (17, [65, 66, 67, 68, 69, 70, 71]), (18, [72]), (19, [0, 1, 5, 6, 7, 8, 9, 10, 11]), (20, [11, 74, 75, 76, 77]), (21, [78, 79, 80, 81, 82, 83, 84, 85, 86, 87, 88, 89, 90, 91, 92]), (22, [0, 1, 5, 6, 7, 8, 9, 10, 94]), (23, [95, 96]), (24, [97, 98]), (25, [99, 100, 101, 102, 103, 104, 105, 106]), (26, [0, 1, 5, 6, 7, 9, 10, 108, 109, 110, 111, 112]), (27, [113]), (28, [8, 12, 115, 116, 117]), (29, [8, 12]), (30, [118, 119, 120, 121, 122, 123, 124, 125, 126, 127, 128, 129, 130, 131]), (31, [0, 1, 5, 6, 7, 9, 10, 133, 134, 135, 136, 137]), (32, [138]), (33, [8, 13]), (34, [8, 13, 140, 141, 142]), (35, [0, 1, 5, 6, 7, 8, 9, 10])], [], [], [], [], []⟩)]
/-- What is not interpreted, on plain data. -/
def gP (f : Nat) (vs : List AV) : Option AV := if f = 131 then match vs with
  | [.d .str s, .d (.int .u8) c] => some (.d (.int .i64) (Lib.indexByte s.data.toList c.toNat.toUInt8))
  | _ => none
  else none
def given (f : Nat) (vs : List AV) (h : Heap) : Option (AV × Heap) := if f = 51 then wsV 71 5 vs h
  else if f = 53 then lenBV 71 5 vs h
  else if f = 54 then strV 71 5 vs h
  else match h with
  | [] => (gP f vs).map fun r => (r, [])
  | _ => none
noncomputable def pr : Prog := ⟨tab, tyOf, by_, lookT fnL, fun f => (lookT annL f).getD ⟨[], [], [], [], [], []⟩, given⟩
theorem fns : ∀ x ∈ fnL, Try.prog.funcs[x.1]? = some x.2 ∧ fnOkB pr x.1 = true := by
  unfold fnL
  simp only [List.forall_mem_cons, List.not_mem_nil, false_implies, implies_true, and_true]
  exact ⟨⟨Try.func3, by kernel_rfl⟩, ⟨Try.func12, by kernel_rfl⟩, ⟨Try.func13, by kernel_rfl⟩, ⟨Try.func14, by kernel_rfl⟩, ⟨Try.func15, by kernel_rfl⟩, ⟨Try.func16, by kernel_rfl⟩, ⟨Try.func49, by kernel_rfl⟩, ⟨Try.func50, by kernel_rfl⟩, ⟨Try.func52, by kernel_rfl⟩, ⟨Try.func90, by kernel_rfl⟩, ⟨Try.func92, by kernel_rfl⟩, ⟨Try.func121, by kernel_rfl⟩⟩
theorem fn_3 : pr.fn 3 = some Try.f3 := rfl
theorem ann_3 : pr.ann 3 = ⟨[(0, [2]), (2, [9, 10, 11]), (3, [3, 12]), (4, [0]), (5, [14, 15, 16, 17, 18, 19]), (6, [20, 21]), (7, [22, 23, 24, 25, 26]), (8, [4, 5, 7, 8, 27, 28, 29, 30, 31, 32, 33]), (9, [0, 6]), (10, [0, 6, 35, 36, 37, 38])], [], [], [], [], []⟩ := rfl
theorem fn_12 : pr.fn 12 = some Try.f12 := rfl
theorem ann_12 : pr.ann 12 = ⟨[(0, [4]), (1, [6, 7, 8, 9]), (2, [10]), (3, [0, 1]), (5, [12, 13, 14]), (6, [16, 17]), (7, [18, 19, 20, 21, 22, 23, 24]), (8, [25]), (9, [0, 1, 5]), (10, [0, 1, 5, 27])], [], [], [], [], []⟩ := rfl
theorem fn_13 : pr.fn 13 = some Try.f13 := rfl
theorem ann_13 : pr.ann 13 = ⟨[(0, [2, 3]), (3, [7, 8, 9]), (4, [11, 12]), (5, [13, 14, 15, 16, 17, 18, 19, 20]), (7, [21, 22, 23, 24, 25, 26]), (8, [28, 29]), (9, [30, 31, 32, 33, 34, 35]), (10, [0, 4, 5, 6]), (11, [6, 37]), (12, [0, 4, 5]), (13, [0, 4, 5, 39, 40])], [], [], [], [], []⟩ := rfl
theorem fn_14 : pr.fn 14 = some Try.f14 := rfl
theorem ann_14 : pr.ann 14 = ⟨[(0, [2]), (1, [5, 6, 7]), (3, [8, 9, 10]), (4, [12, 13]), (5, [14, 15, 16, 17, 18, 19, 20]), (6, [0, 3, 4, 21])], [], [], [], [], []⟩ := rfl
theorem fn_15 : pr.fn 15 = some Try.f15 := rfl
theorem ann_15 : pr.ann 15 = ⟨[(0, [2, 3]), (3, [0]), (5, [12, 13]), (6, [14, 15, 16, 17]), (7, [18, 19, 20, 21, 22, 23]), (8, [7, 24, 25, 26, 27, 28]), (9, [4, 5, 8, 9, 10]), (10, [30]), (11, [4, 5, 8, 9, 10, 31])], [], [], [], [], []⟩ := rfl
theorem fn_16 : pr.fn 16 = some Try.f16 := rfl
theorem ann_16 : pr.ann 16 = ⟨[(0, [4]), (1, [6, 7, 8, 9]), (2, [0, 1]), (4, [11, 12, 13]), (5, [15, 16]), (6, [17, 18, 19, 20, 21, 22, 23, 24]), (7, [0, 1, 5]), (8, [0, 1, 5])], [], [], [], [], []⟩ := rfl
theorem fn_49 : pr.fn 49 = some Try.f49 := rfl
theorem ann_49 : pr.ann 49 = ⟨[(0, [2]), (4, [6, 7, 8]), (5, [10, 11]), (6, [12, 13, 14, 15, 16, 17, 18]), (7, [19, 20, 21, 22, 23, 24, 25, 26, 27, 28]), (8, [0, 3, 4, 5, 29])], [], [], [], [], []⟩ := rfl
theorem fn_50 : pr.fn 50 = some Try.f50 := rfl
theorem ann_50 : pr.ann 50 = ⟨[(0, [2]), (2, [5]), (4, [9]), (5, [4, 10, 11, 12, 13, 14, 15, 16, 17]), (6, [18]), (7, [0, 3, 6, 7, 19, 20, 21, 22, 23, 24, 25, 26, 27, 28])], [], [], [], [], []⟩ := rfl
theorem fn_52 : pr.fn 52 = some Try.f52 := rfl
theorem ann_52 : pr.ann 52 = ⟨[(0, [4]), (1, [0, 1, 5, 6, 7, 8])], [], [], [], [], []⟩ := rfl
theorem fn_90 : pr.fn 90 = some Try.f90 := rfl
theorem ann_90 : pr.ann 90 = ⟨[(0, [2]), (3, [5, 6, 7]), (4, [9, 10]), (5, [11, 12, 13, 14, 15, 16, 17, 18]), (6, [0, 3, 4, 19, 20, 21, 22, 23, 24, 25, 26, 27, 28])], [], [], [], [], []⟩ := rfl
theorem fn_92 : pr.fn 92 = some Try.f92 := rfl
theorem ann_92 : pr.ann 92 = ⟨[(0, [4]), (1, [0, 1, 5, 6, 7])], [], [], [], [], []⟩ := rfl
theorem fn_121 : pr.fn 121 = some Try.f121 := rfl
theorem ann_121 : pr.ann 121 = ⟨[(0, [4]), (1, [14, 15]), (2, [17, 18, 19, 20, 21, 22, 23]), (3, [0, 1, 5]), (4, [25, 26]), (5, [0, 1, 5, 27, 28, 29, 30]), (6, [32, 33, 34, 35]), (7, [0, 1, 5]), (8, [37, 38, 39, 40, 41, 42, 43, 44]), (9, [0, 1, 5, 45, 46, 47]), (10, [48, 49]), (11, [50, 51]), (13, [52, 53, 54, 55, 56]), (15, [57, 58]), (16, [60, 61, 62, 63]), (17, [65, 66, 67, 68, 69, 70, 71]), (18, [72]), (19, [0, 1, 5, 6, 7, 8, 9, 10, 11]), (20, [11, 74, 75, 76, 77]), (21, [78, 79, 80, 81, 82, 83, 84, 85, 86, 87, 88, 89, 90, 91, 92]), (22, [0, 1, 5, 6, 7, 8, 9, 10, 94]), (23, [95, 96]), (24, [97, 98]), (25, [99, 100, 101, 102, 103, 104, 105, 106]), (26, [0, 1, 5, 6, 7, 9, 10, 108, 109, 110, 111, 112]), (27, [113]), (28, [8, 12, 115, 116, 117]), (29, [8, 12]), (30, [118, 119, 120, 121, 122, 123, 124, 125, 126, 127, 128, 129, 130, 131]), (31, [0, 1, 5, 6, 7, 9, 10, 133, 134, 135, 136, 137]), (32, [138]), (33, [8, 13]), (34, [8, 13, 140, 141, 142]), (35, [0, 1, 5, 6, 7, 8, 9, 10])], [], [], [], [], []⟩ := rfl
@[go_sem] theorem fin_3 (E : Env) (s : Slots) (h : Heap) : finish E Try.f3 ⟨s, h⟩ = (mapO (resultVar E ⟨s, h⟩) [.tmp 2]).map (finish2 h) := finish_eq Try.f3 _ rfl
@[go_sem] theorem fin_12 (E : Env) (s : Slots) (h : Heap) : finish E Try.f12 ⟨s, h⟩ = (mapO (resultVar E ⟨s, h⟩) [.tmp 4]).map (finish2 h) := finish_eq Try.f12 _ rfl
@[go_sem] theorem fin_13 (E : Env) (s : Slots) (h : Heap) : finish E Try.f13 ⟨s, h⟩ = (mapO (resultVar E ⟨s, h⟩) [.tmp 2, .tmp 3]).map (finish2 h) := finish_eq Try.f13 _ rfl
@[go_sem] theorem fin_14 (E : Env) (s : Slots) (h : Heap) : finish E Try.f14 ⟨s, h⟩ = (mapO (resultVar E ⟨s, h⟩) [.tmp 2]).map (finish2 h) := finish_eq Try.f14 _ rfl
@[go_sem] theorem fin_15 (E : Env) (s : Slots) (h : Heap) : finish E Try.f15 ⟨s, h⟩ = (mapO (resultVar E ⟨s, h⟩) [.tmp 2, .tmp 3]).map (finish2 h) := finish_eq Try.f15 _ rfl
@[go_sem] theorem fin_16 (E : Env) (s : Slots) (h : Heap) : finish E Try.f16 ⟨s, h⟩ = (mapO (resultVar E ⟨s, h⟩) [.tmp 4]).map (finish2 h) := finish_eq Try.f16 _ rfl
@[go_sem] theorem fin_49 (E : Env) (s : Slots) (h : Heap) : finish E Try.f49 ⟨s, h⟩ = (mapO (resultVar E ⟨s, h⟩) [.tmp 2]).map (finish2 h) := finish_eq Try.f49 _ rfl
@[go_sem] theorem fin_50 (E : Env) (s : Slots) (h : Heap) : finish E Try.f50 ⟨s, h⟩ = (mapO (resultVar E ⟨s, h⟩) [.tmp 2]).map (finish2 h) := finish_eq Try.f50 _ rfl
@[go_sem] theorem fin_52 (E : Env) (s : Slots) (h : Heap) : finish E Try.f52 ⟨s, h⟩ = (mapO (resultVar E ⟨s, h⟩) [.tmp 4]).map (finish2 h) := finish_eq Try.f52 _ rfl
@[go_sem] theorem fin_90 (E : Env) (s : Slots) (h : Heap) : finish E Try.f90 ⟨s, h⟩ = (mapO (resultVar E ⟨s, h⟩) [.tmp 2]).map (finish2 h) := finish_eq Try.f90 _ rfl
@[go_sem] theorem fin_92 (E : Env) (s : Slots) (h : Heap) : finish E Try.f92 ⟨s, h⟩ = (mapO (resultVar E ⟨s, h⟩) [.tmp 4]).map (finish2 h) := finish_eq Try.f92 _ rfl
@[go_sem] theorem fin_121 (E : Env) (s : Slots) (h : Heap) : finish E Try.f121 ⟨s, h⟩ = (mapO (resultVar E ⟨s, h⟩) [.tmp 4]).map (finish2 h) := finish_eq Try.f121 _ rfl
@[go_sem] theorem by_3 : pr.byref 3 = [] := rfl
@[go_sem] theorem by_12 : pr.byref 12 = [] := rfl
@[go_sem] theorem by_13 : pr.byref 13 = [] := rfl
@[go_sem] theorem by_14 : pr.byref 14 = [] := rfl
@[go_sem] theorem by_15 : pr.byref 15 = [] := rfl
@[go_sem] theorem by_16 : pr.byref 16 = [] := rfl
@[go_sem] theorem by_49 : pr.byref 49 = [] := rfl
@[go_sem] theorem by_50 : pr.byref 50 = [] := rfl
@[go_sem] theorem by_52 : pr.byref 52 = [] := rfl
@[go_sem] theorem by_90 : pr.byref 90 = [] := rfl
@[go_sem] theorem by_92 : pr.byref 92 = [] := rfl
@[go_sem] theorem by_121 : pr.byref 121 = [] := rfl
@[go_sem] theorem by_51 : pr.byref 51 = [0] := rfl
@[go_sem] theorem by_53 : pr.byref 53 = [0] := rfl
@[go_sem] theorem by_54 : pr.byref 54 = [0] := rfl
@[go_sem] theorem by_131 : pr.byref 131 = [] := rfl
@[go_sem] theorem by_132 : pr.byref 132 = [] := rfl
@[go_sem] theorem by_133 : pr.byref 133 = [] := rfl
@[go_sem] theorem by_134 : pr.byref 134 = [] := rfl
@[go_sem] theorem pr_tab : pr.tab = tab := rfl
@[go_sem] theorem pr_ty : pr.ty = tyOf := rfl
end Go.Proofs.Ythhankjdpbbncaa.PI
