/- The type table of the program, for the interpreter: printed by a program of the session. -/
import Derived.Test.YtidodagkfbplaaaGQSet
import Derived.Test.YtidodagkfbplaaaProg
namespace Go.Proofs.Ytidodagkfbplaaa.PI
open Go Go.Q
def tabL : List (Nat × TI) := [(1, ⟨.func, 1, 8⟩),
  (2, ⟨(.int .i64), 1, 8⟩),
  (3, ⟨(.int .i64), 1, 8⟩),
  (4, ⟨.bool, 1, 1⟩),
  (5, ⟨(.int .u8), 1, 1⟩),
  (6, ⟨(.int .u8), 1, 1⟩),
  (7, ⟨(.struct [(0, 2), (1, 3), (2, 4), (3, 6)]), 4, 24⟩),
  (8, ⟨(.struct [(0, 2), (1, 3), (2, 4), (3, 6)]), 4, 24⟩),
  (9, ⟨.str, 1, 16⟩),
  (10, ⟨.str, 1, 16⟩),
  (11, ⟨.str, 1, 16⟩),
  (12, ⟨(.int .u64), 1, 8⟩),
  (13, ⟨(.struct [(0, 9), (1, 12)]), 2, 24⟩),
  (14, ⟨(.struct [(0, 9), (1, 12)]), 2, 24⟩),
  (15, ⟨(.ptr 102), 1, 8⟩),
  (16, ⟨(.ptr 105), 1, 8⟩),
  (17, ⟨(.ptr 112), 1, 8⟩),
  (18, ⟨(.struct [(0, 17)]), 1, 8⟩),
  (19, ⟨(.struct [(0, 17)]), 1, 8⟩),
  (21, ⟨(.int .i32), 1, 4⟩),
  (22, ⟨(.slice 41), 1, 24⟩),
  (23, ⟨(.struct [(0, 22)]), 1, 24⟩),
  (24, ⟨(.struct [(0, 22)]), 1, 24⟩),
  (25, ⟨.func, 1, 8⟩),
  (26, ⟨.func, 1, 8⟩),
  (27, ⟨(.struct [(0, 22)]), 1, 24⟩),
  (28, ⟨.func, 1, 8⟩),
  (29, ⟨.func, 1, 8⟩),
  (30, ⟨.func, 1, 8⟩),
  (31, ⟨(.slice 9), 1, 24⟩),
  (33, ⟨.func, 1, 8⟩),
  (34, ⟨.func, 1, 8⟩),
  (35, ⟨.func, 1, 8⟩),
  (36, ⟨.func, 1, 8⟩),
  (38, ⟨.func, 1, 8⟩),
  (39, ⟨.func, 1, 8⟩),
  (40, ⟨.func, 1, 8⟩),
  (41, ⟨(.slice 2), 1, 24⟩),
  (43, ⟨.func, 1, 8⟩),
  (44, ⟨.func, 1, 8⟩),
  (45, ⟨.func, 1, 8⟩),
  (46, ⟨.func, 1, 8⟩),
  (48, ⟨.func, 1, 8⟩),
  (49, ⟨.func, 1, 8⟩),
  (50, ⟨.func, 1, 8⟩),
  (51, ⟨(.ptr 27), 1, 8⟩),
  (52, ⟨.func, 1, 8⟩),
  (53, ⟨.func, 1, 8⟩),
  (54, ⟨.func, 1, 8⟩),
  (55, ⟨.func, 1, 8⟩),
  (56, ⟨.func, 1, 8⟩),
  (57, ⟨.func, 1, 8⟩),
  (59, ⟨.func, 1, 8⟩),
  (60, ⟨.func, 1, 8⟩),
  (62, ⟨.func, 1, 8⟩),
  (63, ⟨.func, 1, 8⟩),
  (64, ⟨.func, 1, 8⟩),
  (65, ⟨(.ptr 68), 1, 8⟩),
  (66, ⟨(.slice 5), 1, 24⟩),
  (67, ⟨(.struct [(0, 65), (1, 66)]), 2, 32⟩),
  (68, ⟨(.struct [(0, 65), (1, 66)]), 2, 32⟩),
  (70, ⟨.err, 1, 16⟩),
  (72, ⟨.func, 1, 8⟩),
  (73, ⟨.func, 1, 8⟩),
  (74, ⟨.func, 1, 8⟩),
  (75, ⟨.func, 1, 8⟩),
  (76, ⟨.func, 1, 8⟩),
  (77, ⟨.func, 1, 8⟩),
  (78, ⟨.func, 1, 8⟩),
  (79, ⟨.func, 1, 8⟩),
  (80, ⟨.func, 1, 8⟩),
  (81, ⟨.func, 1, 8⟩),
  (82, ⟨.func, 1, 8⟩),
  (83, ⟨.func, 1, 8⟩),
  (84, ⟨.func, 1, 8⟩),
  (85, ⟨(.ptr 5), 1, 8⟩),
  (86, ⟨(.int .u64), 1, 8⟩),
  (87, ⟨.func, 1, 8⟩),
  (88, ⟨.func, 1, 8⟩),
  (89, ⟨.func, 1, 8⟩),
  (90, ⟨.func, 1, 8⟩),
  (91, ⟨.func, 1, 8⟩),
  (93, ⟨.func, 1, 8⟩),
  (94, ⟨.func, 1, 8⟩),
  (95, ⟨.func, 1, 8⟩),
  (96, ⟨.func, 1, 8⟩),
  (97, ⟨.func, 1, 8⟩),
  (98, ⟨(.int .u32), 1, 4⟩),
  (100, ⟨.func, 1, 8⟩),
  (101, ⟨(.struct [(0, 17), (1, 17), (2, 17), (3, 9)]), 4, 40⟩),
  (102, ⟨(.struct [(0, 17), (1, 17), (2, 17), (3, 9)]), 4, 40⟩),
  (103, ⟨(.arr 0 16), 0, 0⟩),
  (104, ⟨(.struct [(0, 103)]), 0, 0⟩),
  (105, ⟨(.struct [(0, 103)]), 0, 0⟩),
  (106, ⟨(.int .u8), 1, 1⟩),
  (107, ⟨(.int .u8), 1, 1⟩),
  (108, ⟨.func, 1, 8⟩),
  (109, ⟨(.int .i32), 1, 4⟩),
  (110, ⟨(.int .i32), 1, 4⟩),
  (111, ⟨(.struct [(0, 12), (1, 12), (2, 98), (3, 106), (4, 5), (5, 5), (6, 107), (7, 108), (8, 85), (9, 109), (10, 110)]), 11, 48⟩),
  (112, ⟨(.struct [(0, 12), (1, 12), (2, 98), (3, 106), (4, 5), (5, 5), (6, 107), (7, 108), (8, 85), (9, 109), (10, 110)]), 11, 48⟩),
  (113, ⟨.func, 1, 8⟩),
  (114, ⟨(.slice 116), 1, 24⟩),
  (115, ⟨(.struct [(0, 2), (1, 2)]), 2, 16⟩),
  (116, ⟨(.struct [(0, 2), (1, 2)]), 2, 16⟩)]
def tyL : List (Nat × Ty) := [(2, (.int .i64)),
  (3, (.int .i64)),
  (4, .bool),
  (5, (.int .u8)),
  (6, (.int .u8)),
  (7, (.agg (.cons (.int .i64) (.cons (.int .i64) (.cons .bool (.cons (.int .u8) .nil)))))),
  (8, (.agg (.cons (.int .i64) (.cons (.int .i64) (.cons .bool (.cons (.int .u8) .nil)))))),
  (9, .str),
  (10, .str),
  (11, .str),
  (12, (.int .u64)),
  (13, (.agg (.cons .str (.cons (.int .u64) .nil)))),
  (14, (.agg (.cons .str (.cons (.int .u64) .nil)))),
  (21, (.int .i32)),
  (22, (.slice (.slice (.int .i64)))),
  (23, (.agg (.cons (.slice (.slice (.int .i64))) .nil))),
  (24, (.agg (.cons (.slice (.slice (.int .i64))) .nil))),
  (27, (.agg (.cons (.slice (.slice (.int .i64))) .nil))),
  (31, (.slice .str)),
  (41, (.slice (.int .i64))),
  (66, (.slice (.int .u8))),
  (70, .err),
  (86, (.int .u64)),
  (98, (.int .u32)),
  (106, (.int .u8)),
  (107, (.int .u8)),
  (109, (.int .i32)),
  (110, (.int .i32)),
  (114, (.slice (.agg (.cons (.int .i64) (.cons (.int .i64) .nil))))),
  (115, (.agg (.cons (.int .i64) (.cons (.int .i64) .nil)))),
  (116, (.agg (.cons (.int .i64) (.cons (.int .i64) .nil))))]
def tab : Nat → Option TI := lookT tabL
def tyOf : Nat → Option Ty := lookT tyL
@[go_sem] theorem tab_1 : tab 1 = some ⟨.func, 1, 8⟩ := rfl
@[go_sem] theorem tab_2 : tab 2 = some ⟨(.int .i64), 1, 8⟩ := rfl
@[go_sem] theorem tab_3 : tab 3 = some ⟨(.int .i64), 1, 8⟩ := rfl
@[go_sem] theorem tab_4 : tab 4 = some ⟨.bool, 1, 1⟩ := rfl
@[go_sem] theorem tab_5 : tab 5 = some ⟨(.int .u8), 1, 1⟩ := rfl
@[go_sem] theorem tab_6 : tab 6 = some ⟨(.int .u8), 1, 1⟩ := rfl
@[go_sem] theorem tab_7 : tab 7 = some ⟨(.struct [(0, 2), (1, 3), (2, 4), (3, 6)]), 4, 24⟩ := rfl
@[go_sem] theorem tab_8 : tab 8 = some ⟨(.struct [(0, 2), (1, 3), (2, 4), (3, 6)]), 4, 24⟩ := rfl
@[go_sem] theorem tab_9 : tab 9 = some ⟨.str, 1, 16⟩ := rfl
@[go_sem] theorem tab_10 : tab 10 = some ⟨.str, 1, 16⟩ := rfl
@[go_sem] theorem tab_11 : tab 11 = some ⟨.str, 1, 16⟩ := rfl
@[go_sem] theorem tab_12 : tab 12 = some ⟨(.int .u64), 1, 8⟩ := rfl
@[go_sem] theorem tab_13 : tab 13 = some ⟨(.struct [(0, 9), (1, 12)]), 2, 24⟩ := rfl
@[go_sem] theorem tab_14 : tab 14 = some ⟨(.struct [(0, 9), (1, 12)]), 2, 24⟩ := rfl
@[go_sem] theorem tab_15 : tab 15 = some ⟨(.ptr 102), 1, 8⟩ := rfl
@[go_sem] theorem tab_16 : tab 16 = some ⟨(.ptr 105), 1, 8⟩ := rfl
@[go_sem] theorem tab_17 : tab 17 = some ⟨(.ptr 112), 1, 8⟩ := rfl
@[go_sem] theorem tab_18 : tab 18 = some ⟨(.struct [(0, 17)]), 1, 8⟩ := rfl
@[go_sem] theorem tab_19 : tab 19 = some ⟨(.struct [(0, 17)]), 1, 8⟩ := rfl
@[go_sem] theorem tab_21 : tab 21 = some ⟨(.int .i32), 1, 4⟩ := rfl
@[go_sem] theorem tab_22 : tab 22 = some ⟨(.slice 41), 1, 24⟩ := rfl
@[go_sem] theorem tab_23 : tab 23 = some ⟨(.struct [(0, 22)]), 1, 24⟩ := rfl
@[go_sem] theorem tab_24 : tab 24 = some ⟨(.struct [(0, 22)]), 1, 24⟩ := rfl
@[go_sem] theorem tab_25 : tab 25 = some ⟨.func, 1, 8⟩ := rfl
@[go_sem] theorem tab_26 : tab 26 = some ⟨.func, 1, 8⟩ := rfl
@[go_sem] theorem tab_27 : tab 27 = some ⟨(.struct [(0, 22)]), 1, 24⟩ := rfl
@[go_sem] theorem tab_28 : tab 28 = some ⟨.func, 1, 8⟩ := rfl
@[go_sem] theorem tab_29 : tab 29 = some ⟨.func, 1, 8⟩ := rfl
@[go_sem] theorem tab_30 : tab 30 = some ⟨.func, 1, 8⟩ := rfl
@[go_sem] theorem tab_31 : tab 31 = some ⟨(.slice 9), 1, 24⟩ := rfl
@[go_sem] theorem tab_33 : tab 33 = some ⟨.func, 1, 8⟩ := rfl
@[go_sem] theorem tab_34 : tab 34 = some ⟨.func, 1, 8⟩ := rfl
@[go_sem] theorem tab_35 : tab 35 = some ⟨.func, 1, 8⟩ := rfl
@[go_sem] theorem tab_36 : tab 36 = some ⟨.func, 1, 8⟩ := rfl
@[go_sem] theorem tab_38 : tab 38 = some ⟨.func, 1, 8⟩ := rfl
@[go_sem] theorem tab_39 : tab 39 = some ⟨.func, 1, 8⟩ := rfl
@[go_sem] theorem tab_40 : tab 40 = some ⟨.func, 1, 8⟩ := rfl
@[go_sem] theorem tab_41 : tab 41 = some ⟨(.slice 2), 1, 24⟩ := rfl
@[go_sem] theorem tab_43 : tab 43 = some ⟨.func, 1, 8⟩ := rfl
@[go_sem] theorem tab_44 : tab 44 = some ⟨.func, 1, 8⟩ := rfl
@[go_sem] theorem tab_45 : tab 45 = some ⟨.func, 1, 8⟩ := rfl
@[go_sem] theorem tab_46 : tab 46 = some ⟨.func, 1, 8⟩ := rfl
@[go_sem] theorem tab_48 : tab 48 = some ⟨.func, 1, 8⟩ := rfl
@[go_sem] theorem tab_49 : tab 49 = some ⟨.func, 1, 8⟩ := rfl
@[go_sem] theorem tab_50 : tab 50 = some ⟨.func, 1, 8⟩ := rfl
@[go_sem] theorem tab_51 : tab 51 = some ⟨(.ptr 27), 1, 8⟩ := rfl
@[go_sem] theorem tab_52 : tab 52 = some ⟨.func, 1, 8⟩ := rfl
@[go_sem] theorem tab_53 : tab 53 = some ⟨.func, 1, 8⟩ := rfl
@[go_sem] theorem tab_54 : tab 54 = some ⟨.func, 1, 8⟩ := rfl
@[go_sem] theorem tab_55 : tab 55 = some ⟨.func, 1, 8⟩ := rfl
@[go_sem] theorem tab_56 : tab 56 = some ⟨.func, 1, 8⟩ := rfl
@[go_sem] theorem tab_57 : tab 57 = some ⟨.func, 1, 8⟩ := rfl
@[go_sem] theorem tab_59 : tab 59 = some ⟨.func, 1, 8⟩ := rfl
@[go_sem] theorem tab_60 : tab 60 = some ⟨.func, 1, 8⟩ := rfl
@[go_sem] theorem tab_62 : tab 62 = some ⟨.func, 1, 8⟩ := rfl
@[go_sem] theorem tab_63 : tab 63 = some ⟨.func, 1, 8⟩ := rfl
@[go_sem] theorem tab_64 : tab 64 = some ⟨.func, 1, 8⟩ := rfl
@[go_sem] theorem tab_65 : tab 65 = some ⟨(.ptr 68), 1, 8⟩ := rfl
@[go_sem] theorem tab_66 : tab 66 = some ⟨(.slice 5), 1, 24⟩ := rfl
@[go_sem] theorem tab_67 : tab 67 = some ⟨(.struct [(0, 65), (1, 66)]), 2, 32⟩ := rfl
@[go_sem] theorem tab_68 : tab 68 = some ⟨(.struct [(0, 65), (1, 66)]), 2, 32⟩ := rfl
@[go_sem] theorem tab_70 : tab 70 = some ⟨.err, 1, 16⟩ := rfl
@[go_sem] theorem tab_72 : tab 72 = some ⟨.func, 1, 8⟩ := rfl
@[go_sem] theorem tab_73 : tab 73 = some ⟨.func, 1, 8⟩ := rfl
@[go_sem] theorem tab_74 : tab 74 = some ⟨.func, 1, 8⟩ := rfl
@[go_sem] theorem tab_75 : tab 75 = some ⟨.func, 1, 8⟩ := rfl
@[go_sem] theorem tab_76 : tab 76 = some ⟨.func, 1, 8⟩ := rfl
@[go_sem] theorem tab_77 : tab 77 = some ⟨.func, 1, 8⟩ := rfl
@[go_sem] theorem tab_78 : tab 78 = some ⟨.func, 1, 8⟩ := rfl
@[go_sem] theorem tab_79 : tab 79 = some ⟨.func, 1, 8⟩ := rfl
@[go_sem] theorem tab_80 : tab 80 = some ⟨.func, 1, 8⟩ := rfl
@[go_sem] theorem tab_81 : tab 81 = some ⟨.func, 1, 8⟩ := rfl
@[go_sem] theorem tab_82 : tab 82 = some ⟨.func, 1, 8⟩ := rfl
@[go_sem] theorem tab_83 : tab 83 = some ⟨.func, 1, 8⟩ := rfl
@[go_sem] theorem tab_84 : tab 84 = some ⟨.func, 1, 8⟩ := rfl
@[go_sem] theorem tab_85 : tab 85 = some ⟨(.ptr 5), 1, 8⟩ := rfl
@[go_sem] theorem tab_86 : tab 86 = some ⟨(.int .u64), 1, 8⟩ := rfl
@[go_sem] theorem tab_87 : tab 87 = some ⟨.func, 1, 8⟩ := rfl
@[go_sem] theorem tab_88 : tab 88 = some ⟨.func, 1, 8⟩ := rfl
@[go_sem] theorem tab_89 : tab 89 = some ⟨.func, 1, 8⟩ := rfl
@[go_sem] theorem tab_90 : tab 90 = some ⟨.func, 1, 8⟩ := rfl
@[go_sem] theorem tab_91 : tab 91 = some ⟨.func, 1, 8⟩ := rfl
@[go_sem] theorem tab_93 : tab 93 = some ⟨.func, 1, 8⟩ := rfl
@[go_sem] theorem tab_94 : tab 94 = some ⟨.func, 1, 8⟩ := rfl
@[go_sem] theorem tab_95 : tab 95 = some ⟨.func, 1, 8⟩ := rfl
@[go_sem] theorem tab_96 : tab 96 = some ⟨.func, 1, 8⟩ := rfl
@[go_sem] theorem tab_97 : tab 97 = some ⟨.func, 1, 8⟩ := rfl
@[go_sem] theorem tab_98 : tab 98 = some ⟨(.int .u32), 1, 4⟩ := rfl
@[go_sem] theorem tab_100 : tab 100 = some ⟨.func, 1, 8⟩ := rfl
@[go_sem] theorem tab_101 : tab 101 = some ⟨(.struct [(0, 17), (1, 17), (2, 17), (3, 9)]), 4, 40⟩ := rfl
@[go_sem] theorem tab_102 : tab 102 = some ⟨(.struct [(0, 17), (1, 17), (2, 17), (3, 9)]), 4, 40⟩ := rfl
@[go_sem] theorem tab_103 : tab 103 = some ⟨(.arr 0 16), 0, 0⟩ := rfl
@[go_sem] theorem tab_104 : tab 104 = some ⟨(.struct [(0, 103)]), 0, 0⟩ := rfl
@[go_sem] theorem tab_105 : tab 105 = some ⟨(.struct [(0, 103)]), 0, 0⟩ := rfl
@[go_sem] theorem tab_106 : tab 106 = some ⟨(.int .u8), 1, 1⟩ := rfl
@[go_sem] theorem tab_107 : tab 107 = some ⟨(.int .u8), 1, 1⟩ := rfl
@[go_sem] theorem tab_108 : tab 108 = some ⟨.func, 1, 8⟩ := rfl
@[go_sem] theorem tab_109 : tab 109 = some ⟨(.int .i32), 1, 4⟩ := rfl
@[go_sem] theorem tab_110 : tab 110 = some ⟨(.int .i32), 1, 4⟩ := rfl
@[go_sem] theorem tab_111 : tab 111 = some ⟨(.struct [(0, 12), (1, 12), (2, 98), (3, 106), (4, 5), (5, 5), (6, 107), (7, 108), (8, 85), (9, 109), (10, 110)]), 11, 48⟩ := rfl
@[go_sem] theorem tab_112 : tab 112 = some ⟨(.struct [(0, 12), (1, 12), (2, 98), (3, 106), (4, 5), (5, 5), (6, 107), (7, 108), (8, 85), (9, 109), (10, 110)]), 11, 48⟩ := rfl
@[go_sem] theorem tab_113 : tab 113 = some ⟨.func, 1, 8⟩ := rfl
@[go_sem] theorem tab_114 : tab 114 = some ⟨(.slice 116), 1, 24⟩ := rfl
@[go_sem] theorem tab_115 : tab 115 = some ⟨(.struct [(0, 2), (1, 2)]), 2, 16⟩ := rfl
@[go_sem] theorem tab_116 : tab 116 = some ⟨(.struct [(0, 2), (1, 2)]), 2, 16⟩ := rfl
@[go_sem] theorem ty_2 : tyOf 2 = some (.int .i64) := rfl
@[go_sem] theorem ty_3 : tyOf 3 = some (.int .i64) := rfl
@[go_sem] theorem ty_4 : tyOf 4 = some .bool := rfl
@[go_sem] theorem ty_5 : tyOf 5 = some (.int .u8) := rfl
@[go_sem] theorem ty_6 : tyOf 6 = some (.int .u8) := rfl
@[go_sem] theorem ty_7 : tyOf 7 = some (.agg (.cons (.int .i64) (.cons (.int .i64) (.cons .bool (.cons (.int .u8) .nil))))) := rfl
@[go_sem] theorem ty_8 : tyOf 8 = some (.agg (.cons (.int .i64) (.cons (.int .i64) (.cons .bool (.cons (.int .u8) .nil))))) := rfl
@[go_sem] theorem ty_9 : tyOf 9 = some .str := rfl
@[go_sem] theorem ty_10 : tyOf 10 = some .str := rfl
@[go_sem] theorem ty_11 : tyOf 11 = some .str := rfl
@[go_sem] theorem ty_12 : tyOf 12 = some (.int .u64) := rfl
@[go_sem] theorem ty_13 : tyOf 13 = some (.agg (.cons .str (.cons (.int .u64) .nil))) := rfl
@[go_sem] theorem ty_14 : tyOf 14 = some (.agg (.cons .str (.cons (.int .u64) .nil))) := rfl
@[go_sem] theorem ty_21 : tyOf 21 = some (.int .i32) := rfl
@[go_sem] theorem ty_22 : tyOf 22 = some (.slice (.slice (.int .i64))) := rfl
@[go_sem] theorem ty_23 : tyOf 23 = some (.agg (.cons (.slice (.slice (.int .i64))) .nil)) := rfl
@[go_sem] theorem ty_24 : tyOf 24 = some (.agg (.cons (.slice (.slice (.int .i64))) .nil)) := rfl
@[go_sem] theorem ty_27 : tyOf 27 = some (.agg (.cons (.slice (.slice (.int .i64))) .nil)) := rfl
@[go_sem] theorem ty_31 : tyOf 31 = some (.slice .str) := rfl
@[go_sem] theorem ty_41 : tyOf 41 = some (.slice (.int .i64)) := rfl
@[go_sem] theorem ty_66 : tyOf 66 = some (.slice (.int .u8)) := rfl
@[go_sem] theorem ty_70 : tyOf 70 = some .err := rfl
@[go_sem] theorem ty_86 : tyOf 86 = some (.int .u64) := rfl
@[go_sem] theorem ty_98 : tyOf 98 = some (.int .u32) := rfl
@[go_sem] theorem ty_106 : tyOf 106 = some (.int .u8) := rfl
@[go_sem] theorem ty_107 : tyOf 107 = some (.int .u8) := rfl
@[go_sem] theorem ty_109 : tyOf 109 = some (.int .i32) := rfl
@[go_sem] theorem ty_110 : tyOf 110 = some (.int .i32) := rfl
@[go_sem] theorem ty_114 : tyOf 114 = some (.slice (.agg (.cons (.int .i64) (.cons (.int .i64) .nil)))) := rfl
@[go_sem] theorem ty_115 : tyOf 115 = some (.agg (.cons (.int .i64) (.cons (.int .i64) .nil))) := rfl
@[go_sem] theorem ty_116 : tyOf 116 = some (.agg (.cons (.int .i64) (.cons (.int .i64) .nil))) := rfl
def byL : List (Nat × List Nat) := [(17, [0]), (26, [0]), (27, [0]), (54, [0]), (75, [0])]
def by_ (g : Nat) : List Nat := (lookT byL g).getD []
set_option maxRecDepth 100000 in
theorem tabOK (c : CallF) : TabOK Try.prog ⟨tab, tyOf, by_, c⟩ := tabOK_of (by kernel_rfl) (by kernel_rfl)
end Go.Proofs.Ytidodagkfbplaaa.PI
