/- The type table of the program, for the interpreter: printed by a program of the session. -/
import Derived.Test.YtjcldkfgpifebaaGQSet
import Derived.Test.YtjcldkfgpifebaaProg
namespace Go.Proofs.Ytjcldkfgpifebaa.PI
set_option maxRecDepth 100000
open Go Go.Q
def tabL : List (Nat × TI) := [(1, ⟨.func, 1, 8⟩),
  (2, ⟨(.int .i64), 1, 8⟩),
  (3, ⟨(.int .i64), 1, 8⟩),
  (4, ⟨.bool, 1, 1⟩),
  (5, ⟨(.int .u8), 1, 1⟩),
  (6, ⟨(.int .u8), 1, 1⟩),
  (7, ⟨(.struct [(0, 2), (1, 3), (2, 4), (3, 6)]), 4, 24⟩),
  (8, ⟨(.struct [(0, 2), (1, 3), (2, 4), (3, 6)]), 4, 24⟩),
  (9, ⟨.str, 1, 16⟩),
  (10, ⟨.str, 1, 16⟩),
  (11, ⟨.str, 1, 16⟩),
  (12, ⟨(.int .u64), 1, 8⟩),
  (13, ⟨(.struct [(0, 9), (1, 12)]), 2, 24⟩),
  (14, ⟨(.struct [(0, 9), (1, 12)]), 2, 24⟩),
  (15, ⟨(.ptr 113), 1, 8⟩),
  (16, ⟨(.ptr 116), 1, 8⟩),
  (17, ⟨(.ptr 125), 1, 8⟩),
  (18, ⟨(.struct [(0, 17)]), 1, 8⟩),
  (19, ⟨(.struct [(0, 17)]), 1, 8⟩),
  (21, ⟨(.int .i32), 1, 4⟩),
  (22, ⟨(.slice 5), 1, 24⟩),
  (23, ⟨.func, 1, 8⟩),
  (24, ⟨(.slice 2), 1, 24⟩),
  (25, ⟨.func, 1, 8⟩),
  (27, ⟨.func, 1, 8⟩),
  (28, ⟨.func, 1, 8⟩),
  (29, ⟨.func, 1, 8⟩),
  (30, ⟨(.slice 24), 1, 24⟩),
  (31, ⟨(.struct [(0, 30), (1, 24)]), 2, 48⟩),
  (32, ⟨(.struct [(0, 30), (1, 24)]), 2, 48⟩),
  (34, ⟨.func, 1, 8⟩),
  (36, ⟨.func, 1, 8⟩),
  (37, ⟨.func, 1, 8⟩),
  (38, ⟨.func, 1, 8⟩),
  (39, ⟨(.ptr 55), 1, 8⟩),
  (40, ⟨.func, 1, 8⟩),
  (41, ⟨.func, 1, 8⟩),
  (42, ⟨.func, 1, 8⟩),
  (43, ⟨.func, 1, 8⟩),
  (44, ⟨.func, 1, 8⟩),
  (45, ⟨.func, 1, 8⟩),
  (46, ⟨.func, 1, 8⟩),
  (47, ⟨.func, 1, 8⟩),
  (48, ⟨.func, 1, 8⟩),
  (49, ⟨.func, 1, 8⟩),
  (50, ⟨.func, 1, 8⟩),
  (51, ⟨.func, 1, 8⟩),
  (52, ⟨.func, 1, 8⟩),
  (53, ⟨(.int .u64), 1, 8⟩),
  (54, ⟨(.struct [(0, 22), (1, 3), (2, 53)]), 3, 40⟩),
  (55, ⟨(.struct [(0, 22), (1, 3), (2, 53)]), 3, 40⟩),
  (56, ⟨.func, 1, 8⟩),
  (57, ⟨.func, 1, 8⟩),
  (58, ⟨.func, 1, 8⟩),
  (59, ⟨.func, 1, 8⟩),
  (60, ⟨.func, 1, 8⟩),
  (61, ⟨.func, 1, 8⟩),
  (62, ⟨.func, 1, 8⟩),
  (63, ⟨.func, 1, 8⟩),
  (64, ⟨.func, 1, 8⟩),
  (65, ⟨.func, 1, 8⟩),
  (66, ⟨.func, 1, 8⟩),
  (67, ⟨.func, 1, 8⟩),
  (68, ⟨.func, 1, 8⟩),
  (70, ⟨.func, 1, 8⟩),
  (71, ⟨(.int .u64), 1, 8⟩),
  (72, ⟨.func, 1, 8⟩),
  (73, ⟨.func, 1, 8⟩),
  (74, ⟨.func, 1, 8⟩),
  (75, ⟨.func, 1, 8⟩),
  (76, ⟨.func, 1, 8⟩),
  (78, ⟨.func, 1, 8⟩),
  (79, ⟨.func, 1, 8⟩),
  (80, ⟨.func, 1, 8⟩),
  (81, ⟨.func, 1, 8⟩),
  (82, ⟨.func, 1, 8⟩),
  (83, ⟨.func, 1, 8⟩),
  (84, ⟨.func, 1, 8⟩),
  (85, ⟨(.int .i64), 1, 8⟩),
  (87, ⟨.func, 1, 8⟩),
  (88, ⟨.func, 1, 8⟩),
  (89, ⟨.func, 1, 8⟩),
  (90, ⟨.func, 1, 8⟩),
  (92, ⟨.func, 1, 8⟩),
  (93, ⟨.func, 1, 8⟩),
  (94, ⟨(.int .u32), 1, 4⟩),
  (95, ⟨.func, 1, 8⟩),
  (97, ⟨.func, 1, 8⟩),
  (98, ⟨(.int .u64), 1, 8⟩),
  (99, ⟨.func, 1, 8⟩),
  (100, ⟨.func, 1, 8⟩),
  (101, ⟨.func, 1, 8⟩),
  (102, ⟨(.ptr 3), 1, 8⟩),
  (103, ⟨.func, 1, 8⟩),
  (105, ⟨.func, 1, 8⟩),
  (107, ⟨.func, 1, 8⟩),
  (108, ⟨(.ptr 98), 1, 8⟩),
  (110, ⟨.func, 1, 8⟩),
  (111, ⟨.func, 1, 8⟩),
  (112, ⟨(.struct [(0, 17), (1, 17), (2, 17), (3, 9)]), 4, 40⟩),
  (113, ⟨(.struct [(0, 17), (1, 17), (2, 17), (3, 9)]), 4, 40⟩),
  (114, ⟨(.arr 0 16), 0, 0⟩),
  (115, ⟨(.struct [(0, 114)]), 0, 0⟩),
  (116, ⟨(.struct [(0, 114)]), 0, 0⟩),
  (117, ⟨.func, 1, 8⟩),
  (118, ⟨(.int .u8), 1, 1⟩),
  (119, ⟨(.int .u8), 1, 1⟩),
  (120, ⟨.func, 1, 8⟩),
  (121, ⟨(.ptr 5), 1, 8⟩),
  (122, ⟨(.int .i32), 1, 4⟩),
  (123, ⟨(.int .i32), 1, 4⟩),
  (124, ⟨(.struct [(0, 12), (1, 12), (2, 94), (3, 118), (4, 5), (5, 5), (6, 119), (7, 120), (8, 121), (9, 122), (10, 123)]), 11, 48⟩),
  (125, ⟨(.struct [(0, 12), (1, 12), (2, 94), (3, 118), (4, 5), (5, 5), (6, 119), (7, 120), (8, 121), (9, 122), (10, 123)]), 11, 48⟩)]
def tyL : List (Nat × Ty) := [(2, (.int .i64)),
  (3, (.int .i64)),
  (4, .bool),
  (5, (.int .u8)),
  (6, (.int .u8)),
  (9, .str),
  (10, .str),
  (11, .str),
  (12, (.int .u64)),
  (21, (.int .i32)),
  (22, (.slice (.int .u8))),
  (24, (.slice (.int .i64))),
  (30, (.slice (.slice (.int .i64)))),
  (31, (.agg (.cons (.slice (.slice (.int .i64))) (.cons (.slice (.int .i64)) .nil)))),
  (32, (.agg (.cons (.slice (.slice (.int .i64))) (.cons (.slice (.int .i64)) .nil)))),
  (53, (.int .u64)),
  (54, (.agg (.cons (.slice (.int .u8)) (.cons (.int .i64) (.cons (.int .u64) .nil))))),
  (55, (.agg (.cons (.slice (.int .u8)) (.cons (.int .i64) (.cons (.int .u64) .nil))))),
  (71, (.int .u64)),
  (85, (.int .i64)),
  (94, (.int .u32)),
  (98, (.int .u64)),
  (118, (.int .u8)),
  (119, (.int .u8)),
  (122, (.int .i32)),
  (123, (.int .i32))]
def tab : Nat → Option TI := lookT tabL
def tyOf : Nat → Option Ty := lookT tyL
@[go_sem] theorem tab_1 : tab 1 = some ⟨.func, 1, 8⟩ := rfl
@[go_sem] theorem tab_2 : tab 2 = some ⟨(.int .i64), 1, 8⟩ := rfl
@[go_sem] theorem tab_3 : tab 3 = some ⟨(.int .i64), 1, 8⟩ := rfl
@[go_sem] theorem tab_4 : tab 4 = some ⟨.bool, 1, 1⟩ := rfl
@[go_sem] theorem tab_5 : tab 5 = some ⟨(.int .u8), 1, 1⟩ := rfl
@[go_sem] theorem tab_6 : tab 6 = some ⟨(.int .u8), 1, 1⟩ := rfl
@[go_sem] theorem tab_7 : tab 7 = some ⟨(.struct [(0, 2), (1, 3), (2, 4), (3, 6)]), 4, 24⟩ := rfl
@[go_sem] theorem tab_8 : tab 8 = some ⟨(.struct [(0, 2), (1, 3), (2, 4), (3, 6)]), 4, 24⟩ := rfl
@[go_sem] theorem tab_9 : tab 9 = some ⟨.str, 1, 16⟩ := rfl
@[go_sem] theorem tab_10 : tab 10 = some ⟨.str, 1, 16⟩ := rfl
@[go_sem] theorem tab_11 : tab 11 = some ⟨.str, 1, 16⟩ := rfl
@[go_sem] theorem tab_12 : tab 12 = some ⟨(.int .u64), 1, 8⟩ := rfl
@[go_sem] theorem tab_13 : tab 13 = some ⟨(.struct [(0, 9), (1, 12)]), 2, 24⟩ := rfl
@[go_sem] theorem tab_14 : tab 14 = some ⟨(.struct [(0, 9), (1, 12)]), 2, 24⟩ := rfl
@[go_sem] theorem tab_15 : tab 15 = some ⟨(.ptr 113), 1, 8⟩ := rfl
@[go_sem] theorem tab_16 : tab 16 = some ⟨(.ptr 116), 1, 8⟩ := rfl
@[go_sem] theorem tab_17 : tab 17 = some ⟨(.ptr 125), 1, 8⟩ := rfl
@[go_sem] theorem tab_18 : tab 18 = some ⟨(.struct [(0, 17)]), 1, 8⟩ := rfl
@[go_sem] theorem tab_19 : tab 19 = some ⟨(.struct [(0, 17)]), 1, 8⟩ := rfl
@[go_sem] theorem tab_21 : tab 21 = some ⟨(.int .i32), 1, 4⟩ := rfl
@[go_sem] theorem tab_22 : tab 22 = some ⟨(.slice 5), 1, 24⟩ := rfl
@[go_sem] theorem tab_23 : tab 23 = some ⟨.func, 1, 8⟩ := rfl
@[go_sem] theorem tab_24 : tab 24 = some ⟨(.slice 2), 1, 24⟩ := rfl
@[go_sem] theorem tab_25 : tab 25 = some ⟨.func, 1, 8⟩ := rfl
@[go_sem] theorem tab_27 : tab 27 = some ⟨.func, 1, 8⟩ := rfl
@[go_sem] theorem tab_28 : tab 28 = some ⟨.func, 1, 8⟩ := rfl
@[go_sem] theorem tab_29 : tab 29 = some ⟨.func, 1, 8⟩ := rfl
@[go_sem] theorem tab_30 : tab 30 = some ⟨(.slice 24), 1, 24⟩ := rfl
@[go_sem] theorem tab_31 : tab 31 = some ⟨(.struct [(0, 30), (1, 24)]), 2, 48⟩ := rfl
@[go_sem] theorem tab_32 : tab 32 = some ⟨(.struct [(0, 30), (1, 24)]), 2, 48⟩ := rfl
@[go_sem] theorem tab_34 : tab 34 = some ⟨.func, 1, 8⟩ := rfl
@[go_sem] theorem tab_36 : tab 36 = some ⟨.func, 1, 8⟩ := rfl
@[go_sem] theorem tab_37 : tab 37 = some ⟨.func, 1, 8⟩ := rfl
@[go_sem] theorem tab_38 : tab 38 = some ⟨.func, 1, 8⟩ := rfl
@[go_sem] theorem tab_39 : tab 39 = some ⟨(.ptr 55), 1, 8⟩ := rfl
@[go_sem] theorem tab_40 : tab 40 = some ⟨.func, 1, 8⟩ := rfl
@[go_sem] theorem tab_41 : tab 41 = some ⟨.func, 1, 8⟩ := rfl
@[go_sem] theorem tab_42 : tab 42 = some ⟨.func, 1, 8⟩ := rfl
@[go_sem] theorem tab_43 : tab 43 = some ⟨.func, 1, 8⟩ := rfl
@[go_sem] theorem tab_44 : tab 44 = some ⟨.func, 1, 8⟩ := rfl
@[go_sem] theorem tab_45 : tab 45 = some ⟨.func, 1, 8⟩ := rfl
@[go_sem] theorem tab_46 : tab 46 = some ⟨.func, 1, 8⟩ := rfl
@[go_sem] theorem tab_47 : tab 47 = some ⟨.func, 1, 8⟩ := rfl
@[go_sem] theorem tab_48 : tab 48 = some ⟨.func, 1, 8⟩ := rfl
@[go_sem] theorem tab_49 : tab 49 = some ⟨.func, 1, 8⟩ := rfl
@[go_sem] theorem tab_50 : tab 50 = some ⟨.func, 1, 8⟩ := rfl
@[go_sem] theorem tab_51 : tab 51 = some ⟨.func, 1, 8⟩ := rfl
@[go_sem] theorem tab_52 : tab 52 = some ⟨.func, 1, 8⟩ := rfl
@[go_sem] theorem tab_53 : tab 53 = some ⟨(.int .u64), 1, 8⟩ := rfl
@[go_sem] theorem tab_54 : tab 54 = some ⟨(.struct [(0, 22), (1, 3), (2, 53)]), 3, 40⟩ := rfl
@[go_sem] theorem tab_55 : tab 55 = some ⟨(.struct [(0, 22), (1, 3), (2, 53)]), 3, 40⟩ := rfl
@[go_sem] theorem tab_56 : tab 56 = some ⟨.func, 1, 8⟩ := rfl
@[go_sem] theorem tab_57 : tab 57 = some ⟨.func, 1, 8⟩ := rfl
@[go_sem] theorem tab_58 : tab 58 = some ⟨.func, 1, 8⟩ := rfl
@[go_sem] theorem tab_59 : tab 59 = some ⟨.func, 1, 8⟩ := rfl
@[go_sem] theorem tab_60 : tab 60 = some ⟨.func, 1, 8⟩ := rfl
@[go_sem] theorem tab_61 : tab 61 = some ⟨.func, 1, 8⟩ := rfl
@[go_sem] theorem tab_62 : tab 62 = some ⟨.func, 1, 8⟩ := rfl
@[go_sem] theorem tab_63 : tab 63 = some ⟨.func, 1, 8⟩ := rfl
@[go_sem] theorem tab_64 : tab 64 = some ⟨.func, 1, 8⟩ := rfl
@[go_sem] theorem tab_65 : tab 65 = some ⟨.func, 1, 8⟩ := rfl
@[go_sem] theorem tab_66 : tab 66 = some ⟨.func, 1, 8⟩ := rfl
@[go_sem] theorem tab_67 : tab 67 = some ⟨.func, 1, 8⟩ := rfl
@[go_sem] theorem tab_68 : tab 68 = some ⟨.func, 1, 8⟩ := rfl
@[go_sem] theorem tab_70 : tab 70 = some ⟨.func, 1, 8⟩ := rfl
@[go_sem] theorem tab_71 : tab 71 = some ⟨(.int .u64), 1, 8⟩ := rfl
@[go_sem] theorem tab_72 : tab 72 = some ⟨.func, 1, 8⟩ := rfl
@[go_sem] theorem tab_73 : tab 73 = some ⟨.func, 1, 8⟩ := rfl
@[go_sem] theorem tab_74 : tab 74 = some ⟨.func, 1, 8⟩ := rfl
@[go_sem] theorem tab_75 : tab 75 = some ⟨.func, 1, 8⟩ := rfl
@[go_sem] theorem tab_76 : tab 76 = some ⟨.func, 1, 8⟩ := rfl
@[go_sem] theorem tab_78 : tab 78 = some ⟨.func, 1, 8⟩ := rfl
@[go_sem] theorem tab_79 : tab 79 = some ⟨.func, 1, 8⟩ := rfl
@[go_sem] theorem tab_80 : tab 80 = some ⟨.func, 1, 8⟩ := rfl
@[go_sem] theorem tab_81 : tab 81 = some ⟨.func, 1, 8⟩ := rfl
@[go_sem] theorem tab_82 : tab 82 = some ⟨.func, 1, 8⟩ := rfl
@[go_sem] theorem tab_83 : tab 83 = some ⟨.func, 1, 8⟩ := rfl
@[go_sem] theorem tab_84 : tab 84 = some ⟨.func, 1, 8⟩ := rfl
@[go_sem] theorem tab_85 : tab 85 = some ⟨(.int .i64), 1, 8⟩ := rfl
@[go_sem] theorem tab_87 : tab 87 = some ⟨.func, 1, 8⟩ := rfl
@[go_sem] theorem tab_88 : tab 88 = some ⟨.func, 1, 8⟩ := rfl
@[go_sem] theorem tab_89 : tab 89 = some ⟨.func, 1, 8⟩ := rfl
@[go_sem] theorem tab_90 : tab 90 = some ⟨.func, 1, 8⟩ := rfl
@[go_sem] theorem tab_92 : tab 92 = some ⟨.func, 1, 8⟩ := rfl
@[go_sem] theorem tab_93 : tab 93 = some ⟨.func, 1, 8⟩ := rfl
@[go_sem] theorem tab_94 : tab 94 = some ⟨(.int .u32), 1, 4⟩ := rfl
@[go_sem] theorem tab_95 : tab 95 = some ⟨.func, 1, 8⟩ := rfl
@[go_sem] theorem tab_97 : tab 97 = some ⟨.func, 1, 8⟩ := rfl
@[go_sem] theorem tab_98 : tab 98 = some ⟨(.int .u64), 1, 8⟩ := rfl
@[go_sem] theorem tab_99 : tab 99 = some ⟨.func, 1, 8⟩ := rfl
@[go_sem] theorem tab_100 : tab 100 = some ⟨.func, 1, 8⟩ := rfl
@[go_sem] theorem tab_101 : tab 101 = some ⟨.func, 1, 8⟩ := rfl
@[go_sem] theorem tab_102 : tab 102 = some ⟨(.ptr 3), 1, 8⟩ := rfl
@[go_sem] theorem tab_103 : tab 103 = some ⟨.func, 1, 8⟩ := rfl
@[go_sem] theorem tab_105 : tab 105 = some ⟨.func, 1, 8⟩ := rfl
@[go_sem] theorem tab_107 : tab 107 = some ⟨.func, 1, 8⟩ := rfl
@[go_sem] theorem tab_108 : tab 108 = some ⟨(.ptr 98), 1, 8⟩ := rfl
@[go_sem] theorem tab_110 : tab 110 = some ⟨.func, 1, 8⟩ := rfl
@[go_sem] theorem tab_111 : tab 111 = some ⟨.func, 1, 8⟩ := rfl
@[go_sem] theorem tab_112 : tab 112 = some ⟨(.struct [(0, 17), (1, 17), (2, 17), (3, 9)]), 4, 40⟩ := rfl
@[go_sem] theorem tab_113 : tab 113 = some ⟨(.struct [(0, 17), (1, 17), (2, 17), (3, 9)]), 4, 40⟩ := rfl
@[go_sem] theorem tab_114 : tab 114 = some ⟨(.arr 0 16), 0, 0⟩ := rfl
@[go_sem] theorem tab_115 : tab 115 = some ⟨(.struct [(0, 114)]), 0, 0⟩ := rfl
@[go_sem] theorem tab_116 : tab 116 = some ⟨(.struct [(0, 114)]), 0, 0⟩ := rfl
@[go_sem] theorem tab_117 : tab 117 = some ⟨.func, 1, 8⟩ := rfl
@[go_sem] theorem tab_118 : tab 118 = some ⟨(.int .u8), 1, 1⟩ := rfl
@[go_sem] theorem tab_119 : tab 119 = some ⟨(.int .u8), 1, 1⟩ := rfl
@[go_sem] theorem tab_120 : tab 120 = some ⟨.func, 1, 8⟩ := rfl
@[go_sem] theorem tab_121 : tab 121 = some ⟨(.ptr 5), 1, 8⟩ := rfl
@[go_sem] theorem tab_122 : tab 122 = some ⟨(.int .i32), 1, 4⟩ := rfl
@[go_sem] theorem tab_123 : tab 123 = some ⟨(.int .i32), 1, 4⟩ := rfl
@[go_sem] theorem tab_124 : tab 124 = some ⟨(.struct [(0, 12), (1, 12), (2, 94), (3, 118), (4, 5), (5, 5), (6, 119), (7, 120), (8, 121), (9, 122), (10, 123)]), 11, 48⟩ := rfl
@[go_sem] theorem tab_125 : tab 125 = some ⟨(.struct [(0, 12), (1, 12), (2, 94), (3, 118), (4, 5), (5, 5), (6, 119), (7, 120), (8, 121), (9, 122), (10, 123)]), 11, 48⟩ := rfl
@[go_sem] theorem ty_2 : tyOf 2 = some (.int .i64) := rfl
@[go_sem] theorem ty_3 : tyOf 3 = some (.int .i64) := rfl
@[go_sem] theorem ty_4 : tyOf 4 = some .bool := rfl
@[go_sem] theorem ty_5 : tyOf 5 = some (.int .u8) := rfl
@[go_sem] theorem ty_6 : tyOf 6 = some (.int .u8) := rfl
@[go_sem] theorem ty_9 : tyOf 9 = some .str := rfl
@[go_sem] theorem ty_10 : tyOf 10 = some .str := rfl
@[go_sem] theorem ty_11 : tyOf 11 = some .str := rfl
@[go_sem] theorem ty_12 : tyOf 12 = some (.int .u64) := rfl
@[go_sem] theorem ty_21 : tyOf 21 = some (.int .i32) := rfl
@[go_sem] theorem ty_22 : tyOf 22 = some (.slice (.int .u8)) := rfl
@[go_sem] theorem ty_24 : tyOf 24 = some (.slice (.int .i64)) := rfl
@[go_sem] theorem ty_30 : tyOf 30 = some (.slice (.slice (.int .i64))) := rfl
@[go_sem] theorem ty_31 : tyOf 31 = some (.agg (.cons (.slice (.slice (.int .i64))) (.cons (.slice (.int .i64)) .nil))) := rfl
@[go_sem] theorem ty_32 : tyOf 32 = some (.agg (.cons (.slice (.slice (.int .i64))) (.cons (.slice (.int .i64)) .nil))) := rfl
@[go_sem] theorem ty_53 : tyOf 53 = some (.int .u64) := rfl
@[go_sem] theorem ty_54 : tyOf 54 = some (.agg (.cons (.slice (.int .u8)) (.cons (.int .i64) (.cons (.int .u64) .nil)))) := rfl
@[go_sem] theorem ty_55 : tyOf 55 = some (.agg (.cons (.slice (.int .u8)) (.cons (.int .i64) (.cons (.int .u64) .nil)))) := rfl
@[go_sem] theorem ty_71 : tyOf 71 = some (.int .u64) := rfl
@[go_sem] theorem ty_85 : tyOf 85 = some (.int .i64) := rfl
@[go_sem] theorem ty_94 : tyOf 94 = some (.int .u32) := rfl
@[go_sem] theorem ty_98 : tyOf 98 = some (.int .u64) := rfl
@[go_sem] theorem ty_118 : tyOf 118 = some (.int .u8) := rfl
@[go_sem] theorem ty_119 : tyOf 119 = some (.int .u8) := rfl
@[go_sem] theorem ty_122 : tyOf 122 = some (.int .i32) := rfl
@[go_sem] theorem ty_123 : tyOf 123 = some (.int .i32) := rfl
def byL : List (Nat × List Nat) := [(15, [0]), (16, [0]), (23, [1, 2]), (24, [1]), (26, [0]), (31, [0]), (32, [0, 1]), (36, [0]), (41, [0]), (42, [0, 2]), (51, [0])]
def by_ (g : Nat) : List Nat := (lookT byL g).getD []
set_option maxRecDepth 100000 in
theorem tabOK (c : CallF) : TabOK Try.prog ⟨tab, tyOf, by_, c⟩ := tabOK_of (by kernel_rfl) (by kernel_rfl)
end Go.Proofs.Ytjcldkfgpifebaa.PI
