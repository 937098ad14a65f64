/- The type table of the program, for the interpreter: printed by a program of the session. -/
import Derived.Test.YticbfkoialmojaaGQSet
import Derived.Test.YticbfkoialmojaaProg
namespace Go.Proofs.Yticbfkoialmojaa.PI
set_option maxRecDepth 100000
open Go Go.Q
def tabL : List (Nat × TI) := [(1, ⟨.func, 1, 8⟩),
  (2, ⟨(.int .i64), 1, 8⟩),
  (3, ⟨(.int .i64), 1, 8⟩),
  (4, ⟨.bool, 1, 1⟩),
  (5, ⟨(.int .u8), 1, 1⟩),
  (6, ⟨(.int .u8), 1, 1⟩),
  (7, ⟨(.struct [(0, 2), (1, 3), (2, 4), (3, 6)]), 4, 24⟩),
  (8, ⟨(.struct [(0, 2), (1, 3), (2, 4), (3, 6)]), 4, 24⟩),
  (9, ⟨.str, 1, 16⟩),
  (10, ⟨.str, 1, 16⟩),
  (11, ⟨.str, 1, 16⟩),
  (12, ⟨(.int .u64), 1, 8⟩),
  (13, ⟨(.struct [(0, 9), (1, 12)]), 2, 24⟩),
  (14, ⟨(.struct [(0, 9), (1, 12)]), 2, 24⟩),
  (15, ⟨(.ptr 152), 1, 8⟩),
  (16, ⟨(.ptr 155), 1, 8⟩),
  (17, ⟨(.ptr 164), 1, 8⟩),
  (18, ⟨(.struct [(0, 17)]), 1, 8⟩),
  (19, ⟨(.struct [(0, 17)]), 1, 8⟩),
  (21, ⟨(.int .i32), 1, 4⟩),
  (22, ⟨(.slice 23), 1, 24⟩),
  (23, ⟨(.slice 2), 1, 24⟩),
  (24, ⟨(.struct [(0, 22), (1, 23)]), 2, 48⟩),
  (25, ⟨(.struct [(0, 22), (1, 23)]), 2, 48⟩),
  (26, ⟨.func, 1, 8⟩),
  (28, ⟨.func, 1, 8⟩),
  (29, ⟨(.struct [(0, 22), (1, 23)]), 2, 48⟩),
  (30, ⟨.func, 1, 8⟩),
  (31, ⟨.func, 1, 8⟩),
  (32, ⟨.func, 1, 8⟩),
  (33, ⟨.func, 1, 8⟩),
  (34, ⟨.func, 1, 8⟩),
  (35, ⟨(.slice 5), 1, 24⟩),
  (36, ⟨.func, 1, 8⟩),
  (37, ⟨.func, 1, 8⟩),
  (38, ⟨.func, 1, 8⟩),
  (40, ⟨.func, 1, 8⟩),
  (41, ⟨.func, 1, 8⟩),
  (43, ⟨.func, 1, 8⟩),
  (44, ⟨.func, 1, 8⟩),
  (46, ⟨.func, 1, 8⟩),
  (47, ⟨.func, 1, 8⟩),
  (48, ⟨.func, 1, 8⟩),
  (49, ⟨.func, 1, 8⟩),
  (50, ⟨.func, 1, 8⟩),
  (51, ⟨(.ptr 29), 1, 8⟩),
  (52, ⟨.func, 1, 8⟩),
  (53, ⟨.func, 1, 8⟩),
  (54, ⟨.func, 1, 8⟩),
  (55, ⟨.func, 1, 8⟩),
  (56, ⟨.func, 1, 8⟩),
  (57, ⟨.func, 1, 8⟩),
  (58, ⟨.func, 1, 8⟩),
  (59, ⟨.func, 1, 8⟩),
  (60, ⟨.func, 1, 8⟩),
  (61, ⟨.func, 1, 8⟩),
  (62, ⟨(.ptr 90), 1, 8⟩),
  (63, ⟨.func, 1, 8⟩),
  (64, ⟨.func, 1, 8⟩),
  (65, ⟨.func, 1, 8⟩),
  (66, ⟨.func, 1, 8⟩),
  (67, ⟨.func, 1, 8⟩),
  (68, ⟨.func, 1, 8⟩),
  (69, ⟨.func, 1, 8⟩),
  (70, ⟨.func, 1, 8⟩),
  (71, ⟨.func, 1, 8⟩),
  (72, ⟨.func, 1, 8⟩),
  (73, ⟨.func, 1, 8⟩),
  (74, ⟨.func, 1, 8⟩),
  (75, ⟨.func, 1, 8⟩),
  (77, ⟨.func, 1, 8⟩),
  (78, ⟨(.slice 4), 1, 24⟩),
  (80, ⟨.func, 1, 8⟩),
  (81, ⟨.func, 1, 8⟩),
  (82, ⟨.func, 1, 8⟩),
  (83, ⟨.func, 1, 8⟩),
  (84, ⟨.func, 1, 8⟩),
  (86, ⟨.func, 1, 8⟩),
  (87, ⟨.func, 1, 8⟩),
  (88, ⟨(.int .u64), 1, 8⟩),
  (89, ⟨(.struct [(0, 35), (1, 3), (2, 88)]), 3, 40⟩),
  (90, ⟨(.struct [(0, 35), (1, 3), (2, 88)]), 3, 40⟩),
  (91, ⟨.func, 1, 8⟩),
  (92, ⟨.func, 1, 8⟩),
  (93, ⟨.func, 1, 8⟩),
  (94, ⟨.func, 1, 8⟩),
  (95, ⟨.func, 1, 8⟩),
  (96, ⟨.func, 1, 8⟩),
  (97, ⟨.func, 1, 8⟩),
  (98, ⟨.func, 1, 8⟩),
  (99, ⟨.func, 1, 8⟩),
  (100, ⟨.func, 1, 8⟩),
  (101, ⟨.func, 1, 8⟩),
  (102, ⟨.func, 1, 8⟩),
  (103, ⟨.func, 1, 8⟩),
  (104, ⟨.func, 1, 8⟩),
  (105, ⟨.func, 1, 8⟩),
  (106, ⟨.func, 1, 8⟩),
  (107, ⟨.func, 1, 8⟩),
  (108, ⟨.func, 1, 8⟩),
  (110, ⟨.func, 1, 8⟩),
  (111, ⟨.func, 1, 8⟩),
  (112, ⟨.func, 1, 8⟩),
  (114, ⟨.func, 1, 8⟩),
  (115, ⟨(.int .u64), 1, 8⟩),
  (116, ⟨.func, 1, 8⟩),
  (117, ⟨.func, 1, 8⟩),
  (118, ⟨.func, 1, 8⟩),
  (119, ⟨.func, 1, 8⟩),
  (120, ⟨.func, 1, 8⟩),
  (121, ⟨.func, 1, 8⟩),
  (122, ⟨.func, 1, 8⟩),
  (123, ⟨.func, 1, 8⟩),
  (125, ⟨.func, 1, 8⟩),
  (126, ⟨.func, 1, 8⟩),
  (127, ⟨(.int .i64), 1, 8⟩),
  (129, ⟨.func, 1, 8⟩),
  (130, ⟨.func, 1, 8⟩),
  (131, ⟨.func, 1, 8⟩),
  (133, ⟨.func, 1, 8⟩),
  (134, ⟨.func, 1, 8⟩),
  (135, ⟨(.int .u32), 1, 4⟩),
  (136, ⟨.func, 1, 8⟩),
  (138, ⟨.func, 1, 8⟩),
  (140, ⟨.func, 1, 8⟩),
  (141, ⟨(.int .u64), 1, 8⟩),
  (142, ⟨.func, 1, 8⟩),
  (143, ⟨.func, 1, 8⟩),
  (144, ⟨.func, 1, 8⟩),
  (145, ⟨(.ptr 3), 1, 8⟩),
  (146, ⟨.func, 1, 8⟩),
  (147, ⟨(.ptr 141), 1, 8⟩),
  (149, ⟨.func, 1, 8⟩),
  (150, ⟨.func, 1, 8⟩),
  (151, ⟨(.struct [(0, 17), (1, 17), (2, 17), (3, 9)]), 4, 40⟩),
  (152, ⟨(.struct [(0, 17), (1, 17), (2, 17), (3, 9)]), 4, 40⟩),
  (153, ⟨(.arr 0 16), 0, 0⟩),
  (154, ⟨(.struct [(0, 153)]), 0, 0⟩),
  (155, ⟨(.struct [(0, 153)]), 0, 0⟩),
  (156, ⟨.func, 1, 8⟩),
  (157, ⟨(.int .u8), 1, 1⟩),
  (158, ⟨(.int .u8), 1, 1⟩),
  (159, ⟨.func, 1, 8⟩),
  (160, ⟨(.ptr 5), 1, 8⟩),
  (161, ⟨(.int .i32), 1, 4⟩),
  (162, ⟨(.int .i32), 1, 4⟩),
  (163, ⟨(.struct [(0, 12), (1, 12), (2, 135), (3, 157), (4, 5), (5, 5), (6, 158), (7, 159), (8, 160), (9, 161), (10, 162)]), 11, 48⟩),
  (164, ⟨(.struct [(0, 12), (1, 12), (2, 135), (3, 157), (4, 5), (5, 5), (6, 158), (7, 159), (8, 160), (9, 161), (10, 162)]), 11, 48⟩)]
def tyL : List (Nat × Ty) := [(2, (.int .i64)),
  (3, (.int .i64)),
  (4, .bool),
  (5, (.int .u8)),
  (6, (.int .u8)),
  (9, .str),
  (10, .str),
  (11, .str),
  (12, (.int .u64)),
  (21, (.int .i32)),
  (22, (.slice (.slice (.int .i64)))),
  (23, (.slice (.int .i64))),
  (24, (.agg (.cons (.slice (.slice (.int .i64))) (.cons (.slice (.int .i64)) .nil)))),
  (25, (.agg (.cons (.slice (.slice (.int .i64))) (.cons (.slice (.int .i64)) .nil)))),
  (29, (.agg (.cons (.slice (.slice (.int .i64))) (.cons (.slice (.int .i64)) .nil)))),
  (35, (.slice (.int .u8))),
  (78, (.slice .bool)),
  (88, (.int .u64)),
  (89, (.agg (.cons (.slice (.int .u8)) (.cons (.int .i64) (.cons (.int .u64) .nil))))),
  (90, (.agg (.cons (.slice (.int .u8)) (.cons (.int .i64) (.cons (.int .u64) .nil))))),
  (115, (.int .u64)),
  (127, (.int .i64)),
  (135, (.int .u32)),
  (141, (.int .u64)),
  (157, (.int .u8)),
  (158, (.int .u8)),
  (161, (.int .i32)),
  (162, (.int .i32))]
def tab : Nat → Option TI := lookT tabL
def tyOf : Nat → Option Ty := lookT tyL
@[go_sem] theorem tab_1 : tab 1 = some ⟨.func, 1, 8⟩ := rfl
@[go_sem] theorem tab_2 : tab 2 = some ⟨(.int .i64), 1, 8⟩ := rfl
@[go_sem] theorem tab_3 : tab 3 = some ⟨(.int .i64), 1, 8⟩ := rfl
@[go_sem] theorem tab_4 : tab 4 = some ⟨.bool, 1, 1⟩ := rfl
@[go_sem] theorem tab_5 : tab 5 = some ⟨(.int .u8), 1, 1⟩ := rfl
@[go_sem] theorem tab_6 : tab 6 = some ⟨(.int .u8), 1, 1⟩ := rfl
@[go_sem] theorem tab_7 : tab 7 = some ⟨(.struct [(0, 2), (1, 3), (2, 4), (3, 6)]), 4, 24⟩ := rfl
@[go_sem] theorem tab_8 : tab 8 = some ⟨(.struct [(0, 2), (1, 3), (2, 4), (3, 6)]), 4, 24⟩ := rfl
@[go_sem] theorem tab_9 : tab 9 = some ⟨.str, 1, 16⟩ := rfl
@[go_sem] theorem tab_10 : tab 10 = some ⟨.str, 1, 16⟩ := rfl
@[go_sem] theorem tab_11 : tab 11 = some ⟨.str, 1, 16⟩ := rfl
@[go_sem] theorem tab_12 : tab 12 = some ⟨(.int .u64), 1, 8⟩ := rfl
@[go_sem] theorem tab_13 : tab 13 = some ⟨(.struct [(0, 9), (1, 12)]), 2, 24⟩ := rfl
@[go_sem] theorem tab_14 : tab 14 = some ⟨(.struct [(0, 9), (1, 12)]), 2, 24⟩ := rfl
@[go_sem] theorem tab_15 : tab 15 = some ⟨(.ptr 152), 1, 8⟩ := rfl
@[go_sem] theorem tab_16 : tab 16 = some ⟨(.ptr 155), 1, 8⟩ := rfl
@[go_sem] theorem tab_17 : tab 17 = some ⟨(.ptr 164), 1, 8⟩ := rfl
@[go_sem] theorem tab_18 : tab 18 = some ⟨(.struct [(0, 17)]), 1, 8⟩ := rfl
@[go_sem] theorem tab_19 : tab 19 = some ⟨(.struct [(0, 17)]), 1, 8⟩ := rfl
@[go_sem] theorem tab_21 : tab 21 = some ⟨(.int .i32), 1, 4⟩ := rfl
@[go_sem] theorem tab_22 : tab 22 = some ⟨(.slice 23), 1, 24⟩ := rfl
@[go_sem] theorem tab_23 : tab 23 = some ⟨(.slice 2), 1, 24⟩ := rfl
@[go_sem] theorem tab_24 : tab 24 = some ⟨(.struct [(0, 22), (1, 23)]), 2, 48⟩ := rfl
@[go_sem] theorem tab_25 : tab 25 = some ⟨(.struct [(0, 22), (1, 23)]), 2, 48⟩ := rfl
@[go_sem] theorem tab_26 : tab 26 = some ⟨.func, 1, 8⟩ := rfl
@[go_sem] theorem tab_28 : tab 28 = some ⟨.func, 1, 8⟩ := rfl
@[go_sem] theorem tab_29 : tab 29 = some ⟨(.struct [(0, 22), (1, 23)]), 2, 48⟩ := rfl
@[go_sem] theorem tab_30 : tab 30 = some ⟨.func, 1, 8⟩ := rfl
@[go_sem] theorem tab_31 : tab 31 = some ⟨.func, 1, 8⟩ := rfl
@[go_sem] theorem tab_32 : tab 32 = some ⟨.func, 1, 8⟩ := rfl
@[go_sem] theorem tab_33 : tab 33 = some ⟨.func, 1, 8⟩ := rfl
@[go_sem] theorem tab_34 : tab 34 = some ⟨.func, 1, 8⟩ := rfl
@[go_sem] theorem tab_35 : tab 35 = some ⟨(.slice 5), 1, 24⟩ := rfl
@[go_sem] theorem tab_36 : tab 36 = some ⟨.func, 1, 8⟩ := rfl
@[go_sem] theorem tab_37 : tab 37 = some ⟨.func, 1, 8⟩ := rfl
@[go_sem] theorem tab_38 : tab 38 = some ⟨.func, 1, 8⟩ := rfl
@[go_sem] theorem tab_40 : tab 40 = some ⟨.func, 1, 8⟩ := rfl
@[go_sem] theorem tab_41 : tab 41 = some ⟨.func, 1, 8⟩ := rfl
@[go_sem] theorem tab_43 : tab 43 = some ⟨.func, 1, 8⟩ := rfl
@[go_sem] theorem tab_44 : tab 44 = some ⟨.func, 1, 8⟩ := rfl
@[go_sem] theorem tab_46 : tab 46 = some ⟨.func, 1, 8⟩ := rfl
@[go_sem] theorem tab_47 : tab 47 = some ⟨.func, 1, 8⟩ := rfl
@[go_sem] theorem tab_48 : tab 48 = some ⟨.func, 1, 8⟩ := rfl
@[go_sem] theorem tab_49 : tab 49 = some ⟨.func, 1, 8⟩ := rfl
@[go_sem] theorem tab_50 : tab 50 = some ⟨.func, 1, 8⟩ := rfl
@[go_sem] theorem tab_51 : tab 51 = some ⟨(.ptr 29), 1, 8⟩ := rfl
@[go_sem] theorem tab_52 : tab 52 = some ⟨.func, 1, 8⟩ := rfl
@[go_sem] theorem tab_53 : tab 53 = some ⟨.func, 1, 8⟩ := rfl
@[go_sem] theorem tab_54 : tab 54 = some ⟨.func, 1, 8⟩ := rfl
@[go_sem] theorem tab_55 : tab 55 = some ⟨.func, 1, 8⟩ := rfl
@[go_sem] theorem tab_56 : tab 56 = some ⟨.func, 1, 8⟩ := rfl
@[go_sem] theorem tab_57 : tab 57 = some ⟨.func, 1, 8⟩ := rfl
@[go_sem] theorem tab_58 : tab 58 = some ⟨.func, 1, 8⟩ := rfl
@[go_sem] theorem tab_59 : tab 59 = some ⟨.func, 1, 8⟩ := rfl
@[go_sem] theorem tab_60 : tab 60 = some ⟨.func, 1, 8⟩ := rfl
@[go_sem] theorem tab_61 : tab 61 = some ⟨.func, 1, 8⟩ := rfl
@[go_sem] theorem tab_62 : tab 62 = some ⟨(.ptr 90), 1, 8⟩ := rfl
@[go_sem] theorem tab_63 : tab 63 = some ⟨.func, 1, 8⟩ := rfl
@[go_sem] theorem tab_64 : tab 64 = some ⟨.func, 1, 8⟩ := rfl
@[go_sem] theorem tab_65 : tab 65 = some ⟨.func, 1, 8⟩ := rfl
@[go_sem] theorem tab_66 : tab 66 = some ⟨.func, 1, 8⟩ := rfl
@[go_sem] theorem tab_67 : tab 67 = some ⟨.func, 1, 8⟩ := rfl
@[go_sem] theorem tab_68 : tab 68 = some ⟨.func, 1, 8⟩ := rfl
@[go_sem] theorem tab_69 : tab 69 = some ⟨.func, 1, 8⟩ := rfl
@[go_sem] theorem tab_70 : tab 70 = some ⟨.func, 1, 8⟩ := rfl
@[go_sem] theorem tab_71 : tab 71 = some ⟨.func, 1, 8⟩ := rfl
@[go_sem] theorem tab_72 : tab 72 = some ⟨.func, 1, 8⟩ := rfl
@[go_sem] theorem tab_73 : tab 73 = some ⟨.func, 1, 8⟩ := rfl
@[go_sem] theorem tab_74 : tab 74 = some ⟨.func, 1, 8⟩ := rfl
@[go_sem] theorem tab_75 : tab 75 = some ⟨.func, 1, 8⟩ := rfl
@[go_sem] theorem tab_77 : tab 77 = some ⟨.func, 1, 8⟩ := rfl
@[go_sem] theorem tab_78 : tab 78 = some ⟨(.slice 4), 1, 24⟩ := rfl
@[go_sem] theorem tab_80 : tab 80 = some ⟨.func, 1, 8⟩ := rfl
@[go_sem] theorem tab_81 : tab 81 = some ⟨.func, 1, 8⟩ := rfl
@[go_sem] theorem tab_82 : tab 82 = some ⟨.func, 1, 8⟩ := rfl
@[go_sem] theorem tab_83 : tab 83 = some ⟨.func, 1, 8⟩ := rfl
@[go_sem] theorem tab_84 : tab 84 = some ⟨.func, 1, 8⟩ := rfl
@[go_sem] theorem tab_86 : tab 86 = some ⟨.func, 1, 8⟩ := rfl
@[go_sem] theorem tab_87 : tab 87 = some ⟨.func, 1, 8⟩ := rfl
@[go_sem] theorem tab_88 : tab 88 = some ⟨(.int .u64), 1, 8⟩ := rfl
@[go_sem] theorem tab_89 : tab 89 = some ⟨(.struct [(0, 35), (1, 3), (2, 88)]), 3, 40⟩ := rfl
@[go_sem] theorem tab_90 : tab 90 = some ⟨(.struct [(0, 35), (1, 3), (2, 88)]), 3, 40⟩ := rfl
@[go_sem] theorem tab_91 : tab 91 = some ⟨.func, 1, 8⟩ := rfl
@[go_sem] theorem tab_92 : tab 92 = some ⟨.func, 1, 8⟩ := rfl
@[go_sem] theorem tab_93 : tab 93 = some ⟨.func, 1, 8⟩ := rfl
@[go_sem] theorem tab_94 : tab 94 = some ⟨.func, 1, 8⟩ := rfl
@[go_sem] theorem tab_95 : tab 95 = some ⟨.func, 1, 8⟩ := rfl
@[go_sem] theorem tab_96 : tab 96 = some ⟨.func, 1, 8⟩ := rfl
@[go_sem] theorem tab_97 : tab 97 = some ⟨.func, 1, 8⟩ := rfl
@[go_sem] theorem tab_98 : tab 98 = some ⟨.func, 1, 8⟩ := rfl
@[go_sem] theorem tab_99 : tab 99 = some ⟨.func, 1, 8⟩ := rfl
@[go_sem] theorem tab_100 : tab 100 = some ⟨.func, 1, 8⟩ := rfl
@[go_sem] theorem tab_101 : tab 101 = some ⟨.func, 1, 8⟩ := rfl
@[go_sem] theorem tab_102 : tab 102 = some ⟨.func, 1, 8⟩ := rfl
@[go_sem] theorem tab_103 : tab 103 = some ⟨.func, 1, 8⟩ := rfl
@[go_sem] theorem tab_104 : tab 104 = some ⟨.func, 1, 8⟩ := rfl
@[go_sem] theorem tab_105 : tab 105 = some ⟨.func, 1, 8⟩ := rfl
@[go_sem] theorem tab_106 : tab 106 = some ⟨.func, 1, 8⟩ := rfl
@[go_sem] theorem tab_107 : tab 107 = some ⟨.func, 1, 8⟩ := rfl
@[go_sem] theorem tab_108 : tab 108 = some ⟨.func, 1, 8⟩ := rfl
@[go_sem] theorem tab_110 : tab 110 = some ⟨.func, 1, 8⟩ := rfl
@[go_sem] theorem tab_111 : tab 111 = some ⟨.func, 1, 8⟩ := rfl
@[go_sem] theorem tab_112 : tab 112 = some ⟨.func, 1, 8⟩ := rfl
@[go_sem] theorem tab_114 : tab 114 = some ⟨.func, 1, 8⟩ := rfl
@[go_sem] theorem tab_115 : tab 115 = some ⟨(.int .u64), 1, 8⟩ := rfl
@[go_sem] theorem tab_116 : tab 116 = some ⟨.func, 1, 8⟩ := rfl
@[go_sem] theorem tab_117 : tab 117 = some ⟨.func, 1, 8⟩ := rfl
@[go_sem] theorem tab_118 : tab 118 = some ⟨.func, 1, 8⟩ := rfl
@[go_sem] theorem tab_119 : tab 119 = some ⟨.func, 1, 8⟩ := rfl
@[go_sem] theorem tab_120 : tab 120 = some ⟨.func, 1, 8⟩ := rfl
@[go_sem] theorem tab_121 : tab 121 = some ⟨.func, 1, 8⟩ := rfl
@[go_sem] theorem tab_122 : tab 122 = some ⟨.func, 1, 8⟩ := rfl
@[go_sem] theorem tab_123 : tab 123 = some ⟨.func, 1, 8⟩ := rfl
@[go_sem] theorem tab_125 : tab 125 = some ⟨.func, 1, 8⟩ := rfl
@[go_sem] theorem tab_126 : tab 126 = some ⟨.func, 1, 8⟩ := rfl
@[go_sem] theorem tab_127 : tab 127 = some ⟨(.int .i64), 1, 8⟩ := rfl
@[go_sem] theorem tab_129 : tab 129 = some ⟨.func, 1, 8⟩ := rfl
@[go_sem] theorem tab_130 : tab 130 = some ⟨.func, 1, 8⟩ := rfl
@[go_sem] theorem tab_131 : tab 131 = some ⟨.func, 1, 8⟩ := rfl
@[go_sem] theorem tab_133 : tab 133 = some ⟨.func, 1, 8⟩ := rfl
@[go_sem] theorem tab_134 : tab 134 = some ⟨.func, 1, 8⟩ := rfl
@[go_sem] theorem tab_135 : tab 135 = some ⟨(.int .u32), 1, 4⟩ := rfl
@[go_sem] theorem tab_136 : tab 136 = some ⟨.func, 1, 8⟩ := rfl
@[go_sem] theorem tab_138 : tab 138 = some ⟨.func, 1, 8⟩ := rfl
@[go_sem] theorem tab_140 : tab 140 = some ⟨.func, 1, 8⟩ := rfl
@[go_sem] theorem tab_141 : tab 141 = some ⟨(.int .u64), 1, 8⟩ := rfl
@[go_sem] theorem tab_142 : tab 142 = some ⟨.func, 1, 8⟩ := rfl
@[go_sem] theorem tab_143 : tab 143 = some ⟨.func, 1, 8⟩ := rfl
@[go_sem] theorem tab_144 : tab 144 = some ⟨.func, 1, 8⟩ := rfl
@[go_sem] theorem tab_145 : tab 145 = some ⟨(.ptr 3), 1, 8⟩ := rfl
@[go_sem] theorem tab_146 : tab 146 = some ⟨.func, 1, 8⟩ := rfl
@[go_sem] theorem tab_147 : tab 147 = some ⟨(.ptr 141), 1, 8⟩ := rfl
@[go_sem] theorem tab_149 : tab 149 = some ⟨.func, 1, 8⟩ := rfl
@[go_sem] theorem tab_150 : tab 150 = some ⟨.func, 1, 8⟩ := rfl
@[go_sem] theorem tab_151 : tab 151 = some ⟨(.struct [(0, 17), (1, 17), (2, 17), (3, 9)]), 4, 40⟩ := rfl
@[go_sem] theorem tab_152 : tab 152 = some ⟨(.struct [(0, 17), (1, 17), (2, 17), (3, 9)]), 4, 40⟩ := rfl
@[go_sem] theorem tab_153 : tab 153 = some ⟨(.arr 0 16), 0, 0⟩ := rfl
@[go_sem] theorem tab_154 : tab 154 = some ⟨(.struct [(0, 153)]), 0, 0⟩ := rfl
@[go_sem] theorem tab_155 : tab 155 = some ⟨(.struct [(0, 153)]), 0, 0⟩ := rfl
@[go_sem] theorem tab_156 : tab 156 = some ⟨.func, 1, 8⟩ := rfl
@[go_sem] theorem tab_157 : tab 157 = some ⟨(.int .u8), 1, 1⟩ := rfl
@[go_sem] theorem tab_158 : tab 158 = some ⟨(.int .u8), 1, 1⟩ := rfl
@[go_sem] theorem tab_159 : tab 159 = some ⟨.func, 1, 8⟩ := rfl
@[go_sem] theorem tab_160 : tab 160 = some ⟨(.ptr 5), 1, 8⟩ := rfl
@[go_sem] theorem tab_161 : tab 161 = some ⟨(.int .i32), 1, 4⟩ := rfl
@[go_sem] theorem tab_162 : tab 162 = some ⟨(.int .i32), 1, 4⟩ := rfl
@[go_sem] theorem tab_163 : tab 163 = some ⟨(.struct [(0, 12), (1, 12), (2, 135), (3, 157), (4, 5), (5, 5), (6, 158), (7, 159), (8, 160), (9, 161), (10, 162)]), 11, 48⟩ := rfl
@[go_sem] theorem tab_164 : tab 164 = some ⟨(.struct [(0, 12), (1, 12), (2, 135), (3, 157), (4, 5), (5, 5), (6, 158), (7, 159), (8, 160), (9, 161), (10, 162)]), 11, 48⟩ := rfl
@[go_sem] theorem ty_2 : tyOf 2 = some (.int .i64) := rfl
@[go_sem] theorem ty_3 : tyOf 3 = some (.int .i64) := rfl
@[go_sem] theorem ty_4 : tyOf 4 = some .bool := rfl
@[go_sem] theorem ty_5 : tyOf 5 = some (.int .u8) := rfl
@[go_sem] theorem ty_6 : tyOf 6 = some (.int .u8) := rfl
@[go_sem] theorem ty_9 : tyOf 9 = some .str := rfl
@[go_sem] theorem ty_10 : tyOf 10 = some .str := rfl
@[go_sem] theorem ty_11 : tyOf 11 = some .str := rfl
@[go_sem] theorem ty_12 : tyOf 12 = some (.int .u64) := rfl
@[go_sem] theorem ty_21 : tyOf 21 = some (.int .i32) := rfl
@[go_sem] theorem ty_22 : tyOf 22 = some (.slice (.slice (.int .i64))) := rfl
@[go_sem] theorem ty_23 : tyOf 23 = some (.slice (.int .i64)) := rfl
@[go_sem] theorem ty_24 : tyOf 24 = some (.agg (.cons (.slice (.slice (.int .i64))) (.cons (.slice (.int .i64)) .nil))) := rfl
@[go_sem] theorem ty_25 : tyOf 25 = some (.agg (.cons (.slice (.slice (.int .i64))) (.cons (.slice (.int .i64)) .nil))) := rfl
@[go_sem] theorem ty_29 : tyOf 29 = some (.agg (.cons (.slice (.slice (.int .i64))) (.cons (.slice (.int .i64)) .nil))) := rfl
@[go_sem] theorem ty_35 : tyOf 35 = some (.slice (.int .u8)) := rfl
@[go_sem] theorem ty_78 : tyOf 78 = some (.slice .bool) := rfl
@[go_sem] theorem ty_88 : tyOf 88 = some (.int .u64) := rfl
@[go_sem] theorem ty_89 : tyOf 89 = some (.agg (.cons (.slice (.int .u8)) (.cons (.int .i64) (.cons (.int .u64) .nil)))) := rfl
@[go_sem] theorem ty_90 : tyOf 90 = some (.agg (.cons (.slice (.int .u8)) (.cons (.int .i64) (.cons (.int .u64) .nil)))) := rfl
@[go_sem] theorem ty_115 : tyOf 115 = some (.int .u64) := rfl
@[go_sem] theorem ty_127 : tyOf 127 = some (.int .i64) := rfl
@[go_sem] theorem ty_135 : tyOf 135 = some (.int .u32) := rfl
@[go_sem] theorem ty_141 : tyOf 141 = some (.int .u64) := rfl
@[go_sem] theorem ty_157 : tyOf 157 = some (.int .u8) := rfl
@[go_sem] theorem ty_158 : tyOf 158 = some (.int .u8) := rfl
@[go_sem] theorem ty_161 : tyOf 161 = some (.int .i32) := rfl
@[go_sem] theorem ty_162 : tyOf 162 = some (.int .i32) := rfl
def byL : List (Nat × List Nat) := [(39, [0]), (40, [0]), (45, [0]), (47, [1, 2]), (48, [1]), (50, [0]), (67, [0]), (68, [0]), (69, [0]), (76, [0]), (77, [0, 2]), (78, [0]), (104, [0])]
def by_ (g : Nat) : List Nat := (lookT byL g).getD []
set_option maxRecDepth 100000 in
theorem tabOK (c : CallF) : TabOK Try.prog ⟨tab, tyOf, by_, c⟩ := tabOK_of (by kernel_rfl) (by kernel_rfl)
end Go.Proofs.Yticbfkoialmojaa.PI
