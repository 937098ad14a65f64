/- The type table of the program, for the interpreter: printed by a program of the session. -/
import Derived.Test.YthhankjdpbbncaaGQSet
import Derived.Test.YthhankjdpbbncaaProg
namespace Go.Proofs.Ythhankjdpbbncaa.PI
set_option maxRecDepth 100000
open Go Go.Q
def tabL : List (Nat × TI) := [(1, ⟨.func, 1, 8⟩),
  (2, ⟨(.int .i64), 1, 8⟩),
  (3, ⟨(.int .i64), 1, 8⟩),
  (4, ⟨.bool, 1, 1⟩),
  (5, ⟨(.int .u8), 1, 1⟩),
  (6, ⟨(.int .u8), 1, 1⟩),
  (7, ⟨(.struct [(0, 2), (1, 3), (2, 4), (3, 6)]), 4, 24⟩),
  (8, ⟨(.struct [(0, 2), (1, 3), (2, 4), (3, 6)]), 4, 24⟩),
  (9, ⟨.str, 1, 16⟩),
  (10, ⟨.str, 1, 16⟩),
  (11, ⟨.str, 1, 16⟩),
  (12, ⟨(.int .u64), 1, 8⟩),
  (13, ⟨(.struct [(0, 9), (1, 12)]), 2, 24⟩),
  (14, ⟨(.struct [(0, 9), (1, 12)]), 2, 24⟩),
  (15, ⟨(.ptr 176), 1, 8⟩),
  (16, ⟨(.ptr 179), 1, 8⟩),
  (17, ⟨(.ptr 186), 1, 8⟩),
  (18, ⟨(.struct [(0, 17)]), 1, 8⟩),
  (19, ⟨(.struct [(0, 17)]), 1, 8⟩),
  (21, ⟨(.int .i32), 1, 4⟩),
  (22, ⟨(.slice 9), 1, 24⟩),
  (23, ⟨.func, 1, 8⟩),
  (25, ⟨.func, 1, 8⟩),
  (26, ⟨.func, 1, 8⟩),
  (27, ⟨.func, 1, 8⟩),
  (28, ⟨.func, 1, 8⟩),
  (29, ⟨(.slice 5), 1, 24⟩),
  (30, ⟨.func, 1, 8⟩),
  (31, ⟨(.slice 38), 1, 24⟩),
  (32, ⟨(.struct [(0, 31)]), 1, 24⟩),
  (33, ⟨(.struct [(0, 31)]), 1, 24⟩),
  (34, ⟨.func, 1, 8⟩),
  (35, ⟨.func, 1, 8⟩),
  (37, ⟨.func, 1, 8⟩),
  (38, ⟨(.slice 2), 1, 24⟩),
  (40, ⟨.func, 1, 8⟩),
  (41, ⟨.func, 1, 8⟩),
  (42, ⟨.func, 1, 8⟩),
  (43, ⟨(.struct [(0, 31)]), 1, 24⟩),
  (44, ⟨.func, 1, 8⟩),
  (45, ⟨.func, 1, 8⟩),
  (46, ⟨.func, 1, 8⟩),
  (47, ⟨.func, 1, 8⟩),
  (48, ⟨(.slice 105), 1, 24⟩),
  (49, ⟨.func, 1, 8⟩),
  (50, ⟨.func, 1, 8⟩),
  (51, ⟨(.slice 103), 1, 24⟩),
  (52, ⟨.func, 1, 8⟩),
  (53, ⟨.func, 1, 8⟩),
  (54, ⟨.func, 1, 8⟩),
  (56, ⟨.func, 1, 8⟩),
  (57, ⟨.func, 1, 8⟩),
  (58, ⟨.func, 1, 8⟩),
  (59, ⟨.func, 1, 8⟩),
  (60, ⟨.func, 1, 8⟩),
  (61, ⟨.func, 1, 8⟩),
  (63, ⟨.func, 1, 8⟩),
  (64, ⟨.func, 1, 8⟩),
  (65, ⟨.func, 1, 8⟩),
  (67, ⟨.func, 1, 8⟩),
  (68, ⟨.func, 1, 8⟩),
  (69, ⟨(.ptr 71), 1, 8⟩),
  (70, ⟨(.struct [(0, 69), (1, 29)]), 2, 32⟩),
  (71, ⟨(.struct [(0, 69), (1, 29)]), 2, 32⟩),
  (72, ⟨.func, 1, 8⟩),
  (74, ⟨.err, 1, 16⟩),
  (76, ⟨.func, 1, 8⟩),
  (77, ⟨.func, 1, 8⟩),
  (78, ⟨.func, 1, 8⟩),
  (79, ⟨.func, 1, 8⟩),
  (80, ⟨(.ptr 130), 1, 8⟩),
  (81, ⟨.func, 1, 8⟩),
  (82, ⟨.func, 1, 8⟩),
  (83, ⟨.func, 1, 8⟩),
  (84, ⟨(.map 107 86), 1, 8⟩),
  (85, ⟨(.struct [(0, 2), (1, 2)]), 2, 16⟩),
  (86, ⟨(.struct [(0, 2), (1, 2)]), 2, 16⟩),
  (88, ⟨.func, 1, 8⟩),
  (89, ⟨.func, 1, 8⟩),
  (90, ⟨.func, 1, 8⟩),
  (91, ⟨.func, 1, 8⟩),
  (92, ⟨.func, 1, 8⟩),
  (93, ⟨.func, 1, 8⟩),
  (94, ⟨.func, 1, 8⟩),
  (95, ⟨(.ptr 33), 1, 8⟩),
  (96, ⟨.func, 1, 8⟩),
  (97, ⟨.func, 1, 8⟩),
  (98, ⟨.func, 1, 8⟩),
  (100, ⟨.func, 1, 8⟩),
  (101, ⟨.func, 1, 8⟩),
  (102, ⟨(.struct [(0, 2), (1, 2)]), 2, 16⟩),
  (103, ⟨(.struct [(0, 2), (1, 2)]), 2, 16⟩),
  (104, ⟨.func, 1, 8⟩),
  (105, ⟨(.struct [(0, 2), (1, 2)]), 2, 16⟩),
  (106, ⟨(.struct [(0, 2), (1, 2)]), 2, 16⟩),
  (107, ⟨(.struct [(0, 2), (1, 2)]), 2, 16⟩),
  (109, ⟨.func, 1, 8⟩),
  (110, ⟨.func, 1, 8⟩),
  (111, ⟨.func, 1, 8⟩),
  (112, ⟨.func, 1, 8⟩),
  (113, ⟨.func, 1, 8⟩),
  (114, ⟨.func, 1, 8⟩),
  (116, ⟨.func, 1, 8⟩),
  (118, ⟨.func, 1, 8⟩),
  (119, ⟨(.int .u64), 1, 8⟩),
  (121, ⟨.func, 1, 8⟩),
  (122, ⟨.func, 1, 8⟩),
  (123, ⟨.func, 1, 8⟩),
  (125, ⟨.func, 1, 8⟩),
  (126, ⟨.func, 1, 8⟩),
  (127, ⟨(.ptr 5), 1, 8⟩),
  (128, ⟨(.int .u64), 1, 8⟩),
  (129, ⟨(.struct [(0, 29), (1, 3), (2, 128)]), 3, 40⟩),
  (130, ⟨(.struct [(0, 29), (1, 3), (2, 128)]), 3, 40⟩),
  (131, ⟨.func, 1, 8⟩),
  (132, ⟨.func, 1, 8⟩),
  (133, ⟨.func, 1, 8⟩),
  (134, ⟨.func, 1, 8⟩),
  (135, ⟨.func, 1, 8⟩),
  (136, ⟨.func, 1, 8⟩),
  (137, ⟨.func, 1, 8⟩),
  (138, ⟨.func, 1, 8⟩),
  (139, ⟨.func, 1, 8⟩),
  (140, ⟨.func, 1, 8⟩),
  (141, ⟨.func, 1, 8⟩),
  (142, ⟨.func, 1, 8⟩),
  (143, ⟨.func, 1, 8⟩),
  (144, ⟨(.struct [(0, 31), (1, 38)]), 2, 48⟩),
  (145, ⟨(.struct [(0, 31), (1, 38)]), 2, 48⟩),
  (146, ⟨.func, 1, 8⟩),
  (147, ⟨.func, 1, 8⟩),
  (148, ⟨(.ptr 145), 1, 8⟩),
  (150, ⟨.func, 1, 8⟩),
  (151, ⟨(.map 107 154), 1, 8⟩),
  (152, ⟨(.map 107 4), 1, 8⟩),
  (153, ⟨(.slice 107), 1, 24⟩),
  (154, ⟨(.slice 156), 1, 24⟩),
  (155, ⟨(.struct [(0, 107), (2, 103)]), 4, 32⟩),
  (156, ⟨(.struct [(0, 107), (2, 103)]), 4, 32⟩),
  (157, ⟨.func, 1, 8⟩),
  (158, ⟨.func, 1, 8⟩),
  (159, ⟨.func, 1, 8⟩),
  (160, ⟨.func, 1, 8⟩),
  (161, ⟨.func, 1, 8⟩),
  (162, ⟨.func, 1, 8⟩),
  (163, ⟨.func, 1, 8⟩),
  (164, ⟨.func, 1, 8⟩),
  (165, ⟨.func, 1, 8⟩),
  (166, ⟨.func, 1, 8⟩),
  (167, ⟨.func, 1, 8⟩),
  (169, ⟨.func, 1, 8⟩),
  (170, ⟨.func, 1, 8⟩),
  (171, ⟨(.int .u32), 1, 4⟩),
  (173, ⟨.func, 1, 8⟩),
  (174, ⟨.func, 1, 8⟩),
  (175, ⟨(.struct [(0, 17), (1, 17), (2, 17), (3, 9)]), 4, 40⟩),
  (176, ⟨(.struct [(0, 17), (1, 17), (2, 17), (3, 9)]), 4, 40⟩),
  (177, ⟨(.arr 0 16), 0, 0⟩),
  (178, ⟨(.struct [(0, 177)]), 0, 0⟩),
  (179, ⟨(.struct [(0, 177)]), 0, 0⟩),
  (180, ⟨(.int .u8), 1, 1⟩),
  (181, ⟨(.int .u8), 1, 1⟩),
  (182, ⟨.func, 1, 8⟩),
  (183, ⟨(.int .i32), 1, 4⟩),
  (184, ⟨(.int .i32), 1, 4⟩),
  (185, ⟨(.struct [(0, 12), (1, 12), (2, 171), (3, 180), (4, 5), (5, 5), (6, 181), (7, 182), (8, 127), (9, 183), (10, 184)]), 11, 48⟩),
  (186, ⟨(.struct [(0, 12), (1, 12), (2, 171), (3, 180), (4, 5), (5, 5), (6, 181), (7, 182), (8, 127), (9, 183), (10, 184)]), 11, 48⟩)]
def tyL : List (Nat × Ty) := [(2, (.int .i64)),
  (3, (.int .i64)),
  (4, .bool),
  (5, (.int .u8)),
  (6, (.int .u8)),
  (9, .str),
  (10, .str),
  (11, .str),
  (12, (.int .u64)),
  (21, (.int .i32)),
  (22, (.slice .str)),
  (29, (.slice (.int .u8))),
  (31, (.slice (.slice (.int .i64)))),
  (32, (.agg (.cons (.slice (.slice (.int .i64))) .nil))),
  (33, (.agg (.cons (.slice (.slice (.int .i64))) .nil))),
  (38, (.slice (.int .i64))),
  (43, (.agg (.cons (.slice (.slice (.int .i64))) .nil))),
  (48, (.slice (.agg (.cons (.int .i64) (.cons (.int .i64) .nil))))),
  (51, (.slice (.agg (.cons (.int .i64) (.cons (.int .i64) .nil))))),
  (74, .err),
  (85, (.agg (.cons (.int .i64) (.cons (.int .i64) .nil)))),
  (86, (.agg (.cons (.int .i64) (.cons (.int .i64) .nil)))),
  (102, (.agg (.cons (.int .i64) (.cons (.int .i64) .nil)))),
  (103, (.agg (.cons (.int .i64) (.cons (.int .i64) .nil)))),
  (105, (.agg (.cons (.int .i64) (.cons (.int .i64) .nil)))),
  (106, (.agg (.cons (.int .i64) (.cons (.int .i64) .nil)))),
  (107, (.agg (.cons (.int .i64) (.cons (.int .i64) .nil)))),
  (119, (.int .u64)),
  (128, (.int .u64)),
  (129, (.agg (.cons (.slice (.int .u8)) (.cons (.int .i64) (.cons (.int .u64) .nil))))),
  (130, (.agg (.cons (.slice (.int .u8)) (.cons (.int .i64) (.cons (.int .u64) .nil))))),
  (144, (.agg (.cons (.slice (.slice (.int .i64))) (.cons (.slice (.int .i64)) .nil)))),
  (145, (.agg (.cons (.slice (.slice (.int .i64))) (.cons (.slice (.int .i64)) .nil)))),
  (153, (.slice (.agg (.cons (.int .i64) (.cons (.int .i64) .nil))))),
  (154, (.slice (.agg (.cons (.agg (.cons (.int .i64) (.cons (.int .i64) .nil))) (.cons (.agg (.cons (.int .i64) (.cons (.int .i64) .nil))) .nil))))),
  (155, (.agg (.cons (.agg (.cons (.int .i64) (.cons (.int .i64) .nil))) (.cons (.agg (.cons (.int .i64) (.cons (.int .i64) .nil))) .nil)))),
  (156, (.agg (.cons (.agg (.cons (.int .i64) (.cons (.int .i64) .nil))) (.cons (.agg (.cons (.int .i64) (.cons (.int .i64) .nil))) .nil)))),
  (171, (.int .u32)),
  (180, (.int .u8)),
  (181, (.int .u8)),
  (183, (.int .i32)),
  (184, (.int .i32))]
def tab : Nat → Option TI := lookT tabL
def tyOf : Nat → Option Ty := lookT tyL
@[go_sem] theorem tab_1 : tab 1 = some ⟨.func, 1, 8⟩ := rfl
@[go_sem] theorem tab_2 : tab 2 = some ⟨(.int .i64), 1, 8⟩ := rfl
@[go_sem] theorem tab_3 : tab 3 = some ⟨(.int .i64), 1, 8⟩ := rfl
@[go_sem] theorem tab_4 : tab 4 = some ⟨.bool, 1, 1⟩ := rfl
@[go_sem] theorem tab_5 : tab 5 = some ⟨(.int .u8), 1, 1⟩ := rfl
@[go_sem] theorem tab_6 : tab 6 = some ⟨(.int .u8), 1, 1⟩ := rfl
@[go_sem] theorem tab_7 : tab 7 = some ⟨(.struct [(0, 2), (1, 3), (2, 4), (3, 6)]), 4, 24⟩ := rfl
@[go_sem] theorem tab_8 : tab 8 = some ⟨(.struct [(0, 2), (1, 3), (2, 4), (3, 6)]), 4, 24⟩ := rfl
@[go_sem] theorem tab_9 : tab 9 = some ⟨.str, 1, 16⟩ := rfl
@[go_sem] theorem tab_10 : tab 10 = some ⟨.str, 1, 16⟩ := rfl
@[go_sem] theorem tab_11 : tab 11 = some ⟨.str, 1, 16⟩ := rfl
@[go_sem] theorem tab_12 : tab 12 = some ⟨(.int .u64), 1, 8⟩ := rfl
@[go_sem] theorem tab_13 : tab 13 = some ⟨(.struct [(0, 9), (1, 12)]), 2, 24⟩ := rfl
@[go_sem] theorem tab_14 : tab 14 = some ⟨(.struct [(0, 9), (1, 12)]), 2, 24⟩ := rfl
@[go_sem] theorem tab_15 : tab 15 = some ⟨(.ptr 176), 1, 8⟩ := rfl
@[go_sem] theorem tab_16 : tab 16 = some ⟨(.ptr 179), 1, 8⟩ := rfl
@[go_sem] theorem tab_17 : tab 17 = some ⟨(.ptr 186), 1, 8⟩ := rfl
@[go_sem] theorem tab_18 : tab 18 = some ⟨(.struct [(0, 17)]), 1, 8⟩ := rfl
@[go_sem] theorem tab_19 : tab 19 = some ⟨(.struct [(0, 17)]), 1, 8⟩ := rfl
@[go_sem] theorem tab_21 : tab 21 = some ⟨(.int .i32), 1, 4⟩ := rfl
@[go_sem] theorem tab_22 : tab 22 = some ⟨(.slice 9), 1, 24⟩ := rfl
@[go_sem] theorem tab_23 : tab 23 = some ⟨.func, 1, 8⟩ := rfl
@[go_sem] theorem tab_25 : tab 25 = some ⟨.func, 1, 8⟩ := rfl
@[go_sem] theorem tab_26 : tab 26 = some ⟨.func, 1, 8⟩ := rfl
@[go_sem] theorem tab_27 : tab 27 = some ⟨.func, 1, 8⟩ := rfl
@[go_sem] theorem tab_28 : tab 28 = some ⟨.func, 1, 8⟩ := rfl
@[go_sem] theorem tab_29 : tab 29 = some ⟨(.slice 5), 1, 24⟩ := rfl
@[go_sem] theorem tab_30 : tab 30 = some ⟨.func, 1, 8⟩ := rfl
@[go_sem] theorem tab_31 : tab 31 = some ⟨(.slice 38), 1, 24⟩ := rfl
@[go_sem] theorem tab_32 : tab 32 = some ⟨(.struct [(0, 31)]), 1, 24⟩ := rfl
@[go_sem] theorem tab_33 : tab 33 = some ⟨(.struct [(0, 31)]), 1, 24⟩ := rfl
@[go_sem] theorem tab_34 : tab 34 = some ⟨.func, 1, 8⟩ := rfl
@[go_sem] theorem tab_35 : tab 35 = some ⟨.func, 1, 8⟩ := rfl
@[go_sem] theorem tab_37 : tab 37 = some ⟨.func, 1, 8⟩ := rfl
@[go_sem] theorem tab_38 : tab 38 = some ⟨(.slice 2), 1, 24⟩ := rfl
@[go_sem] theorem tab_40 : tab 40 = some ⟨.func, 1, 8⟩ := rfl
@[go_sem] theorem tab_41 : tab 41 = some ⟨.func, 1, 8⟩ := rfl
@[go_sem] theorem tab_42 : tab 42 = some ⟨.func, 1, 8⟩ := rfl
@[go_sem] theorem tab_43 : tab 43 = some ⟨(.struct [(0, 31)]), 1, 24⟩ := rfl
@[go_sem] theorem tab_44 : tab 44 = some ⟨.func, 1, 8⟩ := rfl
@[go_sem] theorem tab_45 : tab 45 = some ⟨.func, 1, 8⟩ := rfl
@[go_sem] theorem tab_46 : tab 46 = some ⟨.func, 1, 8⟩ := rfl
@[go_sem] theorem tab_47 : tab 47 = some ⟨.func, 1, 8⟩ := rfl
@[go_sem] theorem tab_48 : tab 48 = some ⟨(.slice 105), 1, 24⟩ := rfl
@[go_sem] theorem tab_49 : tab 49 = some ⟨.func, 1, 8⟩ := rfl
@[go_sem] theorem tab_50 : tab 50 = some ⟨.func, 1, 8⟩ := rfl
@[go_sem] theorem tab_51 : tab 51 = some ⟨(.slice 103), 1, 24⟩ := rfl
@[go_sem] theorem tab_52 : tab 52 = some ⟨.func, 1, 8⟩ := rfl
@[go_sem] theorem tab_53 : tab 53 = some ⟨.func, 1, 8⟩ := rfl
@[go_sem] theorem tab_54 : tab 54 = some ⟨.func, 1, 8⟩ := rfl
@[go_sem] theorem tab_56 : tab 56 = some ⟨.func, 1, 8⟩ := rfl
@[go_sem] theorem tab_57 : tab 57 = some ⟨.func, 1, 8⟩ := rfl
@[go_sem] theorem tab_58 : tab 58 = some ⟨.func, 1, 8⟩ := rfl
@[go_sem] theorem tab_59 : tab 59 = some ⟨.func, 1, 8⟩ := rfl
@[go_sem] theorem tab_60 : tab 60 = some ⟨.func, 1, 8⟩ := rfl
@[go_sem] theorem tab_61 : tab 61 = some ⟨.func, 1, 8⟩ := rfl
@[go_sem] theorem tab_63 : tab 63 = some ⟨.func, 1, 8⟩ := rfl
@[go_sem] theorem tab_64 : tab 64 = some ⟨.func, 1, 8⟩ := rfl
@[go_sem] theorem tab_65 : tab 65 = some ⟨.func, 1, 8⟩ := rfl
@[go_sem] theorem tab_67 : tab 67 = some ⟨.func, 1, 8⟩ := rfl
@[go_sem] theorem tab_68 : tab 68 = some ⟨.func, 1, 8⟩ := rfl
@[go_sem] theorem tab_69 : tab 69 = some ⟨(.ptr 71), 1, 8⟩ := rfl
@[go_sem] theorem tab_70 : tab 70 = some ⟨(.struct [(0, 69), (1, 29)]), 2, 32⟩ := rfl
@[go_sem] theorem tab_71 : tab 71 = some ⟨(.struct [(0, 69), (1, 29)]), 2, 32⟩ := rfl
@[go_sem] theorem tab_72 : tab 72 = some ⟨.func, 1, 8⟩ := rfl
@[go_sem] theorem tab_74 : tab 74 = some ⟨.err, 1, 16⟩ := rfl
@[go_sem] theorem tab_76 : tab 76 = some ⟨.func, 1, 8⟩ := rfl
@[go_sem] theorem tab_77 : tab 77 = some ⟨.func, 1, 8⟩ := rfl
@[go_sem] theorem tab_78 : tab 78 = some ⟨.func, 1, 8⟩ := rfl
@[go_sem] theorem tab_79 : tab 79 = some ⟨.func, 1, 8⟩ := rfl
@[go_sem] theorem tab_80 : tab 80 = some ⟨(.ptr 130), 1, 8⟩ := rfl
@[go_sem] theorem tab_81 : tab 81 = some ⟨.func, 1, 8⟩ := rfl
@[go_sem] theorem tab_82 : tab 82 = some ⟨.func, 1, 8⟩ := rfl
@[go_sem] theorem tab_83 : tab 83 = some ⟨.func, 1, 8⟩ := rfl
@[go_sem] theorem tab_84 : tab 84 = some ⟨(.map 107 86), 1, 8⟩ := rfl
@[go_sem] theorem tab_85 : tab 85 = some ⟨(.struct [(0, 2), (1, 2)]), 2, 16⟩ := rfl
@[go_sem] theorem tab_86 : tab 86 = some ⟨(.struct [(0, 2), (1, 2)]), 2, 16⟩ := rfl
@[go_sem] theorem tab_88 : tab 88 = some ⟨.func, 1, 8⟩ := rfl
@[go_sem] theorem tab_89 : tab 89 = some ⟨.func, 1, 8⟩ := rfl
@[go_sem] theorem tab_90 : tab 90 = some ⟨.func, 1, 8⟩ := rfl
@[go_sem] theorem tab_91 : tab 91 = some ⟨.func, 1, 8⟩ := rfl
@[go_sem] theorem tab_92 : tab 92 = some ⟨.func, 1, 8⟩ := rfl
@[go_sem] theorem tab_93 : tab 93 = some ⟨.func, 1, 8⟩ := rfl
@[go_sem] theorem tab_94 : tab 94 = some ⟨.func, 1, 8⟩ := rfl
@[go_sem] theorem tab_95 : tab 95 = some ⟨(.ptr 33), 1, 8⟩ := rfl
@[go_sem] theorem tab_96 : tab 96 = some ⟨.func, 1, 8⟩ := rfl
@[go_sem] theorem tab_97 : tab 97 = some ⟨.func, 1, 8⟩ := rfl
@[go_sem] theorem tab_98 : tab 98 = some ⟨.func, 1, 8⟩ := rfl
@[go_sem] theorem tab_100 : tab 100 = some ⟨.func, 1, 8⟩ := rfl
@[go_sem] theorem tab_101 : tab 101 = some ⟨.func, 1, 8⟩ := rfl
@[go_sem] theorem tab_102 : tab 102 = some ⟨(.struct [(0, 2), (1, 2)]), 2, 16⟩ := rfl
@[go_sem] theorem tab_103 : tab 103 = some ⟨(.struct [(0, 2), (1, 2)]), 2, 16⟩ := rfl
@[go_sem] theorem tab_104 : tab 104 = some ⟨.func, 1, 8⟩ := rfl
@[go_sem] theorem tab_105 : tab 105 = some ⟨(.struct [(0, 2), (1, 2)]), 2, 16⟩ := rfl
@[go_sem] theorem tab_106 : tab 106 = some ⟨(.struct [(0, 2), (1, 2)]), 2, 16⟩ := rfl
@[go_sem] theorem tab_107 : tab 107 = some ⟨(.struct [(0, 2), (1, 2)]), 2, 16⟩ := rfl
@[go_sem] theorem tab_109 : tab 109 = some ⟨.func, 1, 8⟩ := rfl
@[go_sem] theorem tab_110 : tab 110 = some ⟨.func, 1, 8⟩ := rfl
@[go_sem] theorem tab_111 : tab 111 = some ⟨.func, 1, 8⟩ := rfl
@[go_sem] theorem tab_112 : tab 112 = some ⟨.func, 1, 8⟩ := rfl
@[go_sem] theorem tab_113 : tab 113 = some ⟨.func, 1, 8⟩ := rfl
@[go_sem] theorem tab_114 : tab 114 = some ⟨.func, 1, 8⟩ := rfl
@[go_sem] theorem tab_116 : tab 116 = some ⟨.func, 1, 8⟩ := rfl
@[go_sem] theorem tab_118 : tab 118 = some ⟨.func, 1, 8⟩ := rfl
@[go_sem] theorem tab_119 : tab 119 = some ⟨(.int .u64), 1, 8⟩ := rfl
@[go_sem] theorem tab_121 : tab 121 = some ⟨.func, 1, 8⟩ := rfl
@[go_sem] theorem tab_122 : tab 122 = some ⟨.func, 1, 8⟩ := rfl
@[go_sem] theorem tab_123 : tab 123 = some ⟨.func, 1, 8⟩ := rfl
@[go_sem] theorem tab_125 : tab 125 = some ⟨.func, 1, 8⟩ := rfl
@[go_sem] theorem tab_126 : tab 126 = some ⟨.func, 1, 8⟩ := rfl
@[go_sem] theorem tab_127 : tab 127 = some ⟨(.ptr 5), 1, 8⟩ := rfl
@[go_sem] theorem tab_128 : tab 128 = some ⟨(.int .u64), 1, 8⟩ := rfl
@[go_sem] theorem tab_129 : tab 129 = some ⟨(.struct [(0, 29), (1, 3), (2, 128)]), 3, 40⟩ := rfl
@[go_sem] theorem tab_130 : tab 130 = some ⟨(.struct [(0, 29), (1, 3), (2, 128)]), 3, 40⟩ := rfl
@[go_sem] theorem tab_131 : tab 131 = some ⟨.func, 1, 8⟩ := rfl
@[go_sem] theorem tab_132 : tab 132 = some ⟨.func, 1, 8⟩ := rfl
@[go_sem] theorem tab_133 : tab 133 = some ⟨.func, 1, 8⟩ := rfl
@[go_sem] theorem tab_134 : tab 134 = some ⟨.func, 1, 8⟩ := rfl
@[go_sem] theorem tab_135 : tab 135 = some ⟨.func, 1, 8⟩ := rfl
@[go_sem] theorem tab_136 : tab 136 = some ⟨.func, 1, 8⟩ := rfl
@[go_sem] theorem tab_137 : tab 137 = some ⟨.func, 1, 8⟩ := rfl
@[go_sem] theorem tab_138 : tab 138 = some ⟨.func, 1, 8⟩ := rfl
@[go_sem] theorem tab_139 : tab 139 = some ⟨.func, 1, 8⟩ := rfl
@[go_sem] theorem tab_140 : tab 140 = some ⟨.func, 1, 8⟩ := rfl
@[go_sem] theorem tab_141 : tab 141 = some ⟨.func, 1, 8⟩ := rfl
@[go_sem] theorem tab_142 : tab 142 = some ⟨.func, 1, 8⟩ := rfl
@[go_sem] theorem tab_143 : tab 143 = some ⟨.func, 1, 8⟩ := rfl
@[go_sem] theorem tab_144 : tab 144 = some ⟨(.struct [(0, 31), (1, 38)]), 2, 48⟩ := rfl
@[go_sem] theorem tab_145 : tab 145 = some ⟨(.struct [(0, 31), (1, 38)]), 2, 48⟩ := rfl
@[go_sem] theorem tab_146 : tab 146 = some ⟨.func, 1, 8⟩ := rfl
@[go_sem] theorem tab_147 : tab 147 = some ⟨.func, 1, 8⟩ := rfl
@[go_sem] theorem tab_148 : tab 148 = some ⟨(.ptr 145), 1, 8⟩ := rfl
@[go_sem] theorem tab_150 : tab 150 = some ⟨.func, 1, 8⟩ := rfl
@[go_sem] theorem tab_151 : tab 151 = some ⟨(.map 107 154), 1, 8⟩ := rfl
@[go_sem] theorem tab_152 : tab 152 = some ⟨(.map 107 4), 1, 8⟩ := rfl
@[go_sem] theorem tab_153 : tab 153 = some ⟨(.slice 107), 1, 24⟩ := rfl
@[go_sem] theorem tab_154 : tab 154 = some ⟨(.slice 156), 1, 24⟩ := rfl
@[go_sem] theorem tab_155 : tab 155 = some ⟨(.struct [(0, 107), (2, 103)]), 4, 32⟩ := rfl
@[go_sem] theorem tab_156 : tab 156 = some ⟨(.struct [(0, 107), (2, 103)]), 4, 32⟩ := rfl
@[go_sem] theorem tab_157 : tab 157 = some ⟨.func, 1, 8⟩ := rfl
@[go_sem] theorem tab_158 : tab 158 = some ⟨.func, 1, 8⟩ := rfl
@[go_sem] theorem tab_159 : tab 159 = some ⟨.func, 1, 8⟩ := rfl
@[go_sem] theorem tab_160 : tab 160 = some ⟨.func, 1, 8⟩ := rfl
@[go_sem] theorem tab_161 : tab 161 = some ⟨.func, 1, 8⟩ := rfl
@[go_sem] theorem tab_162 : tab 162 = some ⟨.func, 1, 8⟩ := rfl
@[go_sem] theorem tab_163 : tab 163 = some ⟨.func, 1, 8⟩ := rfl
@[go_sem] theorem tab_164 : tab 164 = some ⟨.func, 1, 8⟩ := rfl
@[go_sem] theorem tab_165 : tab 165 = some ⟨.func, 1, 8⟩ := rfl
@[go_sem] theorem tab_166 : tab 166 = some ⟨.func, 1, 8⟩ := rfl
@[go_sem] theorem tab_167 : tab 167 = some ⟨.func, 1, 8⟩ := rfl
@[go_sem] theorem tab_169 : tab 169 = some ⟨.func, 1, 8⟩ := rfl
@[go_sem] theorem tab_170 : tab 170 = some ⟨.func, 1, 8⟩ := rfl
@[go_sem] theorem tab_171 : tab 171 = some ⟨(.int .u32), 1, 4⟩ := rfl
@[go_sem] theorem tab_173 : tab 173 = some ⟨.func, 1, 8⟩ := rfl
@[go_sem] theorem tab_174 : tab 174 = some ⟨.func, 1, 8⟩ := rfl
@[go_sem] theorem tab_175 : tab 175 = some ⟨(.struct [(0, 17), (1, 17), (2, 17), (3, 9)]), 4, 40⟩ := rfl
@[go_sem] theorem tab_176 : tab 176 = some ⟨(.struct [(0, 17), (1, 17), (2, 17), (3, 9)]), 4, 40⟩ := rfl
@[go_sem] theorem tab_177 : tab 177 = some ⟨(.arr 0 16), 0, 0⟩ := rfl
@[go_sem] theorem tab_178 : tab 178 = some ⟨(.struct [(0, 177)]), 0, 0⟩ := rfl
@[go_sem] theorem tab_179 : tab 179 = some ⟨(.struct [(0, 177)]), 0, 0⟩ := rfl
@[go_sem] theorem tab_180 : tab 180 = some ⟨(.int .u8), 1, 1⟩ := rfl
@[go_sem] theorem tab_181 : tab 181 = some ⟨(.int .u8), 1, 1⟩ := rfl
@[go_sem] theorem tab_182 : tab 182 = some ⟨.func, 1, 8⟩ := rfl
@[go_sem] theorem tab_183 : tab 183 = some ⟨(.int .i32), 1, 4⟩ := rfl
@[go_sem] theorem tab_184 : tab 184 = some ⟨(.int .i32), 1, 4⟩ := rfl
@[go_sem] theorem tab_185 : tab 185 = some ⟨(.struct [(0, 12), (1, 12), (2, 171), (3, 180), (4, 5), (5, 5), (6, 181), (7, 182), (8, 127), (9, 183), (10, 184)]), 11, 48⟩ := rfl
@[go_sem] theorem tab_186 : tab 186 = some ⟨(.struct [(0, 12), (1, 12), (2, 171), (3, 180), (4, 5), (5, 5), (6, 181), (7, 182), (8, 127), (9, 183), (10, 184)]), 11, 48⟩ := rfl
@[go_sem] theorem ty_2 : tyOf 2 = some (.int .i64) := rfl
@[go_sem] theorem ty_3 : tyOf 3 = some (.int .i64) := rfl
@[go_sem] theorem ty_4 : tyOf 4 = some .bool := rfl
@[go_sem] theorem ty_5 : tyOf 5 = some (.int .u8) := rfl
@[go_sem] theorem ty_6 : tyOf 6 = some (.int .u8) := rfl
@[go_sem] theorem ty_9 : tyOf 9 = some .str := rfl
@[go_sem] theorem ty_10 : tyOf 10 = some .str := rfl
@[go_sem] theorem ty_11 : tyOf 11 = some .str := rfl
@[go_sem] theorem ty_12 : tyOf 12 = some (.int .u64) := rfl
@[go_sem] theorem ty_21 : tyOf 21 = some (.int .i32) := rfl
@[go_sem] theorem ty_22 : tyOf 22 = some (.slice .str) := rfl
@[go_sem] theorem ty_29 : tyOf 29 = some (.slice (.int .u8)) := rfl
@[go_sem] theorem ty_31 : tyOf 31 = some (.slice (.slice (.int .i64))) := rfl
@[go_sem] theorem ty_32 : tyOf 32 = some (.agg (.cons (.slice (.slice (.int .i64))) .nil)) := rfl
@[go_sem] theorem ty_33 : tyOf 33 = some (.agg (.cons (.slice (.slice (.int .i64))) .nil)) := rfl
@[go_sem] theorem ty_38 : tyOf 38 = some (.slice (.int .i64)) := rfl
@[go_sem] theorem ty_43 : tyOf 43 = some (.agg (.cons (.slice (.slice (.int .i64))) .nil)) := rfl
@[go_sem] theorem ty_48 : tyOf 48 = some (.slice (.agg (.cons (.int .i64) (.cons (.int .i64) .nil)))) := rfl
@[go_sem] theorem ty_51 : tyOf 51 = some (.slice (.agg (.cons (.int .i64) (.cons (.int .i64) .nil)))) := rfl
@[go_sem] theorem ty_74 : tyOf 74 = some .err := rfl
@[go_sem] theorem ty_85 : tyOf 85 = some (.agg (.cons (.int .i64) (.cons (.int .i64) .nil))) := rfl
@[go_sem] theorem ty_86 : tyOf 86 = some (.agg (.cons (.int .i64) (.cons (.int .i64) .nil))) := rfl
@[go_sem] theorem ty_102 : tyOf 102 = some (.agg (.cons (.int .i64) (.cons (.int .i64) .nil))) := rfl
@[go_sem] theorem ty_103 : tyOf 103 = some (.agg (.cons (.int .i64) (.cons (.int .i64) .nil))) := rfl
@[go_sem] theorem ty_105 : tyOf 105 = some (.agg (.cons (.int .i64) (.cons (.int .i64) .nil))) := rfl
@[go_sem] theorem ty_106 : tyOf 106 = some (.agg (.cons (.int .i64) (.cons (.int .i64) .nil))) := rfl
@[go_sem] theorem ty_107 : tyOf 107 = some (.agg (.cons (.int .i64) (.cons (.int .i64) .nil))) := rfl
@[go_sem] theorem ty_119 : tyOf 119 = some (.int .u64) := rfl
@[go_sem] theorem ty_128 : tyOf 128 = some (.int .u64) := rfl
@[go_sem] theorem ty_129 : tyOf 129 = some (.agg (.cons (.slice (.int .u8)) (.cons (.int .i64) (.cons (.int .u64) .nil)))) := rfl
@[go_sem] theorem ty_130 : tyOf 130 = some (.agg (.cons (.slice (.int .u8)) (.cons (.int .i64) (.cons (.int .u64) .nil)))) := rfl
@[go_sem] theorem ty_144 : tyOf 144 = some (.agg (.cons (.slice (.slice (.int .i64))) (.cons (.slice (.int .i64)) .nil))) := rfl
@[go_sem] theorem ty_145 : tyOf 145 = some (.agg (.cons (.slice (.slice (.int .i64))) (.cons (.slice (.int .i64)) .nil))) := rfl
@[go_sem] theorem ty_153 : tyOf 153 = some (.slice (.agg (.cons (.int .i64) (.cons (.int .i64) .nil)))) := rfl
@[go_sem] theorem ty_154 : tyOf 154 = some (.slice (.agg (.cons (.agg (.cons (.int .i64) (.cons (.int .i64) .nil))) (.cons (.agg (.cons (.int .i64) (.cons (.int .i64) .nil))) .nil)))) := rfl
@[go_sem] theorem ty_155 : tyOf 155 = some (.agg (.cons (.agg (.cons (.int .i64) (.cons (.int .i64) .nil))) (.cons (.agg (.cons (.int .i64) (.cons (.int .i64) .nil))) .nil))) := rfl
@[go_sem] theorem ty_156 : tyOf 156 = some (.agg (.cons (.agg (.cons (.int .i64) (.cons (.int .i64) .nil))) (.cons (.agg (.cons (.int .i64) (.cons (.int .i64) .nil))) .nil))) := rfl
@[go_sem] theorem ty_171 : tyOf 171 = some (.int .u32) := rfl
@[go_sem] theorem ty_180 : tyOf 180 = some (.int .u8) := rfl
@[go_sem] theorem ty_181 : tyOf 181 = some (.int .u8) := rfl
@[go_sem] theorem ty_183 : tyOf 183 = some (.int .i32) := rfl
@[go_sem] theorem ty_184 : tyOf 184 = some (.int .i32) := rfl
def byL : List (Nat × List Nat) := [(38, [0]), (39, [0]), (40, [0]), (51, [0]), (53, [0]), (54, [0]), (78, [0])]
def by_ (g : Nat) : List Nat := (lookT byL g).getD []
set_option maxRecDepth 100000 in
theorem tabOK (c : CallF) : TabOK Try.prog ⟨tab, tyOf, by_, c⟩ := tabOK_of (by kernel_rfl) (by kernel_rfl)
end Go.Proofs.Ythhankjdpbbncaa.PI
