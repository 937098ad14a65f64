/- The type table of the program, for the interpreter: printed by a program of the session. -/
import Derived.Test.YtbapbghnageckaaGQSet
import Derived.Test.YtbapbghnageckaaProg
namespace Go.Proofs.Ytbapbghnageckaa.PI
set_option maxRecDepth 100000
open Go Go.Q
def tabL : List (Nat × TI) := [(1, ⟨.func, 1, 8⟩),
  (2, ⟨(.int .i64), 1, 8⟩),
  (3, ⟨(.int .i64), 1, 8⟩),
  (4, ⟨.bool, 1, 1⟩),
  (5, ⟨(.int .u8), 1, 1⟩),
  (6, ⟨(.int .u8), 1, 1⟩),
  (7, ⟨(.struct [(0, 2), (1, 3), (2, 4), (3, 6)]), 4, 24⟩),
  (8, ⟨(.struct [(0, 2), (1, 3), (2, 4), (3, 6)]), 4, 24⟩),
  (9, ⟨.str, 1, 16⟩),
  (10, ⟨.str, 1, 16⟩),
  (11, ⟨.str, 1, 16⟩),
  (12, ⟨(.int .u64), 1, 8⟩),
  (13, ⟨(.struct [(0, 9), (1, 12)]), 2, 24⟩),
  (14, ⟨(.struct [(0, 9), (1, 12)]), 2, 24⟩),
  (15, ⟨(.ptr 133), 1, 8⟩),
  (16, ⟨(.ptr 136), 1, 8⟩),
  (17, ⟨(.ptr 145), 1, 8⟩),
  (18, ⟨(.struct [(0, 17)]), 1, 8⟩),
  (19, ⟨(.struct [(0, 17)]), 1, 8⟩),
  (21, ⟨(.int .i32), 1, 4⟩),
  (22, ⟨(.slice 5), 1, 24⟩),
  (23, ⟨.func, 1, 8⟩),
  (24, ⟨(.slice 2), 1, 24⟩),
  (25, ⟨(.slice 66), 1, 24⟩),
  (26, ⟨(.slice 41), 1, 24⟩),
  (27, ⟨(.struct [(0, 24), (1, 25), (2, 26)]), 3, 72⟩),
  (28, ⟨(.struct [(0, 24), (1, 25), (2, 26)]), 3, 72⟩),
  (29, ⟨.func, 1, 8⟩),
  (30, ⟨.func, 1, 8⟩),
  (31, ⟨(.struct [(0, 2), (1, 2)]), 2, 16⟩),
  (32, ⟨(.struct [(0, 2), (1, 2)]), 2, 16⟩),
  (33, ⟨(.struct [(0, 2), (1, 4), (2, 4), (3, 4)]), 4, 16⟩),
  (34, ⟨(.struct [(0, 2), (1, 4), (2, 4), (3, 4)]), 4, 16⟩),
  (36, ⟨.func, 1, 8⟩),
  (38, ⟨.func, 1, 8⟩),
  (39, ⟨.func, 1, 8⟩),
  (40, ⟨(.struct [(0, 2), (1, 2), (2, 4)]), 3, 24⟩),
  (41, ⟨(.struct [(0, 2), (1, 2), (2, 4)]), 3, 24⟩),
  (42, ⟨(.ptr 73), 1, 8⟩),
  (43, ⟨.func, 1, 8⟩),
  (44, ⟨.func, 1, 8⟩),
  (45, ⟨.func, 1, 8⟩),
  (46, ⟨(.ptr 28), 1, 8⟩),
  (47, ⟨.func, 1, 8⟩),
  (49, ⟨.func, 1, 8⟩),
  (50, ⟨.func, 1, 8⟩),
  (51, ⟨.func, 1, 8⟩),
  (52, ⟨(.ptr 34), 1, 8⟩),
  (53, ⟨.func, 1, 8⟩),
  (54, ⟨.func, 1, 8⟩),
  (55, ⟨(.slice 32), 1, 24⟩),
  (56, ⟨.func, 1, 8⟩),
  (58, ⟨.func, 1, 8⟩),
  (59, ⟨.func, 1, 8⟩),
  (60, ⟨.func, 1, 8⟩),
  (61, ⟨.func, 1, 8⟩),
  (62, ⟨.func, 1, 8⟩),
  (63, ⟨.func, 1, 8⟩),
  (64, ⟨.func, 1, 8⟩),
  (65, ⟨.func, 1, 8⟩),
  (66, ⟨(.slice 34), 1, 24⟩),
  (67, ⟨.func, 1, 8⟩),
  (68, ⟨.func, 1, 8⟩),
  (69, ⟨.func, 1, 8⟩),
  (70, ⟨.func, 1, 8⟩),
  (71, ⟨(.int .u64), 1, 8⟩),
  (72, ⟨(.struct [(0, 22), (1, 3), (2, 71)]), 3, 40⟩),
  (73, ⟨(.struct [(0, 22), (1, 3), (2, 71)]), 3, 40⟩),
  (75, ⟨.func, 1, 8⟩),
  (76, ⟨.func, 1, 8⟩),
  (77, ⟨.func, 1, 8⟩),
  (78, ⟨.func, 1, 8⟩),
  (79, ⟨.func, 1, 8⟩),
  (80, ⟨.func, 1, 8⟩),
  (81, ⟨.func, 1, 8⟩),
  (82, ⟨.func, 1, 8⟩),
  (83, ⟨.func, 1, 8⟩),
  (84, ⟨.func, 1, 8⟩),
  (85, ⟨.func, 1, 8⟩),
  (86, ⟨.func, 1, 8⟩),
  (87, ⟨.func, 1, 8⟩),
  (88, ⟨.func, 1, 8⟩),
  (89, ⟨.func, 1, 8⟩),
  (90, ⟨.func, 1, 8⟩),
  (91, ⟨.func, 1, 8⟩),
  (92, ⟨.func, 1, 8⟩),
  (93, ⟨.func, 1, 8⟩),
  (94, ⟨.func, 1, 8⟩),
  (95, ⟨.func, 1, 8⟩),
  (96, ⟨.func, 1, 8⟩),
  (97, ⟨.func, 1, 8⟩),
  (98, ⟨.func, 1, 8⟩),
  (99, ⟨.func, 1, 8⟩),
  (100, ⟨(.int .u64), 1, 8⟩),
  (101, ⟨.func, 1, 8⟩),
  (102, ⟨.func, 1, 8⟩),
  (103, ⟨.func, 1, 8⟩),
  (104, ⟨.func, 1, 8⟩),
  (105, ⟨(.slice 4), 1, 24⟩),
  (106, ⟨.func, 1, 8⟩),
  (107, ⟨.func, 1, 8⟩),
  (108, ⟨.func, 1, 8⟩),
  (109, ⟨.func, 1, 8⟩),
  (110, ⟨.func, 1, 8⟩),
  (111, ⟨(.int .i64), 1, 8⟩),
  (113, ⟨.func, 1, 8⟩),
  (114, ⟨.func, 1, 8⟩),
  (115, ⟨.func, 1, 8⟩),
  (116, ⟨.func, 1, 8⟩),
  (118, ⟨.func, 1, 8⟩),
  (119, ⟨.func, 1, 8⟩),
  (120, ⟨(.int .u32), 1, 4⟩),
  (121, ⟨.func, 1, 8⟩),
  (122, ⟨(.int .u64), 1, 8⟩),
  (123, ⟨.func, 1, 8⟩),
  (124, ⟨.func, 1, 8⟩),
  (125, ⟨.func, 1, 8⟩),
  (126, ⟨(.ptr 3), 1, 8⟩),
  (127, ⟨.func, 1, 8⟩),
  (128, ⟨(.ptr 122), 1, 8⟩),
  (130, ⟨.func, 1, 8⟩),
  (131, ⟨.func, 1, 8⟩),
  (132, ⟨(.struct [(0, 17), (1, 17), (2, 17), (3, 9)]), 4, 40⟩),
  (133, ⟨(.struct [(0, 17), (1, 17), (2, 17), (3, 9)]), 4, 40⟩),
  (134, ⟨(.arr 0 16), 0, 0⟩),
  (135, ⟨(.struct [(0, 134)]), 0, 0⟩),
  (136, ⟨(.struct [(0, 134)]), 0, 0⟩),
  (137, ⟨.func, 1, 8⟩),
  (138, ⟨(.int .u8), 1, 1⟩),
  (139, ⟨(.int .u8), 1, 1⟩),
  (140, ⟨.func, 1, 8⟩),
  (141, ⟨(.ptr 5), 1, 8⟩),
  (142, ⟨(.int .i32), 1, 4⟩),
  (143, ⟨(.int .i32), 1, 4⟩),
  (144, ⟨(.struct [(0, 12), (1, 12), (2, 120), (3, 138), (4, 5), (5, 5), (6, 139), (7, 140), (8, 141), (9, 142), (10, 143)]), 11, 48⟩),
  (145, ⟨(.struct [(0, 12), (1, 12), (2, 120), (3, 138), (4, 5), (5, 5), (6, 139), (7, 140), (8, 141), (9, 142), (10, 143)]), 11, 48⟩)]
def tyL : List (Nat × Ty) := [(2, (.int .i64)),
  (3, (.int .i64)),
  (4, .bool),
  (5, (.int .u8)),
  (6, (.int .u8)),
  (9, .str),
  (10, .str),
  (11, .str),
  (12, (.int .u64)),
  (21, (.int .i32)),
  (22, (.slice (.int .u8))),
  (24, (.slice (.int .i64))),
  (25, (.slice (.slice (.agg (.cons (.int .i64) (.cons .bool (.cons .bool (.cons .bool .nil)))))))),
  (26, (.slice (.agg (.cons (.int .i64) (.cons (.int .i64) (.cons .bool .nil)))))),
  (27, (.agg (.cons (.slice (.int .i64)) (.cons (.slice (.slice (.agg (.cons (.int .i64) (.cons .bool (.cons .bool (.cons .bool .nil))))))) (.cons (.slice (.agg (.cons (.int .i64) (.cons (.int .i64) (.cons .bool .nil))))) .nil))))),
  (28, (.agg (.cons (.slice (.int .i64)) (.cons (.slice (.slice (.agg (.cons (.int .i64) (.cons .bool (.cons .bool (.cons .bool .nil))))))) (.cons (.slice (.agg (.cons (.int .i64) (.cons (.int .i64) (.cons .bool .nil))))) .nil))))),
  (31, (.agg (.cons (.int .i64) (.cons (.int .i64) .nil)))),
  (32, (.agg (.cons (.int .i64) (.cons (.int .i64) .nil)))),
  (33, (.agg (.cons (.int .i64) (.cons .bool (.cons .bool (.cons .bool .nil)))))),
  (34, (.agg (.cons (.int .i64) (.cons .bool (.cons .bool (.cons .bool .nil)))))),
  (40, (.agg (.cons (.int .i64) (.cons (.int .i64) (.cons .bool .nil))))),
  (41, (.agg (.cons (.int .i64) (.cons (.int .i64) (.cons .bool .nil))))),
  (55, (.slice (.agg (.cons (.int .i64) (.cons (.int .i64) .nil))))),
  (66, (.slice (.agg (.cons (.int .i64) (.cons .bool (.cons .bool (.cons .bool .nil))))))),
  (71, (.int .u64)),
  (72, (.agg (.cons (.slice (.int .u8)) (.cons (.int .i64) (.cons (.int .u64) .nil))))),
  (73, (.agg (.cons (.slice (.int .u8)) (.cons (.int .i64) (.cons (.int .u64) .nil))))),
  (100, (.int .u64)),
  (105, (.slice .bool)),
  (111, (.int .i64)),
  (120, (.int .u32)),
  (122, (.int .u64)),
  (138, (.int .u8)),
  (139, (.int .u8)),
  (142, (.int .i32)),
  (143, (.int .i32))]
def tab : Nat → Option TI := lookT tabL
def tyOf : Nat → Option Ty := lookT tyL
@[go_sem] theorem tab_1 : tab 1 = some ⟨.func, 1, 8⟩ := rfl
@[go_sem] theorem tab_2 : tab 2 = some ⟨(.int .i64), 1, 8⟩ := rfl
@[go_sem] theorem tab_3 : tab 3 = some ⟨(.int .i64), 1, 8⟩ := rfl
@[go_sem] theorem tab_4 : tab 4 = some ⟨.bool, 1, 1⟩ := rfl
@[go_sem] theorem tab_5 : tab 5 = some ⟨(.int .u8), 1, 1⟩ := rfl
@[go_sem] theorem tab_6 : tab 6 = some ⟨(.int .u8), 1, 1⟩ := rfl
@[go_sem] theorem tab_7 : tab 7 = some ⟨(.struct [(0, 2), (1, 3), (2, 4), (3, 6)]), 4, 24⟩ := rfl
@[go_sem] theorem tab_8 : tab 8 = some ⟨(.struct [(0, 2), (1, 3), (2, 4), (3, 6)]), 4, 24⟩ := rfl
@[go_sem] theorem tab_9 : tab 9 = some ⟨.str, 1, 16⟩ := rfl
@[go_sem] theorem tab_10 : tab 10 = some ⟨.str, 1, 16⟩ := rfl
@[go_sem] theorem tab_11 : tab 11 = some ⟨.str, 1, 16⟩ := rfl
@[go_sem] theorem tab_12 : tab 12 = some ⟨(.int .u64), 1, 8⟩ := rfl
@[go_sem] theorem tab_13 : tab 13 = some ⟨(.struct [(0, 9), (1, 12)]), 2, 24⟩ := rfl
@[go_sem] theorem tab_14 : tab 14 = some ⟨(.struct [(0, 9), (1, 12)]), 2, 24⟩ := rfl
@[go_sem] theorem tab_15 : tab 15 = some ⟨(.ptr 133), 1, 8⟩ := rfl
@[go_sem] theorem tab_16 : tab 16 = some ⟨(.ptr 136), 1, 8⟩ := rfl
@[go_sem] theorem tab_17 : tab 17 = some ⟨(.ptr 145), 1, 8⟩ := rfl
@[go_sem] theorem tab_18 : tab 18 = some ⟨(.struct [(0, 17)]), 1, 8⟩ := rfl
@[go_sem] theorem tab_19 : tab 19 = some ⟨(.struct [(0, 17)]), 1, 8⟩ := rfl
@[go_sem] theorem tab_21 : tab 21 = some ⟨(.int .i32), 1, 4⟩ := rfl
@[go_sem] theorem tab_22 : tab 22 = some ⟨(.slice 5), 1, 24⟩ := rfl
@[go_sem] theorem tab_23 : tab 23 = some ⟨.func, 1, 8⟩ := rfl
@[go_sem] theorem tab_24 : tab 24 = some ⟨(.slice 2), 1, 24⟩ := rfl
@[go_sem] theorem tab_25 : tab 25 = some ⟨(.slice 66), 1, 24⟩ := rfl
@[go_sem] theorem tab_26 : tab 26 = some ⟨(.slice 41), 1, 24⟩ := rfl
@[go_sem] theorem tab_27 : tab 27 = some ⟨(.struct [(0, 24), (1, 25), (2, 26)]), 3, 72⟩ := rfl
@[go_sem] theorem tab_28 : tab 28 = some ⟨(.struct [(0, 24), (1, 25), (2, 26)]), 3, 72⟩ := rfl
@[go_sem] theorem tab_29 : tab 29 = some ⟨.func, 1, 8⟩ := rfl
@[go_sem] theorem tab_30 : tab 30 = some ⟨.func, 1, 8⟩ := rfl
@[go_sem] theorem tab_31 : tab 31 = some ⟨(.struct [(0, 2), (1, 2)]), 2, 16⟩ := rfl
@[go_sem] theorem tab_32 : tab 32 = some ⟨(.struct [(0, 2), (1, 2)]), 2, 16⟩ := rfl
@[go_sem] theorem tab_33 : tab 33 = some ⟨(.struct [(0, 2), (1, 4), (2, 4), (3, 4)]), 4, 16⟩ := rfl
@[go_sem] theorem tab_34 : tab 34 = some ⟨(.struct [(0, 2), (1, 4), (2, 4), (3, 4)]), 4, 16⟩ := rfl
@[go_sem] theorem tab_36 : tab 36 = some ⟨.func, 1, 8⟩ := rfl
@[go_sem] theorem tab_38 : tab 38 = some ⟨.func, 1, 8⟩ := rfl
@[go_sem] theorem tab_39 : tab 39 = some ⟨.func, 1, 8⟩ := rfl
@[go_sem] theorem tab_40 : tab 40 = some ⟨(.struct [(0, 2), (1, 2), (2, 4)]), 3, 24⟩ := rfl
@[go_sem] theorem tab_41 : tab 41 = some ⟨(.struct [(0, 2), (1, 2), (2, 4)]), 3, 24⟩ := rfl
@[go_sem] theorem tab_42 : tab 42 = some ⟨(.ptr 73), 1, 8⟩ := rfl
@[go_sem] theorem tab_43 : tab 43 = some ⟨.func, 1, 8⟩ := rfl
@[go_sem] theorem tab_44 : tab 44 = some ⟨.func, 1, 8⟩ := rfl
@[go_sem] theorem tab_45 : tab 45 = some ⟨.func, 1, 8⟩ := rfl
@[go_sem] theorem tab_46 : tab 46 = some ⟨(.ptr 28), 1, 8⟩ := rfl
@[go_sem] theorem tab_47 : tab 47 = some ⟨.func, 1, 8⟩ := rfl
@[go_sem] theorem tab_49 : tab 49 = some ⟨.func, 1, 8⟩ := rfl
@[go_sem] theorem tab_50 : tab 50 = some ⟨.func, 1, 8⟩ := rfl
@[go_sem] theorem tab_51 : tab 51 = some ⟨.func, 1, 8⟩ := rfl
@[go_sem] theorem tab_52 : tab 52 = some ⟨(.ptr 34), 1, 8⟩ := rfl
@[go_sem] theorem tab_53 : tab 53 = some ⟨.func, 1, 8⟩ := rfl
@[go_sem] theorem tab_54 : tab 54 = some ⟨.func, 1, 8⟩ := rfl
@[go_sem] theorem tab_55 : tab 55 = some ⟨(.slice 32), 1, 24⟩ := rfl
@[go_sem] theorem tab_56 : tab 56 = some ⟨.func, 1, 8⟩ := rfl
@[go_sem] theorem tab_58 : tab 58 = some ⟨.func, 1, 8⟩ := rfl
@[go_sem] theorem tab_59 : tab 59 = some ⟨.func, 1, 8⟩ := rfl
@[go_sem] theorem tab_60 : tab 60 = some ⟨.func, 1, 8⟩ := rfl
@[go_sem] theorem tab_61 : tab 61 = some ⟨.func, 1, 8⟩ := rfl
@[go_sem] theorem tab_62 : tab 62 = some ⟨.func, 1, 8⟩ := rfl
@[go_sem] theorem tab_63 : tab 63 = some ⟨.func, 1, 8⟩ := rfl
@[go_sem] theorem tab_64 : tab 64 = some ⟨.func, 1, 8⟩ := rfl
@[go_sem] theorem tab_65 : tab 65 = some ⟨.func, 1, 8⟩ := rfl
@[go_sem] theorem tab_66 : tab 66 = some ⟨(.slice 34), 1, 24⟩ := rfl
@[go_sem] theorem tab_67 : tab 67 = some ⟨.func, 1, 8⟩ := rfl
@[go_sem] theorem tab_68 : tab 68 = some ⟨.func, 1, 8⟩ := rfl
@[go_sem] theorem tab_69 : tab 69 = some ⟨.func, 1, 8⟩ := rfl
@[go_sem] theorem tab_70 : tab 70 = some ⟨.func, 1, 8⟩ := rfl
@[go_sem] theorem tab_71 : tab 71 = some ⟨(.int .u64), 1, 8⟩ := rfl
@[go_sem] theorem tab_72 : tab 72 = some ⟨(.struct [(0, 22), (1, 3), (2, 71)]), 3, 40⟩ := rfl
@[go_sem] theorem tab_73 : tab 73 = some ⟨(.struct [(0, 22), (1, 3), (2, 71)]), 3, 40⟩ := rfl
@[go_sem] theorem tab_75 : tab 75 = some ⟨.func, 1, 8⟩ := rfl
@[go_sem] theorem tab_76 : tab 76 = some ⟨.func, 1, 8⟩ := rfl
@[go_sem] theorem tab_77 : tab 77 = some ⟨.func, 1, 8⟩ := rfl
@[go_sem] theorem tab_78 : tab 78 = some ⟨.func, 1, 8⟩ := rfl
@[go_sem] theorem tab_79 : tab 79 = some ⟨.func, 1, 8⟩ := rfl
@[go_sem] theorem tab_80 : tab 80 = some ⟨.func, 1, 8⟩ := rfl
@[go_sem] theorem tab_81 : tab 81 = some ⟨.func, 1, 8⟩ := rfl
@[go_sem] theorem tab_82 : tab 82 = some ⟨.func, 1, 8⟩ := rfl
@[go_sem] theorem tab_83 : tab 83 = some ⟨.func, 1, 8⟩ := rfl
@[go_sem] theorem tab_84 : tab 84 = some ⟨.func, 1, 8⟩ := rfl
@[go_sem] theorem tab_85 : tab 85 = some ⟨.func, 1, 8⟩ := rfl
@[go_sem] theorem tab_86 : tab 86 = some ⟨.func, 1, 8⟩ := rfl
@[go_sem] theorem tab_87 : tab 87 = some ⟨.func, 1, 8⟩ := rfl
@[go_sem] theorem tab_88 : tab 88 = some ⟨.func, 1, 8⟩ := rfl
@[go_sem] theorem tab_89 : tab 89 = some ⟨.func, 1, 8⟩ := rfl
@[go_sem] theorem tab_90 : tab 90 = some ⟨.func, 1, 8⟩ := rfl
@[go_sem] theorem tab_91 : tab 91 = some ⟨.func, 1, 8⟩ := rfl
@[go_sem] theorem tab_92 : tab 92 = some ⟨.func, 1, 8⟩ := rfl
@[go_sem] theorem tab_93 : tab 93 = some ⟨.func, 1, 8⟩ := rfl
@[go_sem] theorem tab_94 : tab 94 = some ⟨.func, 1, 8⟩ := rfl
@[go_sem] theorem tab_95 : tab 95 = some ⟨.func, 1, 8⟩ := rfl
@[go_sem] theorem tab_96 : tab 96 = some ⟨.func, 1, 8⟩ := rfl
@[go_sem] theorem tab_97 : tab 97 = some ⟨.func, 1, 8⟩ := rfl
@[go_sem] theorem tab_98 : tab 98 = some ⟨.func, 1, 8⟩ := rfl
@[go_sem] theorem tab_99 : tab 99 = some ⟨.func, 1, 8⟩ := rfl
@[go_sem] theorem tab_100 : tab 100 = some ⟨(.int .u64), 1, 8⟩ := rfl
@[go_sem] theorem tab_101 : tab 101 = some ⟨.func, 1, 8⟩ := rfl
@[go_sem] theorem tab_102 : tab 102 = some ⟨.func, 1, 8⟩ := rfl
@[go_sem] theorem tab_103 : tab 103 = some ⟨.func, 1, 8⟩ := rfl
@[go_sem] theorem tab_104 : tab 104 = some ⟨.func, 1, 8⟩ := rfl
@[go_sem] theorem tab_105 : tab 105 = some ⟨(.slice 4), 1, 24⟩ := rfl
@[go_sem] theorem tab_106 : tab 106 = some ⟨.func, 1, 8⟩ := rfl
@[go_sem] theorem tab_107 : tab 107 = some ⟨.func, 1, 8⟩ := rfl
@[go_sem] theorem tab_108 : tab 108 = some ⟨.func, 1, 8⟩ := rfl
@[go_sem] theorem tab_109 : tab 109 = some ⟨.func, 1, 8⟩ := rfl
@[go_sem] theorem tab_110 : tab 110 = some ⟨.func, 1, 8⟩ := rfl
@[go_sem] theorem tab_111 : tab 111 = some ⟨(.int .i64), 1, 8⟩ := rfl
@[go_sem] theorem tab_113 : tab 113 = some ⟨.func, 1, 8⟩ := rfl
@[go_sem] theorem tab_114 : tab 114 = some ⟨.func, 1, 8⟩ := rfl
@[go_sem] theorem tab_115 : tab 115 = some ⟨.func, 1, 8⟩ := rfl
@[go_sem] theorem tab_116 : tab 116 = some ⟨.func, 1, 8⟩ := rfl
@[go_sem] theorem tab_118 : tab 118 = some ⟨.func, 1, 8⟩ := rfl
@[go_sem] theorem tab_119 : tab 119 = some ⟨.func, 1, 8⟩ := rfl
@[go_sem] theorem tab_120 : tab 120 = some ⟨(.int .u32), 1, 4⟩ := rfl
@[go_sem] theorem tab_121 : tab 121 = some ⟨.func, 1, 8⟩ := rfl
@[go_sem] theorem tab_122 : tab 122 = some ⟨(.int .u64), 1, 8⟩ := rfl
@[go_sem] theorem tab_123 : tab 123 = some ⟨.func, 1, 8⟩ := rfl
@[go_sem] theorem tab_124 : tab 124 = some ⟨.func, 1, 8⟩ := rfl
@[go_sem] theorem tab_125 : tab 125 = some ⟨.func, 1, 8⟩ := rfl
@[go_sem] theorem tab_126 : tab 126 = some ⟨(.ptr 3), 1, 8⟩ := rfl
@[go_sem] theorem tab_127 : tab 127 = some ⟨.func, 1, 8⟩ := rfl
@[go_sem] theorem tab_128 : tab 128 = some ⟨(.ptr 122), 1, 8⟩ := rfl
@[go_sem] theorem tab_130 : tab 130 = some ⟨.func, 1, 8⟩ := rfl
@[go_sem] theorem tab_131 : tab 131 = some ⟨.func, 1, 8⟩ := rfl
@[go_sem] theorem tab_132 : tab 132 = some ⟨(.struct [(0, 17), (1, 17), (2, 17), (3, 9)]), 4, 40⟩ := rfl
@[go_sem] theorem tab_133 : tab 133 = some ⟨(.struct [(0, 17), (1, 17), (2, 17), (3, 9)]), 4, 40⟩ := rfl
@[go_sem] theorem tab_134 : tab 134 = some ⟨(.arr 0 16), 0, 0⟩ := rfl
@[go_sem] theorem tab_135 : tab 135 = some ⟨(.struct [(0, 134)]), 0, 0⟩ := rfl
@[go_sem] theorem tab_136 : tab 136 = some ⟨(.struct [(0, 134)]), 0, 0⟩ := rfl
@[go_sem] theorem tab_137 : tab 137 = some ⟨.func, 1, 8⟩ := rfl
@[go_sem] theorem tab_138 : tab 138 = some ⟨(.int .u8), 1, 1⟩ := rfl
@[go_sem] theorem tab_139 : tab 139 = some ⟨(.int .u8), 1, 1⟩ := rfl
@[go_sem] theorem tab_140 : tab 140 = some ⟨.func, 1, 8⟩ := rfl
@[go_sem] theorem tab_141 : tab 141 = some ⟨(.ptr 5), 1, 8⟩ := rfl
@[go_sem] theorem tab_142 : tab 142 = some ⟨(.int .i32), 1, 4⟩ := rfl
@[go_sem] theorem tab_143 : tab 143 = some ⟨(.int .i32), 1, 4⟩ := rfl
@[go_sem] theorem tab_144 : tab 144 = some ⟨(.struct [(0, 12), (1, 12), (2, 120), (3, 138), (4, 5), (5, 5), (6, 139), (7, 140), (8, 141), (9, 142), (10, 143)]), 11, 48⟩ := rfl
@[go_sem] theorem tab_145 : tab 145 = some ⟨(.struct [(0, 12), (1, 12), (2, 120), (3, 138), (4, 5), (5, 5), (6, 139), (7, 140), (8, 141), (9, 142), (10, 143)]), 11, 48⟩ := rfl
@[go_sem] theorem ty_2 : tyOf 2 = some (.int .i64) := rfl
@[go_sem] theorem ty_3 : tyOf 3 = some (.int .i64) := rfl
@[go_sem] theorem ty_4 : tyOf 4 = some .bool := rfl
@[go_sem] theorem ty_5 : tyOf 5 = some (.int .u8) := rfl
@[go_sem] theorem ty_6 : tyOf 6 = some (.int .u8) := rfl
@[go_sem] theorem ty_9 : tyOf 9 = some .str := rfl
@[go_sem] theorem ty_10 : tyOf 10 = some .str := rfl
@[go_sem] theorem ty_11 : tyOf 11 = some .str := rfl
@[go_sem] theorem ty_12 : tyOf 12 = some (.int .u64) := rfl
@[go_sem] theorem ty_21 : tyOf 21 = some (.int .i32) := rfl
@[go_sem] theorem ty_22 : tyOf 22 = some (.slice (.int .u8)) := rfl
@[go_sem] theorem ty_24 : tyOf 24 = some (.slice (.int .i64)) := rfl
@[go_sem] theorem ty_25 : tyOf 25 = some (.slice (.slice (.agg (.cons (.int .i64) (.cons .bool (.cons .bool (.cons .bool .nil))))))) := rfl
@[go_sem] theorem ty_26 : tyOf 26 = some (.slice (.agg (.cons (.int .i64) (.cons (.int .i64) (.cons .bool .nil))))) := rfl
@[go_sem] theorem ty_27 : tyOf 27 = some (.agg (.cons (.slice (.int .i64)) (.cons (.slice (.slice (.agg (.cons (.int .i64) (.cons .bool (.cons .bool (.cons .bool .nil))))))) (.cons (.slice (.agg (.cons (.int .i64) (.cons (.int .i64) (.cons .bool .nil))))) .nil)))) := rfl
@[go_sem] theorem ty_28 : tyOf 28 = some (.agg (.cons (.slice (.int .i64)) (.cons (.slice (.slice (.agg (.cons (.int .i64) (.cons .bool (.cons .bool (.cons .bool .nil))))))) (.cons (.slice (.agg (.cons (.int .i64) (.cons (.int .i64) (.cons .bool .nil))))) .nil)))) := rfl
@[go_sem] theorem ty_31 : tyOf 31 = some (.agg (.cons (.int .i64) (.cons (.int .i64) .nil))) := rfl
@[go_sem] theorem ty_32 : tyOf 32 = some (.agg (.cons (.int .i64) (.cons (.int .i64) .nil))) := rfl
@[go_sem] theorem ty_33 : tyOf 33 = some (.agg (.cons (.int .i64) (.cons .bool (.cons .bool (.cons .bool .nil))))) := rfl
@[go_sem] theorem ty_34 : tyOf 34 = some (.agg (.cons (.int .i64) (.cons .bool (.cons .bool (.cons .bool .nil))))) := rfl
@[go_sem] theorem ty_40 : tyOf 40 = some (.agg (.cons (.int .i64) (.cons (.int .i64) (.cons .bool .nil)))) := rfl
@[go_sem] theorem ty_41 : tyOf 41 = some (.agg (.cons (.int .i64) (.cons (.int .i64) (.cons .bool .nil)))) := rfl
@[go_sem] theorem ty_55 : tyOf 55 = some (.slice (.agg (.cons (.int .i64) (.cons (.int .i64) .nil)))) := rfl
@[go_sem] theorem ty_66 : tyOf 66 = some (.slice (.agg (.cons (.int .i64) (.cons .bool (.cons .bool (.cons .bool .nil)))))) := rfl
@[go_sem] theorem ty_71 : tyOf 71 = some (.int .u64) := rfl
@[go_sem] theorem ty_72 : tyOf 72 = some (.agg (.cons (.slice (.int .u8)) (.cons (.int .i64) (.cons (.int .u64) .nil)))) := rfl
@[go_sem] theorem ty_73 : tyOf 73 = some (.agg (.cons (.slice (.int .u8)) (.cons (.int .i64) (.cons (.int .u64) .nil)))) := rfl
@[go_sem] theorem ty_100 : tyOf 100 = some (.int .u64) := rfl
@[go_sem] theorem ty_105 : tyOf 105 = some (.slice .bool) := rfl
@[go_sem] theorem ty_111 : tyOf 111 = some (.int .i64) := rfl
@[go_sem] theorem ty_120 : tyOf 120 = some (.int .u32) := rfl
@[go_sem] theorem ty_122 : tyOf 122 = some (.int .u64) := rfl
@[go_sem] theorem ty_138 : tyOf 138 = some (.int .u8) := rfl
@[go_sem] theorem ty_139 : tyOf 139 = some (.int .u8) := rfl
@[go_sem] theorem ty_142 : tyOf 142 = some (.int .i32) := rfl
@[go_sem] theorem ty_143 : tyOf 143 = some (.int .i32) := rfl
def byL : List (Nat × List Nat) := [(12, [0]), (14, [0]), (16, [0]), (18, [0]), (21, [0]), (24, [0]), (39, [0]), (43, [0]), (47, [0]), (53, [0, 2]), (54, [0]), (65, [0]), (77, [0])]
def by_ (g : Nat) : List Nat := (lookT byL g).getD []
set_option maxRecDepth 100000 in
theorem tabOK (c : CallF) : TabOK Try.prog ⟨tab, tyOf, by_, c⟩ := tabOK_of (by kernel_rfl) (by kernel_rfl)
end Go.Proofs.Ytbapbghnageckaa.PI
