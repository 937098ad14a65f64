/- The type table of the program, for the interpreter: printed by a program of the session. -/
import Derived.Test.YtbapbghnageckaaGreatGQSet
import Derived.Test.YtbapbghnageckaaGreatProg
namespace Go.Proofs.YtbapbghnageckaaGreat.PI
set_option maxRecDepth 100000
open Go Go.Q
def tabL : List (Nat × TI) := [(1, ⟨.func, 1, 8⟩),
 (2, ⟨(.int .i64), 1, 8⟩),
 (3, ⟨(.int .i64), 1, 8⟩),
 (4, ⟨.bool, 1, 1⟩),
 (5, ⟨(.int .u8), 1, 1⟩),
 (6, ⟨(.int .u8), 1, 1⟩),
 (7, ⟨(.struct [(0, 2), (1, 3), (2, 4), (3, 6)]), 4, 24⟩),
 (8, ⟨(.struct [(0, 2), (1, 3), (2, 4), (3, 6)]), 4, 24⟩),
 (9, ⟨.str, 1, 16⟩),
 (10, ⟨.str, 1, 16⟩),
 (11, ⟨.str, 1, 16⟩),
 (12, ⟨(.int .u64), 1, 8⟩),
 (13, ⟨(.struct [(0, 9), (1, 12)]), 2, 24⟩),
 (14, ⟨(.struct [(0, 9), (1, 12)]), 2, 24⟩),
 (15, ⟨(.ptr 188), 1, 8⟩),
 (16, ⟨(.ptr 191), 1, 8⟩),
 (17, ⟨(.ptr 200), 1, 8⟩),
 (18, ⟨(.struct [(0, 17)]), 1, 8⟩),
 (19, ⟨(.struct [(0, 17)]), 1, 8⟩),
 (21, ⟨(.int .i32), 1, 4⟩),
 (22, ⟨(.slice 2), 1, 24⟩),
 (23, ⟨(.slice 114), 1, 24⟩),
 (24, ⟨(.slice 123), 1, 24⟩),
 (25, ⟨(.struct [(0, 22), (1, 23), (2, 24)]), 3, 72⟩),
 (26, ⟨(.struct [(0, 22), (1, 23), (2, 24)]), 3, 72⟩),
 (27, ⟨(.struct [(0, 2), (1, 2)]), 2, 16⟩),
 (28, ⟨(.struct [(0, 2), (1, 2)]), 2, 16⟩),
 (29, ⟨.func, 1, 8⟩),
 (30, ⟨(.slice 97), 1, 24⟩),
 (31, ⟨(.slice 108), 1, 24⟩),
 (32, ⟨(.struct [(0, 22), (1, 30), (2, 31)]), 3, 72⟩),
 (33, ⟨(.struct [(0, 22), (1, 30), (2, 31)]), 3, 72⟩),
 (35, ⟨.func, 1, 8⟩),
 (36, ⟨.func, 1, 8⟩),
 (37, ⟨(.struct [(0, 2), (1, 2)]), 2, 16⟩),
 (38, ⟨.func, 1, 8⟩),
 (39, ⟨.func, 1, 8⟩),
 (40, ⟨.func, 1, 8⟩),
 (41, ⟨.func, 1, 8⟩),
 (42, ⟨(.slice 28), 1, 24⟩),
 (43, ⟨.func, 1, 8⟩),
 (45, ⟨.func, 1, 8⟩),
 (46, ⟨(.slice 37), 1, 24⟩),
 (47, ⟨.func, 1, 8⟩),
 (48, ⟨.func, 1, 8⟩),
 (49, ⟨.func, 1, 8⟩),
 (50, ⟨.func, 1, 8⟩),
 (51, ⟨.func, 1, 8⟩),
 (52, ⟨.func, 1, 8⟩),
 (53, ⟨(.slice 5), 1, 24⟩),
 (54, ⟨.func, 1, 8⟩),
 (55, ⟨.func, 1, 8⟩),
 (56, ⟨.func, 1, 8⟩),
 (58, ⟨.func, 1, 8⟩),
 (59, ⟨.func, 1, 8⟩),
 (61, ⟨.func, 1, 8⟩),
 (62, ⟨(.struct [(0, 2), (1, 4), (2, 4), (3, 4)]), 4, 16⟩),
 (63, ⟨(.struct [(0, 2), (1, 4), (2, 4), (3, 4)]), 4, 16⟩),
 (65, ⟨.func, 1, 8⟩),
 (66, ⟨.func, 1, 8⟩),
 (67, ⟨.func, 1, 8⟩),
 (68, ⟨.func, 1, 8⟩),
 (69, ⟨.func, 1, 8⟩),
 (70, ⟨.func, 1, 8⟩),
 (71, ⟨.func, 1, 8⟩),
 (72, ⟨(.ptr 33), 1, 8⟩),
 (73, ⟨.func, 1, 8⟩),
 (75, ⟨.func, 1, 8⟩),
 (76, ⟨.func, 1, 8⟩),
 (77, ⟨.func, 1, 8⟩),
 (78, ⟨.func, 1, 8⟩),
 (79, ⟨.func, 1, 8⟩),
 (80, ⟨.func, 1, 8⟩),
 (82, ⟨.func, 1, 8⟩),
 (83, ⟨.func, 1, 8⟩),
 (84, ⟨.func, 1, 8⟩),
 (85, ⟨.func, 1, 8⟩),
 (86, ⟨.func, 1, 8⟩),
 (87, ⟨.func, 1, 8⟩),
 (88, ⟨.func, 1, 8⟩),
 (89, ⟨(.ptr 136), 1, 8⟩),
 (90, ⟨.func, 1, 8⟩),
 (91, ⟨.func, 1, 8⟩),
 (92, ⟨.func, 1, 8⟩),
 (93, ⟨.func, 1, 8⟩),
 (94, ⟨.func, 1, 8⟩),
 (95, ⟨.func, 1, 8⟩),
 (96, ⟨.func, 1, 8⟩),
 (97, ⟨(.slice 63), 1, 24⟩),
 (98, ⟨.func, 1, 8⟩),
 (99, ⟨(.ptr 63), 1, 8⟩),
 (100, ⟨.func, 1, 8⟩),
 (101, ⟨.func, 1, 8⟩),
 (102, ⟨.func, 1, 8⟩),
 (103, ⟨.func, 1, 8⟩),
 (104, ⟨.func, 1, 8⟩),
 (105, ⟨.func, 1, 8⟩),
 (106, ⟨.func, 1, 8⟩),
 (107, ⟨(.struct [(0, 2), (1, 2), (2, 4)]), 3, 24⟩),
 (108, ⟨(.struct [(0, 2), (1, 2), (2, 4)]), 3, 24⟩),
 (109, ⟨.func, 1, 8⟩),
 (110, ⟨.func, 1, 8⟩),
 (111, ⟨.func, 1, 8⟩),
 (112, ⟨.func, 1, 8⟩),
 (113, ⟨.func, 1, 8⟩),
 (114, ⟨(.slice 144), 1, 24⟩),
 (115, ⟨(.slice 4), 1, 24⟩),
 (116, ⟨.func, 1, 8⟩),
 (117, ⟨.func, 1, 8⟩),
 (118, ⟨.func, 1, 8⟩),
 (119, ⟨.func, 1, 8⟩),
 (120, ⟨.func, 1, 8⟩),
 (121, ⟨.func, 1, 8⟩),
 (122, ⟨.func, 1, 8⟩),
 (123, ⟨(.struct [(0, 2), (1, 2), (2, 4)]), 3, 24⟩),
 (124, ⟨.func, 1, 8⟩),
 (125, ⟨.func, 1, 8⟩),
 (126, ⟨.func, 1, 8⟩),
 (127, ⟨.func, 1, 8⟩),
 (128, ⟨.func, 1, 8⟩),
 (129, ⟨.func, 1, 8⟩),
 (130, ⟨.func, 1, 8⟩),
 (131, ⟨.func, 1, 8⟩),
 (132, ⟨.func, 1, 8⟩),
 (133, ⟨.func, 1, 8⟩),
 (134, ⟨(.int .u64), 1, 8⟩),
 (135, ⟨(.struct [(0, 53), (1, 3), (2, 134)]), 3, 40⟩),
 (136, ⟨(.struct [(0, 53), (1, 3), (2, 134)]), 3, 40⟩),
 (137, ⟨.func, 1, 8⟩),
 (138, ⟨.func, 1, 8⟩),
 (139, ⟨.func, 1, 8⟩),
 (140, ⟨.func, 1, 8⟩),
 (141, ⟨.func, 1, 8⟩),
 (142, ⟨.func, 1, 8⟩),
 (143, ⟨.func, 1, 8⟩),
 (144, ⟨(.struct [(0, 2), (1, 4), (2, 4), (3, 4)]), 4, 16⟩),
 (145, ⟨.func, 1, 8⟩),
 (146, ⟨.func, 1, 8⟩),
 (147, ⟨.func, 1, 8⟩),
 (148, ⟨.func, 1, 8⟩),
 (149, ⟨.func, 1, 8⟩),
 (150, ⟨.func, 1, 8⟩),
 (151, ⟨.func, 1, 8⟩),
 (152, ⟨.func, 1, 8⟩),
 (153, ⟨(.int .u64), 1, 8⟩),
 (155, ⟨.func, 1, 8⟩),
 (156, ⟨.func, 1, 8⟩),
 (157, ⟨(.int .u32), 1, 4⟩),
 (159, ⟨.func, 1, 8⟩),
 (161, ⟨.func, 1, 8⟩),
 (162, ⟨.func, 1, 8⟩),
 (163, ⟨.func, 1, 8⟩),
 (164, ⟨.func, 1, 8⟩),
 (165, ⟨.func, 1, 8⟩),
 (166, ⟨.func, 1, 8⟩),
 (167, ⟨(.int .i64), 1, 8⟩),
 (169, ⟨.func, 1, 8⟩),
 (170, ⟨.func, 1, 8⟩),
 (171, ⟨.func, 1, 8⟩),
 (172, ⟨.func, 1, 8⟩),
 (174, ⟨.func, 1, 8⟩),
 (175, ⟨.func, 1, 8⟩),
 (176, ⟨.func, 1, 8⟩),
 (177, ⟨(.int .u64), 1, 8⟩),
 (178, ⟨.func, 1, 8⟩),
 (179, ⟨.func, 1, 8⟩),
 (180, ⟨.func, 1, 8⟩),
 (181, ⟨(.ptr 3), 1, 8⟩),
 (182, ⟨.func, 1, 8⟩),
 (183, ⟨(.ptr 177), 1, 8⟩),
 (185, ⟨.func, 1, 8⟩),
 (186, ⟨.func, 1, 8⟩),
 (187, ⟨(.struct [(0, 17), (1, 17), (2, 17), (3, 9)]), 4, 40⟩),
 (188, ⟨(.struct [(0, 17), (1, 17), (2, 17), (3, 9)]), 4, 40⟩),
 (189, ⟨(.arr 0 16), 0, 0⟩),
 (190, ⟨(.struct [(0, 189)]), 0, 0⟩),
 (191, ⟨(.struct [(0, 189)]), 0, 0⟩),
 (192, ⟨.func, 1, 8⟩),
 (193, ⟨(.int .u8), 1, 1⟩),
 (194, ⟨(.int .u8), 1, 1⟩),
 (195, ⟨.func, 1, 8⟩),
 (196, ⟨(.ptr 5), 1, 8⟩),
 (197, ⟨(.int .i32), 1, 4⟩),
 (198, ⟨(.int .i32), 1, 4⟩),
 (199, ⟨(.struct [(0, 12), (1, 12), (2, 157), (3, 193), (4, 5), (5, 5), (6, 194), (7, 195), (8, 196), (9, 197), (10, 198)]), 11, 48⟩),
 (200, ⟨(.struct [(0, 12), (1, 12), (2, 157), (3, 193), (4, 5), (5, 5), (6, 194), (7, 195), (8, 196), (9, 197), (10, 198)]), 11, 48⟩)]
def tyL : List (Nat × Ty) := [(2, (.int .i64)),
 (3, (.int .i64)),
 (4, .bool),
 (5, (.int .u8)),
 (6, (.int .u8)),
 (9, .str),
 (10, .str),
 (11, .str),
 (12, (.int .u64)),
 (21, (.int .i32)),
 (22, (.slice (.int .i64))),
 (23, (.slice (.slice (.agg (.cons (.int .i64) (.cons .bool (.cons .bool (.cons .bool .nil)))))))),
 (24, (.slice (.agg (.cons (.int .i64) (.cons (.int .i64) (.cons .bool .nil)))))),
 (25, (.agg (.cons (.slice (.int .i64)) (.cons (.slice (.slice (.agg (.cons (.int .i64) (.cons .bool (.cons .bool (.cons .bool .nil))))))) (.cons (.slice (.agg (.cons (.int .i64) (.cons (.int .i64) (.cons .bool .nil))))) .nil))))),
 (26, (.agg (.cons (.slice (.int .i64)) (.cons (.slice (.slice (.agg (.cons (.int .i64) (.cons .bool (.cons .bool (.cons .bool .nil))))))) (.cons (.slice (.agg (.cons (.int .i64) (.cons (.int .i64) (.cons .bool .nil))))) .nil))))),
 (27, (.agg (.cons (.int .i64) (.cons (.int .i64) .nil)))),
 (28, (.agg (.cons (.int .i64) (.cons (.int .i64) .nil)))),
 (30, (.slice (.slice (.agg (.cons (.int .i64) (.cons .bool (.cons .bool (.cons .bool .nil)))))))),
 (31, (.slice (.agg (.cons (.int .i64) (.cons (.int .i64) (.cons .bool .nil)))))),
 (32, (.agg (.cons (.slice (.int .i64)) (.cons (.slice (.slice (.agg (.cons (.int .i64) (.cons .bool (.cons .bool (.cons .bool .nil))))))) (.cons (.slice (.agg (.cons (.int .i64) (.cons (.int .i64) (.cons .bool .nil))))) .nil))))),
 (33, (.agg (.cons (.slice (.int .i64)) (.cons (.slice (.slice (.agg (.cons (.int .i64) (.cons .bool (.cons .bool (.cons .bool .nil))))))) (.cons (.slice (.agg (.cons (.int .i64) (.cons (.int .i64) (.cons .bool .nil))))) .nil))))),
 (37, (.agg (.cons (.int .i64) (.cons (.int .i64) .nil)))),
 (42, (.slice (.agg (.cons (.int .i64) (.cons (.int .i64) .nil))))),
 (46, (.slice (.agg (.cons (.int .i64) (.cons (.int .i64) .nil))))),
 (53, (.slice (.int .u8))),
 (62, (.agg (.cons (.int .i64) (.cons .bool (.cons .bool (.cons .bool .nil)))))),
 (63, (.agg (.cons (.int .i64) (.cons .bool (.cons .bool (.cons .bool .nil)))))),
 (97, (.slice (.agg (.cons (.int .i64) (.cons .bool (.cons .bool (.cons .bool .nil))))))),
 (107, (.agg (.cons (.int .i64) (.cons (.int .i64) (.cons .bool .nil))))),
 (108, (.agg (.cons (.int .i64) (.cons (.int .i64) (.cons .bool .nil))))),
 (114, (.slice (.agg (.cons (.int .i64) (.cons .bool (.cons .bool (.cons .bool .nil))))))),
 (115, (.slice .bool)),
 (123, (.agg (.cons (.int .i64) (.cons (.int .i64) (.cons .bool .nil))))),
 (134, (.int .u64)),
 (135, (.agg (.cons (.slice (.int .u8)) (.cons (.int .i64) (.cons (.int .u64) .nil))))),
 (136, (.agg (.cons (.slice (.int .u8)) (.cons (.int .i64) (.cons (.int .u64) .nil))))),
 (144, (.agg (.cons (.int .i64) (.cons .bool (.cons .bool (.cons .bool .nil)))))),
 (153, (.int .u64)),
 (157, (.int .u32)),
 (167, (.int .i64)),
 (177, (.int .u64)),
 (193, (.int .u8)),
 (194, (.int .u8)),
 (197, (.int .i32)),
 (198, (.int .i32))]
def tab : Nat → Option TI := lookT tabL
def tyOf : Nat → Option Ty := lookT tyL
@[go_sem] theorem tab_1 : tab 1 = some ⟨.func, 1, 8⟩ := rfl
@[go_sem] theorem tab_2 : tab 2 = some ⟨(.int .i64), 1, 8⟩ := rfl
@[go_sem] theorem tab_3 : tab 3 = some ⟨(.int .i64), 1, 8⟩ := rfl
@[go_sem] theorem tab_4 : tab 4 = some ⟨.bool, 1, 1⟩ := rfl
@[go_sem] theorem tab_5 : tab 5 = some ⟨(.int .u8), 1, 1⟩ := rfl
@[go_sem] theorem tab_6 : tab 6 = some ⟨(.int .u8), 1, 1⟩ := rfl
@[go_sem] theorem tab_7 : tab 7 = some ⟨(.struct [(0, 2), (1, 3), (2, 4), (3, 6)]), 4, 24⟩ := rfl
@[go_sem] theorem tab_8 : tab 8 = some ⟨(.struct [(0, 2), (1, 3), (2, 4), (3, 6)]), 4, 24⟩ := rfl
@[go_sem] theorem tab_9 : tab 9 = some ⟨.str, 1, 16⟩ := rfl
@[go_sem] theorem tab_10 : tab 10 = some ⟨.str, 1, 16⟩ := rfl
@[go_sem] theorem tab_11 : tab 11 = some ⟨.str, 1, 16⟩ := rfl
@[go_sem] theorem tab_12 : tab 12 = some ⟨(.int .u64), 1, 8⟩ := rfl
@[go_sem] theorem tab_13 : tab 13 = some ⟨(.struct [(0, 9), (1, 12)]), 2, 24⟩ := rfl
@[go_sem] theorem tab_14 : tab 14 = some ⟨(.struct [(0, 9), (1, 12)]), 2, 24⟩ := rfl
@[go_sem] theorem tab_15 : tab 15 = some ⟨(.ptr 188), 1, 8⟩ := rfl
@[go_sem] theorem tab_16 : tab 16 = some ⟨(.ptr 191), 1, 8⟩ := rfl
@[go_sem] theorem tab_17 : tab 17 = some ⟨(.ptr 200), 1, 8⟩ := rfl
@[go_sem] theorem tab_18 : tab 18 = some ⟨(.struct [(0, 17)]), 1, 8⟩ := rfl
@[go_sem] theorem tab_19 : tab 19 = some ⟨(.struct [(0, 17)]), 1, 8⟩ := rfl
@[go_sem] theorem tab_21 : tab 21 = some ⟨(.int .i32), 1, 4⟩ := rfl
@[go_sem] theorem tab_22 : tab 22 = some ⟨(.slice 2), 1, 24⟩ := rfl
@[go_sem] theorem tab_23 : tab 23 = some ⟨(.slice 114), 1, 24⟩ := rfl
@[go_sem] theorem tab_24 : tab 24 = some ⟨(.slice 123), 1, 24⟩ := rfl
@[go_sem] theorem tab_25 : tab 25 = some ⟨(.struct [(0, 22), (1, 23), (2, 24)]), 3, 72⟩ := rfl
@[go_sem] theorem tab_26 : tab 26 = some ⟨(.struct [(0, 22), (1, 23), (2, 24)]), 3, 72⟩ := rfl
@[go_sem] theorem tab_27 : tab 27 = some ⟨(.struct [(0, 2), (1, 2)]), 2, 16⟩ := rfl
@[go_sem] theorem tab_28 : tab 28 = some ⟨(.struct [(0, 2), (1, 2)]), 2, 16⟩ := rfl
@[go_sem] theorem tab_29 : tab 29 = some ⟨.func, 1, 8⟩ := rfl
@[go_sem] theorem tab_30 : tab 30 = some ⟨(.slice 97), 1, 24⟩ := rfl
@[go_sem] theorem tab_31 : tab 31 = some ⟨(.slice 108), 1, 24⟩ := rfl
@[go_sem] theorem tab_32 : tab 32 = some ⟨(.struct [(0, 22), (1, 30), (2, 31)]), 3, 72⟩ := rfl
@[go_sem] theorem tab_33 : tab 33 = some ⟨(.struct [(0, 22), (1, 30), (2, 31)]), 3, 72⟩ := rfl
@[go_sem] theorem tab_35 : tab 35 = some ⟨.func, 1, 8⟩ := rfl
@[go_sem] theorem tab_36 : tab 36 = some ⟨.func, 1, 8⟩ := rfl
@[go_sem] theorem tab_37 : tab 37 = some ⟨(.struct [(0, 2), (1, 2)]), 2, 16⟩ := rfl
@[go_sem] theorem tab_38 : tab 38 = some ⟨.func, 1, 8⟩ := rfl
@[go_sem] theorem tab_39 : tab 39 = some ⟨.func, 1, 8⟩ := rfl
@[go_sem] theorem tab_40 : tab 40 = some ⟨.func, 1, 8⟩ := rfl
@[go_sem] theorem tab_41 : tab 41 = some ⟨.func, 1, 8⟩ := rfl
@[go_sem] theorem tab_42 : tab 42 = some ⟨(.slice 28), 1, 24⟩ := rfl
@[go_sem] theorem tab_43 : tab 43 = some ⟨.func, 1, 8⟩ := rfl
@[go_sem] theorem tab_45 : tab 45 = some ⟨.func, 1, 8⟩ := rfl
@[go_sem] theorem tab_46 : tab 46 = some ⟨(.slice 37), 1, 24⟩ := rfl
@[go_sem] theorem tab_47 : tab 47 = some ⟨.func, 1, 8⟩ := rfl
@[go_sem] theorem tab_48 : tab 48 = some ⟨.func, 1, 8⟩ := rfl
@[go_sem] theorem tab_49 : tab 49 = some ⟨.func, 1, 8⟩ := rfl
@[go_sem] theorem tab_50 : tab 50 = some ⟨.func, 1, 8⟩ := rfl
@[go_sem] theorem tab_51 : tab 51 = some ⟨.func, 1, 8⟩ := rfl
@[go_sem] theorem tab_52 : tab 52 = some ⟨.func, 1, 8⟩ := rfl
@[go_sem] theorem tab_53 : tab 53 = some ⟨(.slice 5), 1, 24⟩ := rfl
@[go_sem] theorem tab_54 : tab 54 = some ⟨.func, 1, 8⟩ := rfl
@[go_sem] theorem tab_55 : tab 55 = some ⟨.func, 1, 8⟩ := rfl
@[go_sem] theorem tab_56 : tab 56 = some ⟨.func, 1, 8⟩ := rfl
@[go_sem] theorem tab_58 : tab 58 = some ⟨.func, 1, 8⟩ := rfl
@[go_sem] theorem tab_59 : tab 59 = some ⟨.func, 1, 8⟩ := rfl
@[go_sem] theorem tab_61 : tab 61 = some ⟨.func, 1, 8⟩ := rfl
@[go_sem] theorem tab_62 : tab 62 = some ⟨(.struct [(0, 2), (1, 4), (2, 4), (3, 4)]), 4, 16⟩ := rfl
@[go_sem] theorem tab_63 : tab 63 = some ⟨(.struct [(0, 2), (1, 4), (2, 4), (3, 4)]), 4, 16⟩ := rfl
@[go_sem] theorem tab_65 : tab 65 = some ⟨.func, 1, 8⟩ := rfl
@[go_sem] theorem tab_66 : tab 66 = some ⟨.func, 1, 8⟩ := rfl
@[go_sem] theorem tab_67 : tab 67 = some ⟨.func, 1, 8⟩ := rfl
@[go_sem] theorem tab_68 : tab 68 = some ⟨.func, 1, 8⟩ := rfl
@[go_sem] theorem tab_69 : tab 69 = some ⟨.func, 1, 8⟩ := rfl
@[go_sem] theorem tab_70 : tab 70 = some ⟨.func, 1, 8⟩ := rfl
@[go_sem] theorem tab_71 : tab 71 = some ⟨.func, 1, 8⟩ := rfl
@[go_sem] theorem tab_72 : tab 72 = some ⟨(.ptr 33), 1, 8⟩ := rfl
@[go_sem] theorem tab_73 : tab 73 = some ⟨.func, 1, 8⟩ := rfl
@[go_sem] theorem tab_75 : tab 75 = some ⟨.func, 1, 8⟩ := rfl
@[go_sem] theorem tab_76 : tab 76 = some ⟨.func, 1, 8⟩ := rfl
@[go_sem] theorem tab_77 : tab 77 = some ⟨.func, 1, 8⟩ := rfl
@[go_sem] theorem tab_78 : tab 78 = some ⟨.func, 1, 8⟩ := rfl
@[go_sem] theorem tab_79 : tab 79 = some ⟨.func, 1, 8⟩ := rfl
@[go_sem] theorem tab_80 : tab 80 = some ⟨.func, 1, 8⟩ := rfl
@[go_sem] theorem tab_82 : tab 82 = some ⟨.func, 1, 8⟩ := rfl
@[go_sem] theorem tab_83 : tab 83 = some ⟨.func, 1, 8⟩ := rfl
@[go_sem] theorem tab_84 : tab 84 = some ⟨.func, 1, 8⟩ := rfl
@[go_sem] theorem tab_85 : tab 85 = some ⟨.func, 1, 8⟩ := rfl
@[go_sem] theorem tab_86 : tab 86 = some ⟨.func, 1, 8⟩ := rfl
@[go_sem] theorem tab_87 : tab 87 = some ⟨.func, 1, 8⟩ := rfl
@[go_sem] theorem tab_88 : tab 88 = some ⟨.func, 1, 8⟩ := rfl
@[go_sem] theorem tab_89 : tab 89 = some ⟨(.ptr 136), 1, 8⟩ := rfl
@[go_sem] theorem tab_90 : tab 90 = some ⟨.func, 1, 8⟩ := rfl
@[go_sem] theorem tab_91 : tab 91 = some ⟨.func, 1, 8⟩ := rfl
@[go_sem] theorem tab_92 : tab 92 = some ⟨.func, 1, 8⟩ := rfl
@[go_sem] theorem tab_93 : tab 93 = some ⟨.func, 1, 8⟩ := rfl
@[go_sem] theorem tab_94 : tab 94 = some ⟨.func, 1, 8⟩ := rfl
@[go_sem] theorem tab_95 : tab 95 = some ⟨.func, 1, 8⟩ := rfl
@[go_sem] theorem tab_96 : tab 96 = some ⟨.func, 1, 8⟩ := rfl
@[go_sem] theorem tab_97 : tab 97 = some ⟨(.slice 63), 1, 24⟩ := rfl
@[go_sem] theorem tab_98 : tab 98 = some ⟨.func, 1, 8⟩ := rfl
@[go_sem] theorem tab_99 : tab 99 = some ⟨(.ptr 63), 1, 8⟩ := rfl
@[go_sem] theorem tab_100 : tab 100 = some ⟨.func, 1, 8⟩ := rfl
@[go_sem] theorem tab_101 : tab 101 = some ⟨.func, 1, 8⟩ := rfl
@[go_sem] theorem tab_102 : tab 102 = some ⟨.func, 1, 8⟩ := rfl
@[go_sem] theorem tab_103 : tab 103 = some ⟨.func, 1, 8⟩ := rfl
@[go_sem] theorem tab_104 : tab 104 = some ⟨.func, 1, 8⟩ := rfl
@[go_sem] theorem tab_105 : tab 105 = some ⟨.func, 1, 8⟩ := rfl
@[go_sem] theorem tab_106 : tab 106 = some ⟨.func, 1, 8⟩ := rfl
@[go_sem] theorem tab_107 : tab 107 = some ⟨(.struct [(0, 2), (1, 2), (2, 4)]), 3, 24⟩ := rfl
@[go_sem] theorem tab_108 : tab 108 = some ⟨(.struct [(0, 2), (1, 2), (2, 4)]), 3, 24⟩ := rfl
@[go_sem] theorem tab_109 : tab 109 = some ⟨.func, 1, 8⟩ := rfl
@[go_sem] theorem tab_110 : tab 110 = some ⟨.func, 1, 8⟩ := rfl
@[go_sem] theorem tab_111 : tab 111 = some ⟨.func, 1, 8⟩ := rfl
@[go_sem] theorem tab_112 : tab 112 = some ⟨.func, 1, 8⟩ := rfl
@[go_sem] theorem tab_113 : tab 113 = some ⟨.func, 1, 8⟩ := rfl
@[go_sem] theorem tab_114 : tab 114 = some ⟨(.slice 144), 1, 24⟩ := rfl
@[go_sem] theorem tab_115 : tab 115 = some ⟨(.slice 4), 1, 24⟩ := rfl
@[go_sem] theorem tab_116 : tab 116 = some ⟨.func, 1, 8⟩ := rfl
@[go_sem] theorem tab_117 : tab 117 = some ⟨.func, 1, 8⟩ := rfl
@[go_sem] theorem tab_118 : tab 118 = some ⟨.func, 1, 8⟩ := rfl
@[go_sem] theorem tab_119 : tab 119 = some ⟨.func, 1, 8⟩ := rfl
@[go_sem] theorem tab_120 : tab 120 = some ⟨.func, 1, 8⟩ := rfl
@[go_sem] theorem tab_121 : tab 121 = some ⟨.func, 1, 8⟩ := rfl
@[go_sem] theorem tab_122 : tab 122 = some ⟨.func, 1, 8⟩ := rfl
@[go_sem] theorem tab_123 : tab 123 = some ⟨(.struct [(0, 2), (1, 2), (2, 4)]), 3, 24⟩ := rfl
@[go_sem] theorem tab_124 : tab 124 = some ⟨.func, 1, 8⟩ := rfl
@[go_sem] theorem tab_125 : tab 125 = some ⟨.func, 1, 8⟩ := rfl
@[go_sem] theorem tab_126 : tab 126 = some ⟨.func, 1, 8⟩ := rfl
@[go_sem] theorem tab_127 : tab 127 = some ⟨.func, 1, 8⟩ := rfl
@[go_sem] theorem tab_128 : tab 128 = some ⟨.func, 1, 8⟩ := rfl
@[go_sem] theorem tab_129 : tab 129 = some ⟨.func, 1, 8⟩ := rfl
@[go_sem] theorem tab_130 : tab 130 = some ⟨.func, 1, 8⟩ := rfl
@[go_sem] theorem tab_131 : tab 131 = some ⟨.func, 1, 8⟩ := rfl
@[go_sem] theorem tab_132 : tab 132 = some ⟨.func, 1, 8⟩ := rfl
@[go_sem] theorem tab_133 : tab 133 = some ⟨.func, 1, 8⟩ := rfl
@[go_sem] theorem tab_134 : tab 134 = some ⟨(.int .u64), 1, 8⟩ := rfl
@[go_sem] theorem tab_135 : tab 135 = some ⟨(.struct [(0, 53), (1, 3), (2, 134)]), 3, 40⟩ := rfl
@[go_sem] theorem tab_136 : tab 136 = some ⟨(.struct [(0, 53), (1, 3), (2, 134)]), 3, 40⟩ := rfl
@[go_sem] theorem tab_137 : tab 137 = some ⟨.func, 1, 8⟩ := rfl
@[go_sem] theorem tab_138 : tab 138 = some ⟨.func, 1, 8⟩ := rfl
@[go_sem] theorem tab_139 : tab 139 = some ⟨.func, 1, 8⟩ := rfl
@[go_sem] theorem tab_140 : tab 140 = some ⟨.func, 1, 8⟩ := rfl
@[go_sem] theorem tab_141 : tab 141 = some ⟨.func, 1, 8⟩ := rfl
@[go_sem] theorem tab_142 : tab 142 = some ⟨.func, 1, 8⟩ := rfl
@[go_sem] theorem tab_143 : tab 143 = some ⟨.func, 1, 8⟩ := rfl
@[go_sem] theorem tab_144 : tab 144 = some ⟨(.struct [(0, 2), (1, 4), (2, 4), (3, 4)]), 4, 16⟩ := rfl
@[go_sem] theorem tab_145 : tab 145 = some ⟨.func, 1, 8⟩ := rfl
@[go_sem] theorem tab_146 : tab 146 = some ⟨.func, 1, 8⟩ := rfl
@[go_sem] theorem tab_147 : tab 147 = some ⟨.func, 1, 8⟩ := rfl
@[go_sem] theorem tab_148 : tab 148 = some ⟨.func, 1, 8⟩ := rfl
@[go_sem] theorem tab_149 : tab 149 = some ⟨.func, 1, 8⟩ := rfl
@[go_sem] theorem tab_150 : tab 150 = some ⟨.func, 1, 8⟩ := rfl
@[go_sem] theorem tab_151 : tab 151 = some ⟨.func, 1, 8⟩ := rfl
@[go_sem] theorem tab_152 : tab 152 = some ⟨.func, 1, 8⟩ := rfl
@[go_sem] theorem tab_153 : tab 153 = some ⟨(.int .u64), 1, 8⟩ := rfl
@[go_sem] theorem tab_155 : tab 155 = some ⟨.func, 1, 8⟩ := rfl
@[go_sem] theorem tab_156 : tab 156 = some ⟨.func, 1, 8⟩ := rfl
@[go_sem] theorem tab_157 : tab 157 = some ⟨(.int .u32), 1, 4⟩ := rfl
@[go_sem] theorem tab_159 : tab 159 = some ⟨.func, 1, 8⟩ := rfl
@[go_sem] theorem tab_161 : tab 161 = some ⟨.func, 1, 8⟩ := rfl
@[go_sem] theorem tab_162 : tab 162 = some ⟨.func, 1, 8⟩ := rfl
@[go_sem] theorem tab_163 : tab 163 = some ⟨.func, 1, 8⟩ := rfl
@[go_sem] theorem tab_164 : tab 164 = some ⟨.func, 1, 8⟩ := rfl
@[go_sem] theorem tab_165 : tab 165 = some ⟨.func, 1, 8⟩ := rfl
@[go_sem] theorem tab_166 : tab 166 = some ⟨.func, 1, 8⟩ := rfl
@[go_sem] theorem tab_167 : tab 167 = some ⟨(.int .i64), 1, 8⟩ := rfl
@[go_sem] theorem tab_169 : tab 169 = some ⟨.func, 1, 8⟩ := rfl
@[go_sem] theorem tab_170 : tab 170 = some ⟨.func, 1, 8⟩ := rfl
@[go_sem] theorem tab_171 : tab 171 = some ⟨.func, 1, 8⟩ := rfl
@[go_sem] theorem tab_172 : tab 172 = some ⟨.func, 1, 8⟩ := rfl
@[go_sem] theorem tab_174 : tab 174 = some ⟨.func, 1, 8⟩ := rfl
@[go_sem] theorem tab_175 : tab 175 = some ⟨.func, 1, 8⟩ := rfl
@[go_sem] theorem tab_176 : tab 176 = some ⟨.func, 1, 8⟩ := rfl
@[go_sem] theorem tab_177 : tab 177 = some ⟨(.int .u64), 1, 8⟩ := rfl
@[go_sem] theorem tab_178 : tab 178 = some ⟨.func, 1, 8⟩ := rfl
@[go_sem] theorem tab_179 : tab 179 = some ⟨.func, 1, 8⟩ := rfl
@[go_sem] theorem tab_180 : tab 180 = some ⟨.func, 1, 8⟩ := rfl
@[go_sem] theorem tab_181 : tab 181 = some ⟨(.ptr 3), 1, 8⟩ := rfl
@[go_sem] theorem tab_182 : tab 182 = some ⟨.func, 1, 8⟩ := rfl
@[go_sem] theorem tab_183 : tab 183 = some ⟨(.ptr 177), 1, 8⟩ := rfl
@[go_sem] theorem tab_185 : tab 185 = some ⟨.func, 1, 8⟩ := rfl
@[go_sem] theorem tab_186 : tab 186 = some ⟨.func, 1, 8⟩ := rfl
@[go_sem] theorem tab_187 : tab 187 = some ⟨(.struct [(0, 17), (1, 17), (2, 17), (3, 9)]), 4, 40⟩ := rfl
@[go_sem] theorem tab_188 : tab 188 = some ⟨(.struct [(0, 17), (1, 17), (2, 17), (3, 9)]), 4, 40⟩ := rfl
@[go_sem] theorem tab_189 : tab 189 = some ⟨(.arr 0 16), 0, 0⟩ := rfl
@[go_sem] theorem tab_190 : tab 190 = some ⟨(.struct [(0, 189)]), 0, 0⟩ := rfl
@[go_sem] theorem tab_191 : tab 191 = some ⟨(.struct [(0, 189)]), 0, 0⟩ := rfl
@[go_sem] theorem tab_192 : tab 192 = some ⟨.func, 1, 8⟩ := rfl
@[go_sem] theorem tab_193 : tab 193 = some ⟨(.int .u8), 1, 1⟩ := rfl
@[go_sem] theorem tab_194 : tab 194 = some ⟨(.int .u8), 1, 1⟩ := rfl
@[go_sem] theorem tab_195 : tab 195 = some ⟨.func, 1, 8⟩ := rfl
@[go_sem] theorem tab_196 : tab 196 = some ⟨(.ptr 5), 1, 8⟩ := rfl
@[go_sem] theorem tab_197 : tab 197 = some ⟨(.int .i32), 1, 4⟩ := rfl
@[go_sem] theorem tab_198 : tab 198 = some ⟨(.int .i32), 1, 4⟩ := rfl
@[go_sem] theorem tab_199 : tab 199 = some ⟨(.struct [(0, 12), (1, 12), (2, 157), (3, 193), (4, 5), (5, 5), (6, 194), (7, 195), (8, 196), (9, 197), (10, 198)]), 11, 48⟩ := rfl
@[go_sem] theorem tab_200 : tab 200 = some ⟨(.struct [(0, 12), (1, 12), (2, 157), (3, 193), (4, 5), (5, 5), (6, 194), (7, 195), (8, 196), (9, 197), (10, 198)]), 11, 48⟩ := rfl
@[go_sem] theorem ty_2 : tyOf 2 = some (.int .i64) := rfl
@[go_sem] theorem ty_3 : tyOf 3 = some (.int .i64) := rfl
@[go_sem] theorem ty_4 : tyOf 4 = some .bool := rfl
@[go_sem] theorem ty_5 : tyOf 5 = some (.int .u8) := rfl
@[go_sem] theorem ty_6 : tyOf 6 = some (.int .u8) := rfl
@[go_sem] theorem ty_9 : tyOf 9 = some .str := rfl
@[go_sem] theorem ty_10 : tyOf 10 = some .str := rfl
@[go_sem] theorem ty_11 : tyOf 11 = some .str := rfl
@[go_sem] theorem ty_12 : tyOf 12 = some (.int .u64) := rfl
@[go_sem] theorem ty_21 : tyOf 21 = some (.int .i32) := rfl
@[go_sem] theorem ty_22 : tyOf 22 = some (.slice (.int .i64)) := rfl
@[go_sem] theorem ty_23 : tyOf 23 = some (.slice (.slice (.agg (.cons (.int .i64) (.cons .bool (.cons .bool (.cons .bool .nil))))))) := rfl
@[go_sem] theorem ty_24 : tyOf 24 = some (.slice (.agg (.cons (.int .i64) (.cons (.int .i64) (.cons .bool .nil))))) := rfl
@[go_sem] theorem ty_25 : tyOf 25 = some (.agg (.cons (.slice (.int .i64)) (.cons (.slice (.slice (.agg (.cons (.int .i64) (.cons .bool (.cons .bool (.cons .bool .nil))))))) (.cons (.slice (.agg (.cons (.int .i64) (.cons (.int .i64) (.cons .bool .nil))))) .nil)))) := rfl
@[go_sem] theorem ty_26 : tyOf 26 = some (.agg (.cons (.slice (.int .i64)) (.cons (.slice (.slice (.agg (.cons (.int .i64) (.cons .bool (.cons .bool (.cons .bool .nil))))))) (.cons (.slice (.agg (.cons (.int .i64) (.cons (.int .i64) (.cons .bool .nil))))) .nil)))) := rfl
@[go_sem] theorem ty_27 : tyOf 27 = some (.agg (.cons (.int .i64) (.cons (.int .i64) .nil))) := rfl
@[go_sem] theorem ty_28 : tyOf 28 = some (.agg (.cons (.int .i64) (.cons (.int .i64) .nil))) := rfl
@[go_sem] theorem ty_30 : tyOf 30 = some (.slice (.slice (.agg (.cons (.int .i64) (.cons .bool (.cons .bool (.cons .bool .nil))))))) := rfl
@[go_sem] theorem ty_31 : tyOf 31 = some (.slice (.agg (.cons (.int .i64) (.cons (.int .i64) (.cons .bool .nil))))) := rfl
@[go_sem] theorem ty_32 : tyOf 32 = some (.agg (.cons (.slice (.int .i64)) (.cons (.slice (.slice (.agg (.cons (.int .i64) (.cons .bool (.cons .bool (.cons .bool .nil))))))) (.cons (.slice (.agg (.cons (.int .i64) (.cons (.int .i64) (.cons .bool .nil))))) .nil)))) := rfl
@[go_sem] theorem ty_33 : tyOf 33 = some (.agg (.cons (.slice (.int .i64)) (.cons (.slice (.slice (.agg (.cons (.int .i64) (.cons .bool (.cons .bool (.cons .bool .nil))))))) (.cons (.slice (.agg (.cons (.int .i64) (.cons (.int .i64) (.cons .bool .nil))))) .nil)))) := rfl
@[go_sem] theorem ty_37 : tyOf 37 = some (.agg (.cons (.int .i64) (.cons (.int .i64) .nil))) := rfl
@[go_sem] theorem ty_42 : tyOf 42 = some (.slice (.agg (.cons (.int .i64) (.cons (.int .i64) .nil)))) := rfl
@[go_sem] theorem ty_46 : tyOf 46 = some (.slice (.agg (.cons (.int .i64) (.cons (.int .i64) .nil)))) := rfl
@[go_sem] theorem ty_53 : tyOf 53 = some (.slice (.int .u8)) := rfl
@[go_sem] theorem ty_62 : tyOf 62 = some (.agg (.cons (.int .i64) (.cons .bool (.cons .bool (.cons .bool .nil))))) := rfl
@[go_sem] theorem ty_63 : tyOf 63 = some (.agg (.cons (.int .i64) (.cons .bool (.cons .bool (.cons .bool .nil))))) := rfl
@[go_sem] theorem ty_97 : tyOf 97 = some (.slice (.agg (.cons (.int .i64) (.cons .bool (.cons .bool (.cons .bool .nil)))))) := rfl
@[go_sem] theorem ty_107 : tyOf 107 = some (.agg (.cons (.int .i64) (.cons (.int .i64) (.cons .bool .nil)))) := rfl
@[go_sem] theorem ty_108 : tyOf 108 = some (.agg (.cons (.int .i64) (.cons (.int .i64) (.cons .bool .nil)))) := rfl
@[go_sem] theorem ty_114 : tyOf 114 = some (.slice (.agg (.cons (.int .i64) (.cons .bool (.cons .bool (.cons .bool .nil)))))) := rfl
@[go_sem] theorem ty_115 : tyOf 115 = some (.slice .bool) := rfl
@[go_sem] theorem ty_123 : tyOf 123 = some (.agg (.cons (.int .i64) (.cons (.int .i64) (.cons .bool .nil)))) := rfl
@[go_sem] theorem ty_134 : tyOf 134 = some (.int .u64) := rfl
@[go_sem] theorem ty_135 : tyOf 135 = some (.agg (.cons (.slice (.int .u8)) (.cons (.int .i64) (.cons (.int .u64) .nil)))) := rfl
@[go_sem] theorem ty_136 : tyOf 136 = some (.agg (.cons (.slice (.int .u8)) (.cons (.int .i64) (.cons (.int .u64) .nil)))) := rfl
@[go_sem] theorem ty_144 : tyOf 144 = some (.agg (.cons (.int .i64) (.cons .bool (.cons .bool (.cons .bool .nil))))) := rfl
@[go_sem] theorem ty_153 : tyOf 153 = some (.int .u64) := rfl
@[go_sem] theorem ty_157 : tyOf 157 = some (.int .u32) := rfl
@[go_sem] theorem ty_167 : tyOf 167 = some (.int .i64) := rfl
@[go_sem] theorem ty_177 : tyOf 177 = some (.int .u64) := rfl
@[go_sem] theorem ty_193 : tyOf 193 = some (.int .u8) := rfl
@[go_sem] theorem ty_194 : tyOf 194 = some (.int .u8) := rfl
@[go_sem] theorem ty_197 : tyOf 197 = some (.int .i32) := rfl
@[go_sem] theorem ty_198 : tyOf 198 = some (.int .i32) := rfl
def byL : List (Nat × List Nat) := [(13, [0]), (21, [0]), (22, [0]), (52, [0]), (55, [0]), (56, [0]), (63, [0]), (65, [0]), (66, [0]), (71, [0]), (73, [0]), (78, [0]), (84, [0]), (85, [0]), (111, [0, 2]), (112, [0]), (115, [0]), (120, [0]), (122, [0]), (135, [0]), (145, [0])]
def by_ (g : Nat) : List Nat := (lookT byL g).getD []
set_option maxRecDepth 100000 in
theorem tabOK (c : CallF) : TabOK Tryz.prog ⟨tab, tyOf, by_, c⟩ := tabOK_of (by kernel_rfl) (by kernel_rfl)
end Go.Proofs.YtbapbghnageckaaGreat.PI
