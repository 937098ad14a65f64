/- The type table of the program, for the interpreter: printed by a program of the session. -/
import Derived.Test.YthmnlokdikomkaaGQSet
import Derived.Test.YthmnlokdikomkaaProg
namespace Go.Proofs.Ythmnlokdikomkaa.PI
set_option maxRecDepth 100000
open Go Go.Q
def tabL : List (Nat × TI) := [(1, ⟨.func, 1, 8⟩),
  (2, ⟨(.int .i64), 1, 8⟩),
  (3, ⟨(.int .i64), 1, 8⟩),
  (4, ⟨.bool, 1, 1⟩),
  (5, ⟨(.int .u8), 1, 1⟩),
  (6, ⟨(.int .u8), 1, 1⟩),
  (7, ⟨(.struct [(0, 2), (1, 3), (2, 4), (3, 6)]), 4, 24⟩),
  (8, ⟨(.struct [(0, 2), (1, 3), (2, 4), (3, 6)]), 4, 24⟩),
  (9, ⟨.str, 1, 16⟩),
  (10, ⟨.str, 1, 16⟩),
  (11, ⟨.str, 1, 16⟩),
  (12, ⟨(.int .u64), 1, 8⟩),
  (13, ⟨(.struct [(0, 9), (1, 12)]), 2, 24⟩),
  (14, ⟨(.struct [(0, 9), (1, 12)]), 2, 24⟩),
  (15, ⟨(.ptr 167), 1, 8⟩),
  (16, ⟨(.ptr 170), 1, 8⟩),
  (17, ⟨(.ptr 179), 1, 8⟩),
  (18, ⟨(.struct [(0, 17)]), 1, 8⟩),
  (19, ⟨(.struct [(0, 17)]), 1, 8⟩),
  (21, ⟨(.int .i32), 1, 4⟩),
  (22, ⟨(.slice 5), 1, 24⟩),
  (23, ⟨.func, 1, 8⟩),
  (24, ⟨.func, 1, 8⟩),
  (25, ⟨(.slice 95), 1, 24⟩),
  (26, ⟨(.struct [(0, 25), (1, 25), (2, 25), (3, 25), (4, 25)]), 5, 120⟩),
  (27, ⟨(.struct [(0, 25), (1, 25), (2, 25), (3, 25), (4, 25)]), 5, 120⟩),
  (28, ⟨.func, 1, 8⟩),
  (29, ⟨(.slice 51), 1, 24⟩),
  (30, ⟨.func, 1, 8⟩),
  (32, ⟨.func, 1, 8⟩),
  (34, ⟨.func, 1, 8⟩),
  (35, ⟨(.slice 2), 1, 24⟩),
  (36, ⟨(.slice 4), 1, 24⟩),
  (37, ⟨(.struct [(0, 35), (1, 36), (2, 4)]), 3, 56⟩),
  (38, ⟨(.struct [(0, 35), (1, 36), (2, 4)]), 3, 56⟩),
  (40, ⟨.func, 1, 8⟩),
  (42, ⟨.func, 1, 8⟩),
  (43, ⟨.func, 1, 8⟩),
  (44, ⟨.func, 1, 8⟩),
  (45, ⟨.func, 1, 8⟩),
  (47, ⟨.func, 1, 8⟩),
  (49, ⟨.func, 1, 8⟩),
  (50, ⟨(.struct [(0, 2), (1, 2)]), 2, 16⟩),
  (51, ⟨(.struct [(0, 2), (1, 2)]), 2, 16⟩),
  (52, ⟨.func, 1, 8⟩),
  (53, ⟨(.slice 149), 1, 24⟩),
  (54, ⟨(.struct [(0, 53), (1, 53), (2, 53), (3, 53), (4, 53)]), 5, 120⟩),
  (55, ⟨(.struct [(0, 53), (1, 53), (2, 53), (3, 53), (4, 53)]), 5, 120⟩),
  (56, ⟨.func, 1, 8⟩),
  (57, ⟨.func, 1, 8⟩),
  (58, ⟨.func, 1, 8⟩),
  (59, ⟨.func, 1, 8⟩),
  (60, ⟨(.struct [(0, 35), (1, 36), (2, 4)]), 3, 56⟩),
  (61, ⟨(.struct [(0, 2), (1, 2)]), 2, 16⟩),
  (62, ⟨.func, 1, 8⟩),
  (63, ⟨.func, 1, 8⟩),
  (64, ⟨.func, 1, 8⟩),
  (65, ⟨.func, 1, 8⟩),
  (66, ⟨.func, 1, 8⟩),
  (67, ⟨.func, 1, 8⟩),
  (68, ⟨.func, 1, 8⟩),
  (69, ⟨.func, 1, 8⟩),
  (70, ⟨.func, 1, 8⟩),
  (71, ⟨.func, 1, 8⟩),
  (72, ⟨(.arr 4 2), 4, 32⟩),
  (73, ⟨(.ptr 129), 1, 8⟩),
  (74, ⟨.func, 1, 8⟩),
  (75, ⟨.func, 1, 8⟩),
  (76, ⟨.func, 1, 8⟩),
  (77, ⟨(.slice 38), 1, 24⟩),
  (79, ⟨.func, 1, 8⟩),
  (80, ⟨.func, 1, 8⟩),
  (81, ⟨.func, 1, 8⟩),
  (82, ⟨.func, 1, 8⟩),
  (83, ⟨.func, 1, 8⟩),
  (85, ⟨.func, 1, 8⟩),
  (86, ⟨.func, 1, 8⟩),
  (87, ⟨.func, 1, 8⟩),
  (88, ⟨.func, 1, 8⟩),
  (89, ⟨.func, 1, 8⟩),
  (90, ⟨(.slice 92), 1, 24⟩),
  (91, ⟨.func, 1, 8⟩),
  (92, ⟨(.ptr 25), 1, 8⟩),
  (93, ⟨.func, 1, 8⟩),
  (94, ⟨(.struct [(0, 2), (1, 2), (2, 4)]), 3, 24⟩),
  (95, ⟨(.struct [(0, 2), (1, 2), (2, 4)]), 3, 24⟩),
  (96, ⟨.func, 1, 8⟩),
  (97, ⟨(.arr 3 25), 3, 72⟩),
  (98, ⟨(.slice 25), 1, 24⟩),
  (99, ⟨.func, 1, 8⟩),
  (100, ⟨(.ptr 27), 1, 8⟩),
  (102, ⟨.func, 1, 8⟩),
  (103, ⟨.func, 1, 8⟩),
  (104, ⟨.func, 1, 8⟩),
  (105, ⟨.func, 1, 8⟩),
  (106, ⟨.func, 1, 8⟩),
  (107, ⟨(.slice 114), 1, 24⟩),
  (109, ⟨.func, 1, 8⟩),
  (110, ⟨.func, 1, 8⟩),
  (111, ⟨.func, 1, 8⟩),
  (112, ⟨(.ptr 38), 1, 8⟩),
  (113, ⟨(.struct [(0, 38), (3, 3), (4, 51)]), 6, 80⟩),
  (114, ⟨(.struct [(0, 38), (3, 3), (4, 51)]), 6, 80⟩),
  (115, ⟨.func, 1, 8⟩),
  (116, ⟨.func, 1, 8⟩),
  (117, ⟨.func, 1, 8⟩),
  (118, ⟨.func, 1, 8⟩),
  (120, ⟨.func, 1, 8⟩),
  (121, ⟨.func, 1, 8⟩),
  (122, ⟨.func, 1, 8⟩),
  (123, ⟨.func, 1, 8⟩),
  (124, ⟨.func, 1, 8⟩),
  (125, ⟨.func, 1, 8⟩),
  (126, ⟨.func, 1, 8⟩),
  (127, ⟨(.int .u64), 1, 8⟩),
  (128, ⟨(.struct [(0, 22), (1, 3), (2, 127)]), 3, 40⟩),
  (129, ⟨(.struct [(0, 22), (1, 3), (2, 127)]), 3, 40⟩),
  (130, ⟨.func, 1, 8⟩),
  (131, ⟨(.struct [(0, 38), (3, 29)]), 4, 80⟩),
  (132, ⟨(.struct [(0, 38), (3, 29)]), 4, 80⟩),
  (133, ⟨(.slice 132), 1, 24⟩),
  (134, ⟨.func, 1, 8⟩),
  (135, ⟨(.map 9 4), 1, 8⟩),
  (136, ⟨.func, 1, 8⟩),
  (137, ⟨.func, 1, 8⟩),
  (138, ⟨.func, 1, 8⟩),
  (139, ⟨.func, 1, 8⟩),
  (140, ⟨.func, 1, 8⟩),
  (141, ⟨.func, 1, 8⟩),
  (142, ⟨.func, 1, 8⟩),
  (143, ⟨.func, 1, 8⟩),
  (144, ⟨.func, 1, 8⟩),
  (145, ⟨.func, 1, 8⟩),
  (146, ⟨.func, 1, 8⟩),
  (147, ⟨.func, 1, 8⟩),
  (148, ⟨.func, 1, 8⟩),
  (149, ⟨(.struct [(0, 2), (1, 2), (2, 4)]), 3, 24⟩),
  (150, ⟨.func, 1, 8⟩),
  (151, ⟨.func, 1, 8⟩),
  (152, ⟨.func, 1, 8⟩),
  (153, ⟨(.int .u64), 1, 8⟩),
  (154, ⟨(.ptr 156), 1, 8⟩),
  (155, ⟨(.struct [(0, 154), (1, 22)]), 2, 32⟩),
  (156, ⟨(.struct [(0, 154), (1, 22)]), 2, 32⟩),
  (158, ⟨.err, 1, 16⟩),
  (159, ⟨.func, 1, 8⟩),
  (160, ⟨.func, 1, 8⟩),
  (161, ⟨.func, 1, 8⟩),
  (162, ⟨.func, 1, 8⟩),
  (163, ⟨(.ptr 5), 1, 8⟩),
  (165, ⟨.func, 1, 8⟩),
  (166, ⟨(.struct [(0, 17), (1, 17), (2, 17), (3, 9)]), 4, 40⟩),
  (167, ⟨(.struct [(0, 17), (1, 17), (2, 17), (3, 9)]), 4, 40⟩),
  (168, ⟨(.arr 0 16), 0, 0⟩),
  (169, ⟨(.struct [(0, 168)]), 0, 0⟩),
  (170, ⟨(.struct [(0, 168)]), 0, 0⟩),
  (171, ⟨.func, 1, 8⟩),
  (172, ⟨(.int .u32), 1, 4⟩),
  (173, ⟨(.int .u8), 1, 1⟩),
  (174, ⟨(.int .u8), 1, 1⟩),
  (175, ⟨.func, 1, 8⟩),
  (176, ⟨(.int .i32), 1, 4⟩),
  (177, ⟨(.int .i32), 1, 4⟩),
  (178, ⟨(.struct [(0, 12), (1, 12), (2, 172), (3, 173), (4, 5), (5, 5), (6, 174), (7, 175), (8, 163), (9, 176), (10, 177)]), 11, 48⟩),
  (179, ⟨(.struct [(0, 12), (1, 12), (2, 172), (3, 173), (4, 5), (5, 5), (6, 174), (7, 175), (8, 163), (9, 176), (10, 177)]), 11, 48⟩)]
def tyL : List (Nat × Ty) := [(2, (.int .i64)),
  (3, (.int .i64)),
  (4, .bool),
  (5, (.int .u8)),
  (6, (.int .u8)),
  (9, .str),
  (10, .str),
  (11, .str),
  (12, (.int .u64)),
  (21, (.int .i32)),
  (22, (.slice (.int .u8))),
  (25, (.slice (.agg (.cons (.int .i64) (.cons (.int .i64) (.cons .bool .nil)))))),
  (26, (.agg (.cons (.slice (.agg (.cons (.int .i64) (.cons (.int .i64) (.cons .bool .nil))))) (.cons (.slice (.agg (.cons (.int .i64) (.cons (.int .i64) (.cons .bool .nil))))) (.cons (.slice (.agg (.cons (.int .i64) (.cons (.int .i64) (.cons .bool .nil))))) (.cons (.slice (.agg (.cons (.int .i64) (.cons (.int .i64) (.cons .bool .nil))))) (.cons (.slice (.agg (.cons (.int .i64) (.cons (.int .i64) (.cons .bool .nil))))) .nil))))))),
  (27, (.agg (.cons (.slice (.agg (.cons (.int .i64) (.cons (.int .i64) (.cons .bool .nil))))) (.cons (.slice (.agg (.cons (.int .i64) (.cons (.int .i64) (.cons .bool .nil))))) (.cons (.slice (.agg (.cons (.int .i64) (.cons (.int .i64) (.cons .bool .nil))))) (.cons (.slice (.agg (.cons (.int .i64) (.cons (.int .i64) (.cons .bool .nil))))) (.cons (.slice (.agg (.cons (.int .i64) (.cons (.int .i64) (.cons .bool .nil))))) .nil))))))),
  (29, (.slice (.agg (.cons (.int .i64) (.cons (.int .i64) .nil))))),
  (35, (.slice (.int .i64))),
  (36, (.slice .bool)),
  (37, (.agg (.cons (.slice (.int .i64)) (.cons (.slice .bool) (.cons .bool .nil))))),
  (38, (.agg (.cons (.slice (.int .i64)) (.cons (.slice .bool) (.cons .bool .nil))))),
  (50, (.agg (.cons (.int .i64) (.cons (.int .i64) .nil)))),
  (51, (.agg (.cons (.int .i64) (.cons (.int .i64) .nil)))),
  (53, (.slice (.agg (.cons (.int .i64) (.cons (.int .i64) (.cons .bool .nil)))))),
  (54, (.agg (.cons (.slice (.agg (.cons (.int .i64) (.cons (.int .i64) (.cons .bool .nil))))) (.cons (.slice (.agg (.cons (.int .i64) (.cons (.int .i64) (.cons .bool .nil))))) (.cons (.slice (.agg (.cons (.int .i64) (.cons (.int .i64) (.cons .bool .nil))))) (.cons (.slice (.agg (.cons (.int .i64) (.cons (.int .i64) (.cons .bool .nil))))) (.cons (.slice (.agg (.cons (.int .i64) (.cons (.int .i64) (.cons .bool .nil))))) .nil))))))),
  (55, (.agg (.cons (.slice (.agg (.cons (.int .i64) (.cons (.int .i64) (.cons .bool .nil))))) (.cons (.slice (.agg (.cons (.int .i64) (.cons (.int .i64) (.cons .bool .nil))))) (.cons (.slice (.agg (.cons (.int .i64) (.cons (.int .i64) (.cons .bool .nil))))) (.cons (.slice (.agg (.cons (.int .i64) (.cons (.int .i64) (.cons .bool .nil))))) (.cons (.slice (.agg (.cons (.int .i64) (.cons (.int .i64) (.cons .bool .nil))))) .nil))))))),
  (60, (.agg (.cons (.slice (.int .i64)) (.cons (.slice .bool) (.cons .bool .nil))))),
  (61, (.agg (.cons (.int .i64) (.cons (.int .i64) .nil)))),
  (72, (.agg (.cons (.int .i64) (.cons (.int .i64) (.cons (.int .i64) (.cons (.int .i64) .nil)))))),
  (77, (.slice (.agg (.cons (.slice (.int .i64)) (.cons (.slice .bool) (.cons .bool .nil)))))),
  (94, (.agg (.cons (.int .i64) (.cons (.int .i64) (.cons .bool .nil))))),
  (95, (.agg (.cons (.int .i64) (.cons (.int .i64) (.cons .bool .nil))))),
  (97, (.agg (.cons (.slice (.agg (.cons (.int .i64) (.cons (.int .i64) (.cons .bool .nil))))) (.cons (.slice (.agg (.cons (.int .i64) (.cons (.int .i64) (.cons .bool .nil))))) (.cons (.slice (.agg (.cons (.int .i64) (.cons (.int .i64) (.cons .bool .nil))))) .nil))))),
  (98, (.slice (.slice (.agg (.cons (.int .i64) (.cons (.int .i64) (.cons .bool .nil))))))),
  (107, (.slice (.agg (.cons (.agg (.cons (.slice (.int .i64)) (.cons (.slice .bool) (.cons .bool .nil)))) (.cons (.int .i64) (.cons (.agg (.cons (.int .i64) (.cons (.int .i64) .nil))) .nil)))))),
  (113, (.agg (.cons (.agg (.cons (.slice (.int .i64)) (.cons (.slice .bool) (.cons .bool .nil)))) (.cons (.int .i64) (.cons (.agg (.cons (.int .i64) (.cons (.int .i64) .nil))) .nil))))),
  (114, (.agg (.cons (.agg (.cons (.slice (.int .i64)) (.cons (.slice .bool) (.cons .bool .nil)))) (.cons (.int .i64) (.cons (.agg (.cons (.int .i64) (.cons (.int .i64) .nil))) .nil))))),
  (127, (.int .u64)),
  (128, (.agg (.cons (.slice (.int .u8)) (.cons (.int .i64) (.cons (.int .u64) .nil))))),
  (129, (.agg (.cons (.slice (.int .u8)) (.cons (.int .i64) (.cons (.int .u64) .nil))))),
  (131, (.agg (.cons (.agg (.cons (.slice (.int .i64)) (.cons (.slice .bool) (.cons .bool .nil)))) (.cons (.slice (.agg (.cons (.int .i64) (.cons (.int .i64) .nil)))) .nil)))),
  (132, (.agg (.cons (.agg (.cons (.slice (.int .i64)) (.cons (.slice .bool) (.cons .bool .nil)))) (.cons (.slice (.agg (.cons (.int .i64) (.cons (.int .i64) .nil)))) .nil)))),
  (133, (.slice (.agg (.cons (.agg (.cons (.slice (.int .i64)) (.cons (.slice .bool) (.cons .bool .nil)))) (.cons (.slice (.agg (.cons (.int .i64) (.cons (.int .i64) .nil)))) .nil))))),
  (149, (.agg (.cons (.int .i64) (.cons (.int .i64) (.cons .bool .nil))))),
  (153, (.int .u64)),
  (158, .err),
  (172, (.int .u32)),
  (173, (.int .u8)),
  (174, (.int .u8)),
  (176, (.int .i32)),
  (177, (.int .i32))]
def tab : Nat → Option TI := lookT tabL
def tyOf : Nat → Option Ty := lookT tyL
@[go_sem] theorem tab_1 : tab 1 = some ⟨.func, 1, 8⟩ := rfl
@[go_sem] theorem tab_2 : tab 2 = some ⟨(.int .i64), 1, 8⟩ := rfl
@[go_sem] theorem tab_3 : tab 3 = some ⟨(.int .i64), 1, 8⟩ := rfl
@[go_sem] theorem tab_4 : tab 4 = some ⟨.bool, 1, 1⟩ := rfl
@[go_sem] theorem tab_5 : tab 5 = some ⟨(.int .u8), 1, 1⟩ := rfl
@[go_sem] theorem tab_6 : tab 6 = some ⟨(.int .u8), 1, 1⟩ := rfl
@[go_sem] theorem tab_7 : tab 7 = some ⟨(.struct [(0, 2), (1, 3), (2, 4), (3, 6)]), 4, 24⟩ := rfl
@[go_sem] theorem tab_8 : tab 8 = some ⟨(.struct [(0, 2), (1, 3), (2, 4), (3, 6)]), 4, 24⟩ := rfl
@[go_sem] theorem tab_9 : tab 9 = some ⟨.str, 1, 16⟩ := rfl
@[go_sem] theorem tab_10 : tab 10 = some ⟨.str, 1, 16⟩ := rfl
@[go_sem] theorem tab_11 : tab 11 = some ⟨.str, 1, 16⟩ := rfl
@[go_sem] theorem tab_12 : tab 12 = some ⟨(.int .u64), 1, 8⟩ := rfl
@[go_sem] theorem tab_13 : tab 13 = some ⟨(.struct [(0, 9), (1, 12)]), 2, 24⟩ := rfl
@[go_sem] theorem tab_14 : tab 14 = some ⟨(.struct [(0, 9), (1, 12)]), 2, 24⟩ := rfl
@[go_sem] theorem tab_15 : tab 15 = some ⟨(.ptr 167), 1, 8⟩ := rfl
@[go_sem] theorem tab_16 : tab 16 = some ⟨(.ptr 170), 1, 8⟩ := rfl
@[go_sem] theorem tab_17 : tab 17 = some ⟨(.ptr 179), 1, 8⟩ := rfl
@[go_sem] theorem tab_18 : tab 18 = some ⟨(.struct [(0, 17)]), 1, 8⟩ := rfl
@[go_sem] theorem tab_19 : tab 19 = some ⟨(.struct [(0, 17)]), 1, 8⟩ := rfl
@[go_sem] theorem tab_21 : tab 21 = some ⟨(.int .i32), 1, 4⟩ := rfl
@[go_sem] theorem tab_22 : tab 22 = some ⟨(.slice 5), 1, 24⟩ := rfl
@[go_sem] theorem tab_23 : tab 23 = some ⟨.func, 1, 8⟩ := rfl
@[go_sem] theorem tab_24 : tab 24 = some ⟨.func, 1, 8⟩ := rfl
@[go_sem] theorem tab_25 : tab 25 = some ⟨(.slice 95), 1, 24⟩ := rfl
@[go_sem] theorem tab_26 : tab 26 = some ⟨(.struct [(0, 25), (1, 25), (2, 25), (3, 25), (4, 25)]), 5, 120⟩ := rfl
@[go_sem] theorem tab_27 : tab 27 = some ⟨(.struct [(0, 25), (1, 25), (2, 25), (3, 25), (4, 25)]), 5, 120⟩ := rfl
@[go_sem] theorem tab_28 : tab 28 = some ⟨.func, 1, 8⟩ := rfl
@[go_sem] theorem tab_29 : tab 29 = some ⟨(.slice 51), 1, 24⟩ := rfl
@[go_sem] theorem tab_30 : tab 30 = some ⟨.func, 1, 8⟩ := rfl
@[go_sem] theorem tab_32 : tab 32 = some ⟨.func, 1, 8⟩ := rfl
@[go_sem] theorem tab_34 : tab 34 = some ⟨.func, 1, 8⟩ := rfl
@[go_sem] theorem tab_35 : tab 35 = some ⟨(.slice 2), 1, 24⟩ := rfl
@[go_sem] theorem tab_36 : tab 36 = some ⟨(.slice 4), 1, 24⟩ := rfl
@[go_sem] theorem tab_37 : tab 37 = some ⟨(.struct [(0, 35), (1, 36), (2, 4)]), 3, 56⟩ := rfl
@[go_sem] theorem tab_38 : tab 38 = some ⟨(.struct [(0, 35), (1, 36), (2, 4)]), 3, 56⟩ := rfl
@[go_sem] theorem tab_40 : tab 40 = some ⟨.func, 1, 8⟩ := rfl
@[go_sem] theorem tab_42 : tab 42 = some ⟨.func, 1, 8⟩ := rfl
@[go_sem] theorem tab_43 : tab 43 = some ⟨.func, 1, 8⟩ := rfl
@[go_sem] theorem tab_44 : tab 44 = some ⟨.func, 1, 8⟩ := rfl
@[go_sem] theorem tab_45 : tab 45 = some ⟨.func, 1, 8⟩ := rfl
@[go_sem] theorem tab_47 : tab 47 = some ⟨.func, 1, 8⟩ := rfl
@[go_sem] theorem tab_49 : tab 49 = some ⟨.func, 1, 8⟩ := rfl
@[go_sem] theorem tab_50 : tab 50 = some ⟨(.struct [(0, 2), (1, 2)]), 2, 16⟩ := rfl
@[go_sem] theorem tab_51 : tab 51 = some ⟨(.struct [(0, 2), (1, 2)]), 2, 16⟩ := rfl
@[go_sem] theorem tab_52 : tab 52 = some ⟨.func, 1, 8⟩ := rfl
@[go_sem] theorem tab_53 : tab 53 = some ⟨(.slice 149), 1, 24⟩ := rfl
@[go_sem] theorem tab_54 : tab 54 = some ⟨(.struct [(0, 53), (1, 53), (2, 53), (3, 53), (4, 53)]), 5, 120⟩ := rfl
@[go_sem] theorem tab_55 : tab 55 = some ⟨(.struct [(0, 53), (1, 53), (2, 53), (3, 53), (4, 53)]), 5, 120⟩ := rfl
@[go_sem] theorem tab_56 : tab 56 = some ⟨.func, 1, 8⟩ := rfl
@[go_sem] theorem tab_57 : tab 57 = some ⟨.func, 1, 8⟩ := rfl
@[go_sem] theorem tab_58 : tab 58 = some ⟨.func, 1, 8⟩ := rfl
@[go_sem] theorem tab_59 : tab 59 = some ⟨.func, 1, 8⟩ := rfl
@[go_sem] theorem tab_60 : tab 60 = some ⟨(.struct [(0, 35), (1, 36), (2, 4)]), 3, 56⟩ := rfl
@[go_sem] theorem tab_61 : tab 61 = some ⟨(.struct [(0, 2), (1, 2)]), 2, 16⟩ := rfl
@[go_sem] theorem tab_62 : tab 62 = some ⟨.func, 1, 8⟩ := rfl
@[go_sem] theorem tab_63 : tab 63 = some ⟨.func, 1, 8⟩ := rfl
@[go_sem] theorem tab_64 : tab 64 = some ⟨.func, 1, 8⟩ := rfl
@[go_sem] theorem tab_65 : tab 65 = some ⟨.func, 1, 8⟩ := rfl
@[go_sem] theorem tab_66 : tab 66 = some ⟨.func, 1, 8⟩ := rfl
@[go_sem] theorem tab_67 : tab 67 = some ⟨.func, 1, 8⟩ := rfl
@[go_sem] theorem tab_68 : tab 68 = some ⟨.func, 1, 8⟩ := rfl
@[go_sem] theorem tab_69 : tab 69 = some ⟨.func, 1, 8⟩ := rfl
@[go_sem] theorem tab_70 : tab 70 = some ⟨.func, 1, 8⟩ := rfl
@[go_sem] theorem tab_71 : tab 71 = some ⟨.func, 1, 8⟩ := rfl
@[go_sem] theorem tab_72 : tab 72 = some ⟨(.arr 4 2), 4, 32⟩ := rfl
@[go_sem] theorem tab_73 : tab 73 = some ⟨(.ptr 129), 1, 8⟩ := rfl
@[go_sem] theorem tab_74 : tab 74 = some ⟨.func, 1, 8⟩ := rfl
@[go_sem] theorem tab_75 : tab 75 = some ⟨.func, 1, 8⟩ := rfl
@[go_sem] theorem tab_76 : tab 76 = some ⟨.func, 1, 8⟩ := rfl
@[go_sem] theorem tab_77 : tab 77 = some ⟨(.slice 38), 1, 24⟩ := rfl
@[go_sem] theorem tab_79 : tab 79 = some ⟨.func, 1, 8⟩ := rfl
@[go_sem] theorem tab_80 : tab 80 = some ⟨.func, 1, 8⟩ := rfl
@[go_sem] theorem tab_81 : tab 81 = some ⟨.func, 1, 8⟩ := rfl
@[go_sem] theorem tab_82 : tab 82 = some ⟨.func, 1, 8⟩ := rfl
@[go_sem] theorem tab_83 : tab 83 = some ⟨.func, 1, 8⟩ := rfl
@[go_sem] theorem tab_85 : tab 85 = some ⟨.func, 1, 8⟩ := rfl
@[go_sem] theorem tab_86 : tab 86 = some ⟨.func, 1, 8⟩ := rfl
@[go_sem] theorem tab_87 : tab 87 = some ⟨.func, 1, 8⟩ := rfl
@[go_sem] theorem tab_88 : tab 88 = some ⟨.func, 1, 8⟩ := rfl
@[go_sem] theorem tab_89 : tab 89 = some ⟨.func, 1, 8⟩ := rfl
@[go_sem] theorem tab_90 : tab 90 = some ⟨(.slice 92), 1, 24⟩ := rfl
@[go_sem] theorem tab_91 : tab 91 = some ⟨.func, 1, 8⟩ := rfl
@[go_sem] theorem tab_92 : tab 92 = some ⟨(.ptr 25), 1, 8⟩ := rfl
@[go_sem] theorem tab_93 : tab 93 = some ⟨.func, 1, 8⟩ := rfl
@[go_sem] theorem tab_94 : tab 94 = some ⟨(.struct [(0, 2), (1, 2), (2, 4)]), 3, 24⟩ := rfl
@[go_sem] theorem tab_95 : tab 95 = some ⟨(.struct [(0, 2), (1, 2), (2, 4)]), 3, 24⟩ := rfl
@[go_sem] theorem tab_96 : tab 96 = some ⟨.func, 1, 8⟩ := rfl
@[go_sem] theorem tab_97 : tab 97 = some ⟨(.arr 3 25), 3, 72⟩ := rfl
@[go_sem] theorem tab_98 : tab 98 = some ⟨(.slice 25), 1, 24⟩ := rfl
@[go_sem] theorem tab_99 : tab 99 = some ⟨.func, 1, 8⟩ := rfl
@[go_sem] theorem tab_100 : tab 100 = some ⟨(.ptr 27), 1, 8⟩ := rfl
@[go_sem] theorem tab_102 : tab 102 = some ⟨.func, 1, 8⟩ := rfl
@[go_sem] theorem tab_103 : tab 103 = some ⟨.func, 1, 8⟩ := rfl
@[go_sem] theorem tab_104 : tab 104 = some ⟨.func, 1, 8⟩ := rfl
@[go_sem] theorem tab_105 : tab 105 = some ⟨.func, 1, 8⟩ := rfl
@[go_sem] theorem tab_106 : tab 106 = some ⟨.func, 1, 8⟩ := rfl
@[go_sem] theorem tab_107 : tab 107 = some ⟨(.slice 114), 1, 24⟩ := rfl
@[go_sem] theorem tab_109 : tab 109 = some ⟨.func, 1, 8⟩ := rfl
@[go_sem] theorem tab_110 : tab 110 = some ⟨.func, 1, 8⟩ := rfl
@[go_sem] theorem tab_111 : tab 111 = some ⟨.func, 1, 8⟩ := rfl
@[go_sem] theorem tab_112 : tab 112 = some ⟨(.ptr 38), 1, 8⟩ := rfl
@[go_sem] theorem tab_113 : tab 113 = some ⟨(.struct [(0, 38), (3, 3), (4, 51)]), 6, 80⟩ := rfl
@[go_sem] theorem tab_114 : tab 114 = some ⟨(.struct [(0, 38), (3, 3), (4, 51)]), 6, 80⟩ := rfl
@[go_sem] theorem tab_115 : tab 115 = some ⟨.func, 1, 8⟩ := rfl
@[go_sem] theorem tab_116 : tab 116 = some ⟨.func, 1, 8⟩ := rfl
@[go_sem] theorem tab_117 : tab 117 = some ⟨.func, 1, 8⟩ := rfl
@[go_sem] theorem tab_118 : tab 118 = some ⟨.func, 1, 8⟩ := rfl
@[go_sem] theorem tab_120 : tab 120 = some ⟨.func, 1, 8⟩ := rfl
@[go_sem] theorem tab_121 : tab 121 = some ⟨.func, 1, 8⟩ := rfl
@[go_sem] theorem tab_122 : tab 122 = some ⟨.func, 1, 8⟩ := rfl
@[go_sem] theorem tab_123 : tab 123 = some ⟨.func, 1, 8⟩ := rfl
@[go_sem] theorem tab_124 : tab 124 = some ⟨.func, 1, 8⟩ := rfl
@[go_sem] theorem tab_125 : tab 125 = some ⟨.func, 1, 8⟩ := rfl
@[go_sem] theorem tab_126 : tab 126 = some ⟨.func, 1, 8⟩ := rfl
@[go_sem] theorem tab_127 : tab 127 = some ⟨(.int .u64), 1, 8⟩ := rfl
@[go_sem] theorem tab_128 : tab 128 = some ⟨(.struct [(0, 22), (1, 3), (2, 127)]), 3, 40⟩ := rfl
@[go_sem] theorem tab_129 : tab 129 = some ⟨(.struct [(0, 22), (1, 3), (2, 127)]), 3, 40⟩ := rfl
@[go_sem] theorem tab_130 : tab 130 = some ⟨.func, 1, 8⟩ := rfl
@[go_sem] theorem tab_131 : tab 131 = some ⟨(.struct [(0, 38), (3, 29)]), 4, 80⟩ := rfl
@[go_sem] theorem tab_132 : tab 132 = some ⟨(.struct [(0, 38), (3, 29)]), 4, 80⟩ := rfl
@[go_sem] theorem tab_133 : tab 133 = some ⟨(.slice 132), 1, 24⟩ := rfl
@[go_sem] theorem tab_134 : tab 134 = some ⟨.func, 1, 8⟩ := rfl
@[go_sem] theorem tab_135 : tab 135 = some ⟨(.map 9 4), 1, 8⟩ := rfl
@[go_sem] theorem tab_136 : tab 136 = some ⟨.func, 1, 8⟩ := rfl
@[go_sem] theorem tab_137 : tab 137 = some ⟨.func, 1, 8⟩ := rfl
@[go_sem] theorem tab_138 : tab 138 = some ⟨.func, 1, 8⟩ := rfl
@[go_sem] theorem tab_139 : tab 139 = some ⟨.func, 1, 8⟩ := rfl
@[go_sem] theorem tab_140 : tab 140 = some ⟨.func, 1, 8⟩ := rfl
@[go_sem] theorem tab_141 : tab 141 = some ⟨.func, 1, 8⟩ := rfl
@[go_sem] theorem tab_142 : tab 142 = some ⟨.func, 1, 8⟩ := rfl
@[go_sem] theorem tab_143 : tab 143 = some ⟨.func, 1, 8⟩ := rfl
@[go_sem] theorem tab_144 : tab 144 = some ⟨.func, 1, 8⟩ := rfl
@[go_sem] theorem tab_145 : tab 145 = some ⟨.func, 1, 8⟩ := rfl
@[go_sem] theorem tab_146 : tab 146 = some ⟨.func, 1, 8⟩ := rfl
@[go_sem] theorem tab_147 : tab 147 = some ⟨.func, 1, 8⟩ := rfl
@[go_sem] theorem tab_148 : tab 148 = some ⟨.func, 1, 8⟩ := rfl
@[go_sem] theorem tab_149 : tab 149 = some ⟨(.struct [(0, 2), (1, 2), (2, 4)]), 3, 24⟩ := rfl
@[go_sem] theorem tab_150 : tab 150 = some ⟨.func, 1, 8⟩ := rfl
@[go_sem] theorem tab_151 : tab 151 = some ⟨.func, 1, 8⟩ := rfl
@[go_sem] theorem tab_152 : tab 152 = some ⟨.func, 1, 8⟩ := rfl
@[go_sem] theorem tab_153 : tab 153 = some ⟨(.int .u64), 1, 8⟩ := rfl
@[go_sem] theorem tab_154 : tab 154 = some ⟨(.ptr 156), 1, 8⟩ := rfl
@[go_sem] theorem tab_155 : tab 155 = some ⟨(.struct [(0, 154), (1, 22)]), 2, 32⟩ := rfl
@[go_sem] theorem tab_156 : tab 156 = some ⟨(.struct [(0, 154), (1, 22)]), 2, 32⟩ := rfl
@[go_sem] theorem tab_158 : tab 158 = some ⟨.err, 1, 16⟩ := rfl
@[go_sem] theorem tab_159 : tab 159 = some ⟨.func, 1, 8⟩ := rfl
@[go_sem] theorem tab_160 : tab 160 = some ⟨.func, 1, 8⟩ := rfl
@[go_sem] theorem tab_161 : tab 161 = some ⟨.func, 1, 8⟩ := rfl
@[go_sem] theorem tab_162 : tab 162 = some ⟨.func, 1, 8⟩ := rfl
@[go_sem] theorem tab_163 : tab 163 = some ⟨(.ptr 5), 1, 8⟩ := rfl
@[go_sem] theorem tab_165 : tab 165 = some ⟨.func, 1, 8⟩ := rfl
@[go_sem] theorem tab_166 : tab 166 = some ⟨(.struct [(0, 17), (1, 17), (2, 17), (3, 9)]), 4, 40⟩ := rfl
@[go_sem] theorem tab_167 : tab 167 = some ⟨(.struct [(0, 17), (1, 17), (2, 17), (3, 9)]), 4, 40⟩ := rfl
@[go_sem] theorem tab_168 : tab 168 = some ⟨(.arr 0 16), 0, 0⟩ := rfl
@[go_sem] theorem tab_169 : tab 169 = some ⟨(.struct [(0, 168)]), 0, 0⟩ := rfl
@[go_sem] theorem tab_170 : tab 170 = some ⟨(.struct [(0, 168)]), 0, 0⟩ := rfl
@[go_sem] theorem tab_171 : tab 171 = some ⟨.func, 1, 8⟩ := rfl
@[go_sem] theorem tab_172 : tab 172 = some ⟨(.int .u32), 1, 4⟩ := rfl
@[go_sem] theorem tab_173 : tab 173 = some ⟨(.int .u8), 1, 1⟩ := rfl
@[go_sem] theorem tab_174 : tab 174 = some ⟨(.int .u8), 1, 1⟩ := rfl
@[go_sem] theorem tab_175 : tab 175 = some ⟨.func, 1, 8⟩ := rfl
@[go_sem] theorem tab_176 : tab 176 = some ⟨(.int .i32), 1, 4⟩ := rfl
@[go_sem] theorem tab_177 : tab 177 = some ⟨(.int .i32), 1, 4⟩ := rfl
@[go_sem] theorem tab_178 : tab 178 = some ⟨(.struct [(0, 12), (1, 12), (2, 172), (3, 173), (4, 5), (5, 5), (6, 174), (7, 175), (8, 163), (9, 176), (10, 177)]), 11, 48⟩ := rfl
@[go_sem] theorem tab_179 : tab 179 = some ⟨(.struct [(0, 12), (1, 12), (2, 172), (3, 173), (4, 5), (5, 5), (6, 174), (7, 175), (8, 163), (9, 176), (10, 177)]), 11, 48⟩ := rfl
@[go_sem] theorem ty_2 : tyOf 2 = some (.int .i64) := rfl
@[go_sem] theorem ty_3 : tyOf 3 = some (.int .i64) := rfl
@[go_sem] theorem ty_4 : tyOf 4 = some .bool := rfl
@[go_sem] theorem ty_5 : tyOf 5 = some (.int .u8) := rfl
@[go_sem] theorem ty_6 : tyOf 6 = some (.int .u8) := rfl
@[go_sem] theorem ty_9 : tyOf 9 = some .str := rfl
@[go_sem] theorem ty_10 : tyOf 10 = some .str := rfl
@[go_sem] theorem ty_11 : tyOf 11 = some .str := rfl
@[go_sem] theorem ty_12 : tyOf 12 = some (.int .u64) := rfl
@[go_sem] theorem ty_21 : tyOf 21 = some (.int .i32) := rfl
@[go_sem] theorem ty_22 : tyOf 22 = some (.slice (.int .u8)) := rfl
@[go_sem] theorem ty_25 : tyOf 25 = some (.slice (.agg (.cons (.int .i64) (.cons (.int .i64) (.cons .bool .nil))))) := rfl
@[go_sem] theorem ty_26 : tyOf 26 = some (.agg (.cons (.slice (.agg (.cons (.int .i64) (.cons (.int .i64) (.cons .bool .nil))))) (.cons (.slice (.agg (.cons (.int .i64) (.cons (.int .i64) (.cons .bool .nil))))) (.cons (.slice (.agg (.cons (.int .i64) (.cons (.int .i64) (.cons .bool .nil))))) (.cons (.slice (.agg (.cons (.int .i64) (.cons (.int .i64) (.cons .bool .nil))))) (.cons (.slice (.agg (.cons (.int .i64) (.cons (.int .i64) (.cons .bool .nil))))) .nil)))))) := rfl
@[go_sem] theorem ty_27 : tyOf 27 = some (.agg (.cons (.slice (.agg (.cons (.int .i64) (.cons (.int .i64) (.cons .bool .nil))))) (.cons (.slice (.agg (.cons (.int .i64) (.cons (.int .i64) (.cons .bool .nil))))) (.cons (.slice (.agg (.cons (.int .i64) (.cons (.int .i64) (.cons .bool .nil))))) (.cons (.slice (.agg (.cons (.int .i64) (.cons (.int .i64) (.cons .bool .nil))))) (.cons (.slice (.agg (.cons (.int .i64) (.cons (.int .i64) (.cons .bool .nil))))) .nil)))))) := rfl
@[go_sem] theorem ty_29 : tyOf 29 = some (.slice (.agg (.cons (.int .i64) (.cons (.int .i64) .nil)))) := rfl
@[go_sem] theorem ty_35 : tyOf 35 = some (.slice (.int .i64)) := rfl
@[go_sem] theorem ty_36 : tyOf 36 = some (.slice .bool) := rfl
@[go_sem] theorem ty_37 : tyOf 37 = some (.agg (.cons (.slice (.int .i64)) (.cons (.slice .bool) (.cons .bool .nil)))) := rfl
@[go_sem] theorem ty_38 : tyOf 38 = some (.agg (.cons (.slice (.int .i64)) (.cons (.slice .bool) (.cons .bool .nil)))) := rfl
@[go_sem] theorem ty_50 : tyOf 50 = some (.agg (.cons (.int .i64) (.cons (.int .i64) .nil))) := rfl
@[go_sem] theorem ty_51 : tyOf 51 = some (.agg (.cons (.int .i64) (.cons (.int .i64) .nil))) := rfl
@[go_sem] theorem ty_53 : tyOf 53 = some (.slice (.agg (.cons (.int .i64) (.cons (.int .i64) (.cons .bool .nil))))) := rfl
@[go_sem] theorem ty_54 : tyOf 54 = some (.agg (.cons (.slice (.agg (.cons (.int .i64) (.cons (.int .i64) (.cons .bool .nil))))) (.cons (.slice (.agg (.cons (.int .i64) (.cons (.int .i64) (.cons .bool .nil))))) (.cons (.slice (.agg (.cons (.int .i64) (.cons (.int .i64) (.cons .bool .nil))))) (.cons (.slice (.agg (.cons (.int .i64) (.cons (.int .i64) (.cons .bool .nil))))) (.cons (.slice (.agg (.cons (.int .i64) (.cons (.int .i64) (.cons .bool .nil))))) .nil)))))) := rfl
@[go_sem] theorem ty_55 : tyOf 55 = some (.agg (.cons (.slice (.agg (.cons (.int .i64) (.cons (.int .i64) (.cons .bool .nil))))) (.cons (.slice (.agg (.cons (.int .i64) (.cons (.int .i64) (.cons .bool .nil))))) (.cons (.slice (.agg (.cons (.int .i64) (.cons (.int .i64) (.cons .bool .nil))))) (.cons (.slice (.agg (.cons (.int .i64) (.cons (.int .i64) (.cons .bool .nil))))) (.cons (.slice (.agg (.cons (.int .i64) (.cons (.int .i64) (.cons .bool .nil))))) .nil)))))) := rfl
@[go_sem] theorem ty_60 : tyOf 60 = some (.agg (.cons (.slice (.int .i64)) (.cons (.slice .bool) (.cons .bool .nil)))) := rfl
@[go_sem] theorem ty_61 : tyOf 61 = some (.agg (.cons (.int .i64) (.cons (.int .i64) .nil))) := rfl
@[go_sem] theorem ty_72 : tyOf 72 = some (.agg (.cons (.int .i64) (.cons (.int .i64) (.cons (.int .i64) (.cons (.int .i64) .nil))))) := rfl
@[go_sem] theorem ty_77 : tyOf 77 = some (.slice (.agg (.cons (.slice (.int .i64)) (.cons (.slice .bool) (.cons .bool .nil))))) := rfl
@[go_sem] theorem ty_94 : tyOf 94 = some (.agg (.cons (.int .i64) (.cons (.int .i64) (.cons .bool .nil)))) := rfl
@[go_sem] theorem ty_95 : tyOf 95 = some (.agg (.cons (.int .i64) (.cons (.int .i64) (.cons .bool .nil)))) := rfl
@[go_sem] theorem ty_97 : tyOf 97 = some (.agg (.cons (.slice (.agg (.cons (.int .i64) (.cons (.int .i64) (.cons .bool .nil))))) (.cons (.slice (.agg (.cons (.int .i64) (.cons (.int .i64) (.cons .bool .nil))))) (.cons (.slice (.agg (.cons (.int .i64) (.cons (.int .i64) (.cons .bool .nil))))) .nil)))) := rfl
@[go_sem] theorem ty_98 : tyOf 98 = some (.slice (.slice (.agg (.cons (.int .i64) (.cons (.int .i64) (.cons .bool .nil)))))) := rfl
@[go_sem] theorem ty_107 : tyOf 107 = some (.slice (.agg (.cons (.agg (.cons (.slice (.int .i64)) (.cons (.slice .bool) (.cons .bool .nil)))) (.cons (.int .i64) (.cons (.agg (.cons (.int .i64) (.cons (.int .i64) .nil))) .nil))))) := rfl
@[go_sem] theorem ty_113 : tyOf 113 = some (.agg (.cons (.agg (.cons (.slice (.int .i64)) (.cons (.slice .bool) (.cons .bool .nil)))) (.cons (.int .i64) (.cons (.agg (.cons (.int .i64) (.cons (.int .i64) .nil))) .nil)))) := rfl
@[go_sem] theorem ty_114 : tyOf 114 = some (.agg (.cons (.agg (.cons (.slice (.int .i64)) (.cons (.slice .bool) (.cons .bool .nil)))) (.cons (.int .i64) (.cons (.agg (.cons (.int .i64) (.cons (.int .i64) .nil))) .nil)))) := rfl
@[go_sem] theorem ty_127 : tyOf 127 = some (.int .u64) := rfl
@[go_sem] theorem ty_128 : tyOf 128 = some (.agg (.cons (.slice (.int .u8)) (.cons (.int .i64) (.cons (.int .u64) .nil)))) := rfl
@[go_sem] theorem ty_129 : tyOf 129 = some (.agg (.cons (.slice (.int .u8)) (.cons (.int .i64) (.cons (.int .u64) .nil)))) := rfl
@[go_sem] theorem ty_131 : tyOf 131 = some (.agg (.cons (.agg (.cons (.slice (.int .i64)) (.cons (.slice .bool) (.cons .bool .nil)))) (.cons (.slice (.agg (.cons (.int .i64) (.cons (.int .i64) .nil)))) .nil))) := rfl
@[go_sem] theorem ty_132 : tyOf 132 = some (.agg (.cons (.agg (.cons (.slice (.int .i64)) (.cons (.slice .bool) (.cons .bool .nil)))) (.cons (.slice (.agg (.cons (.int .i64) (.cons (.int .i64) .nil)))) .nil))) := rfl
@[go_sem] theorem ty_133 : tyOf 133 = some (.slice (.agg (.cons (.agg (.cons (.slice (.int .i64)) (.cons (.slice .bool) (.cons .bool .nil)))) (.cons (.slice (.agg (.cons (.int .i64) (.cons (.int .i64) .nil)))) .nil)))) := rfl
@[go_sem] theorem ty_149 : tyOf 149 = some (.agg (.cons (.int .i64) (.cons (.int .i64) (.cons .bool .nil)))) := rfl
@[go_sem] theorem ty_153 : tyOf 153 = some (.int .u64) := rfl
@[go_sem] theorem ty_158 : tyOf 158 = some .err := rfl
@[go_sem] theorem ty_172 : tyOf 172 = some (.int .u32) := rfl
@[go_sem] theorem ty_173 : tyOf 173 = some (.int .u8) := rfl
@[go_sem] theorem ty_174 : tyOf 174 = some (.int .u8) := rfl
@[go_sem] theorem ty_176 : tyOf 176 = some (.int .i32) := rfl
@[go_sem] theorem ty_177 : tyOf 177 = some (.int .i32) := rfl
def byL : List (Nat × List Nat) := [(35, [0]), (36, [0]), (40, [0]), (44, [0]), (52, [0]), (61, [0]), (70, [0]), (83, [0]), (84, [0]), (85, [0]), (90, [0]), (96, [0]), (97, [0]), (113, [1]), (115, [0]), (116, [0])]
def by_ (g : Nat) : List Nat := (lookT byL g).getD []
set_option maxRecDepth 100000 in
theorem tabOK (c : CallF) : TabOK Try.prog ⟨tab, tyOf, by_, c⟩ := tabOK_of (by kernel_rfl) (by kernel_rfl)
end Go.Proofs.Ythmnlokdikomkaa.PI
