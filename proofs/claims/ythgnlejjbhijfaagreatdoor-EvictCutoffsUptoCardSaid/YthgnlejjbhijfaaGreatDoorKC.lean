/- An abstract machine over the model, and contracts of functions of this program on it (part 3): words and lemmas for the proof in the last text. -/
import Derived.Test.YthgnlejjbhijfaaGreatDoorProg
import Derived.Test.YthgnlejjbhijfaaGreatDoorChecked
import Derived.Lib.Bytealg
import Derived.Lib.Walk
import Derived.Lib.Strings
import Derived.Test.YthgnlejjbhijfaaGreatDoorKB
set_option linter.unusedVariables false
set_option linter.unusedSimpArgs false

namespace Go.Aw.Try
open Go Go.Proofs Go.Aw
set_option maxRecDepth 100000
set_option maxHeartbeats 4000000
def tt : TT := [
  (1, ⟨.func, 1, 8, [.nilFunc], false, false⟩),
  (2, ⟨.int .i64, 1, 8, [.int .i64 0], false, false⟩),
  (3, ⟨.int .i64, 1, 8, [.int .i64 0], false, false⟩),
  (4, ⟨.bool, 1, 1, [.bool false], false, false⟩),
  (5, ⟨.int .u8, 1, 1, [.int .u8 0], false, false⟩),
  (6, ⟨.int .u8, 1, 1, [.int .u8 0], false, false⟩),
  (7, ⟨.st [(0, 2), (1, 3), (2, 4), (3, 6)], 4, 24, [.int .i64 0, .int .i64 0, .bool false, .int .u8 0], true, true⟩),
  (8, ⟨.st [(0, 2), (1, 3), (2, 4), (3, 6)], 4, 24, [.int .i64 0, .int .i64 0, .bool false, .int .u8 0], true, true⟩),
  (9, ⟨.str, 1, 16, [.string ⟨#[]⟩], false, false⟩),
  (10, ⟨.str, 1, 16, [.string ⟨#[]⟩], false, false⟩),
  (11, ⟨.str, 1, 16, [.string ⟨#[]⟩], false, false⟩),
  (12, ⟨.int .u64, 1, 8, [.int .u64 0], false, false⟩),
  (15, ⟨.ptr, 1, 8, [.pointer none], false, false⟩),
  (16, ⟨.ptr, 1, 8, [.pointer none], false, false⟩),
  (17, ⟨.ptr, 1, 8, [.pointer none], false, false⟩),
  (18, ⟨.st [(0, 17)], 1, 8, [.pointer none], true, false⟩),
  (19, ⟨.st [(0, 17)], 1, 8, [.pointer none], true, false⟩),
  (20, ⟨.iface, 1, 16, [.nilIface], false, false⟩),
  (21, ⟨.int .i32, 1, 4, [.int .i32 0], false, false⟩),
  (22, ⟨.sl 43, 1, 24, [.slice none 0 0], false, false⟩),
  (23, ⟨.sl 34, 1, 24, [.slice none 0 0], false, false⟩),
  (24, ⟨.func, 1, 8, [.nilFunc], false, false⟩),
  (25, ⟨.func, 1, 8, [.nilFunc], false, false⟩),
  (26, ⟨.func, 1, 8, [.nilFunc], false, false⟩),
  (27, ⟨.sl 32, 1, 24, [.slice none 0 0], false, false⟩),
  (28, ⟨.func, 1, 8, [.nilFunc], false, false⟩),
  (29, ⟨.func, 1, 8, [.nilFunc], false, false⟩),
  (30, ⟨.int .i64, 1, 8, [.int .i64 0], false, false⟩),
  (31, ⟨.st [(0, 9), (1, 3), (2, 30)], 3, 32, [.string ⟨#[]⟩, .int .i64 0, .int .i64 0], true, true⟩),
  (32, ⟨.st [(0, 9), (1, 3), (2, 30)], 3, 32, [.string ⟨#[]⟩, .int .i64 0, .int .i64 0], true, true⟩),
  (33, ⟨.st [(0, 9), (1, 9)], 2, 32, [.string ⟨#[]⟩, .string ⟨#[]⟩], true, true⟩),
  (34, ⟨.st [(0, 9), (1, 9)], 2, 32, [.string ⟨#[]⟩, .string ⟨#[]⟩], true, true⟩),
  (36, ⟨.func, 1, 8, [.nilFunc], false, false⟩),
  (37, ⟨.st [(0, 9), (1, 3)], 2, 24, [.string ⟨#[]⟩, .int .i64 0], true, true⟩),
  (38, ⟨.st [(0, 9), (1, 3)], 2, 24, [.string ⟨#[]⟩, .int .i64 0], true, true⟩),
  (39, ⟨.sl 38, 1, 24, [.slice none 0 0], false, false⟩),
  (40, ⟨.st [(0, 4), (1, 9), (2, 9)], 3, 40, [.bool false, .string ⟨#[]⟩, .string ⟨#[]⟩], true, true⟩),
  (41, ⟨.st [(0, 4), (1, 9), (2, 9)], 3, 40, [.bool false, .string ⟨#[]⟩, .string ⟨#[]⟩], true, true⟩),
  (42, ⟨.st [(0, 38), (2, 3), (3, 3), (4, 39), (5, 3), (6, 38), (8, 38), (10, 41), (13, 9), (14, 9), (15, 38), (17, 9)], 18, 232, [.string ⟨#[]⟩, .int .i64 0, .int .i64 0, .int .i64 0, .slice none 0 0, .int .i64 0, .string ⟨#[]⟩, .int .i64 0, .string ⟨#[]⟩, .int .i64 0, .bool false, .string ⟨#[]⟩, .string ⟨#[]⟩, .string ⟨#[]⟩, .string ⟨#[]⟩, .string ⟨#[]⟩, .int .i64 0, .string ⟨#[]⟩], true, false⟩),
  (43, ⟨.st [(0, 38), (2, 3), (3, 3), (4, 39), (5, 3), (6, 38), (8, 38), (10, 41), (13, 9), (14, 9), (15, 38), (17, 9)], 18, 232, [.string ⟨#[]⟩, .int .i64 0, .int .i64 0, .int .i64 0, .slice none 0 0, .int .i64 0, .string ⟨#[]⟩, .int .i64 0, .string ⟨#[]⟩, .int .i64 0, .bool false, .string ⟨#[]⟩, .string ⟨#[]⟩, .string ⟨#[]⟩, .string ⟨#[]⟩, .string ⟨#[]⟩, .int .i64 0, .string ⟨#[]⟩], true, false⟩),
  (44, ⟨.func, 1, 8, [.nilFunc], false, false⟩),
  (45, ⟨.func, 1, 8, [.nilFunc], false, false⟩),
  (46, ⟨.func, 1, 8, [.nilFunc], false, false⟩),
  (47, ⟨.func, 1, 8, [.nilFunc], false, false⟩),
  (48, ⟨.func, 1, 8, [.nilFunc], false, false⟩),
  (49, ⟨.func, 1, 8, [.nilFunc], false, false⟩),
  (50, ⟨.map 9 3, 1, 8, [.map none], false, false⟩),
  (51, ⟨.func, 1, 8, [.nilFunc], false, false⟩),
  (52, ⟨.func, 1, 8, [.nilFunc], false, false⟩),
  (53, ⟨.func, 1, 8, [.nilFunc], false, false⟩),
  (54, ⟨.map 9 39, 1, 8, [.map none], false, false⟩),
  (55, ⟨.func, 1, 8, [.nilFunc], false, false⟩),
  (56, ⟨.func, 1, 8, [.nilFunc], false, false⟩),
  (57, ⟨.func, 1, 8, [.nilFunc], false, false⟩),
  (58, ⟨.func, 1, 8, [.nilFunc], false, false⟩),
  (59, ⟨.func, 1, 8, [.nilFunc], false, false⟩),
  (60, ⟨.ptr, 1, 8, [.pointer none], false, false⟩),
  (61, ⟨.func, 1, 8, [.nilFunc], false, false⟩),
  (62, ⟨.sl 65, 1, 24, [.slice none 0 0], false, false⟩),
  (63, ⟨.func, 1, 8, [.nilFunc], false, false⟩),
  (64, ⟨.func, 1, 8, [.nilFunc], false, false⟩),
  (65, ⟨.sl 9, 1, 24, [.slice none 0 0], false, false⟩),
  (66, ⟨.func, 1, 8, [.nilFunc], false, false⟩),
  (67, ⟨.func, 1, 8, [.nilFunc], false, false⟩),
  (68, ⟨.func, 1, 8, [.nilFunc], false, false⟩),
  (69, ⟨.func, 1, 8, [.nilFunc], false, false⟩),
  (71, ⟨.func, 1, 8, [.nilFunc], false, false⟩),
  (73, ⟨.func, 1, 8, [.nilFunc], false, false⟩),
  (74, ⟨.func, 1, 8, [.nilFunc], false, false⟩),
  (75, ⟨.func, 1, 8, [.nilFunc], false, false⟩),
  (76, ⟨.func, 1, 8, [.nilFunc], false, false⟩),
  (77, ⟨.func, 1, 8, [.nilFunc], false, false⟩),
  (78, ⟨.func, 1, 8, [.nilFunc], false, false⟩),
  (79, ⟨.func, 1, 8, [.nilFunc], false, false⟩),
  (80, ⟨.func, 1, 8, [.nilFunc], false, false⟩),
  (81, ⟨.sl 3, 1, 24, [.slice none 0 0], false, false⟩),
  (83, ⟨.func, 1, 8, [.nilFunc], false, false⟩),
  (84, ⟨.func, 1, 8, [.nilFunc], false, false⟩),
  (85, ⟨.func, 1, 8, [.nilFunc], false, false⟩),
  (86, ⟨.func, 1, 8, [.nilFunc], false, false⟩),
  (87, ⟨.sl 95, 1, 24, [.slice none 0 0], false, false⟩),
  (88, ⟨.st [(0, 65), (1, 22), (2, 87)], 3, 72, [.slice none 0 0, .slice none 0 0, .slice none 0 0], true, false⟩),
  (89, ⟨.st [(0, 65), (1, 22), (2, 87)], 3, 72, [.slice none 0 0, .slice none 0 0, .slice none 0 0], true, false⟩),
  (90, ⟨.map 9 65, 1, 8, [.map none], false, false⟩),
  (91, ⟨.func, 1, 8, [.nilFunc], false, false⟩),
  (92, ⟨.func, 1, 8, [.nilFunc], false, false⟩),
  (93, ⟨.func, 1, 8, [.nilFunc], false, false⟩),
  (94, ⟨.st [(0, 43), (18, 65)], 19, 256, [.string ⟨#[]⟩, .int .i64 0, .int .i64 0, .int .i64 0, .slice none 0 0, .int .i64 0, .string ⟨#[]⟩, .int .i64 0, .string ⟨#[]⟩, .int .i64 0, .bool false, .string ⟨#[]⟩, .string ⟨#[]⟩, .string ⟨#[]⟩, .string ⟨#[]⟩, .string ⟨#[]⟩, .int .i64 0, .string ⟨#[]⟩, .slice none 0 0], true, false⟩),
  (95, ⟨.st [(0, 43), (18, 65)], 19, 256, [.string ⟨#[]⟩, .int .i64 0, .int .i64 0, .int .i64 0, .slice none 0 0, .int .i64 0, .string ⟨#[]⟩, .int .i64 0, .string ⟨#[]⟩, .int .i64 0, .bool false, .string ⟨#[]⟩, .string ⟨#[]⟩, .string ⟨#[]⟩, .string ⟨#[]⟩, .string ⟨#[]⟩, .int .i64 0, .string ⟨#[]⟩, .slice none 0 0], true, false⟩),
  (96, ⟨.func, 1, 8, [.nilFunc], false, false⟩),
  (97, ⟨.func, 1, 8, [.nilFunc], false, false⟩),
  (98, ⟨.func, 1, 8, [.nilFunc], false, false⟩),
  (99, ⟨.func, 1, 8, [.nilFunc], false, false⟩),
  (100, ⟨.func, 1, 8, [.nilFunc], false, false⟩),
  (101, ⟨.func, 1, 8, [.nilFunc], false, false⟩),
  (102, ⟨.func, 1, 8, [.nilFunc], false, false⟩),
  (103, ⟨.func, 1, 8, [.nilFunc], false, false⟩),
  (104, ⟨.func, 1, 8, [.nilFunc], false, false⟩),
  (105, ⟨.func, 1, 8, [.nilFunc], false, false⟩),
  (106, ⟨.func, 1, 8, [.nilFunc], false, false⟩),
  (107, ⟨.func, 1, 8, [.nilFunc], false, false⟩),
  (108, ⟨.func, 1, 8, [.nilFunc], false, false⟩),
  (109, ⟨.func, 1, 8, [.nilFunc], false, false⟩),
  (110, ⟨.func, 1, 8, [.nilFunc], false, false⟩),
  (111, ⟨.func, 1, 8, [.nilFunc], false, false⟩),
  (112, ⟨.map 9 115, 1, 8, [.map none], false, false⟩),
  (113, ⟨.func, 1, 8, [.nilFunc], false, false⟩),
  (114, ⟨.st [(0, 3), (1, 3), (2, 3)], 3, 24, [.int .i64 0, .int .i64 0, .int .i64 0], true, true⟩),
  (115, ⟨.st [(0, 3), (1, 3), (2, 3)], 3, 24, [.int .i64 0, .int .i64 0, .int .i64 0], true, true⟩),
  (116, ⟨.func, 1, 8, [.nilFunc], false, false⟩),
  (117, ⟨.func, 1, 8, [.nilFunc], false, false⟩),
  (118, ⟨.func, 1, 8, [.nilFunc], false, false⟩),
  (119, ⟨.func, 1, 8, [.nilFunc], false, false⟩),
  (120, ⟨.func, 1, 8, [.nilFunc], false, false⟩),
  (122, ⟨.func, 1, 8, [.nilFunc], false, false⟩),
  (123, ⟨.func, 1, 8, [.nilFunc], false, false⟩),
  (124, ⟨.func, 1, 8, [.nilFunc], false, false⟩),
  (125, ⟨.func, 1, 8, [.nilFunc], false, false⟩),
  (126, ⟨.func, 1, 8, [.nilFunc], false, false⟩),
  (127, ⟨.func, 1, 8, [.nilFunc], false, false⟩),
  (128, ⟨.func, 1, 8, [.nilFunc], false, false⟩),
  (129, ⟨.func, 1, 8, [.nilFunc], false, false⟩),
  (130, ⟨.func, 1, 8, [.nilFunc], false, false⟩),
  (131, ⟨.func, 1, 8, [.nilFunc], false, false⟩),
  (132, ⟨.func, 1, 8, [.nilFunc], false, false⟩),
  (133, ⟨.func, 1, 8, [.nilFunc], false, false⟩),
  (134, ⟨.func, 1, 8, [.nilFunc], false, false⟩),
  (135, ⟨.func, 1, 8, [.nilFunc], false, false⟩),
  (136, ⟨.func, 1, 8, [.nilFunc], false, false⟩),
  (137, ⟨.int .u64, 1, 8, [.int .u64 0], false, false⟩),
  (138, ⟨.func, 1, 8, [.nilFunc], false, false⟩),
  (139, ⟨.func, 1, 8, [.nilFunc], false, false⟩),
  (140, ⟨.func, 1, 8, [.nilFunc], false, false⟩),
  (141, ⟨.func, 1, 8, [.nilFunc], false, false⟩),
  (142, ⟨.func, 1, 8, [.nilFunc], false, false⟩),
  (144, ⟨.func, 1, 8, [.nilFunc], false, false⟩),
  (145, ⟨.func, 1, 8, [.nilFunc], false, false⟩),
  (146, ⟨.func, 1, 8, [.nilFunc], false, false⟩),
  (147, ⟨.func, 1, 8, [.nilFunc], false, false⟩),
  (148, ⟨.func, 1, 8, [.nilFunc], false, false⟩),
  (149, ⟨.func, 1, 8, [.nilFunc], false, false⟩),
  (150, ⟨.func, 1, 8, [.nilFunc], false, false⟩),
  (151, ⟨.func, 1, 8, [.nilFunc], false, false⟩),
  (152, ⟨.func, 1, 8, [.nilFunc], false, false⟩),
  (153, ⟨.func, 1, 8, [.nilFunc], false, false⟩),
  (154, ⟨.func, 1, 8, [.nilFunc], false, false⟩),
  (155, ⟨.int .i64, 1, 8, [.int .i64 0], false, false⟩),
  (157, ⟨.func, 1, 8, [.nilFunc], false, false⟩),
  (158, ⟨.func, 1, 8, [.nilFunc], false, false⟩),
  (159, ⟨.func, 1, 8, [.nilFunc], false, false⟩),
  (160, ⟨.func, 1, 8, [.nilFunc], false, false⟩),
  (161, ⟨.func, 1, 8, [.nilFunc], false, false⟩),
  (162, ⟨.int .u32, 1, 4, [.int .u32 0], false, false⟩),
  (163, ⟨.func, 1, 8, [.nilFunc], false, false⟩),
  (164, ⟨.int .u64, 1, 8, [.int .u64 0], false, false⟩),
  (165, ⟨.func, 1, 8, [.nilFunc], false, false⟩),
  (166, ⟨.func, 1, 8, [.nilFunc], false, false⟩),
  (167, ⟨.func, 1, 8, [.nilFunc], false, false⟩),
  (168, ⟨.func, 1, 8, [.nilFunc], false, false⟩),
  (169, ⟨.func, 1, 8, [.nilFunc], false, false⟩),
  (170, ⟨.func, 1, 8, [.nilFunc], false, false⟩),
  (171, ⟨.int .u64, 1, 8, [.int .u64 0], false, false⟩),
  (172, ⟨.func, 1, 8, [.nilFunc], false, false⟩),
  (173, ⟨.func, 1, 8, [.nilFunc], false, false⟩),
  (174, ⟨.func, 1, 8, [.nilFunc], false, false⟩),
  (175, ⟨.ptr, 1, 8, [.pointer none], false, false⟩),
  (176, ⟨.func, 1, 8, [.nilFunc], false, false⟩),
  (177, ⟨.func, 1, 8, [.nilFunc], false, false⟩),
  (179, ⟨.func, 1, 8, [.nilFunc], false, false⟩),
  (180, ⟨.func, 1, 8, [.nilFunc], false, false⟩),
  (181, ⟨.ptr, 1, 8, [.pointer none], false, false⟩),
  (182, ⟨.func, 1, 8, [.nilFunc], false, false⟩),
  (183, ⟨.func, 1, 8, [.nilFunc], false, false⟩),
  (184, ⟨.arr 256 5, 256, 256, [.int .u8 0, .int .u8 0, .int .u8 0, .int .u8 0, .int .u8 0, .int .u8 0, .int .u8 0, .int .u8 0, .int .u8 0, .int .u8 0, .int .u8 0, .int .u8 0, .int .u8 0, .int .u8 0, .int .u8 0, .int .u8 0, .int .u8 0, .int .u8 0, .int .u8 0, .int .u8 0, .int .u8 0, .int .u8 0, .int .u8 0, .int .u8 0, .int .u8 0, .int .u8 0, .int .u8 0, .int .u8 0, .int .u8 0, .int .u8 0, .int .u8 0, .int .u8 0, .int .u8 0, .int .u8 0, .int .u8 0, .int .u8 0, .int .u8 0, .int .u8 0, .int .u8 0, .int .u8 0, .int .u8 0, .int .u8 0, .int .u8 0, .int .u8 0, .int .u8 0, .int .u8 0, .int .u8 0, .int .u8 0, .int .u8 0, .int .u8 0, .int .u8 0, .int .u8 0, .int .u8 0, .int .u8 0, .int .u8 0, .int .u8 0, .int .u8 0, .int .u8 0, .int .u8 0, .int .u8 0, .int .u8 0, .int .u8 0, .int .u8 0, .int .u8 0, .int .u8 0, .int .u8 0, .int .u8 0, .int .u8 0, .int .u8 0, .int .u8 0, .int .u8 0, .int .u8 0, .int .u8 0, .int .u8 0, .int .u8 0, .int .u8 0, .int .u8 0, .int .u8 0, .int .u8 0, .int .u8 0, .int .u8 0, .int .u8 0, .int .u8 0, .int .u8 0, .int .u8 0, .int .u8 0, .int .u8 0, .int .u8 0, .int .u8 0, .int .u8 0, .int .u8 0, .int .u8 0, .int .u8 0, .int .u8 0, .int .u8 0, .int .u8 0, .int .u8 0, .int .u8 0, .int .u8 0, .int .u8 0, .int .u8 0, .int .u8 0, .int .u8 0, .int .u8 0, .int .u8 0, .int .u8 0, .int .u8 0, .int .u8 0, .int .u8 0, .int .u8 0, .int .u8 0, .int .u8 0, .int .u8 0, .int .u8 0, .int .u8 0, .int .u8 0, .int .u8 0, .int .u8 0, .int .u8 0, .int .u8 0, .int .u8 0, .int .u8 0, .int .u8 0, .int .u8 0, .int .u8 0, .int .u8 0, .int .u8 0, .int .u8 0, .int .u8 0, .int .u8 0, .int .u8 0, .int .u8 0, .int .u8 0, .int .u8 0, .int .u8 0, .int .u8 0, .int .u8 0, .int .u8 0, .int .u8 0, .int .u8 0, .int .u8 0, .int .u8 0, .int .u8 0, .int .u8 0, .int .u8 0, .int .u8 0, .int .u8 0, .int .u8 0, .int .u8 0, .int .u8 0, .int .u8 0, .int .u8 0, .int .u8 0, .int .u8 0, .int .u8 0, .int .u8 0, .int .u8 0, .int .u8 0, .int .u8 0, .int .u8 0, .int .u8 0, .int .u8 0, .int .u8 0, .int .u8 0, .int .u8 0, .int .u8 0, .int .u8 0, .int .u8 0, .int .u8 0, .int .u8 0, .int .u8 0, .int .u8 0, .int .u8 0, .int .u8 0, .int .u8 0, .int .u8 0, .int .u8 0, .int .u8 0, .int .u8 0, .int .u8 0, .int .u8 0, .int .u8 0, .int .u8 0, .int .u8 0, .int .u8 0, .int .u8 0, .int .u8 0, .int .u8 0, .int .u8 0, .int .u8 0, .int .u8 0, .int .u8 0, .int .u8 0, .int .u8 0, .int .u8 0, .int .u8 0, .int .u8 0, .int .u8 0, .int .u8 0, .int .u8 0, .int .u8 0, .int .u8 0, .int .u8 0, .int .u8 0, .int .u8 0, .int .u8 0, .int .u8 0, .int .u8 0, .int .u8 0, .int .u8 0, .int .u8 0, .int .u8 0, .int .u8 0, .int .u8 0, .int .u8 0, .int .u8 0, .int .u8 0, .int .u8 0, .int .u8 0, .int .u8 0, .int .u8 0, .int .u8 0, .int .u8 0, .int .u8 0, .int .u8 0, .int .u8 0, .int .u8 0, .int .u8 0, .int .u8 0, .int .u8 0, .int .u8 0, .int .u8 0, .int .u8 0, .int .u8 0, .int .u8 0, .int .u8 0, .int .u8 0, .int .u8 0, .int .u8 0, .int .u8 0, .int .u8 0, .int .u8 0, .int .u8 0, .int .u8 0, .int .u8 0, .int .u8 0, .int .u8 0, .int .u8 0, .int .u8 0, .int .u8 0, .int .u8 0, .int .u8 0, .int .u8 0, .int .u8 0, .int .u8 0, .int .u8 0], true, false⟩),
  (185, ⟨.st [(0, 5), (1, 5)], 2, 2, [.int .u8 0, .int .u8 0], true, true⟩),
  (186, ⟨.st [(0, 5), (1, 5)], 2, 2, [.int .u8 0, .int .u8 0], true, true⟩),
  (187, ⟨.arr 16 186, 32, 32, [.int .u8 0, .int .u8 0, .int .u8 0, .int .u8 0, .int .u8 0, .int .u8 0, .int .u8 0, .int .u8 0, .int .u8 0, .int .u8 0, .int .u8 0, .int .u8 0, .int .u8 0, .int .u8 0, .int .u8 0, .int .u8 0, .int .u8 0, .int .u8 0, .int .u8 0, .int .u8 0, .int .u8 0, .int .u8 0, .int .u8 0, .int .u8 0, .int .u8 0, .int .u8 0, .int .u8 0, .int .u8 0, .int .u8 0, .int .u8 0, .int .u8 0, .int .u8 0], true, false⟩),
  (189, ⟨.func, 1, 8, [.nilFunc], false, false⟩),
  (190, ⟨.func, 1, 8, [.nilFunc], false, false⟩),
  (193, ⟨.arr 0 16, 0, 0, [], true, false⟩),
  (196, ⟨.func, 1, 8, [.nilFunc], false, false⟩),
  (197, ⟨.int .u8, 1, 1, [.int .u8 0], false, false⟩),
  (198, ⟨.int .u8, 1, 1, [.int .u8 0], false, false⟩),
  (199, ⟨.func, 1, 8, [.nilFunc], false, false⟩),
  (200, ⟨.ptr, 1, 8, [.pointer none], false, false⟩),
  (201, ⟨.int .i32, 1, 4, [.int .i32 0], false, false⟩),
  (202, ⟨.int .i32, 1, 4, [.int .i32 0], false, false⟩)]
theorem tab : tabB Tryz.prog tt = true := by kernel_rfl
/-- voussoir/voussoirlaw46.EvictCutoffs -/
def b503 : AC := (.seq (.region 0 [
    ⟨(some 4), (.mov (.const (.bool false))), none⟩])
  (.seq (.seq (.region 0 [
    ⟨(some 5), (.call 11 []), none⟩,
    ⟨(some 6), (.not (.tmp 5)), none⟩])
  (.cond (.tmp 6) (.seq (.region 0 [
    ⟨(some 4), (.mov (.const (.bool false))), none⟩])
  .ret) .skip))
  (.seq (.seq (.region 0 [
    ⟨(some 7), (.mov (.tmp 0)), none⟩,
    ⟨(some 8), (.mov (.tmp 1)), none⟩,
    ⟨(some 9), (.call 12 [(.tmp 7), (.tmp 8)]), none⟩,
    ⟨(some 10), (.binI .eql .i64 (.tmp 9) (.const (.int .i64 0))), none⟩])
  (.cond (.tmp 10) (.seq (.region 0 [
    ⟨(some 4), (.mov (.const (.bool true))), none⟩])
  .ret) .skip))
  (.seq (.region 0 [
    ⟨(some 11), (.mov (.tmp 0)), none⟩,
    ⟨(some 12), (.mov (.tmp 1)), none⟩,
    ⟨(some 13), (.call 14 [(.tmp 11), (.tmp 12)]), none⟩,
    ⟨(some 14), (.mov (.tmp 0)), none⟩,
    ⟨(some 15), (.mov (.tmp 1)), none⟩,
    ⟨(some 16), (.call 15 [(.tmp 14), (.tmp 15)]), none⟩,
    ⟨(some 17), (.call 13 [(.tmp 13), (.tmp 16)]), none⟩,
    ⟨(some 4), (.mov (.tmp 17)), none⟩])
  .ret))))
def ir503 : AF := ⟨18, [(.tmp 4)], b503⟩
theorem c503 : compF tt Tryz.f3 = some ir503 := by kernel_rfl
def b511_0 : AC := (.region 0 [
    ⟨(some 0), (.mov (.const (.bool false))), none⟩])
def b511_1 : AC := (.region 1 [
    ⟨(some 7), (.bsl 0 1 [(.v (.string ⟨#[]⟩))] 3 [(0, (.const (.string ⟨#[97, 110, 110]⟩))), (1, (.const (.string ⟨#[98, 111, 98]⟩))), (2, (.const (.string ⟨#[99, 105, 100]⟩)))]), none⟩,
    ⟨(some 8), (.call 29 [(.tmp 7)]), none⟩,
    ⟨(some 1), (.mov (.tmp 8)), none⟩])
def b511_2 : AC := (.region 2 [
    ⟨(some 9), (.build [(.v (.string ⟨#[]⟩)), (.v (.int .i64 0))] [(0, (1, (.const (.string ⟨#[97, 110, 110]⟩)))), (1, (1, (.const (.int .i64 1))))]), none⟩,
    ⟨(some 10), (.build [(.v (.string ⟨#[]⟩)), (.v (.int .i64 0))] [(0, (1, (.const (.string ⟨#[98, 111, 98]⟩)))), (1, (1, (.const (.int .i64 1))))]), none⟩,
    ⟨(some 2), (.zero 0 [(.v (.string ⟨#[]⟩)), (.v (.int .i64 0))]), none⟩,
    ⟨(some 3), (.zero 1 [(.v (.string ⟨#[]⟩)), (.v (.int .i64 0))]), none⟩,
    ⟨none, (.store 2 (.tmp 2) (.tmp 9)), none⟩,
    ⟨none, (.store 2 (.tmp 3) (.tmp 10)), none⟩,
    ⟨(some 4), (.mov (.func 30)), none⟩])
def b511_3 : AC := (.region 3 [
    ⟨(some 11), (.mov (.tmp 4)), none⟩,
    ⟨(some 12), (.callv (.tmp 11) [(.const (.int .i64 2))]), none⟩,
    ⟨(some 13), (.bsl 0 2 [(.v (.string ⟨#[]⟩)), (.v (.int .i64 0))] 1 [(0, (.tmp 12))]), none⟩,
    ⟨(some 14), (.call 31 [(.const (.string ⟨#[97, 110, 110]⟩)), (.const (.int .i64 1)), (.const (.int .i64 5)), (.const (.string ⟨#[99, 105, 100]⟩)), (.tmp 13)]), none⟩,
    ⟨(some 15), (.mov (.tmp 4)), none⟩,
    ⟨(some 16), (.callv (.tmp 15) [(.const (.int .i64 3))]), none⟩,
    ⟨(some 17), (.bsl 1 2 [(.v (.string ⟨#[]⟩)), (.v (.int .i64 0))] 1 [(0, (.tmp 16))]), none⟩,
    ⟨(some 18), (.call 31 [(.const (.string ⟨#[98, 111, 98]⟩)), (.const (.int .i64 1)), (.const (.int .i64 6)), (.const (.string ⟨#[99, 105, 100]⟩)), (.tmp 17)]), none⟩,
    ⟨(some 19), (.bsl 2 18 [(.v (.string ⟨#[]⟩)), (.v (.int .i64 0)), (.v (.int .i64 0)), (.v (.int .i64 0)), (.v (.slice none 0 0)), (.v (.int .i64 0)), (.v (.string ⟨#[]⟩)), (.v (.int .i64 0)), (.v (.string ⟨#[]⟩)), (.v (.int .i64 0)), (.v (.bool false)), (.v (.string ⟨#[]⟩)), (.v (.string ⟨#[]⟩)), (.v (.string ⟨#[]⟩)), (.v (.string ⟨#[]⟩)), (.v (.string ⟨#[]⟩)), (.v (.int .i64 0)), (.v (.string ⟨#[]⟩))] 2 [(0, (.tmp 14)), (1, (.tmp 18))]), none⟩,
    ⟨(some 5), (.mov (.tmp 19)), none⟩])
def b511_4 : AC := (.seq (.region 1 [
    ⟨(some 20), (.mov (.tmp 5)), none⟩,
    ⟨(some 21), (.slice 18 (.tmp 20) none (some (.const (.int .i64 1)))), none⟩,
    ⟨(some 22), (.mov (.tmp 1)), none⟩,
    ⟨(some 23), (.call 14 [(.tmp 21), (.tmp 22)]), none⟩,
    ⟨(some 24), (.lenL (.tmp 23)), none⟩,
    ⟨(some 25), (.binI .neq .i64 (.tmp 24) (.const (.int .i64 0))), none⟩,
    ⟨(some 26), (.mov (.tmp 25)), none⟩,
    ⟨(some 27), (.mov (.tmp 5)), (some (26, false))⟩,
    ⟨(some 28), (.mov (.tmp 1)), (some (26, false))⟩,
    ⟨(some 29), (.call 14 [(.tmp 27), (.tmp 28)]), (some (26, false))⟩,
    ⟨(some 30), (.build [(.v (.string ⟨#[]⟩)), (.v (.int .i64 0)), (.v (.int .i64 0))] [(0, (1, (.const (.string ⟨#[99, 105, 100]⟩)))), (1, (1, (.const (.int .i64 3)))), (2, (1, (.const (.int .i64 22))))]), (some (26, false))⟩,
    ⟨(some 31), (.build [(.v (.string ⟨#[]⟩)), (.v (.int .i64 0)), (.v (.int .i64 0))] [(0, (1, (.const (.string ⟨#[99, 105, 100]⟩)))), (1, (1, (.const (.int .i64 2)))), (2, (1, (.const (.int .i64 19))))]), (some (26, false))⟩,
    ⟨(some 32), (.bsl 0 3 [(.v (.string ⟨#[]⟩)), (.v (.int .i64 0)), (.v (.int .i64 0))] 2 [(0, (.tmp 30)), (1, (.tmp 31))]), (some (26, false))⟩,
    ⟨(some 33), (.call 13 [(.tmp 29), (.tmp 32)]), (some (26, false))⟩,
    ⟨(some 34), (.not (.tmp 33)), (some (26, false))⟩,
    ⟨(some 35), (.pick (.tmp 26) (.const (.bool true)) (.tmp 34)), none⟩])
  (.cond (.tmp 35) (.seq (.region 0 [
    ⟨(some 0), (.mov (.const (.bool false))), none⟩])
  .ret) .skip))
def b511_5 : AC := (.region 0 [
    ⟨(some 6), (.mov (.func 32)), none⟩])
def b511_6 : AC := (.dregion 2 [
    ⟨(some 36), (.mov (.tmp 5)), none⟩,
    ⟨(some 37), (.mov (.tmp 6)), none⟩,
    ⟨(some 38), (.load true 2 (.tmp 2)), none⟩,
    ⟨(some 39), (.load true 2 (.tmp 3)), none⟩,
    ⟨(some 40), (.callv (.tmp 37) [(.const (.string ⟨#[97, 110, 110]⟩)), (.tmp 38), (.tmp 39)]), none⟩,
    ⟨(some 41), (.mov (.tmp 6)), none⟩,
    ⟨(some 42), (.load true 2 (.tmp 3)), none⟩,
    ⟨(some 43), (.load true 2 (.tmp 2)), none⟩,
    ⟨(some 44), (.callv (.tmp 41) [(.const (.string ⟨#[98, 111, 98]⟩)), (.tmp 42), (.tmp 43)]), none⟩,
    ⟨(some 45), (.bsl 0 18 [(.v (.string ⟨#[]⟩)), (.v (.int .i64 0)), (.v (.int .i64 0)), (.v (.int .i64 0)), (.v (.slice none 0 0)), (.v (.int .i64 0)), (.v (.string ⟨#[]⟩)), (.v (.int .i64 0)), (.v (.string ⟨#[]⟩)), (.v (.int .i64 0)), (.v (.bool false)), (.v (.string ⟨#[]⟩)), (.v (.string ⟨#[]⟩)), (.v (.string ⟨#[]⟩)), (.v (.string ⟨#[]⟩)), (.v (.string ⟨#[]⟩)), (.v (.int .i64 0)), (.v (.string ⟨#[]⟩))] 2 [(0, (.tmp 40)), (1, (.tmp 44))]), none⟩,
    ⟨(some 46), (.app 1 18 232 (.tmp 36) (.tmp 45)), none⟩,
    ⟨(some 5), (.mov (.tmp 46)), none⟩] [[], [], [], [], [1, 2, 3], [], [], [], [5, 6, 7, 4], [4, 8], [0, 9, 8], [10, 10, 0, 1, 2, 3, 4, 5, 6, 7, 8, 9, 10]])
def b511_7 : AC := (.region 1 [
    ⟨(some 47), (.mov (.tmp 5)), none⟩,
    ⟨(some 48), (.mov (.tmp 1)), none⟩,
    ⟨(some 49), (.call 14 [(.tmp 47), (.tmp 48)]), none⟩,
    ⟨(some 50), (.build [(.v (.string ⟨#[]⟩)), (.v (.int .i64 0)), (.v (.int .i64 0))] [(0, (1, (.const (.string ⟨#[99, 105, 100]⟩)))), (1, (1, (.const (.int .i64 3)))), (2, (1, (.const (.int .i64 22))))]), none⟩,
    ⟨(some 51), (.bsl 0 3 [(.v (.string ⟨#[]⟩)), (.v (.int .i64 0)), (.v (.int .i64 0))] 1 [(0, (.tmp 50))]), none⟩,
    ⟨(some 52), (.call 13 [(.tmp 49), (.tmp 51)]), none⟩,
    ⟨(some 0), (.mov (.tmp 52)), none⟩])
def b511_8 : AC := .ret
/-- voussoir/voussoirlaw46.retireAlive -/
def b511 : AC := (.seq b511_0 (.seq b511_1 (.seq b511_2 (.seq b511_3 (.seq b511_4 (.seq b511_5 (.seq b511_6 (.seq b511_7 b511_8))))))))
def ir511 : AF := ⟨53, [(.tmp 0)], b511⟩
theorem c511 : compF tt Tryz.f11 = some ir511 := by kernel_rfl
def b512_0 : AC := (.region 0 [
    ⟨(some 4), (.mov (.const (.int .i64 0))), none⟩])
def b512_1 : AC := (.seq (.region 0 [
    ⟨(some 13), (.mov (.tmp 0)), none⟩,
    ⟨(some 14), (.lenL (.tmp 13)), none⟩,
    ⟨(some 15), (.binI .gtr .i64 (.tmp 14) (.const (.int .i64 40))), none⟩,
    ⟨(some 16), (.mov (.tmp 15)), none⟩,
    ⟨(some 17), (.mov (.tmp 1)), (some (16, false))⟩,
    ⟨(some 18), (.lenL (.tmp 17)), (some (16, false))⟩,
    ⟨(some 19), (.binI .gtr .i64 (.tmp 18) (.const (.int .i64 8))), (some (16, false))⟩,
    ⟨(some 20), (.pick (.tmp 16) (.const (.bool true)) (.tmp 19)), none⟩])
  (.cond (.tmp 20) (.seq (.region 0 [
    ⟨(some 4), (.mov (.const (.int .i64 0))), none⟩])
  .ret) .skip))
def b512_2 : AC := (.seq (.region 0 [
    ⟨(some 21), (.mov (.tmp 1)), none⟩,
    ⟨(some 22), (.lenL (.tmp 21)), none⟩,
    ⟨(some 23), (.mov (.const (.int .i64 0))), none⟩])
  (.block 0 (.loop (.seq (.region 0 [
    ⟨(some 24), (.binI .lss .i64 (.tmp 23) (.tmp 22)), none⟩])
  (.seq (.cond (.tmp 24) .skip (.exit 0))
  (.seq (.block 1 (.seq (.region 1 [
    ⟨(some 25), (.mov (.tmp 23)), none⟩,
    ⟨(some 26), (.iaddr 2 (.tmp 21) (.tmp 23)), none⟩,
    ⟨(some 27), (.load true 2 (.tmp 26)), none⟩,
    ⟨(some 6), (.zero 0 [(.v (.string ⟨#[]⟩)), (.v (.string ⟨#[]⟩))]), none⟩,
    ⟨(some 5), (.mov (.tmp 25)), none⟩,
    ⟨none, (.store 2 (.tmp 6) (.tmp 27)), none⟩])
  (.seq (.seq (.region 0 [
    ⟨(some 28), (.faddr 0 (.tmp 6)), none⟩,
    ⟨(some 29), (.load false 1 (.tmp 28)), none⟩,
    ⟨(some 30), (.call 26 [(.tmp 29)]), none⟩,
    ⟨(some 31), (.not (.tmp 30)), none⟩])
  (.cond (.tmp 31) (.seq (.region 0 [
    ⟨(some 4), (.mov (.const (.int .i64 0))), none⟩])
  .ret) .skip))
  (.seq (.region 0 [
    ⟨(some 32), (.mov (.tmp 1)), none⟩,
    ⟨(some 33), (.mov (.tmp 5)), none⟩,
    ⟨(some 34), (.slice 2 (.tmp 32) none (some (.tmp 33))), none⟩,
    ⟨(some 35), (.lenL (.tmp 34)), none⟩,
    ⟨(some 36), (.mov (.const (.int .i64 0))), none⟩])
  (.block 2 (.loop (.seq (.region 0 [
    ⟨(some 37), (.binI .lss .i64 (.tmp 36) (.tmp 35)), none⟩])
  (.seq (.cond (.tmp 37) .skip (.exit 2))
  (.seq (.block 3 (.seq (.region 1 [
    ⟨(some 38), (.iaddr 2 (.tmp 34) (.tmp 36)), none⟩,
    ⟨(some 39), (.load true 2 (.tmp 38)), none⟩,
    ⟨(some 8), (.zero 0 [(.v (.string ⟨#[]⟩)), (.v (.string ⟨#[]⟩))]), none⟩,
    ⟨none, (.store 2 (.tmp 8) (.tmp 39)), none⟩])
  (.seq (.region 0 [
    ⟨(some 40), (.faddr 0 (.tmp 8)), none⟩,
    ⟨(some 41), (.load false 1 (.tmp 40)), none⟩,
    ⟨(some 42), (.faddr 0 (.tmp 6)), none⟩,
    ⟨(some 43), (.load false 1 (.tmp 42)), none⟩,
    ⟨(some 44), (.binS .eql (.tmp 41) (.tmp 43)), none⟩])
  (.cond (.tmp 44) (.seq (.region 0 [
    ⟨(some 4), (.mov (.const (.int .i64 0))), none⟩])
  .ret) .skip))))
  (.region 0 [
    ⟨(some 45), (.binI .add .i64 (.tmp 36) (.const (.int .i64 1))), none⟩,
    ⟨(some 36), (.mov (.tmp 45)), none⟩]))))))))))
  (.region 0 [
    ⟨(some 46), (.binI .add .i64 (.tmp 23) (.const (.int .i64 1))), none⟩,
    ⟨(some 23), (.mov (.tmp 46)), none⟩])))))))
def b512_3 : AC := (.seq (.region 0 [
    ⟨(some 47), (.mov (.tmp 0)), none⟩,
    ⟨(some 48), (.lenL (.tmp 47)), none⟩,
    ⟨(some 49), (.mov (.const (.int .i64 0))), none⟩])
  (.block 4 (.loop (.seq (.region 0 [
    ⟨(some 50), (.binI .lss .i64 (.tmp 49) (.tmp 48)), none⟩])
  (.seq (.cond (.tmp 50) .skip (.exit 4))
  (.seq (.block 5 (.seq (.region 1 [
    ⟨(some 51), (.mov (.tmp 49)), none⟩,
    ⟨(some 52), (.iaddr 18 (.tmp 47) (.tmp 49)), none⟩,
    ⟨(some 53), (.load true 18 (.tmp 52)), none⟩,
    ⟨(some 10), (.zero 0 [(.v (.string ⟨#[]⟩)), (.v (.int .i64 0)), (.v (.int .i64 0)), (.v (.int .i64 0)), (.v (.slice none 0 0)), (.v (.int .i64 0)), (.v (.string ⟨#[]⟩)), (.v (.int .i64 0)), (.v (.string ⟨#[]⟩)), (.v (.int .i64 0)), (.v (.bool false)), (.v (.string ⟨#[]⟩)), (.v (.string ⟨#[]⟩)), (.v (.string ⟨#[]⟩)), (.v (.string ⟨#[]⟩)), (.v (.string ⟨#[]⟩)), (.v (.int .i64 0)), (.v (.string ⟨#[]⟩))]), none⟩,
    ⟨(some 9), (.mov (.tmp 51)), none⟩,
    ⟨none, (.store 18 (.tmp 10) (.tmp 53)), none⟩])
  (.seq (.seq (.region 0 [
    ⟨(some 54), (.faddr 4 (.tmp 10)), none⟩,
    ⟨(some 55), (.load false 1 (.tmp 54)), none⟩,
    ⟨(some 56), (.call 28 [(.tmp 55)]), none⟩,
    ⟨(some 57), (.binI .neq .i64 (.tmp 56) (.const (.int .i64 0))), none⟩,
    ⟨(some 58), (.mov (.tmp 57)), none⟩,
    ⟨(some 59), (.faddr 4 (.tmp 10)), (some (58, false))⟩,
    ⟨(some 60), (.load false 1 (.tmp 59)), (some (58, false))⟩,
    ⟨(some 61), (.lenL (.tmp 60)), (some (58, false))⟩,
    ⟨(some 62), (.binI .gtr .i64 (.tmp 61) (.const (.int .i64 12))), (some (58, false))⟩,
    ⟨(some 63), (.pick (.tmp 58) (.const (.bool true)) (.tmp 62)), none⟩,
    ⟨(some 64), (.mov (.tmp 63)), none⟩,
    ⟨(some 65), (.faddr 17 (.tmp 10)), (some (64, false))⟩,
    ⟨(some 66), (.load false 1 (.tmp 65)), (some (64, false))⟩,
    ⟨(some 67), (.lenS (.tmp 66)), (some (64, false))⟩,
    ⟨(some 68), (.binI .gtr .i64 (.tmp 67) (.const (.int .i64 300))), (some (64, false))⟩,
    ⟨(some 69), (.pick (.tmp 64) (.const (.bool true)) (.tmp 68)), none⟩,
    ⟨(some 70), (.mov (.tmp 69)), none⟩,
    ⟨(some 71), (.faddr 0 (.tmp 10)), (some (70, false))⟩,
    ⟨(some 72), (.faddr 1 (.tmp 71)), (some (70, false))⟩,
    ⟨(some 73), (.load false 1 (.tmp 72)), (some (70, false))⟩,
    ⟨(some 74), (.binI .lss .i64 (.tmp 73) (.const (.int .i64 1))), (some (70, false))⟩,
    ⟨(some 75), (.pick (.tmp 70) (.const (.bool true)) (.tmp 74)), none⟩,
    ⟨(some 76), (.mov (.tmp 75)), none⟩,
    ⟨(some 77), (.faddr 2 (.tmp 10)), (some (76, false))⟩,
    ⟨(some 78), (.load false 1 (.tmp 77)), (some (76, false))⟩,
    ⟨(some 79), (.binI .lss .i64 (.tmp 78) (.const (.int .i64 0))), (some (76, false))⟩,
    ⟨(some 80), (.pick (.tmp 76) (.const (.bool true)) (.tmp 79)), none⟩])
  (.cond (.tmp 80) (.seq (.region 0 [
    ⟨(some 4), (.mov (.const (.int .i64 0))), none⟩])
  .ret) .skip))
  (.seq (.region 0 [
    ⟨(some 81), (.mov (.tmp 0)), none⟩,
    ⟨(some 82), (.mov (.tmp 9)), none⟩,
    ⟨(some 83), (.slice 18 (.tmp 81) none (some (.tmp 82))), none⟩,
    ⟨(some 84), (.lenL (.tmp 83)), none⟩,
    ⟨(some 85), (.mov (.const (.int .i64 0))), none⟩])
  (.block 6 (.loop (.seq (.region 0 [
    ⟨(some 86), (.binI .lss .i64 (.tmp 85) (.tmp 84)), none⟩])
  (.seq (.cond (.tmp 86) .skip (.exit 6))
  (.seq (.block 7 (.seq (.region 1 [
    ⟨(some 87), (.iaddr 18 (.tmp 83) (.tmp 85)), none⟩,
    ⟨(some 88), (.load true 18 (.tmp 87)), none⟩,
    ⟨(some 12), (.zero 0 [(.v (.string ⟨#[]⟩)), (.v (.int .i64 0)), (.v (.int .i64 0)), (.v (.int .i64 0)), (.v (.slice none 0 0)), (.v (.int .i64 0)), (.v (.string ⟨#[]⟩)), (.v (.int .i64 0)), (.v (.string ⟨#[]⟩)), (.v (.int .i64 0)), (.v (.bool false)), (.v (.string ⟨#[]⟩)), (.v (.string ⟨#[]⟩)), (.v (.string ⟨#[]⟩)), (.v (.string ⟨#[]⟩)), (.v (.string ⟨#[]⟩)), (.v (.int .i64 0)), (.v (.string ⟨#[]⟩))]), none⟩,
    ⟨none, (.store 18 (.tmp 12) (.tmp 88)), none⟩])
  (.seq (.region 0 [
    ⟨(some 89), (.faddr 0 (.tmp 12)), none⟩,
    ⟨(some 90), (.load true 2 (.tmp 89)), none⟩,
    ⟨(some 91), (.faddr 0 (.tmp 10)), none⟩,
    ⟨(some 92), (.load true 2 (.tmp 91)), none⟩,
    ⟨(some 93), (.eqA false [.s, (.i .i64)] (.tmp 90) (.tmp 92)), none⟩,
    ⟨(some 94), (.mov (.tmp 93)), none⟩,
    ⟨(some 95), (.load true 18 (.tmp 12)), (some (94, true))⟩,
    ⟨(some 96), (.load true 18 (.tmp 10)), (some (94, true))⟩,
    ⟨(some 97), (.call 33 [(.tmp 95), (.tmp 96)]), (some (94, true))⟩,
    ⟨(some 98), (.not (.tmp 97)), (some (94, true))⟩,
    ⟨(some 99), (.pick (.tmp 94) (.tmp 98) (.const (.bool false))), none⟩])
  (.cond (.tmp 99) (.seq (.region 0 [
    ⟨(some 4), (.mov (.const (.int .i64 0))), none⟩])
  .ret) .skip))))
  (.region 0 [
    ⟨(some 100), (.binI .add .i64 (.tmp 85) (.const (.int .i64 1))), none⟩,
    ⟨(some 85), (.mov (.tmp 100)), none⟩]))))))))))
  (.region 0 [
    ⟨(some 101), (.binI .add .i64 (.tmp 49) (.const (.int .i64 1))), none⟩,
    ⟨(some 49), (.mov (.tmp 101)), none⟩])))))))
def b512_4 : AC := (.region 0 [
    ⟨(some 4), (.mov (.const (.int .i64 1))), none⟩])
def b512_5 : AC := .ret
/-- voussoir/voussoirref46.Right -/
def b512 : AC := (.seq b512_0 (.seq b512_1 (.seq b512_2 (.seq b512_3 (.seq b512_4 b512_5)))))
def ir512 : AF := ⟨102, [(.tmp 4)], b512⟩
theorem c512 : compF tt Tryz.f12 = some ir512 := by kernel_rfl
/-- voussoir/voussoirref46.Same -/
def b513 : AC := (.seq (.region 0 [
    ⟨(some 4), (.mov (.const (.bool false))), none⟩])
  (.seq (.seq (.region 0 [
    ⟨(some 6), (.mov (.tmp 0)), none⟩,
    ⟨(some 7), (.lenL (.tmp 6)), none⟩,
    ⟨(some 8), (.mov (.tmp 1)), none⟩,
    ⟨(some 9), (.lenL (.tmp 8)), none⟩,
    ⟨(some 10), (.binI .neq .i64 (.tmp 7) (.tmp 9)), none⟩])
  (.cond (.tmp 10) (.seq (.region 0 [
    ⟨(some 4), (.mov (.const (.bool false))), none⟩])
  .ret) .skip))
  (.seq (.seq (.region 0 [
    ⟨(some 11), (.mov (.tmp 0)), none⟩,
    ⟨(some 12), (.lenL (.tmp 11)), none⟩,
    ⟨(some 13), (.mov (.const (.int .i64 0))), none⟩])
  (.block 0 (.loop (.seq (.region 0 [
    ⟨(some 14), (.binI .lss .i64 (.tmp 13) (.tmp 12)), none⟩])
  (.seq (.cond (.tmp 14) .skip (.exit 0))
  (.seq (.block 1 (.seq (.region 0 [
    ⟨(some 15), (.mov (.tmp 13)), none⟩,
    ⟨(some 5), (.mov (.tmp 15)), none⟩])
  (.seq (.dregion 0 [
    ⟨(some 16), (.mov (.tmp 0)), none⟩,
    ⟨(some 17), (.mov (.tmp 5)), none⟩,
    ⟨(some 18), (.iaddr 3 (.tmp 16) (.tmp 17)), none⟩,
    ⟨(some 19), (.load true 3 (.tmp 18)), none⟩,
    ⟨(some 20), (.mov (.tmp 1)), none⟩,
    ⟨(some 21), (.mov (.tmp 5)), none⟩,
    ⟨(some 22), (.iaddr 3 (.tmp 20) (.tmp 21)), none⟩,
    ⟨(some 23), (.load true 3 (.tmp 22)), none⟩,
    ⟨(some 24), (.eqA true [.s, (.i .i64), (.i .i64)] (.tmp 19) (.tmp 23)), none⟩] [[], [], [0, 1], [2], [], [], [4, 5], [6], [3, 7]])
  (.cond (.tmp 24) (.seq (.region 0 [
    ⟨(some 4), (.mov (.const (.bool false))), none⟩])
  .ret) .skip))))
  (.region 0 [
    ⟨(some 25), (.binI .add .i64 (.tmp 13) (.const (.int .i64 1))), none⟩,
    ⟨(some 13), (.mov (.tmp 25)), none⟩])))))))
  (.seq (.region 0 [
    ⟨(some 4), (.mov (.const (.bool true))), none⟩])
  .ret))))
def ir513 : AF := ⟨26, [(.tmp 4)], b513⟩
theorem c513 : compF tt Tryz.f13 = some ir513 := by kernel_rfl
def b514_0 : AC := (.region 0 [
    ⟨(some 4), (.mov (.const (.slice none 0 0))), none⟩])
def b514_1 : AC := (.region 0 [
    ⟨(some 12), (.mov (.tmp 0)), none⟩,
    ⟨(some 13), (.mov (.tmp 1)), none⟩,
    ⟨(some 14), (.call 34 [(.tmp 12), (.tmp 13)]), none⟩,
    ⟨(some 5), (.mov (.tmp 14)), none⟩])
def b514_2 : AC := (.region 0 [
    ⟨(some 15), (.mov (.tmp 5)), none⟩,
    ⟨(some 16), (.call 35 [(.tmp 15)]), none⟩,
    ⟨(some 6), (.mov (.tmp 16)), none⟩])
def b514_3 : AC := (.seq (.region 0 [
    ⟨(some 17), (.mov (.tmp 6)), none⟩,
    ⟨(some 18), (.lenL (.tmp 17)), none⟩,
    ⟨(some 19), (.binI .eql .i64 (.tmp 18) (.const (.int .i64 0))), none⟩])
  (.cond (.tmp 19) (.seq (.region 0 [
    ⟨(some 4), (.mov (.const (.slice none 0 0))), none⟩])
  .ret) .skip))
def b514_4 : AC := (.region 0 [
    ⟨(some 20), (.mov (.tmp 6)), none⟩,
    ⟨(some 21), (.lenL (.tmp 20)), none⟩,
    ⟨(some 22), (.binI .sub .i64 (.tmp 21) (.const (.int .i64 1))), none⟩,
    ⟨(some 7), (.mov (.tmp 22)), none⟩])
def b514_5 : AC := (.region 0 [
    ⟨(some 23), (.mov (.tmp 5)), none⟩,
    ⟨(some 24), (.mov (.tmp 6)), none⟩,
    ⟨(some 25), (.mov (.tmp 7)), none⟩,
    ⟨(some 26), (.iaddr 1 (.tmp 24) (.tmp 25)), none⟩,
    ⟨(some 27), (.load false 1 (.tmp 26)), none⟩,
    ⟨(some 28), (.call 36 [(.tmp 23), (.tmp 27)]), none⟩,
    ⟨(some 8), (.mov (.tmp 28)), none⟩])
def b514_6 : AC := (.region 0 [
    ⟨(some 9), (.mov (.const (.slice none 0 0))), none⟩])
def b514_7 : AC := (.seq (.region 0 [
    ⟨(some 29), (.mov (.tmp 6)), none⟩,
    ⟨(some 30), (.mov (.tmp 7)), none⟩,
    ⟨(some 31), (.iaddr 1 (.tmp 29) (.tmp 30)), none⟩,
    ⟨(some 32), (.load false 1 (.tmp 31)), none⟩,
    ⟨(some 33), (.lenL (.tmp 32)), none⟩,
    ⟨(some 34), (.mov (.const (.int .i64 0))), none⟩])
  (.block 0 (.loop (.seq (.region 0 [
    ⟨(some 35), (.binI .lss .i64 (.tmp 34) (.tmp 33)), none⟩])
  (.seq (.cond (.tmp 35) .skip (.exit 0))
  (.seq (.block 1 (.seq (.region 0 [
    ⟨(some 36), (.iaddr 1 (.tmp 32) (.tmp 34)), none⟩,
    ⟨(some 37), (.load false 1 (.tmp 36)), none⟩,
    ⟨(some 11), (.mov (.tmp 37)), none⟩])
  (.seq (.region 2 [
    ⟨(some 38), (.mov (.tmp 9)), none⟩,
    ⟨(some 39), (.mov (.tmp 11)), none⟩,
    ⟨(some 40), (.mov (.tmp 5)), none⟩,
    ⟨(some 41), (.mov (.tmp 6)), none⟩,
    ⟨(some 42), (.mov (.tmp 7)), none⟩,
    ⟨(some 43), (.mov (.tmp 11)), none⟩,
    ⟨(some 44), (.call 37 [(.tmp 40), (.tmp 41), (.tmp 42), (.tmp 43)]), none⟩,
    ⟨(some 45), (.build [(.v (.string ⟨#[]⟩)), (.v (.int .i64 0)), (.v (.int .i64 0))] [(0, (1, (.tmp 39))), (1, (1, (.tmp 44))), (2, (1, (.const (.int .i64 22))))]), none⟩,
    ⟨(some 46), (.bsl 0 3 [(.v (.string ⟨#[]⟩)), (.v (.int .i64 0)), (.v (.int .i64 0))] 1 [(0, (.tmp 45))]), none⟩,
    ⟨(some 47), (.app 1 3 32 (.tmp 38) (.tmp 46)), none⟩,
    ⟨(some 9), (.mov (.tmp 47)), none⟩])
  (.seq (.region 0 [
    ⟨(some 48), (.mov (.tmp 8)), none⟩,
    ⟨(some 49), (.not (.tmp 48)), none⟩])
  (.cond (.tmp 49) (.region 2 [
    ⟨(some 50), (.mov (.tmp 9)), none⟩,
    ⟨(some 51), (.mov (.tmp 11)), none⟩,
    ⟨(some 52), (.mov (.tmp 5)), none⟩,
    ⟨(some 53), (.mov (.tmp 11)), none⟩,
    ⟨(some 54), (.call 38 [(.tmp 52), (.tmp 53)]), none⟩,
    ⟨(some 55), (.build [(.v (.string ⟨#[]⟩)), (.v (.int .i64 0)), (.v (.int .i64 0))] [(0, (1, (.tmp 51))), (1, (1, (.tmp 54))), (2, (1, (.const (.int .i64 19))))]), none⟩,
    ⟨(some 56), (.bsl 0 3 [(.v (.string ⟨#[]⟩)), (.v (.int .i64 0)), (.v (.int .i64 0))] 1 [(0, (.tmp 55))]), none⟩,
    ⟨(some 57), (.app 1 3 32 (.tmp 50) (.tmp 56)), none⟩,
    ⟨(some 9), (.mov (.tmp 57)), none⟩]) .skip)))))
  (.region 0 [
    ⟨(some 58), (.binI .add .i64 (.tmp 34) (.const (.int .i64 1))), none⟩,
    ⟨(some 34), (.mov (.tmp 58)), none⟩])))))))
def b514_8 : AC := (.region 0 [
    ⟨(some 59), (.mov (.tmp 9)), none⟩,
    ⟨(some 4), (.mov (.tmp 59)), none⟩])
def b514_9 : AC := .ret
/-- voussoir/evict.Cutoffs -/
def b514 : AC := (.seq b514_0 (.seq b514_1 (.seq b514_2 (.seq b514_3 (.seq b514_4 (.seq b514_5 (.seq b514_6 (.seq b514_7 (.seq b514_8 b514_9)))))))))
def ir514 : AF := ⟨60, [(.tmp 4)], b514⟩
theorem c514 : compF tt Tryz.f14 = some ir514 := by kernel_rfl
def b515_0 : AC := (.region 0 [
    ⟨(some 4), (.mov (.const (.slice none 0 0))), none⟩])
def b515_1 : AC := (.region 0 [
    ⟨(some 21), (.mov (.tmp 0)), none⟩,
    ⟨(some 22), (.mov (.tmp 1)), none⟩,
    ⟨(some 23), (.call 39 [(.tmp 21), (.tmp 22)]), none⟩,
    ⟨(some 5), (.mov (.tmp 23)), none⟩])
def b515_2 : AC := (.region 0 [
    ⟨(some 24), (.mov (.tmp 5)), none⟩,
    ⟨(some 25), (.mov (.tmp 1)), none⟩,
    ⟨(some 26), (.call 40 [(.tmp 24), (.tmp 25)]), none⟩,
    ⟨(some 6), (.mov (.tmp 26)), none⟩])
def b515_3 : AC := (.seq (.region 0 [
    ⟨(some 27), (.mov (.tmp 6)), none⟩,
    ⟨(some 28), (.lenL (.tmp 27)), none⟩,
    ⟨(some 29), (.binI .eql .i64 (.tmp 28) (.const (.int .i64 0))), none⟩])
  (.cond (.tmp 29) (.seq (.region 0 [
    ⟨(some 4), (.mov (.const (.slice none 0 0))), none⟩])
  .ret) .skip))
def b515_4 : AC := (.region 0 [
    ⟨(some 30), (.mov (.tmp 6)), none⟩,
    ⟨(some 31), (.mov (.tmp 6)), none⟩,
    ⟨(some 32), (.lenL (.tmp 31)), none⟩,
    ⟨(some 33), (.binI .sub .i64 (.tmp 32) (.const (.int .i64 1))), none⟩,
    ⟨(some 34), (.iaddr 1 (.tmp 30) (.tmp 33)), none⟩,
    ⟨(some 35), (.load false 1 (.tmp 34)), none⟩,
    ⟨(some 7), (.mov (.tmp 35)), none⟩])
def b515_5 : AC := (.region 0 [
    ⟨(some 37), (.mov (.tmp 7)), none⟩,
    ⟨(some 38), (.mov (.tmp 5)), none⟩,
    ⟨(some 39), (.mov (.tmp 1)), none⟩,
    ⟨(some 40), (.call 41 [(.tmp 37), (.tmp 38), (.tmp 39)]), none⟩,
    ⟨(some 36), (.mov (.tmp 40)), none⟩,
    ⟨(some 41), (.ext (.tmp 36) 0), none⟩,
    ⟨(some 42), (.ext (.tmp 36) 1), none⟩,
    ⟨(some 8), (.mov (.tmp 41)), none⟩,
    ⟨(some 9), (.mov (.tmp 42)), none⟩])
def b515_6 : AC := (.region 0 [
    ⟨(some 44), (.mov (.tmp 7)), none⟩,
    ⟨(some 45), (.build [(.v (.string ⟨#[]⟩)), (.v (.int .i64 0)), (.v (.int .i64 0)), (.v (.int .i64 0)), (.v (.slice none 0 0)), (.v (.int .i64 0)), (.v (.string ⟨#[]⟩)), (.v (.int .i64 0)), (.v (.string ⟨#[]⟩)), (.v (.int .i64 0)), (.v (.bool false)), (.v (.string ⟨#[]⟩)), (.v (.string ⟨#[]⟩)), (.v (.string ⟨#[]⟩)), (.v (.string ⟨#[]⟩)), (.v (.string ⟨#[]⟩)), (.v (.int .i64 0)), (.v (.string ⟨#[]⟩))] [(17, (1, (.tmp 44)))]), none⟩,
    ⟨(some 46), (.mov (.tmp 1)), none⟩,
    ⟨(some 47), (.call 42 [(.tmp 45), (.tmp 46)]), none⟩,
    ⟨(some 43), (.mov (.tmp 47)), none⟩,
    ⟨(some 48), (.ext (.tmp 43) 0), none⟩,
    ⟨(some 49), (.ext (.tmp 43) 1), none⟩,
    ⟨(some 10), (.mov (.tmp 48)), none⟩,
    ⟨(some 11), (.mov (.tmp 49)), none⟩])
def b515_7 : AC := (.region 0 [
    ⟨(some 50), (.mov (.tmp 7)), none⟩,
    ⟨(some 51), (.mov (.tmp 0)), none⟩,
    ⟨(some 52), (.mov (.tmp 5)), none⟩,
    ⟨(some 53), (.mov (.tmp 1)), none⟩,
    ⟨(some 54), (.call 43 [(.tmp 50), (.tmp 51), (.tmp 52), (.tmp 53)]), none⟩,
    ⟨(some 12), (.mov (.tmp 54)), none⟩])
def b515_8 : AC := (.region 1 [
    ⟨(some 55), (.bsl 0 3 [(.v (.string ⟨#[]⟩)), (.v (.int .i64 0)), (.v (.int .i64 0))] 0 []), none⟩,
    ⟨(some 13), (.mov (.tmp 55)), none⟩])
def b515_9 : AC := (.seq (.region 0 [
    ⟨(some 56), (.mov (.tmp 10)), none⟩,
    ⟨(some 57), (.lenL (.tmp 56)), none⟩,
    ⟨(some 58), (.mov (.const (.int .i64 0))), none⟩])
  (.block 0 (.loop (.seq (.region 0 [
    ⟨(some 59), (.binI .lss .i64 (.tmp 58) (.tmp 57)), none⟩])
  (.seq (.cond (.tmp 59) .skip (.exit 0))
  (.seq (.block 1 (.seq (.region 0 [
    ⟨(some 60), (.iaddr 1 (.tmp 56) (.tmp 58)), none⟩,
    ⟨(some 61), (.load false 1 (.tmp 60)), none⟩,
    ⟨(some 15), (.mov (.tmp 61)), none⟩])
  (.seq (.region 2 [
    ⟨(some 62), (.mov (.tmp 13)), none⟩,
    ⟨(some 63), (.mov (.tmp 15)), none⟩,
    ⟨(some 64), (.mov (.tmp 7)), none⟩,
    ⟨(some 65), (.mov (.tmp 15)), none⟩,
    ⟨(some 66), (.mov (.tmp 6)), none⟩,
    ⟨(some 67), (.mov (.tmp 5)), none⟩,
    ⟨(some 68), (.mov (.tmp 1)), none⟩,
    ⟨(some 69), (.call 44 [(.tmp 64), (.tmp 65), (.tmp 66), (.tmp 67), (.tmp 68)]), none⟩,
    ⟨(some 70), (.build [(.v (.string ⟨#[]⟩)), (.v (.int .i64 0)), (.v (.int .i64 0))] [(0, (1, (.tmp 63))), (1, (1, (.tmp 69))), (2, (1, (.const (.int .i64 22))))]), none⟩,
    ⟨(some 71), (.bsl 0 3 [(.v (.string ⟨#[]⟩)), (.v (.int .i64 0)), (.v (.int .i64 0))] 1 [(0, (.tmp 70))]), none⟩,
    ⟨(some 72), (.app 1 3 32 (.tmp 62) (.tmp 71)), none⟩,
    ⟨(some 13), (.mov (.tmp 72)), none⟩])
  (.seq (.region 0 [
    ⟨(some 73), (.mov (.tmp 12)), none⟩,
    ⟨(some 74), (.binI .eql .i64 (.tmp 73) (.const (.int .i64 0))), none⟩])
  (.cond (.tmp 74) (.seq (.region 0 [
    ⟨(some 75), (.mov (.tmp 8)), none⟩,
    ⟨(some 76), (.iaddr 18 (.tmp 75) (.const (.int .i64 0))), none⟩,
    ⟨(some 77), (.faddr 4 (.tmp 76)), none⟩,
    ⟨(some 78), (.load false 1 (.tmp 77)), none⟩,
    ⟨(some 79), (.mov (.tmp 15)), none⟩,
    ⟨(some 80), (.call 45 [(.tmp 78), (.tmp 79)]), none⟩,
    ⟨(some 16), (.mov (.tmp 80)), none⟩])
  (.seq (.seq (.region 0 [
    ⟨(some 81), (.mov (.tmp 5)), none⟩,
    ⟨(some 82), (.lenL (.tmp 81)), none⟩,
    ⟨(some 83), (.mov (.const (.int .i64 0))), none⟩])
  (.block 2 (.loop (.seq (.region 0 [
    ⟨(some 84), (.binI .lss .i64 (.tmp 83) (.tmp 82)), none⟩])
  (.seq (.cond (.tmp 84) .skip (.exit 2))
  (.seq (.block 3 (.seq (.region 1 [
    ⟨(some 85), (.iaddr 18 (.tmp 81) (.tmp 83)), none⟩,
    ⟨(some 86), (.load true 18 (.tmp 85)), none⟩,
    ⟨(some 18), (.zero 0 [(.v (.string ⟨#[]⟩)), (.v (.int .i64 0)), (.v (.int .i64 0)), (.v (.int .i64 0)), (.v (.slice none 0 0)), (.v (.int .i64 0)), (.v (.string ⟨#[]⟩)), (.v (.int .i64 0)), (.v (.string ⟨#[]⟩)), (.v (.int .i64 0)), (.v (.bool false)), (.v (.string ⟨#[]⟩)), (.v (.string ⟨#[]⟩)), (.v (.string ⟨#[]⟩)), (.v (.string ⟨#[]⟩)), (.v (.string ⟨#[]⟩)), (.v (.int .i64 0)), (.v (.string ⟨#[]⟩))]), none⟩,
    ⟨none, (.store 18 (.tmp 18) (.tmp 86)), none⟩])
  (.seq (.region 0 [
    ⟨(some 88), (.load true 18 (.tmp 18)), none⟩,
    ⟨(some 89), (.mov (.tmp 1)), none⟩,
    ⟨(some 90), (.call 42 [(.tmp 88), (.tmp 89)]), none⟩,
    ⟨(some 87), (.mov (.tmp 90)), none⟩,
    ⟨(some 91), (.ext (.tmp 87) 0), none⟩,
    ⟨(some 92), (.ext (.tmp 87) 1), none⟩,
    ⟨(some 19), (.mov (.tmp 91)), none⟩,
    ⟨(some 20), (.mov (.tmp 92)), none⟩])
  (.seq (.region 0 [
    ⟨(some 93), (.mov (.tmp 19)), none⟩,
    ⟨(some 94), (.mov (.tmp 15)), none⟩,
    ⟨(some 95), (.call 46 [(.tmp 93), (.tmp 94)]), none⟩,
    ⟨(some 96), (.mov (.tmp 95)), none⟩,
    ⟨(some 97), (.faddr 4 (.tmp 18)), (some (96, true))⟩,
    ⟨(some 98), (.load false 1 (.tmp 97)), (some (96, true))⟩,
    ⟨(some 99), (.mov (.tmp 15)), (some (96, true))⟩,
    ⟨(some 100), (.call 45 [(.tmp 98), (.tmp 99)]), (some (96, true))⟩,
    ⟨(some 101), (.mov (.tmp 16)), (some (96, true))⟩,
    ⟨(some 102), (.binI .lss .i64 (.tmp 100) (.tmp 101)), (some (96, true))⟩,
    ⟨(some 103), (.pick (.tmp 96) (.tmp 102) (.const (.bool false))), none⟩])
  (.cond (.tmp 103) (.region 0 [
    ⟨(some 104), (.faddr 4 (.tmp 18)), none⟩,
    ⟨(some 105), (.load false 1 (.tmp 104)), none⟩,
    ⟨(some 106), (.mov (.tmp 15)), none⟩,
    ⟨(some 107), (.call 45 [(.tmp 105), (.tmp 106)]), none⟩,
    ⟨(some 16), (.mov (.tmp 107)), none⟩]) .skip)))))
  (.region 0 [
    ⟨(some 108), (.binI .add .i64 (.tmp 83) (.const (.int .i64 1))), none⟩,
    ⟨(some 83), (.mov (.tmp 108)), none⟩])))))))
  (.region 2 [
    ⟨(some 109), (.mov (.tmp 13)), none⟩,
    ⟨(some 110), (.mov (.tmp 15)), none⟩,
    ⟨(some 111), (.mov (.tmp 16)), none⟩,
    ⟨(some 112), (.build [(.v (.string ⟨#[]⟩)), (.v (.int .i64 0)), (.v (.int .i64 0))] [(0, (1, (.tmp 110))), (1, (1, (.tmp 111))), (2, (1, (.const (.int .i64 19))))]), none⟩,
    ⟨(some 113), (.bsl 0 3 [(.v (.string ⟨#[]⟩)), (.v (.int .i64 0)), (.v (.int .i64 0))] 1 [(0, (.tmp 112))]), none⟩,
    ⟨(some 114), (.app 1 3 32 (.tmp 109) (.tmp 113)), none⟩,
    ⟨(some 13), (.mov (.tmp 114)), none⟩]))) .skip)))))
  (.region 0 [
    ⟨(some 115), (.binI .add .i64 (.tmp 58) (.const (.int .i64 1))), none⟩,
    ⟨(some 58), (.mov (.tmp 115)), none⟩])))))))
def b515_10 : AC := (.region 0 [
    ⟨(some 116), (.mov (.tmp 13)), none⟩,
    ⟨(some 4), (.mov (.tmp 116)), none⟩])
def b515_11 : AC := .ret
/-- voussoir/voussoirref46.Cuts -/
def b515 : AC := (.seq b515_0 (.seq b515_1 (.seq b515_2 (.seq b515_3 (.seq b515_4 (.seq b515_5 (.seq b515_6 (.seq b515_7 (.seq b515_8 (.seq b515_9 (.seq b515_10 b515_11)))))))))))
def ir515 : AF := ⟨117, [(.tmp 4)], b515⟩
theorem c515 : compF tt Tryz.f15 = some ir515 := by kernel_rfl
/-- voussoir/vclock.Contains -/
def b517 : AC := (.seq (.region 1 [
    ⟨(some 3), (.box 0 (.tmp 1)), none⟩,
    ⟨(some 4), (.mov (.const (.bool false))), none⟩])
  (.seq (.region 0 [
    ⟨(some 8), (.mov (.tmp 0)), none⟩,
    ⟨(some 9), (.faddr 0 (.tmp 3)), none⟩,
    ⟨(some 10), (.load false 1 (.tmp 9)), none⟩,
    ⟨(some 11), (.call 47 [(.tmp 8), (.tmp 10)]), none⟩,
    ⟨(some 7), (.mov (.tmp 11)), none⟩,
    ⟨(some 12), (.ext (.tmp 7) 0), none⟩,
    ⟨(some 13), (.ext (.tmp 7) 1), none⟩,
    ⟨(some 5), (.mov (.tmp 12)), none⟩,
    ⟨(some 6), (.mov (.tmp 13)), none⟩])
  (.seq (.dregion 0 [
    ⟨(some 14), (.mov (.tmp 6)), none⟩,
    ⟨(some 15), (.mov (.tmp 14)), none⟩,
    ⟨(some 16), (.faddr 1 (.tmp 3)), (some (15, true))⟩,
    ⟨(some 17), (.load false 1 (.tmp 16)), (some (15, true))⟩,
    ⟨(some 18), (.binI .geq .i64 (.tmp 17) (.const (.int .i64 1))), (some (15, true))⟩,
    ⟨(some 19), (.pick (.tmp 15) (.tmp 18) (.const (.bool false))), none⟩,
    ⟨(some 20), (.mov (.tmp 19)), none⟩,
    ⟨(some 21), (.mov (.tmp 0)), (some (20, true))⟩,
    ⟨(some 22), (.mov (.tmp 5)), (some (20, true))⟩,
    ⟨(some 23), (.iaddr 2 (.tmp 21) (.tmp 22)), (some (20, true))⟩,
    ⟨(some 24), (.faddr 1 (.tmp 23)), (some (20, true))⟩,
    ⟨(some 25), (.load false 1 (.tmp 24)), (some (20, true))⟩,
    ⟨(some 26), (.faddr 1 (.tmp 3)), (some (20, true))⟩,
    ⟨(some 27), (.load false 1 (.tmp 26)), (some (20, true))⟩,
    ⟨(some 28), (.binI .geq .i64 (.tmp 25) (.tmp 27)), (some (20, true))⟩,
    ⟨(some 29), (.pick (.tmp 20) (.tmp 28) (.const (.bool false))), none⟩,
    ⟨(some 4), (.mov (.tmp 29)), none⟩] [[], [0], [1], [2, 1], [3, 1], [1, 4], [5, 1], [6], [6], [7, 8, 6], [9, 6], [10, 6], [6], [12, 6], [11, 13, 6], [6, 14], [15, 6, 0, 1, 2, 3, 4, 5, 6, 7, 8, 9, 10, 11, 12, 13, 14, 15]])
  .ret)))
def ir517 : AF := ⟨30, [(.tmp 4)], b517⟩
theorem c517 : compF tt Tryz.f17 = some ir517 := by kernel_rfl
/-- voussoir/voussoirref36.Author -/
def b526 : AC := (.seq (.region 0 [
    ⟨(some 2), (.mov (.const (.bool false))), none⟩])
  (.seq (.seq (.region 0 [
    ⟨(some 3), (.mov (.const (.int .i64 0))), none⟩])
  (.block 0 (.loop (.seq (.seq (.region 0 [
    ⟨(some 5), (.mov (.tmp 3)), none⟩,
    ⟨(some 6), (.mov (.tmp 0)), none⟩,
    ⟨(some 7), (.lenS (.tmp 6)), none⟩,
    ⟨(some 8), (.binI .lss .i64 (.tmp 5) (.tmp 7)), none⟩])
  (.cond (.tmp 8) .skip (.exit 0)))
  (.seq (.block 1 (.seq (.region 0 [
    ⟨(some 11), (.mov (.tmp 0)), none⟩,
    ⟨(some 12), (.mov (.tmp 3)), none⟩,
    ⟨(some 13), (.index (.tmp 11) (.tmp 12)), none⟩,
    ⟨(some 14), (.binI .geq .u8 (.tmp 13) (.const (.int .u8 97))), none⟩,
    ⟨(some 15), (.mov (.tmp 14)), none⟩,
    ⟨(some 16), (.mov (.tmp 0)), (some (15, true))⟩,
    ⟨(some 17), (.mov (.tmp 3)), (some (15, true))⟩,
    ⟨(some 18), (.index (.tmp 16) (.tmp 17)), (some (15, true))⟩,
    ⟨(some 19), (.binI .leq .u8 (.tmp 18) (.const (.int .u8 122))), (some (15, true))⟩,
    ⟨(some 20), (.pick (.tmp 15) (.tmp 19) (.const (.bool false))), none⟩,
    ⟨(some 4), (.mov (.tmp 20)), none⟩])
  (.seq (.region 0 [
    ⟨(some 21), (.mov (.tmp 4)), none⟩,
    ⟨(some 22), (.not (.tmp 21)), none⟩,
    ⟨(some 23), (.mov (.tmp 22)), none⟩,
    ⟨(some 24), (.mov (.tmp 3)), (some (23, true))⟩,
    ⟨(some 25), (.binI .eql .i64 (.tmp 24) (.const (.int .i64 0))), (some (23, true))⟩,
    ⟨(some 26), (.mov (.tmp 25)), (some (23, true))⟩,
    ⟨(some 27), (.mov (.tmp 0)), (some (26, false))⟩,
    ⟨(some 28), (.mov (.tmp 3)), (some (26, false))⟩,
    ⟨(some 29), (.index (.tmp 27) (.tmp 28)), (some (26, false))⟩,
    ⟨(some 30), (.binI .lss .u8 (.tmp 29) (.const (.int .u8 48))), (some (26, false))⟩,
    ⟨(some 31), (.pick (.tmp 26) (.const (.bool true)) (.tmp 30)), (some (23, true))⟩,
    ⟨(some 32), (.mov (.tmp 31)), (some (23, true))⟩,
    ⟨(some 33), (.mov (.tmp 0)), (some (32, false))⟩,
    ⟨(some 34), (.mov (.tmp 3)), (some (32, false))⟩,
    ⟨(some 35), (.index (.tmp 33) (.tmp 34)), (some (32, false))⟩,
    ⟨(some 36), (.binI .gtr .u8 (.tmp 35) (.const (.int .u8 57))), (some (32, false))⟩,
    ⟨(some 37), (.pick (.tmp 32) (.const (.bool true)) (.tmp 36)), (some (23, true))⟩,
    ⟨(some 38), (.pick (.tmp 23) (.tmp 37) (.const (.bool false))), none⟩])
  (.cond (.tmp 38) (.seq (.region 0 [
    ⟨(some 2), (.mov (.const (.bool false))), none⟩])
  .ret) .skip))))
  (.region 0 [
    ⟨(some 9), (.mov (.tmp 3)), none⟩,
    ⟨(some 10), (.binI .add .i64 (.tmp 9) (.const (.int .i64 1))), none⟩,
    ⟨(some 3), (.mov (.tmp 10)), none⟩]))))))
  (.seq (.region 0 [
    ⟨(some 39), (.mov (.tmp 0)), none⟩,
    ⟨(some 40), (.lenS (.tmp 39)), none⟩,
    ⟨(some 41), (.binI .gtr .i64 (.tmp 40) (.const (.int .i64 0))), none⟩,
    ⟨(some 42), (.mov (.tmp 41)), none⟩,
    ⟨(some 43), (.mov (.tmp 0)), (some (42, true))⟩,
    ⟨(some 44), (.lenS (.tmp 43)), (some (42, true))⟩,
    ⟨(some 45), (.binI .leq .i64 (.tmp 44) (.const (.int .i64 24))), (some (42, true))⟩,
    ⟨(some 46), (.pick (.tmp 42) (.tmp 45) (.const (.bool false))), none⟩,
    ⟨(some 2), (.mov (.tmp 46)), none⟩])
  .ret)))
def ir526 : AF := ⟨47, [(.tmp 2)], b526⟩
theorem c526 : compF tt Tryz.f26 = some ir526 := by kernel_rfl
def b528_0 : AC := (.region 0 [
    ⟨(some 2), (.mov (.const (.int .i64 0))), none⟩])
def b528_1 : AC := (.seq (.region 0 [
    ⟨(some 3), (.mov (.const (.int .i64 0))), none⟩])
  (.block 0 (.loop (.seq (.seq (.region 0 [
    ⟨(some 4), (.mov (.tmp 3)), none⟩,
    ⟨(some 5), (.mov (.tmp 0)), none⟩,
    ⟨(some 6), (.lenL (.tmp 5)), none⟩,
    ⟨(some 7), (.binI .lss .i64 (.tmp 4) (.tmp 6)), none⟩])
  (.cond (.tmp 7) .skip (.exit 0)))
  (.seq (.block 1 (.seq (.seq (.region 0 [
    ⟨(some 10), (.mov (.tmp 0)), none⟩,
    ⟨(some 11), (.mov (.tmp 3)), none⟩,
    ⟨(some 12), (.iaddr 2 (.tmp 10) (.tmp 11)), none⟩,
    ⟨(some 13), (.faddr 0 (.tmp 12)), none⟩,
    ⟨(some 14), (.load false 1 (.tmp 13)), none⟩,
    ⟨(some 15), (.call 26 [(.tmp 14)]), none⟩,
    ⟨(some 16), (.not (.tmp 15)), none⟩])
  (.cond (.tmp 16) (.seq (.region 0 [
    ⟨(some 2), (.mov (.const (.int .i64 7))), none⟩])
  .ret) .skip))
  (.seq (.seq (.region 0 [
    ⟨(some 17), (.mov (.tmp 0)), none⟩,
    ⟨(some 18), (.mov (.tmp 3)), none⟩,
    ⟨(some 19), (.iaddr 2 (.tmp 17) (.tmp 18)), none⟩,
    ⟨(some 20), (.faddr 1 (.tmp 19)), none⟩,
    ⟨(some 21), (.load false 1 (.tmp 20)), none⟩,
    ⟨(some 22), (.binI .lss .i64 (.tmp 21) (.const (.int .i64 1))), none⟩])
  (.cond (.tmp 22) (.seq (.region 0 [
    ⟨(some 2), (.mov (.const (.int .i64 2))), none⟩])
  .ret) .skip))
  (.seq (.seq (.dregion 0 [
    ⟨(some 23), (.mov (.tmp 3)), none⟩,
    ⟨(some 24), (.binI .gtr .i64 (.tmp 23) (.const (.int .i64 0))), none⟩,
    ⟨(some 25), (.mov (.tmp 24)), none⟩,
    ⟨(some 26), (.mov (.tmp 0)), (some (25, true))⟩,
    ⟨(some 27), (.mov (.tmp 3)), (some (25, true))⟩,
    ⟨(some 28), (.iaddr 2 (.tmp 26) (.tmp 27)), (some (25, true))⟩,
    ⟨(some 29), (.faddr 0 (.tmp 28)), (some (25, true))⟩,
    ⟨(some 30), (.load false 1 (.tmp 29)), (some (25, true))⟩,
    ⟨(some 31), (.mov (.tmp 0)), (some (25, true))⟩,
    ⟨(some 32), (.mov (.tmp 3)), (some (25, true))⟩,
    ⟨(some 33), (.binI .sub .i64 (.tmp 32) (.const (.int .i64 1))), (some (25, true))⟩,
    ⟨(some 34), (.iaddr 2 (.tmp 31) (.tmp 33)), (some (25, true))⟩,
    ⟨(some 35), (.faddr 0 (.tmp 34)), (some (25, true))⟩,
    ⟨(some 36), (.load false 1 (.tmp 35)), (some (25, true))⟩,
    ⟨(some 37), (.binS .eql (.tmp 30) (.tmp 36)), (some (25, true))⟩,
    ⟨(some 38), (.pick (.tmp 25) (.tmp 37) (.const (.bool false))), none⟩] [[], [0], [1], [2], [2], [3, 4, 2], [5, 2], [6, 2], [2], [2], [9, 2], [8, 10, 2], [11, 2], [12, 2], [7, 13, 2], [2, 14]])
  (.cond (.tmp 38) (.seq (.region 0 [
    ⟨(some 2), (.mov (.const (.int .i64 8))), none⟩])
  .ret) .skip))
  (.seq (.dregion 0 [
    ⟨(some 39), (.mov (.tmp 3)), none⟩,
    ⟨(some 40), (.binI .gtr .i64 (.tmp 39) (.const (.int .i64 0))), none⟩,
    ⟨(some 41), (.mov (.tmp 40)), none⟩,
    ⟨(some 42), (.mov (.tmp 0)), (some (41, true))⟩,
    ⟨(some 43), (.mov (.tmp 3)), (some (41, true))⟩,
    ⟨(some 44), (.iaddr 2 (.tmp 42) (.tmp 43)), (some (41, true))⟩,
    ⟨(some 45), (.faddr 0 (.tmp 44)), (some (41, true))⟩,
    ⟨(some 46), (.load false 1 (.tmp 45)), (some (41, true))⟩,
    ⟨(some 47), (.mov (.tmp 0)), (some (41, true))⟩,
    ⟨(some 48), (.mov (.tmp 3)), (some (41, true))⟩,
    ⟨(some 49), (.binI .sub .i64 (.tmp 48) (.const (.int .i64 1))), (some (41, true))⟩,
    ⟨(some 50), (.iaddr 2 (.tmp 47) (.tmp 49)), (some (41, true))⟩,
    ⟨(some 51), (.faddr 0 (.tmp 50)), (some (41, true))⟩,
    ⟨(some 52), (.load false 1 (.tmp 51)), (some (41, true))⟩,
    ⟨(some 53), (.binS .lss (.tmp 46) (.tmp 52)), (some (41, true))⟩,
    ⟨(some 54), (.pick (.tmp 41) (.tmp 53) (.const (.bool false))), none⟩] [[], [0], [1], [2], [2], [3, 4, 2], [5, 2], [6, 2], [2], [2], [9, 2], [8, 10, 2], [11, 2], [12, 2], [7, 13, 2], [2, 14]])
  (.cond (.tmp 54) (.seq (.region 0 [
    ⟨(some 2), (.mov (.const (.int .i64 3))), none⟩])
  .ret) .skip))))))
  (.region 0 [
    ⟨(some 8), (.mov (.tmp 3)), none⟩,
    ⟨(some 9), (.binI .add .i64 (.tmp 8) (.const (.int .i64 1))), none⟩,
    ⟨(some 3), (.mov (.tmp 9)), none⟩]))))))
def b528_2 : AC := (.region 0 [
    ⟨(some 2), (.mov (.const (.int .i64 0))), none⟩])
def b528_3 : AC := .ret
/-- voussoir/voussoirref36.Check -/
def b528 : AC := (.seq b528_0 (.seq b528_1 (.seq b528_2 b528_3)))
def ir528 : AF := ⟨55, [(.tmp 2)], b528⟩
theorem c528 : compF tt Tryz.f28 = some ir528 := by kernel_rfl
/-- voussoir/voussoirlaw46.Members -/
def b529 : AC := (.seq (.region 0 [
    ⟨(some 2), (.mov (.const (.slice none 0 0))), none⟩])
  (.seq (.region 0 [
    ⟨(some 3), (.mov (.const (.slice none 0 0))), none⟩])
  (.seq (.seq (.region 0 [
    ⟨(some 6), (.mov (.tmp 0)), none⟩,
    ⟨(some 7), (.lenL (.tmp 6)), none⟩,
    ⟨(some 8), (.mov (.const (.int .i64 0))), none⟩])
  (.block 0 (.loop (.seq (.region 0 [
    ⟨(some 9), (.binI .lss .i64 (.tmp 8) (.tmp 7)), none⟩])
  (.seq (.cond (.tmp 9) .skip (.exit 0))
  (.seq (.block 1 (.seq (.region 0 [
    ⟨(some 10), (.iaddr 1 (.tmp 6) (.tmp 8)), none⟩,
    ⟨(some 11), (.load false 1 (.tmp 10)), none⟩,
    ⟨(some 5), (.mov (.tmp 11)), none⟩])
  (.region 2 [
    ⟨(some 12), (.mov (.tmp 3)), none⟩,
    ⟨(some 13), (.mov (.tmp 5)), none⟩,
    ⟨(some 14), (.build [(.v (.string ⟨#[]⟩)), (.v (.string ⟨#[]⟩))] [(0, (1, (.tmp 13)))]), none⟩,
    ⟨(some 15), (.bsl 0 2 [(.v (.string ⟨#[]⟩)), (.v (.string ⟨#[]⟩))] 1 [(0, (.tmp 14))]), none⟩,
    ⟨(some 16), (.app 1 2 32 (.tmp 12) (.tmp 15)), none⟩,
    ⟨(some 3), (.mov (.tmp 16)), none⟩])))
  (.region 0 [
    ⟨(some 17), (.binI .add .i64 (.tmp 8) (.const (.int .i64 1))), none⟩,
    ⟨(some 8), (.mov (.tmp 17)), none⟩])))))))
  (.seq (.region 0 [
    ⟨(some 18), (.mov (.tmp 3)), none⟩,
    ⟨(some 2), (.mov (.tmp 18)), none⟩])
  .ret))))
def ir529 : AF := ⟨19, [(.tmp 2)], b529⟩
theorem c529 : compF tt Tryz.f29 = some ir529 := by kernel_rfl
/-- voussoir/voussoirlaw46.retireAlive$1 -/
def b530 : AC := (.seq (.region 1 [
    ⟨(some 2), (.zero 0 [(.v (.string ⟨#[]⟩)), (.v (.int .i64 0))]), none⟩])
  (.seq (.region 0 [
    ⟨(some 3), (.mov (.tmp 0)), none⟩,
    ⟨(some 4), (.build [(.v (.string ⟨#[]⟩)), (.v (.int .i64 0))] [(0, (1, (.const (.string ⟨#[99, 105, 100]⟩)))), (1, (1, (.tmp 3)))]), none⟩,
    ⟨none, (.store 2 (.tmp 2) (.tmp 4)), none⟩])
  .ret))
def ir530 : AF := ⟨5, [(.cell 2 true 2)], b530⟩
theorem c530 : compF tt Tryz.f30 = some ir530 := by kernel_rfl
/-- voussoir/voussoirlaw46.vote -/
def b531 : AC := (.seq (.region 1 [
    ⟨(some 10), (.zero 0 [(.v (.string ⟨#[]⟩)), (.v (.int .i64 0)), (.v (.int .i64 0)), (.v (.int .i64 0)), (.v (.slice none 0 0)), (.v (.int .i64 0)), (.v (.string ⟨#[]⟩)), (.v (.int .i64 0)), (.v (.string ⟨#[]⟩)), (.v (.int .i64 0)), (.v (.bool false)), (.v (.string ⟨#[]⟩)), (.v (.string ⟨#[]⟩)), (.v (.string ⟨#[]⟩)), (.v (.string ⟨#[]⟩)), (.v (.string ⟨#[]⟩)), (.v (.int .i64 0)), (.v (.string ⟨#[]⟩))]), none⟩])
  (.seq (.region 0 [
    ⟨(some 11), (.mov (.tmp 0)), none⟩,
    ⟨(some 12), (.mov (.tmp 1)), none⟩,
    ⟨(some 13), (.build [(.v (.string ⟨#[]⟩)), (.v (.int .i64 0))] [(0, (1, (.tmp 11))), (1, (1, (.tmp 12)))]), none⟩,
    ⟨(some 14), (.mov (.tmp 2)), none⟩,
    ⟨(some 15), (.mov (.tmp 3)), none⟩,
    ⟨(some 16), (.mov (.tmp 4)), none⟩,
    ⟨(some 17), (.build [(.v (.string ⟨#[]⟩)), (.v (.int .i64 0)), (.v (.int .i64 0)), (.v (.int .i64 0)), (.v (.slice none 0 0)), (.v (.int .i64 0)), (.v (.string ⟨#[]⟩)), (.v (.int .i64 0)), (.v (.string ⟨#[]⟩)), (.v (.int .i64 0)), (.v (.bool false)), (.v (.string ⟨#[]⟩)), (.v (.string ⟨#[]⟩)), (.v (.string ⟨#[]⟩)), (.v (.string ⟨#[]⟩)), (.v (.string ⟨#[]⟩)), (.v (.int .i64 0)), (.v (.string ⟨#[]⟩))] [(0, (2, (.tmp 13))), (2, (1, (.tmp 14))), (5, (1, (.const (.int .i64 5)))), (17, (1, (.tmp 15))), (4, (1, (.tmp 16)))]), none⟩,
    ⟨none, (.store 18 (.tmp 10) (.tmp 17)), none⟩])
  .ret))
def ir531 : AF := ⟨18, [(.cell 10 true 18)], b531⟩
theorem c531 : compF tt Tryz.f31 = some ir531 := by kernel_rfl
/-- voussoir/voussoirlaw46.retireAlive$2 -/
def b532 : AC := (.seq (.region 3 [
    ⟨(some 4), (.box 0 (.tmp 1)), none⟩,
    ⟨(some 5), (.box 1 (.tmp 2)), none⟩,
    ⟨(some 6), (.zero 2 [(.v (.string ⟨#[]⟩)), (.v (.int .i64 0)), (.v (.int .i64 0)), (.v (.int .i64 0)), (.v (.slice none 0 0)), (.v (.int .i64 0)), (.v (.string ⟨#[]⟩)), (.v (.int .i64 0)), (.v (.string ⟨#[]⟩)), (.v (.int .i64 0)), (.v (.bool false)), (.v (.string ⟨#[]⟩)), (.v (.string ⟨#[]⟩)), (.v (.string ⟨#[]⟩)), (.v (.string ⟨#[]⟩)), (.v (.string ⟨#[]⟩)), (.v (.int .i64 0)), (.v (.string ⟨#[]⟩))]), none⟩])
  (.seq (.region 1 [
    ⟨(some 8), (.load true 2 (.tmp 4)), none⟩,
    ⟨(some 9), (.load true 2 (.tmp 5)), none⟩,
    ⟨(some 10), (.bsl 0 2 [(.v (.string ⟨#[]⟩)), (.v (.int .i64 0))] 2 [(0, (.tmp 8)), (1, (.tmp 9))]), none⟩,
    ⟨(some 7), (.mov (.tmp 10)), none⟩])
  (.seq (.seq (.region 0 [
    ⟨(some 11), (.faddr 0 (.tmp 5)), none⟩,
    ⟨(some 12), (.load false 1 (.tmp 11)), none⟩,
    ⟨(some 13), (.faddr 0 (.tmp 4)), none⟩,
    ⟨(some 14), (.load false 1 (.tmp 13)), none⟩,
    ⟨(some 15), (.binS .lss (.tmp 12) (.tmp 14)), none⟩])
  (.cond (.tmp 15) (.region 1 [
    ⟨(some 16), (.load true 2 (.tmp 5)), none⟩,
    ⟨(some 17), (.load true 2 (.tmp 4)), none⟩,
    ⟨(some 18), (.bsl 0 2 [(.v (.string ⟨#[]⟩)), (.v (.int .i64 0))] 2 [(0, (.tmp 16)), (1, (.tmp 17))]), none⟩,
    ⟨(some 7), (.mov (.tmp 18)), none⟩]) .skip))
  (.seq (.region 0 [
    ⟨(some 19), (.mov (.tmp 0)), none⟩,
    ⟨(some 20), (.build [(.v (.string ⟨#[]⟩)), (.v (.int .i64 0))] [(0, (1, (.tmp 19))), (1, (1, (.const (.int .i64 2))))]), none⟩,
    ⟨(some 21), (.mov (.tmp 7)), none⟩,
    ⟨(some 22), (.build [(.v (.string ⟨#[]⟩)), (.v (.int .i64 0)), (.v (.int .i64 0)), (.v (.int .i64 0)), (.v (.slice none 0 0)), (.v (.int .i64 0)), (.v (.string ⟨#[]⟩)), (.v (.int .i64 0)), (.v (.string ⟨#[]⟩)), (.v (.int .i64 0)), (.v (.bool false)), (.v (.string ⟨#[]⟩)), (.v (.string ⟨#[]⟩)), (.v (.string ⟨#[]⟩)), (.v (.string ⟨#[]⟩)), (.v (.string ⟨#[]⟩)), (.v (.int .i64 0)), (.v (.string ⟨#[]⟩))] [(0, (2, (.tmp 20))), (2, (1, (.const (.int .i64 7)))), (5, (1, (.const (.int .i64 6)))), (4, (1, (.tmp 21)))]), none⟩,
    ⟨none, (.store 18 (.tmp 6) (.tmp 22)), none⟩])
  .ret))))
def ir532 : AF := ⟨23, [(.cell 6 true 18)], b532⟩
theorem c532 : compF tt Tryz.f32 = some ir532 := by kernel_rfl
/-- voussoir/voussoirref39.Same -/
def b37 : AC := (.seq (.region 2 [
    ⟨(some 2), (.box 0 (.tmp 0)), none⟩,
    ⟨(some 3), (.box 1 (.tmp 1)), none⟩,
    ⟨(some 4), (.mov (.const (.bool false))), none⟩])
  (.seq (.region 0 [
    ⟨(some 5), (.load true 18 (.tmp 2)), none⟩,
    ⟨(some 6), (.load true 18 (.tmp 3)), none⟩,
    ⟨(some 7), (.call 56 [(.tmp 5), (.tmp 6)]), none⟩,
    ⟨(some 4), (.mov (.tmp 7)), none⟩])
  .ret))
def ir37 : AF := ⟨8, [(.tmp 4)], b37⟩
theorem c37 : compF tt Tryz.f33 = some ir37 := by kernel_rfl
def b534_0 : AC := (.region 0 [
    ⟨(some 4), (.mov (.const (.pointer none))), none⟩])
def b534_1 : AC := (.region 1 [
    ⟨(some 15), (.mov (.tmp 0)), none⟩,
    ⟨(some 16), (.build [(.v (.slice none 0 0)), (.v (.slice none 0 0)), (.v (.slice none 0 0))] [(1, (1, (.tmp 15)))]), none⟩,
    ⟨(some 17), (.box 0 (.tmp 16)), none⟩,
    ⟨(some 5), (.mov (.tmp 17)), none⟩])
def b534_2 : AC := (.seq (.region 0 [
    ⟨(some 18), (.mov (.tmp 1)), none⟩,
    ⟨(some 19), (.lenL (.tmp 18)), none⟩,
    ⟨(some 20), (.mov (.const (.int .i64 0))), none⟩])
  (.block 0 (.loop (.seq (.region 0 [
    ⟨(some 21), (.binI .lss .i64 (.tmp 20) (.tmp 19)), none⟩])
  (.seq (.cond (.tmp 21) .skip (.exit 0))
  (.seq (.block 1 (.seq (.region 1 [
    ⟨(some 22), (.iaddr 2 (.tmp 18) (.tmp 20)), none⟩,
    ⟨(some 23), (.load true 2 (.tmp 22)), none⟩,
    ⟨(some 7), (.zero 0 [(.v (.string ⟨#[]⟩)), (.v (.string ⟨#[]⟩))]), none⟩,
    ⟨none, (.store 2 (.tmp 7) (.tmp 23)), none⟩])
  (.dregion 2 [
    ⟨(some 24), (.mov (.tmp 5)), none⟩,
    ⟨(some 25), (.mov (.tmp 5)), none⟩,
    ⟨(some 26), (.chk (.tmp 25)), none⟩,
    ⟨(some 27), (.faddr 0 (.tmp 26)), none⟩,
    ⟨(some 28), (.load false 1 (.tmp 27)), none⟩,
    ⟨(some 29), (.faddr 0 (.tmp 7)), none⟩,
    ⟨(some 30), (.load false 1 (.tmp 29)), none⟩,
    ⟨(some 31), (.bsl 0 1 [(.v (.string ⟨#[]⟩))] 1 [(0, (.tmp 30))]), none⟩,
    ⟨(some 32), (.app 1 1 16 (.tmp 28) (.tmp 31)), none⟩,
    ⟨(some 33), (.chk (.tmp 24)), none⟩,
    ⟨(some 34), (.faddr 0 (.tmp 33)), none⟩,
    ⟨none, (.store 1 (.tmp 34) (.tmp 32)), none⟩] [[], [], [1], [2], [3], [], [5], [6], [4, 7], [0, 0, 1, 2, 3, 4, 5, 6, 7, 8], [9, 0, 1, 2, 3, 4, 5, 6, 7, 8], [10, 8, 8, 0, 1, 2, 3, 4, 5, 6, 7, 8]])))
  (.region 0 [
    ⟨(some 35), (.binI .add .i64 (.tmp 20) (.const (.int .i64 1))), none⟩,
    ⟨(some 20), (.mov (.tmp 35)), none⟩])))))))
def b534_3 : AC := (.region 1 [
    ⟨(some 36), (.mkmap 0 ⟨false, [.s]⟩), none⟩,
    ⟨(some 8), (.mov (.tmp 36)), none⟩])
def b534_4 : AC := (.seq (.region 0 [
    ⟨(some 37), (.mov (.tmp 0)), none⟩,
    ⟨(some 38), (.call 57 [(.tmp 37)]), none⟩,
    ⟨(some 39), (.lenL (.tmp 38)), none⟩,
    ⟨(some 40), (.mov (.const (.int .i64 0))), none⟩])
  (.block 2 (.loop (.seq (.region 0 [
    ⟨(some 41), (.binI .lss .i64 (.tmp 40) (.tmp 39)), none⟩])
  (.seq (.cond (.tmp 41) .skip (.exit 2))
  (.seq (.block 3 (.seq (.region 1 [
    ⟨(some 42), (.iaddr 18 (.tmp 38) (.tmp 40)), none⟩,
    ⟨(some 43), (.load true 18 (.tmp 42)), none⟩,
    ⟨(some 10), (.zero 0 [(.v (.string ⟨#[]⟩)), (.v (.int .i64 0)), (.v (.int .i64 0)), (.v (.int .i64 0)), (.v (.slice none 0 0)), (.v (.int .i64 0)), (.v (.string ⟨#[]⟩)), (.v (.int .i64 0)), (.v (.string ⟨#[]⟩)), (.v (.int .i64 0)), (.v (.bool false)), (.v (.string ⟨#[]⟩)), (.v (.string ⟨#[]⟩)), (.v (.string ⟨#[]⟩)), (.v (.string ⟨#[]⟩)), (.v (.string ⟨#[]⟩)), (.v (.int .i64 0)), (.v (.string ⟨#[]⟩))]), none⟩,
    ⟨none, (.store 18 (.tmp 10) (.tmp 43)), none⟩])
  (.seq (.dregion 0 [
    ⟨(some 45), (.load true 18 (.tmp 10)), none⟩,
    ⟨(some 46), (.mov (.tmp 5)), none⟩,
    ⟨(some 47), (.chk (.tmp 46)), none⟩,
    ⟨(some 48), (.faddr 0 (.tmp 47)), none⟩,
    ⟨(some 49), (.load false 1 (.tmp 48)), none⟩,
    ⟨(some 50), (.call 58 [(.tmp 45), (.tmp 49)]), none⟩,
    ⟨(some 44), (.mov (.tmp 50)), none⟩,
    ⟨(some 51), (.ext (.tmp 44) 0), none⟩,
    ⟨(some 52), (.ext (.tmp 44) 1), none⟩,
    ⟨(some 11), (.mov (.tmp 51)), none⟩,
    ⟨(some 12), (.mov (.tmp 52)), none⟩] [[], [], [1], [2], [3], [0, 4], [5], [6], [6], [7, 5, 0, 1, 2, 3, 4, 5, 6, 7], [8, 9, 0, 1, 2, 3, 4, 5, 6, 7, 8, 9]])
  (.seq (.region 0 [
    ⟨(some 54), (.mov (.tmp 8)), none⟩,
    ⟨(some 55), (.faddr 0 (.tmp 10)), none⟩,
    ⟨(some 56), (.faddr 0 (.tmp 55)), none⟩,
    ⟨(some 57), (.load false 1 (.tmp 56)), none⟩,
    ⟨(some 58), (.look ⟨false, [.s]⟩ (.c (.v (.slice none 0 0))) (.tmp 54) (.tmp 57) true), none⟩,
    ⟨(some 53), (.mov (.tmp 58)), none⟩,
    ⟨(some 59), (.ext (.tmp 53) 0), none⟩,
    ⟨(some 60), (.ext (.tmp 53) 1), none⟩,
    ⟨(some 13), (.mov (.tmp 59)), none⟩,
    ⟨(some 14), (.mov (.tmp 60)), none⟩])
  (.seq (.seq (.region 0 [
    ⟨(some 61), (.mov (.tmp 12)), none⟩,
    ⟨(some 62), (.not (.tmp 61)), none⟩,
    ⟨(some 63), (.mov (.tmp 62)), none⟩,
    ⟨(some 64), (.mov (.tmp 14)), (some (63, false))⟩,
    ⟨(some 65), (.mov (.tmp 64)), (some (63, false))⟩,
    ⟨(some 66), (.mov (.tmp 13)), (some (65, true))⟩,
    ⟨(some 67), (.mov (.tmp 11)), (some (65, true))⟩,
    ⟨(some 68), (.call 59 [(.tmp 66), (.tmp 67)]), (some (65, true))⟩,
    ⟨(some 69), (.not (.tmp 68)), (some (65, true))⟩,
    ⟨(some 70), (.mov (.tmp 69)), (some (65, true))⟩,
    ⟨(some 71), (.mov (.tmp 11)), (some (70, false))⟩,
    ⟨(some 72), (.lenL (.tmp 71)), (some (70, false))⟩,
    ⟨(some 73), (.mov (.tmp 13)), (some (70, false))⟩,
    ⟨(some 74), (.lenL (.tmp 73)), (some (70, false))⟩,
    ⟨(some 75), (.binI .leq .i64 (.tmp 72) (.tmp 74)), (some (70, false))⟩,
    ⟨(some 76), (.pick (.tmp 70) (.const (.bool true)) (.tmp 75)), (some (65, true))⟩,
    ⟨(some 77), (.pick (.tmp 65) (.tmp 76) (.const (.bool false))), (some (63, false))⟩,
    ⟨(some 78), (.pick (.tmp 63) (.const (.bool true)) (.tmp 77)), none⟩])
  (.cond (.tmp 78) (.exit 3) .skip))
  (.seq (.region 0 [
    ⟨(some 79), (.mov (.tmp 8)), none⟩,
    ⟨(some 80), (.faddr 0 (.tmp 10)), none⟩,
    ⟨(some 81), (.faddr 0 (.tmp 80)), none⟩,
    ⟨(some 82), (.load false 1 (.tmp 81)), none⟩,
    ⟨(some 83), (.mov (.tmp 11)), none⟩,
    ⟨none, (.mapup ⟨false, [.s]⟩ (.tmp 79) (.tmp 82) (.tmp 83)), none⟩])
  (.dregion 2 [
    ⟨(some 84), (.mov (.tmp 5)), none⟩,
    ⟨(some 85), (.mov (.tmp 5)), none⟩,
    ⟨(some 86), (.chk (.tmp 85)), none⟩,
    ⟨(some 87), (.faddr 2 (.tmp 86)), none⟩,
    ⟨(some 88), (.load false 1 (.tmp 87)), none⟩,
    ⟨(some 89), (.load true 18 (.tmp 10)), none⟩,
    ⟨(some 90), (.mov (.tmp 11)), none⟩,
    ⟨(some 91), (.build [(.v (.string ⟨#[]⟩)), (.v (.int .i64 0)), (.v (.int .i64 0)), (.v (.int .i64 0)), (.v (.slice none 0 0)), (.v (.int .i64 0)), (.v (.string ⟨#[]⟩)), (.v (.int .i64 0)), (.v (.string ⟨#[]⟩)), (.v (.int .i64 0)), (.v (.bool false)), (.v (.string ⟨#[]⟩)), (.v (.string ⟨#[]⟩)), (.v (.string ⟨#[]⟩)), (.v (.string ⟨#[]⟩)), (.v (.string ⟨#[]⟩)), (.v (.int .i64 0)), (.v (.string ⟨#[]⟩)), (.v (.slice none 0 0))] [(0, (18, (.tmp 89))), (18, (1, (.tmp 90)))]), none⟩,
    ⟨(some 92), (.bsl 0 19 [(.v (.string ⟨#[]⟩)), (.v (.int .i64 0)), (.v (.int .i64 0)), (.v (.int .i64 0)), (.v (.slice none 0 0)), (.v (.int .i64 0)), (.v (.string ⟨#[]⟩)), (.v (.int .i64 0)), (.v (.string ⟨#[]⟩)), (.v (.int .i64 0)), (.v (.bool false)), (.v (.string ⟨#[]⟩)), (.v (.string ⟨#[]⟩)), (.v (.string ⟨#[]⟩)), (.v (.string ⟨#[]⟩)), (.v (.string ⟨#[]⟩)), (.v (.int .i64 0)), (.v (.string ⟨#[]⟩)), (.v (.slice none 0 0))] 1 [(0, (.tmp 91))]), none⟩,
    ⟨(some 93), (.app 1 19 256 (.tmp 88) (.tmp 92)), none⟩,
    ⟨(some 94), (.chk (.tmp 84)), none⟩,
    ⟨(some 95), (.faddr 2 (.tmp 94)), none⟩,
    ⟨none, (.store 1 (.tmp 95) (.tmp 93)), none⟩] [[], [], [1], [2], [3], [], [], [5, 6], [7], [4, 8], [0, 0, 1, 2, 3, 4, 5, 6, 7, 8, 9], [10, 0, 1, 2, 3, 4, 5, 6, 7, 8, 9], [11, 9, 9, 0, 1, 2, 3, 4, 5, 6, 7, 8, 9]])))))))
  (.region 0 [
    ⟨(some 96), (.binI .add .i64 (.tmp 40) (.const (.int .i64 1))), none⟩,
    ⟨(some 40), (.mov (.tmp 96)), none⟩])))))))
def b534_5 : AC := (.region 0 [
    ⟨(some 97), (.mov (.tmp 5)), none⟩,
    ⟨(some 4), (.mov (.tmp 97)), none⟩])
def b534_6 : AC := .ret
/-- voussoir/evict.gathered -/
def b534 : AC := (.seq b534_0 (.seq b534_1 (.seq b534_2 (.seq b534_3 (.seq b534_4 (.seq b534_5 b534_6))))))
def ir534 : AF := ⟨98, [(.tmp 4)], b534⟩
theorem c534 : compF tt Tryz.f34 = some ir534 := by kernel_rfl
/-- (*voussoir/evict.council).out -/
def b535 : AC := (.seq (.region 0 [
    ⟨(some 2), (.mov (.const (.slice none 0 0))), none⟩])
  (.seq (.region 0 [
    ⟨(some 3), (.mov (.const (.slice none 0 0))), none⟩])
  (.seq (.seq (.region 0 [
    ⟨(some 9), (.mov (.tmp 0)), none⟩,
    ⟨(some 10), (.chk (.tmp 9)), none⟩,
    ⟨(some 11), (.faddr 2 (.tmp 10)), none⟩,
    ⟨(some 12), (.load false 1 (.tmp 11)), none⟩,
    ⟨(some 13), (.lenL (.tmp 12)), none⟩,
    ⟨(some 14), (.mov (.const (.int .i64 0))), none⟩])
  (.block 0 (.loop (.seq (.region 0 [
    ⟨(some 15), (.binI .lss .i64 (.tmp 14) (.tmp 13)), none⟩])
  (.seq (.cond (.tmp 15) .skip (.exit 0))
  (.seq (.block 1 (.seq (.region 1 [
    ⟨(some 16), (.iaddr 19 (.tmp 12) (.tmp 14)), none⟩,
    ⟨(some 17), (.load true 19 (.tmp 16)), none⟩,
    ⟨(some 5), (.zero 0 [(.v (.string ⟨#[]⟩)), (.v (.int .i64 0)), (.v (.int .i64 0)), (.v (.int .i64 0)), (.v (.slice none 0 0)), (.v (.int .i64 0)), (.v (.string ⟨#[]⟩)), (.v (.int .i64 0)), (.v (.string ⟨#[]⟩)), (.v (.int .i64 0)), (.v (.bool false)), (.v (.string ⟨#[]⟩)), (.v (.string ⟨#[]⟩)), (.v (.string ⟨#[]⟩)), (.v (.string ⟨#[]⟩)), (.v (.string ⟨#[]⟩)), (.v (.int .i64 0)), (.v (.string ⟨#[]⟩)), (.v (.slice none 0 0))]), none⟩,
    ⟨none, (.store 19 (.tmp 5) (.tmp 17)), none⟩])
  (.seq (.region 1 [
    ⟨(some 18), (.mov (.tmp 0)), none⟩,
    ⟨(some 19), (.faddr 18 (.tmp 5)), none⟩,
    ⟨(some 20), (.load false 1 (.tmp 19)), none⟩,
    ⟨(some 21), (.call 60 [(.tmp 18), (.tmp 20)]), none⟩,
    ⟨(some 6), (.zero 0 [(.v (.slice none 0 0))]), none⟩,
    ⟨none, (.store 1 (.tmp 6) (.tmp 21)), none⟩])
  (.seq (.region 1 [
    ⟨(some 22), (.mkfn 61 [(.tmp 6)]), none⟩,
    ⟨(some 7), (.zero 0 [(.v .nilFunc)]), none⟩,
    ⟨none, (.store 1 (.tmp 7) (.tmp 22)), none⟩])
  (.seq (.region 0 [
    ⟨(some 23), (.mov (.tmp 0)), none⟩,
    ⟨(some 24), (.faddr 18 (.tmp 5)), none⟩,
    ⟨(some 25), (.load false 1 (.tmp 24)), none⟩,
    ⟨(some 26), (.call 65 [(.tmp 23), (.tmp 25)]), none⟩,
    ⟨(some 27), (.mkfn 66 [(.tmp 7)]), none⟩,
    ⟨(some 28), (.call 64 [(.tmp 26), (.tmp 27)]), none⟩,
    ⟨(some 29), (.not (.tmp 28)), none⟩,
    ⟨(some 8), (.mov (.tmp 29)), none⟩])
  (.seq (.region 0 [
    ⟨(some 30), (.mov (.tmp 8)), none⟩,
    ⟨(some 31), (.mov (.tmp 30)), none⟩,
    ⟨(some 32), (.mov (.tmp 3)), (some (31, true))⟩,
    ⟨(some 33), (.mkfn 68 [(.tmp 5)]), (some (31, true))⟩,
    ⟨(some 34), (.call 67 [(.tmp 32), (.tmp 33)]), (some (31, true))⟩,
    ⟨(some 35), (.not (.tmp 34)), (some (31, true))⟩,
    ⟨(some 36), (.pick (.tmp 31) (.tmp 35) (.const (.bool false))), none⟩])
  (.cond (.tmp 36) (.region 2 [
    ⟨(some 37), (.mov (.tmp 3)), none⟩,
    ⟨(some 38), (.faddr 18 (.tmp 5)), none⟩,
    ⟨(some 39), (.load false 1 (.tmp 38)), none⟩,
    ⟨(some 40), (.bsl 0 1 [(.v (.slice none 0 0))] 1 [(0, (.tmp 39))]), none⟩,
    ⟨(some 41), (.app 1 1 24 (.tmp 37) (.tmp 40)), none⟩,
    ⟨(some 3), (.mov (.tmp 41)), none⟩]) .skip)))))))
  (.region 0 [
    ⟨(some 42), (.binI .add .i64 (.tmp 14) (.const (.int .i64 1))), none⟩,
    ⟨(some 14), (.mov (.tmp 42)), none⟩])))))))
  (.seq (.region 0 [
    ⟨(some 43), (.mov (.tmp 3)), none⟩,
    ⟨(some 44), (.call 70 [(.tmp 43), (.func 71)]), none⟩])
  (.seq (.region 0 [
    ⟨(some 45), (.mov (.tmp 3)), none⟩,
    ⟨(some 2), (.mov (.tmp 45)), none⟩])
  .ret)))))
def ir535 : AF := ⟨46, [(.tmp 2)], b535⟩
theorem c535 : compF tt Tryz.f35 = some ir535 := by kernel_rfl
/-- (*voussoir/evict.council).final -/
def b536 : AC := (.seq (.region 1 [
    ⟨(some 2), (.box 0 (.tmp 0)), none⟩,
    ⟨(some 4), (.mov (.const (.bool false))), none⟩])
  (.seq (.region 1 [
    ⟨(some 7), (.load false 1 (.tmp 2)), none⟩,
    ⟨(some 8), (.mov (.tmp 1)), none⟩,
    ⟨(some 9), (.call 60 [(.tmp 7), (.tmp 8)]), none⟩,
    ⟨(some 5), (.zero 0 [(.v (.slice none 0 0))]), none⟩,
    ⟨none, (.store 1 (.tmp 5) (.tmp 9)), none⟩])
  (.seq (.region 1 [
    ⟨(some 10), (.mkfn 72 [(.tmp 2), (.tmp 5)]), none⟩,
    ⟨(some 6), (.zero 0 [(.v .nilFunc)]), none⟩,
    ⟨none, (.store 1 (.tmp 6) (.tmp 10)), none⟩])
  (.seq (.region 0 [
    ⟨(some 11), (.load false 1 (.tmp 2)), none⟩,
    ⟨(some 12), (.mov (.tmp 1)), none⟩,
    ⟨(some 13), (.call 65 [(.tmp 11), (.tmp 12)]), none⟩,
    ⟨(some 14), (.mkfn 76 [(.tmp 6)]), none⟩,
    ⟨(some 15), (.call 64 [(.tmp 13), (.tmp 14)]), none⟩,
    ⟨(some 16), (.not (.tmp 15)), none⟩,
    ⟨(some 4), (.mov (.tmp 16)), none⟩])
  .ret))))
def ir536 : AF := ⟨17, [(.tmp 4)], b536⟩
theorem c536 : compF tt Tryz.f36 = some ir536 := by kernel_rfl
def b537_0 : AC := (.region 0 [
    ⟨(some 8), (.mov (.const (.int .i64 0))), none⟩])
def b537_1 : AC := (.region 0 [
    ⟨(some 15), (.mov (.tmp 0)), none⟩,
    ⟨(some 16), (.mov (.tmp 1)), none⟩,
    ⟨(some 17), (.mov (.tmp 2)), none⟩,
    ⟨(some 18), (.iaddr 1 (.tmp 16) (.tmp 17)), none⟩,
    ⟨(some 19), (.load false 1 (.tmp 18)), none⟩,
    ⟨(some 20), (.call 60 [(.tmp 15), (.tmp 19)]), none⟩,
    ⟨(some 9), (.mov (.tmp 20)), none⟩])
def b537_2 : AC := (.seq (.region 0 [
    ⟨(some 21), (.mov (.tmp 2)), none⟩,
    ⟨(some 22), (.binI .sub .i64 (.tmp 21) (.const (.int .i64 1))), none⟩,
    ⟨(some 10), (.mov (.tmp 22)), none⟩])
  (.block 0 (.loop (.seq (.seq (.region 0 [
    ⟨(some 23), (.mov (.tmp 10)), none⟩,
    ⟨(some 24), (.binI .geq .i64 (.tmp 23) (.const (.int .i64 0))), none⟩])
  (.cond (.tmp 24) .skip (.exit 0)))
  (.seq (.block 1 (.seq (.seq (.dregion 0 [
    ⟨(some 27), (.mov (.tmp 1)), none⟩,
    ⟨(some 28), (.mov (.tmp 10)), none⟩,
    ⟨(some 29), (.iaddr 1 (.tmp 27) (.tmp 28)), none⟩,
    ⟨(some 30), (.load false 1 (.tmp 29)), none⟩,
    ⟨(some 31), (.mov (.tmp 3)), none⟩,
    ⟨(some 32), (.call 77 [(.tmp 30), (.tmp 31)]), none⟩,
    ⟨(some 33), (.not (.tmp 32)), none⟩,
    ⟨(some 34), (.mov (.tmp 33)), none⟩,
    ⟨(some 35), (.mov (.tmp 1)), (some (34, false))⟩,
    ⟨(some 36), (.mov (.tmp 10)), (some (34, false))⟩,
    ⟨(some 37), (.iaddr 1 (.tmp 35) (.tmp 36)), (some (34, false))⟩,
    ⟨(some 38), (.load false 1 (.tmp 37)), (some (34, false))⟩,
    ⟨(some 39), (.mov (.tmp 1)), (some (34, false))⟩,
    ⟨(some 40), (.mov (.tmp 2)), (some (34, false))⟩,
    ⟨(some 41), (.iaddr 1 (.tmp 39) (.tmp 40)), (some (34, false))⟩,
    ⟨(some 42), (.load false 1 (.tmp 41)), (some (34, false))⟩,
    ⟨(some 43), (.call 59 [(.tmp 38), (.tmp 42)]), (some (34, false))⟩,
    ⟨(some 44), (.not (.tmp 43)), (some (34, false))⟩,
    ⟨(some 45), (.pick (.tmp 34) (.const (.bool true)) (.tmp 44)), none⟩] [[], [], [0, 1], [2], [], [3, 4], [5], [6, 5], [7], [7], [8, 9, 7], [10, 7], [7], [7], [12, 13, 7], [14, 7], [11, 15, 7, 7], [16, 7], [7, 17]])
  (.cond (.tmp 45) (.exit 1) .skip))
  (.seq (.region 1 [
    ⟨(some 46), (.mov (.tmp 0)), none⟩,
    ⟨(some 47), (.mov (.tmp 1)), none⟩,
    ⟨(some 48), (.mov (.tmp 10)), none⟩,
    ⟨(some 49), (.iaddr 1 (.tmp 47) (.tmp 48)), none⟩,
    ⟨(some 50), (.load false 1 (.tmp 49)), none⟩,
    ⟨(some 51), (.call 60 [(.tmp 46), (.tmp 50)]), none⟩,
    ⟨(some 11), (.zero 0 [(.v (.slice none 0 0))]), none⟩,
    ⟨none, (.store 1 (.tmp 11) (.tmp 51)), none⟩])
  (.seq (.region 0 [
    ⟨(some 52), (.mov (.tmp 9)), none⟩,
    ⟨(some 53), (.mkfn 78 [(.tmp 11)]), none⟩,
    ⟨(some 54), (.call 62 [(.tmp 52), (.tmp 53)]), none⟩])
  (.cond (.tmp 54) (.seq (.region 0 [
    ⟨(some 55), (.mov (.tmp 0)), none⟩,
    ⟨(some 56), (.mov (.tmp 1)), none⟩,
    ⟨(some 57), (.mov (.tmp 10)), none⟩,
    ⟨(some 58), (.mov (.tmp 3)), none⟩,
    ⟨(some 59), (.call 37 [(.tmp 55), (.tmp 56), (.tmp 57), (.tmp 58)]), none⟩,
    ⟨(some 8), (.mov (.tmp 59)), none⟩])
  .ret) .skip)))))
  (.region 0 [
    ⟨(some 25), (.mov (.tmp 10)), none⟩,
    ⟨(some 26), (.binI .sub .i64 (.tmp 25) (.const (.int .i64 1))), none⟩,
    ⟨(some 10), (.mov (.tmp 26)), none⟩]))))))
def b537_3 : AC := (.region 0 [
    ⟨(some 12), (.mov (.const (.int .i64 0))), none⟩])
def b537_4 : AC := (.seq (.region 0 [
    ⟨(some 60), (.mov (.tmp 9)), none⟩,
    ⟨(some 61), (.lenL (.tmp 60)), none⟩,
    ⟨(some 62), (.mov (.const (.int .i64 0))), none⟩])
  (.block 2 (.loop (.seq (.region 0 [
    ⟨(some 63), (.binI .lss .i64 (.tmp 62) (.tmp 61)), none⟩])
  (.seq (.cond (.tmp 63) .skip (.exit 2))
  (.seq (.block 3 (.seq (.region 1 [
    ⟨(some 64), (.iaddr 19 (.tmp 60) (.tmp 62)), none⟩,
    ⟨(some 65), (.load true 19 (.tmp 64)), none⟩,
    ⟨(some 14), (.zero 0 [(.v (.string ⟨#[]⟩)), (.v (.int .i64 0)), (.v (.int .i64 0)), (.v (.int .i64 0)), (.v (.slice none 0 0)), (.v (.int .i64 0)), (.v (.string ⟨#[]⟩)), (.v (.int .i64 0)), (.v (.string ⟨#[]⟩)), (.v (.int .i64 0)), (.v (.bool false)), (.v (.string ⟨#[]⟩)), (.v (.string ⟨#[]⟩)), (.v (.string ⟨#[]⟩)), (.v (.string ⟨#[]⟩)), (.v (.string ⟨#[]⟩)), (.v (.int .i64 0)), (.v (.string ⟨#[]⟩)), (.v (.slice none 0 0))]), none⟩,
    ⟨none, (.store 19 (.tmp 14) (.tmp 65)), none⟩])
  (.region 0 [
    ⟨(some 66), (.mov (.tmp 12)), none⟩,
    ⟨(some 67), (.faddr 0 (.tmp 14)), none⟩,
    ⟨(some 68), (.faddr 4 (.tmp 67)), none⟩,
    ⟨(some 69), (.load false 1 (.tmp 68)), none⟩,
    ⟨(some 70), (.mov (.tmp 3)), none⟩,
    ⟨(some 71), (.call 79 [(.tmp 69), (.tmp 70)]), none⟩,
    ⟨(some 72), (.maxmin true .i64 (.tmp 66) (.tmp 71)), none⟩,
    ⟨(some 12), (.mov (.tmp 72)), none⟩])))
  (.region 0 [
    ⟨(some 73), (.binI .add .i64 (.tmp 62) (.const (.int .i64 1))), none⟩,
    ⟨(some 62), (.mov (.tmp 73)), none⟩])))))))
def b537_5 : AC := (.region 0 [
    ⟨(some 74), (.mov (.tmp 12)), none⟩,
    ⟨(some 8), (.mov (.tmp 74)), none⟩])
def b537_6 : AC := .ret
/-- (*voussoir/evict.council).upto -/
def b537 : AC := (.seq b537_0 (.seq b537_1 (.seq b537_2 (.seq b537_3 (.seq b537_4 (.seq b537_5 b537_6))))))
def ir537 : AF := ⟨75, [(.tmp 8)], b537⟩
theorem c537 : compF tt Tryz.f37 = some ir537 := by kernel_rfl
/-- (*voussoir/evict.council).sure -/
def b538 : AC := (.seq (.region 0 [
    ⟨(some 4), (.mov (.const (.int .i64 0))), none⟩])
  (.seq (.region 0 [
    ⟨(some 5), (.mov (.const (.int .i64 (-1)))), none⟩])
  (.seq (.seq (.region 0 [
    ⟨(some 9), (.mov (.tmp 0)), none⟩,
    ⟨(some 10), (.chk (.tmp 9)), none⟩,
    ⟨(some 11), (.faddr 2 (.tmp 10)), none⟩,
    ⟨(some 12), (.load false 1 (.tmp 11)), none⟩,
    ⟨(some 13), (.lenL (.tmp 12)), none⟩,
    ⟨(some 14), (.mov (.const (.int .i64 0))), none⟩])
  (.block 0 (.loop (.seq (.region 0 [
    ⟨(some 15), (.binI .lss .i64 (.tmp 14) (.tmp 13)), none⟩])
  (.seq (.cond (.tmp 15) .skip (.exit 0))
  (.seq (.block 1 (.seq (.region 1 [
    ⟨(some 16), (.iaddr 19 (.tmp 12) (.tmp 14)), none⟩,
    ⟨(some 17), (.load true 19 (.tmp 16)), none⟩,
    ⟨(some 7), (.zero 0 [(.v (.string ⟨#[]⟩)), (.v (.int .i64 0)), (.v (.int .i64 0)), (.v (.int .i64 0)), (.v (.slice none 0 0)), (.v (.int .i64 0)), (.v (.string ⟨#[]⟩)), (.v (.int .i64 0)), (.v (.string ⟨#[]⟩)), (.v (.int .i64 0)), (.v (.bool false)), (.v (.string ⟨#[]⟩)), (.v (.string ⟨#[]⟩)), (.v (.string ⟨#[]⟩)), (.v (.string ⟨#[]⟩)), (.v (.string ⟨#[]⟩)), (.v (.int .i64 0)), (.v (.string ⟨#[]⟩)), (.v (.slice none 0 0))]), none⟩,
    ⟨none, (.store 19 (.tmp 7) (.tmp 17)), none⟩])
  (.seq (.region 0 [
    ⟨(some 18), (.faddr 0 (.tmp 7)), none⟩,
    ⟨(some 19), (.faddr 4 (.tmp 18)), none⟩,
    ⟨(some 20), (.load false 1 (.tmp 19)), none⟩,
    ⟨(some 21), (.mov (.tmp 1)), none⟩,
    ⟨(some 22), (.call 79 [(.tmp 20), (.tmp 21)]), none⟩,
    ⟨(some 8), (.mov (.tmp 22)), none⟩])
  (.seq (.region 0 [
    ⟨(some 23), (.faddr 18 (.tmp 7)), none⟩,
    ⟨(some 24), (.load false 1 (.tmp 23)), none⟩,
    ⟨(some 25), (.mov (.tmp 1)), none⟩,
    ⟨(some 26), (.call 77 [(.tmp 24), (.tmp 25)]), none⟩,
    ⟨(some 27), (.mov (.tmp 26)), none⟩,
    ⟨(some 28), (.mov (.tmp 5)), (some (27, true))⟩,
    ⟨(some 29), (.binI .lss .i64 (.tmp 28) (.const (.int .i64 0))), (some (27, true))⟩,
    ⟨(some 30), (.mov (.tmp 29)), (some (27, true))⟩,
    ⟨(some 31), (.mov (.tmp 8)), (some (30, false))⟩,
    ⟨(some 32), (.mov (.tmp 5)), (some (30, false))⟩,
    ⟨(some 33), (.binI .lss .i64 (.tmp 31) (.tmp 32)), (some (30, false))⟩,
    ⟨(some 34), (.pick (.tmp 30) (.const (.bool true)) (.tmp 33)), (some (27, true))⟩,
    ⟨(some 35), (.pick (.tmp 27) (.tmp 34) (.const (.bool false))), none⟩])
  (.cond (.tmp 35) (.region 0 [
    ⟨(some 36), (.mov (.tmp 8)), none⟩,
    ⟨(some 5), (.mov (.tmp 36)), none⟩]) .skip)))))
  (.region 0 [
    ⟨(some 37), (.binI .add .i64 (.tmp 14) (.const (.int .i64 1))), none⟩,
    ⟨(some 14), (.mov (.tmp 37)), none⟩])))))))
  (.seq (.region 0 [
    ⟨(some 38), (.mov (.tmp 5)), none⟩,
    ⟨(some 39), (.maxmin true .i64 (.tmp 38) (.const (.int .i64 0))), none⟩,
    ⟨(some 4), (.mov (.tmp 39)), none⟩])
  .ret))))
def ir538 : AF := ⟨40, [(.tmp 4)], b538⟩
theorem c538 : compF tt Tryz.f38 = some ir538 := by kernel_rfl
def b539_0 : AC := (.region 0 [
    ⟨(some 4), (.mov (.const (.slice none 0 0))), none⟩])
def b539_1 : AC := (.region 1 [
    ⟨(some 13), (.bsl 0 18 [(.v (.string ⟨#[]⟩)), (.v (.int .i64 0)), (.v (.int .i64 0)), (.v (.int .i64 0)), (.v (.slice none 0 0)), (.v (.int .i64 0)), (.v (.string ⟨#[]⟩)), (.v (.int .i64 0)), (.v (.string ⟨#[]⟩)), (.v (.int .i64 0)), (.v (.bool false)), (.v (.string ⟨#[]⟩)), (.v (.string ⟨#[]⟩)), (.v (.string ⟨#[]⟩)), (.v (.string ⟨#[]⟩)), (.v (.string ⟨#[]⟩)), (.v (.int .i64 0)), (.v (.string ⟨#[]⟩))] 0 []), none⟩,
    ⟨(some 5), (.mov (.tmp 13)), none⟩])
def b539_2 : AC := (.seq (.region 0 [
    ⟨(some 14), (.mov (.tmp 0)), none⟩,
    ⟨(some 15), (.call 80 [(.tmp 14)]), none⟩,
    ⟨(some 16), (.lenL (.tmp 15)), none⟩,
    ⟨(some 17), (.mov (.const (.int .i64 0))), none⟩])
  (.block 0 (.loop (.seq (.region 0 [
    ⟨(some 18), (.binI .lss .i64 (.tmp 17) (.tmp 16)), none⟩])
  (.seq (.cond (.tmp 18) .skip (.exit 0))
  (.seq (.block 1 (.seq (.region 1 [
    ⟨(some 19), (.iaddr 18 (.tmp 15) (.tmp 17)), none⟩,
    ⟨(some 20), (.load true 18 (.tmp 19)), none⟩,
    ⟨(some 7), (.zero 0 [(.v (.string ⟨#[]⟩)), (.v (.int .i64 0)), (.v (.int .i64 0)), (.v (.int .i64 0)), (.v (.slice none 0 0)), (.v (.int .i64 0)), (.v (.string ⟨#[]⟩)), (.v (.int .i64 0)), (.v (.string ⟨#[]⟩)), (.v (.int .i64 0)), (.v (.bool false)), (.v (.string ⟨#[]⟩)), (.v (.string ⟨#[]⟩)), (.v (.string ⟨#[]⟩)), (.v (.string ⟨#[]⟩)), (.v (.string ⟨#[]⟩)), (.v (.int .i64 0)), (.v (.string ⟨#[]⟩))]), none⟩,
    ⟨none, (.store 18 (.tmp 7) (.tmp 20)), none⟩])
  (.seq (.region 0 [
    ⟨(some 22), (.load true 18 (.tmp 7)), none⟩,
    ⟨(some 23), (.mov (.tmp 1)), none⟩,
    ⟨(some 24), (.call 42 [(.tmp 22), (.tmp 23)]), none⟩,
    ⟨(some 21), (.mov (.tmp 24)), none⟩,
    ⟨(some 25), (.ext (.tmp 21) 0), none⟩,
    ⟨(some 26), (.ext (.tmp 21) 1), none⟩,
    ⟨(some 8), (.mov (.tmp 25)), none⟩,
    ⟨(some 9), (.mov (.tmp 26)), none⟩])
  (.seq (.seq (.region 0 [
    ⟨(some 27), (.faddr 5 (.tmp 7)), none⟩,
    ⟨(some 28), (.load false 1 (.tmp 27)), none⟩,
    ⟨(some 29), (.binI .neq .i64 (.tmp 28) (.const (.int .i64 5))), none⟩,
    ⟨(some 30), (.mov (.tmp 29)), none⟩,
    ⟨(some 31), (.mov (.tmp 9)), (some (30, false))⟩,
    ⟨(some 32), (.not (.tmp 31)), (some (30, false))⟩,
    ⟨(some 33), (.pick (.tmp 30) (.const (.bool true)) (.tmp 32)), none⟩,
    ⟨(some 34), (.mov (.tmp 33)), none⟩,
    ⟨(some 35), (.mov (.tmp 1)), (some (34, false))⟩,
    ⟨(some 36), (.faddr 0 (.tmp 7)), (some (34, false))⟩,
    ⟨(some 37), (.faddr 0 (.tmp 36)), (some (34, false))⟩,
    ⟨(some 38), (.load false 1 (.tmp 37)), (some (34, false))⟩,
    ⟨(some 39), (.call 81 [(.tmp 35), (.tmp 38)]), (some (34, false))⟩,
    ⟨(some 40), (.not (.tmp 39)), (some (34, false))⟩,
    ⟨(some 41), (.pick (.tmp 34) (.const (.bool true)) (.tmp 40)), none⟩])
  (.cond (.tmp 41) (.exit 1) .skip))
  (.seq (.region 1 [
    ⟨(some 42), (.bsl 0 1 [(.v (.string ⟨#[]⟩))] 0 []), none⟩,
    ⟨(some 10), (.mov (.tmp 42)), none⟩])
  (.seq (.seq (.region 0 [
    ⟨(some 43), (.mov (.tmp 5)), none⟩,
    ⟨(some 44), (.lenL (.tmp 43)), none⟩,
    ⟨(some 45), (.mov (.const (.int .i64 0))), none⟩])
  (.block 2 (.loop (.seq (.region 0 [
    ⟨(some 46), (.binI .lss .i64 (.tmp 45) (.tmp 44)), none⟩])
  (.seq (.cond (.tmp 46) .skip (.exit 2))
  (.seq (.block 3 (.seq (.region 1 [
    ⟨(some 47), (.iaddr 18 (.tmp 43) (.tmp 45)), none⟩,
    ⟨(some 48), (.load true 18 (.tmp 47)), none⟩,
    ⟨(some 12), (.zero 0 [(.v (.string ⟨#[]⟩)), (.v (.int .i64 0)), (.v (.int .i64 0)), (.v (.int .i64 0)), (.v (.slice none 0 0)), (.v (.int .i64 0)), (.v (.string ⟨#[]⟩)), (.v (.int .i64 0)), (.v (.string ⟨#[]⟩)), (.v (.int .i64 0)), (.v (.bool false)), (.v (.string ⟨#[]⟩)), (.v (.string ⟨#[]⟩)), (.v (.string ⟨#[]⟩)), (.v (.string ⟨#[]⟩)), (.v (.string ⟨#[]⟩)), (.v (.int .i64 0)), (.v (.string ⟨#[]⟩))]), none⟩,
    ⟨none, (.store 18 (.tmp 12) (.tmp 48)), none⟩])
  (.seq (.region 0 [
    ⟨(some 49), (.faddr 0 (.tmp 12)), none⟩,
    ⟨(some 50), (.faddr 0 (.tmp 49)), none⟩,
    ⟨(some 51), (.load false 1 (.tmp 50)), none⟩,
    ⟨(some 52), (.faddr 0 (.tmp 7)), none⟩,
    ⟨(some 53), (.faddr 0 (.tmp 52)), none⟩,
    ⟨(some 54), (.load false 1 (.tmp 53)), none⟩,
    ⟨(some 55), (.binS .eql (.tmp 51) (.tmp 54)), none⟩])
  (.cond (.tmp 55) (.region 0 [
    ⟨(some 57), (.load true 18 (.tmp 12)), none⟩,
    ⟨(some 58), (.mov (.tmp 1)), none⟩,
    ⟨(some 59), (.call 42 [(.tmp 57), (.tmp 58)]), none⟩,
    ⟨(some 56), (.mov (.tmp 59)), none⟩,
    ⟨(some 60), (.ext (.tmp 56) 0), none⟩,
    ⟨(some 61), (.ext (.tmp 56) 1), none⟩,
    ⟨(some 10), (.mov (.tmp 60)), none⟩]) .skip))))
  (.region 0 [
    ⟨(some 62), (.binI .add .i64 (.tmp 45) (.const (.int .i64 1))), none⟩,
    ⟨(some 45), (.mov (.tmp 62)), none⟩])))))))
  (.seq (.region 0 [
    ⟨(some 63), (.mov (.tmp 10)), none⟩,
    ⟨(some 64), (.mov (.tmp 8)), none⟩,
    ⟨(some 65), (.call 82 [(.tmp 63), (.tmp 64)]), none⟩,
    ⟨(some 66), (.mov (.tmp 65)), none⟩,
    ⟨(some 67), (.mov (.tmp 8)), (some (66, true))⟩,
    ⟨(some 68), (.lenL (.tmp 67)), (some (66, true))⟩,
    ⟨(some 69), (.mov (.tmp 10)), (some (66, true))⟩,
    ⟨(some 70), (.lenL (.tmp 69)), (some (66, true))⟩,
    ⟨(some 71), (.binI .gtr .i64 (.tmp 68) (.tmp 70)), (some (66, true))⟩,
    ⟨(some 72), (.pick (.tmp 66) (.tmp 71) (.const (.bool false))), none⟩])
  (.cond (.tmp 72) (.region 2 [
    ⟨(some 73), (.mov (.tmp 5)), none⟩,
    ⟨(some 74), (.load true 18 (.tmp 7)), none⟩,
    ⟨(some 75), (.bsl 0 18 [(.v (.string ⟨#[]⟩)), (.v (.int .i64 0)), (.v (.int .i64 0)), (.v (.int .i64 0)), (.v (.slice none 0 0)), (.v (.int .i64 0)), (.v (.string ⟨#[]⟩)), (.v (.int .i64 0)), (.v (.string ⟨#[]⟩)), (.v (.int .i64 0)), (.v (.bool false)), (.v (.string ⟨#[]⟩)), (.v (.string ⟨#[]⟩)), (.v (.string ⟨#[]⟩)), (.v (.string ⟨#[]⟩)), (.v (.string ⟨#[]⟩)), (.v (.int .i64 0)), (.v (.string ⟨#[]⟩))] 1 [(0, (.tmp 74))]), none⟩,
    ⟨(some 76), (.app 1 18 232 (.tmp 73) (.tmp 75)), none⟩,
    ⟨(some 5), (.mov (.tmp 76)), none⟩]) .skip))))))))
  (.region 0 [
    ⟨(some 77), (.binI .add .i64 (.tmp 17) (.const (.int .i64 1))), none⟩,
    ⟨(some 17), (.mov (.tmp 77)), none⟩])))))))
def b539_3 : AC := (.region 0 [
    ⟨(some 78), (.mov (.tmp 5)), none⟩,
    ⟨(some 4), (.mov (.tmp 78)), none⟩])
def b539_4 : AC := .ret
/-- voussoir/voussoirref46.Votes -/
def b539 : AC := (.seq b539_0 (.seq b539_1 (.seq b539_2 (.seq b539_3 b539_4))))
def ir539 : AF := ⟨79, [(.tmp 4)], b539⟩
theorem c539 : compF tt Tryz.f39 = some ir539 := by kernel_rfl
def b540_0 : AC := (.region 0 [
    ⟨(some 4), (.mov (.const (.slice none 0 0))), none⟩])
def b540_1 : AC := (.region 1 [
    ⟨(some 13), (.bsl 0 1 [(.v (.string ⟨#[]⟩))] 0 []), none⟩,
    ⟨(some 5), (.mov (.tmp 13)), none⟩])
def b540_2 : AC := (.seq (.region 0 [
    ⟨(some 6), (.mov (.const (.int .i64 1))), none⟩])
  (.block 0 (.loop (.seq (.seq (.region 0 [
    ⟨(some 14), (.mov (.tmp 6)), none⟩,
    ⟨(some 15), (.mov (.tmp 1)), none⟩,
    ⟨(some 16), (.lenL (.tmp 15)), none⟩,
    ⟨(some 17), (.binI .leq .i64 (.tmp 14) (.tmp 16)), none⟩])
  (.cond (.tmp 17) .skip (.exit 0)))
  (.seq (.block 1 (.seq (.region 0 [
    ⟨(some 20), (.mov (.tmp 0)), none⟩,
    ⟨(some 21), (.lenL (.tmp 20)), none⟩,
    ⟨(some 22), (.mov (.const (.int .i64 0))), none⟩])
  (.block 2 (.loop (.seq (.region 0 [
    ⟨(some 23), (.binI .lss .i64 (.tmp 22) (.tmp 21)), none⟩])
  (.seq (.cond (.tmp 23) .skip (.exit 2))
  (.seq (.block 3 (.seq (.region 1 [
    ⟨(some 24), (.iaddr 18 (.tmp 20) (.tmp 22)), none⟩,
    ⟨(some 25), (.load true 18 (.tmp 24)), none⟩,
    ⟨(some 8), (.zero 0 [(.v (.string ⟨#[]⟩)), (.v (.int .i64 0)), (.v (.int .i64 0)), (.v (.int .i64 0)), (.v (.slice none 0 0)), (.v (.int .i64 0)), (.v (.string ⟨#[]⟩)), (.v (.int .i64 0)), (.v (.string ⟨#[]⟩)), (.v (.int .i64 0)), (.v (.bool false)), (.v (.string ⟨#[]⟩)), (.v (.string ⟨#[]⟩)), (.v (.string ⟨#[]⟩)), (.v (.string ⟨#[]⟩)), (.v (.string ⟨#[]⟩)), (.v (.int .i64 0)), (.v (.string ⟨#[]⟩))]), none⟩,
    ⟨none, (.store 18 (.tmp 8) (.tmp 25)), none⟩])
  (.seq (.region 0 [
    ⟨(some 27), (.load true 18 (.tmp 8)), none⟩,
    ⟨(some 28), (.mov (.tmp 1)), none⟩,
    ⟨(some 29), (.call 42 [(.tmp 27), (.tmp 28)]), none⟩,
    ⟨(some 26), (.mov (.tmp 29)), none⟩,
    ⟨(some 30), (.ext (.tmp 26) 0), none⟩,
    ⟨(some 31), (.ext (.tmp 26) 1), none⟩,
    ⟨(some 9), (.mov (.tmp 30)), none⟩,
    ⟨(some 10), (.mov (.tmp 31)), none⟩])
  (.seq (.region 0 [
    ⟨(some 33), (.faddr 17 (.tmp 8)), none⟩,
    ⟨(some 34), (.load false 1 (.tmp 33)), none⟩,
    ⟨(some 35), (.mov (.tmp 0)), none⟩,
    ⟨(some 36), (.mov (.tmp 1)), none⟩,
    ⟨(some 37), (.call 41 [(.tmp 34), (.tmp 35), (.tmp 36)]), none⟩,
    ⟨(some 32), (.mov (.tmp 37)), none⟩,
    ⟨(some 38), (.ext (.tmp 32) 0), none⟩,
    ⟨(some 39), (.ext (.tmp 32) 1), none⟩,
    ⟨(some 11), (.mov (.tmp 38)), none⟩,
    ⟨(some 12), (.mov (.tmp 39)), none⟩])
  (.seq (.region 0 [
    ⟨(some 40), (.mov (.tmp 12)), none⟩,
    ⟨(some 41), (.mov (.tmp 40)), none⟩,
    ⟨(some 42), (.mov (.tmp 9)), (some (41, true))⟩,
    ⟨(some 43), (.lenL (.tmp 42)), (some (41, true))⟩,
    ⟨(some 44), (.mov (.tmp 6)), (some (41, true))⟩,
    ⟨(some 45), (.binI .eql .i64 (.tmp 43) (.tmp 44)), (some (41, true))⟩,
    ⟨(some 46), (.pick (.tmp 41) (.tmp 45) (.const (.bool false))), none⟩,
    ⟨(some 47), (.mov (.tmp 46)), none⟩,
    ⟨(some 48), (.mov (.tmp 5)), (some (47, true))⟩,
    ⟨(some 49), (.faddr 17 (.tmp 8)), (some (47, true))⟩,
    ⟨(some 50), (.load false 1 (.tmp 49)), (some (47, true))⟩,
    ⟨(some 51), (.call 46 [(.tmp 48), (.tmp 50)]), (some (47, true))⟩,
    ⟨(some 52), (.not (.tmp 51)), (some (47, true))⟩,
    ⟨(some 53), (.pick (.tmp 47) (.tmp 52) (.const (.bool false))), none⟩])
  (.cond (.tmp 53) (.region 2 [
    ⟨(some 54), (.mov (.tmp 5)), none⟩,
    ⟨(some 55), (.faddr 17 (.tmp 8)), none⟩,
    ⟨(some 56), (.load false 1 (.tmp 55)), none⟩,
    ⟨(some 57), (.bsl 0 1 [(.v (.string ⟨#[]⟩))] 1 [(0, (.tmp 56))]), none⟩,
    ⟨(some 58), (.app 1 1 16 (.tmp 54) (.tmp 57)), none⟩,
    ⟨(some 5), (.mov (.tmp 58)), none⟩]) .skip))))))
  (.region 0 [
    ⟨(some 59), (.binI .add .i64 (.tmp 22) (.const (.int .i64 1))), none⟩,
    ⟨(some 22), (.mov (.tmp 59)), none⟩]))))))))
  (.region 0 [
    ⟨(some 18), (.mov (.tmp 6)), none⟩,
    ⟨(some 19), (.binI .add .i64 (.tmp 18) (.const (.int .i64 1))), none⟩,
    ⟨(some 6), (.mov (.tmp 19)), none⟩]))))))
def b540_3 : AC := (.region 0 [
    ⟨(some 60), (.mov (.tmp 5)), none⟩,
    ⟨(some 4), (.mov (.tmp 60)), none⟩])
def b540_4 : AC := .ret
/-- voussoir/voussoirref46.Outs -/
def b540 : AC := (.seq b540_0 (.seq b540_1 (.seq b540_2 (.seq b540_3 b540_4))))
def ir540 : AF := ⟨61, [(.tmp 4)], b540⟩
theorem c540 : compF tt Tryz.f40 = some ir540 := by kernel_rfl
def b541_0 : AC := (.region 0 [
    ⟨(some 6), (.mov (.const (.slice none 0 0))), none⟩,
    ⟨(some 7), (.mov (.const (.bool false))), none⟩])
def b541_1 : AC := (.region 0 [
    ⟨(some 17), (.mov (.tmp 0)), none⟩,
    ⟨(some 18), (.build [(.v (.string ⟨#[]⟩)), (.v (.int .i64 0)), (.v (.int .i64 0)), (.v (.int .i64 0)), (.v (.slice none 0 0)), (.v (.int .i64 0)), (.v (.string ⟨#[]⟩)), (.v (.int .i64 0)), (.v (.string ⟨#[]⟩)), (.v (.int .i64 0)), (.v (.bool false)), (.v (.string ⟨#[]⟩)), (.v (.string ⟨#[]⟩)), (.v (.string ⟨#[]⟩)), (.v (.string ⟨#[]⟩)), (.v (.string ⟨#[]⟩)), (.v (.int .i64 0)), (.v (.string ⟨#[]⟩))] [(17, (1, (.tmp 17)))]), none⟩,
    ⟨(some 19), (.mov (.tmp 2)), none⟩,
    ⟨(some 20), (.call 42 [(.tmp 18), (.tmp 19)]), none⟩,
    ⟨(some 16), (.mov (.tmp 20)), none⟩,
    ⟨(some 21), (.ext (.tmp 16) 0), none⟩,
    ⟨(some 22), (.ext (.tmp 16) 1), none⟩,
    ⟨(some 8), (.mov (.tmp 21)), none⟩,
    ⟨(some 9), (.mov (.tmp 22)), none⟩])
def b541_2 : AC := (.region 1 [
    ⟨(some 23), (.bsl 0 18 [(.v (.string ⟨#[]⟩)), (.v (.int .i64 0)), (.v (.int .i64 0)), (.v (.int .i64 0)), (.v (.slice none 0 0)), (.v (.int .i64 0)), (.v (.string ⟨#[]⟩)), (.v (.int .i64 0)), (.v (.string ⟨#[]⟩)), (.v (.int .i64 0)), (.v (.bool false)), (.v (.string ⟨#[]⟩)), (.v (.string ⟨#[]⟩)), (.v (.string ⟨#[]⟩)), (.v (.string ⟨#[]⟩)), (.v (.string ⟨#[]⟩)), (.v (.int .i64 0)), (.v (.string ⟨#[]⟩))] 0 []), none⟩,
    ⟨(some 10), (.mov (.tmp 23)), none⟩])
def b541_3 : AC := (.seq (.region 0 [
    ⟨(some 24), (.mov (.tmp 2)), none⟩,
    ⟨(some 25), (.lenL (.tmp 24)), none⟩,
    ⟨(some 26), (.mov (.const (.int .i64 0))), none⟩])
  (.block 0 (.loop (.seq (.region 0 [
    ⟨(some 27), (.binI .lss .i64 (.tmp 26) (.tmp 25)), none⟩])
  (.seq (.cond (.tmp 27) .skip (.exit 0))
  (.seq (.block 1 (.seq (.region 1 [
    ⟨(some 28), (.iaddr 2 (.tmp 24) (.tmp 26)), none⟩,
    ⟨(some 29), (.load true 2 (.tmp 28)), none⟩,
    ⟨(some 12), (.zero 0 [(.v (.string ⟨#[]⟩)), (.v (.string ⟨#[]⟩))]), none⟩,
    ⟨none, (.store 2 (.tmp 12) (.tmp 29)), none⟩])
  (.seq (.seq (.region 0 [
    ⟨(some 30), (.mov (.tmp 8)), none⟩,
    ⟨(some 31), (.faddr 0 (.tmp 12)), none⟩,
    ⟨(some 32), (.load false 1 (.tmp 31)), none⟩,
    ⟨(some 33), (.call 46 [(.tmp 30), (.tmp 32)]), none⟩])
  (.cond (.tmp 33) (.exit 1) .skip))
  (.seq (.region 0 [
    ⟨(some 13), (.mov (.const (.bool false))), none⟩])
  (.seq (.seq (.region 0 [
    ⟨(some 34), (.mov (.tmp 1)), none⟩,
    ⟨(some 35), (.lenL (.tmp 34)), none⟩,
    ⟨(some 36), (.mov (.const (.int .i64 0))), none⟩])
  (.block 2 (.loop (.seq (.region 0 [
    ⟨(some 37), (.binI .lss .i64 (.tmp 36) (.tmp 35)), none⟩])
  (.seq (.cond (.tmp 37) .skip (.exit 2))
  (.seq (.block 3 (.seq (.region 1 [
    ⟨(some 38), (.iaddr 18 (.tmp 34) (.tmp 36)), none⟩,
    ⟨(some 39), (.load true 18 (.tmp 38)), none⟩,
    ⟨(some 15), (.zero 0 [(.v (.string ⟨#[]⟩)), (.v (.int .i64 0)), (.v (.int .i64 0)), (.v (.int .i64 0)), (.v (.slice none 0 0)), (.v (.int .i64 0)), (.v (.string ⟨#[]⟩)), (.v (.int .i64 0)), (.v (.string ⟨#[]⟩)), (.v (.int .i64 0)), (.v (.bool false)), (.v (.string ⟨#[]⟩)), (.v (.string ⟨#[]⟩)), (.v (.string ⟨#[]⟩)), (.v (.string ⟨#[]⟩)), (.v (.string ⟨#[]⟩)), (.v (.int .i64 0)), (.v (.string ⟨#[]⟩))]), none⟩,
    ⟨none, (.store 18 (.tmp 15) (.tmp 39)), none⟩])
  (.seq (.region 0 [
    ⟨(some 40), (.faddr 0 (.tmp 15)), none⟩,
    ⟨(some 41), (.faddr 0 (.tmp 40)), none⟩,
    ⟨(some 42), (.load false 1 (.tmp 41)), none⟩,
    ⟨(some 43), (.faddr 0 (.tmp 12)), none⟩,
    ⟨(some 44), (.load false 1 (.tmp 43)), none⟩,
    ⟨(some 45), (.binS .eql (.tmp 42) (.tmp 44)), none⟩,
    ⟨(some 46), (.mov (.tmp 45)), none⟩,
    ⟨(some 47), (.faddr 17 (.tmp 15)), (some (46, true))⟩,
    ⟨(some 48), (.load false 1 (.tmp 47)), (some (46, true))⟩,
    ⟨(some 49), (.mov (.tmp 0)), (some (46, true))⟩,
    ⟨(some 50), (.binS .eql (.tmp 48) (.tmp 49)), (some (46, true))⟩,
    ⟨(some 51), (.pick (.tmp 46) (.tmp 50) (.const (.bool false))), none⟩,
    ⟨(some 52), (.mov (.tmp 51)), none⟩,
    ⟨(some 53), (.mov (.tmp 13)), (some (52, true))⟩,
    ⟨(some 54), (.not (.tmp 53)), (some (52, true))⟩,
    ⟨(some 55), (.pick (.tmp 52) (.tmp 54) (.const (.bool false))), none⟩])
  (.cond (.tmp 55) (.seq (.region 0 [
    ⟨(some 13), (.mov (.const (.bool true))), none⟩])
  (.region 2 [
    ⟨(some 56), (.mov (.tmp 10)), none⟩,
    ⟨(some 57), (.load true 18 (.tmp 15)), none⟩,
    ⟨(some 58), (.bsl 0 18 [(.v (.string ⟨#[]⟩)), (.v (.int .i64 0)), (.v (.int .i64 0)), (.v (.int .i64 0)), (.v (.slice none 0 0)), (.v (.int .i64 0)), (.v (.string ⟨#[]⟩)), (.v (.int .i64 0)), (.v (.string ⟨#[]⟩)), (.v (.int .i64 0)), (.v (.bool false)), (.v (.string ⟨#[]⟩)), (.v (.string ⟨#[]⟩)), (.v (.string ⟨#[]⟩)), (.v (.string ⟨#[]⟩)), (.v (.string ⟨#[]⟩)), (.v (.int .i64 0)), (.v (.string ⟨#[]⟩))] 1 [(0, (.tmp 57))]), none⟩,
    ⟨(some 59), (.app 1 18 232 (.tmp 56) (.tmp 58)), none⟩,
    ⟨(some 10), (.mov (.tmp 59)), none⟩])) .skip))))
  (.region 0 [
    ⟨(some 60), (.binI .add .i64 (.tmp 36) (.const (.int .i64 1))), none⟩,
    ⟨(some 36), (.mov (.tmp 60)), none⟩])))))))
  (.seq (.region 0 [
    ⟨(some 61), (.mov (.tmp 13)), none⟩,
    ⟨(some 62), (.not (.tmp 61)), none⟩])
  (.cond (.tmp 62) (.seq (.region 0 [
    ⟨(some 6), (.mov (.const (.slice none 0 0))), none⟩,
    ⟨(some 7), (.mov (.const (.bool false))), none⟩])
  .ret) .skip)))))))
  (.region 0 [
    ⟨(some 63), (.binI .add .i64 (.tmp 26) (.const (.int .i64 1))), none⟩,
    ⟨(some 26), (.mov (.tmp 63)), none⟩])))))))
def b541_4 : AC := (.region 0 [
    ⟨(some 64), (.mov (.tmp 10)), none⟩,
    ⟨(some 6), (.mov (.tmp 64)), none⟩,
    ⟨(some 7), (.mov (.const (.bool true))), none⟩])
def b541_5 : AC := .ret
/-- voussoir/voussoirref46.Of -/
def b541 : AC := (.seq b541_0 (.seq b541_1 (.seq b541_2 (.seq b541_3 (.seq b541_4 b541_5)))))
def ir541 : AF := ⟨65, [(.tmp 6), (.tmp 7)], b541⟩
theorem c541 : compF tt Tryz.f41 = some ir541 := by kernel_rfl
def b542_0 : AC := (.region 1 [
    ⟨(some 2), (.box 0 (.tmp 0)), none⟩,
    ⟨(some 4), (.mov (.const (.slice none 0 0))), none⟩,
    ⟨(some 5), (.mov (.const (.bool false))), none⟩])
def b542_1 : AC := (.region 1 [
    ⟨(some 10), (.bsl 0 1 [(.v (.string ⟨#[]⟩))] 0 []), none⟩,
    ⟨(some 6), (.mov (.tmp 10)), none⟩])
def b542_2 : AC := (.region 0 [
    ⟨(some 7), (.mov (.const (.string ⟨#[]⟩))), none⟩])
def b542_3 : AC := (.region 0 [
    ⟨(some 11), (.faddr 17 (.tmp 2)), none⟩,
    ⟨(some 12), (.load false 1 (.tmp 11)), none⟩,
    ⟨(some 13), (.binS .add (.tmp 12) (.const (.string ⟨#[44]⟩))), none⟩,
    ⟨(some 8), (.mov (.tmp 13)), none⟩])
def b542_4 : AC := (.seq (.region 0 [
    ⟨(some 9), (.mov (.const (.int .i64 0))), none⟩])
  (.block 0 (.loop (.seq (.seq (.region 0 [
    ⟨(some 14), (.mov (.tmp 9)), none⟩,
    ⟨(some 15), (.mov (.tmp 8)), none⟩,
    ⟨(some 16), (.lenS (.tmp 15)), none⟩,
    ⟨(some 17), (.binI .lss .i64 (.tmp 14) (.tmp 16)), none⟩])
  (.cond (.tmp 17) .skip (.exit 0)))
  (.seq (.block 1 (.seq (.seq (.region 0 [
    ⟨(some 20), (.mov (.tmp 8)), none⟩,
    ⟨(some 21), (.mov (.tmp 9)), none⟩,
    ⟨(some 22), (.index (.tmp 20) (.tmp 21)), none⟩,
    ⟨(some 23), (.binI .neq .u8 (.tmp 22) (.const (.int .u8 44))), none⟩])
  (.cond (.tmp 23) (.seq (.region 0 [
    ⟨(some 24), (.mov (.tmp 7)), none⟩,
    ⟨(some 25), (.mov (.tmp 8)), none⟩,
    ⟨(some 26), (.mov (.tmp 9)), none⟩,
    ⟨(some 27), (.mov (.tmp 9)), none⟩,
    ⟨(some 28), (.binI .add .i64 (.tmp 27) (.const (.int .i64 1))), none⟩,
    ⟨(some 29), (.sliceS (.tmp 25) (some (.tmp 26)) (some (.tmp 28))), none⟩,
    ⟨(some 30), (.binS .add (.tmp 24) (.tmp 29)), none⟩,
    ⟨(some 7), (.mov (.tmp 30)), none⟩])
  (.exit 1)) .skip))
  (.seq (.seq (.region 0 [
    ⟨(some 31), (.mov (.tmp 6)), none⟩,
    ⟨(some 32), (.lenL (.tmp 31)), none⟩,
    ⟨(some 33), (.binI .gtr .i64 (.tmp 32) (.const (.int .i64 0))), none⟩,
    ⟨(some 34), (.mov (.tmp 33)), none⟩,
    ⟨(some 35), (.mov (.tmp 6)), (some (34, true))⟩,
    ⟨(some 36), (.mov (.tmp 6)), (some (34, true))⟩,
    ⟨(some 37), (.lenL (.tmp 36)), (some (34, true))⟩,
    ⟨(some 38), (.binI .sub .i64 (.tmp 37) (.const (.int .i64 1))), (some (34, true))⟩,
    ⟨(some 39), (.iaddr 1 (.tmp 35) (.tmp 38)), (some (34, true))⟩,
    ⟨(some 40), (.load false 1 (.tmp 39)), (some (34, true))⟩,
    ⟨(some 41), (.mov (.tmp 7)), (some (34, true))⟩,
    ⟨(some 42), (.binS .geq (.tmp 40) (.tmp 41)), (some (34, true))⟩,
    ⟨(some 43), (.pick (.tmp 34) (.tmp 42) (.const (.bool false))), none⟩,
    ⟨(some 44), (.mov (.tmp 43)), none⟩,
    ⟨(some 45), (.mov (.tmp 7)), (some (44, false))⟩,
    ⟨(some 46), (.faddr 0 (.tmp 2)), (some (44, false))⟩,
    ⟨(some 47), (.faddr 0 (.tmp 46)), (some (44, false))⟩,
    ⟨(some 48), (.load false 1 (.tmp 47)), (some (44, false))⟩,
    ⟨(some 49), (.binS .eql (.tmp 45) (.tmp 48)), (some (44, false))⟩,
    ⟨(some 50), (.pick (.tmp 44) (.const (.bool true)) (.tmp 49)), none⟩,
    ⟨(some 51), (.mov (.tmp 50)), none⟩,
    ⟨(some 52), (.mov (.tmp 1)), (some (51, false))⟩,
    ⟨(some 53), (.mov (.tmp 7)), (some (51, false))⟩,
    ⟨(some 54), (.call 81 [(.tmp 52), (.tmp 53)]), (some (51, false))⟩,
    ⟨(some 55), (.not (.tmp 54)), (some (51, false))⟩,
    ⟨(some 56), (.pick (.tmp 51) (.const (.bool true)) (.tmp 55)), none⟩])
  (.cond (.tmp 56) (.seq (.region 0 [
    ⟨(some 4), (.mov (.const (.slice none 0 0))), none⟩,
    ⟨(some 5), (.mov (.const (.bool false))), none⟩])
  .ret) .skip))
  (.seq (.region 2 [
    ⟨(some 57), (.mov (.tmp 6)), none⟩,
    ⟨(some 58), (.mov (.tmp 7)), none⟩,
    ⟨(some 59), (.bsl 0 1 [(.v (.string ⟨#[]⟩))] 1 [(0, (.tmp 58))]), none⟩,
    ⟨(some 60), (.app 1 1 16 (.tmp 57) (.tmp 59)), none⟩,
    ⟨(some 6), (.mov (.tmp 60)), none⟩])
  (.region 0 [
    ⟨(some 7), (.mov (.const (.string ⟨#[]⟩))), none⟩])))))
  (.region 0 [
    ⟨(some 18), (.mov (.tmp 9)), none⟩,
    ⟨(some 19), (.binI .add .i64 (.tmp 18) (.const (.int .i64 1))), none⟩,
    ⟨(some 9), (.mov (.tmp 19)), none⟩]))))))
def b542_5 : AC := (.region 0 [
    ⟨(some 61), (.mov (.tmp 6)), none⟩,
    ⟨(some 62), (.mov (.tmp 6)), none⟩,
    ⟨(some 63), (.lenL (.tmp 62)), none⟩,
    ⟨(some 64), (.binI .mul .i64 (.const (.int .i64 2)) (.tmp 63)), none⟩,
    ⟨(some 65), (.mov (.tmp 1)), none⟩,
    ⟨(some 66), (.lenL (.tmp 65)), none⟩,
    ⟨(some 67), (.binI .lss .i64 (.tmp 64) (.tmp 66)), none⟩,
    ⟨(some 4), (.mov (.tmp 61)), none⟩,
    ⟨(some 5), (.mov (.tmp 67)), none⟩])
def b542_6 : AC := .ret
/-- voussoir/voussoirref46.Names -/
def b542 : AC := (.seq b542_0 (.seq b542_1 (.seq b542_2 (.seq b542_3 (.seq b542_4 (.seq b542_5 b542_6))))))
def ir542 : AF := ⟨68, [(.tmp 4), (.tmp 5)], b542⟩
theorem c542 : compF tt Tryz.f42 = some ir542 := by kernel_rfl
def b543_0 : AC := (.region 0 [
    ⟨(some 8), (.mov (.const (.int .i64 0))), none⟩])
def b543_1 : AC := (.region 0 [
    ⟨(some 19), (.mov (.tmp 0)), none⟩,
    ⟨(some 20), (.mov (.tmp 2)), none⟩,
    ⟨(some 21), (.mov (.tmp 3)), none⟩,
    ⟨(some 22), (.call 41 [(.tmp 19), (.tmp 20), (.tmp 21)]), none⟩,
    ⟨(some 18), (.mov (.tmp 22)), none⟩,
    ⟨(some 23), (.ext (.tmp 18) 0), none⟩,
    ⟨(some 24), (.ext (.tmp 18) 1), none⟩,
    ⟨(some 9), (.mov (.tmp 23)), none⟩,
    ⟨(some 10), (.mov (.tmp 24)), none⟩])
def b543_2 : AC := (.region 0 [
    ⟨(some 26), (.mov (.tmp 0)), none⟩,
    ⟨(some 27), (.build [(.v (.string ⟨#[]⟩)), (.v (.int .i64 0)), (.v (.int .i64 0)), (.v (.int .i64 0)), (.v (.slice none 0 0)), (.v (.int .i64 0)), (.v (.string ⟨#[]⟩)), (.v (.int .i64 0)), (.v (.string ⟨#[]⟩)), (.v (.int .i64 0)), (.v (.bool false)), (.v (.string ⟨#[]⟩)), (.v (.string ⟨#[]⟩)), (.v (.string ⟨#[]⟩)), (.v (.string ⟨#[]⟩)), (.v (.string ⟨#[]⟩)), (.v (.int .i64 0)), (.v (.string ⟨#[]⟩))] [(17, (1, (.tmp 26)))]), none⟩,
    ⟨(some 28), (.mov (.tmp 3)), none⟩,
    ⟨(some 29), (.call 42 [(.tmp 27), (.tmp 28)]), none⟩,
    ⟨(some 25), (.mov (.tmp 29)), none⟩,
    ⟨(some 30), (.ext (.tmp 25) 0), none⟩,
    ⟨(some 31), (.ext (.tmp 25) 1), none⟩,
    ⟨(some 11), (.mov (.tmp 30)), none⟩,
    ⟨(some 12), (.mov (.tmp 31)), none⟩])
def b543_3 : AC := (.seq (.region 0 [
    ⟨(some 32), (.mov (.tmp 3)), none⟩,
    ⟨(some 33), (.lenL (.tmp 32)), none⟩,
    ⟨(some 34), (.mov (.const (.int .i64 0))), none⟩])
  (.block 0 (.loop (.seq (.region 0 [
    ⟨(some 35), (.binI .lss .i64 (.tmp 34) (.tmp 33)), none⟩])
  (.seq (.cond (.tmp 35) .skip (.exit 0))
  (.seq (.block 1 (.seq (.region 1 [
    ⟨(some 36), (.iaddr 2 (.tmp 32) (.tmp 34)), none⟩,
    ⟨(some 37), (.load true 2 (.tmp 36)), none⟩,
    ⟨(some 14), (.zero 0 [(.v (.string ⟨#[]⟩)), (.v (.string ⟨#[]⟩))]), none⟩,
    ⟨none, (.store 2 (.tmp 14) (.tmp 37)), none⟩])
  (.seq (.seq (.region 0 [
    ⟨(some 38), (.mov (.tmp 11)), none⟩,
    ⟨(some 39), (.faddr 0 (.tmp 14)), none⟩,
    ⟨(some 40), (.load false 1 (.tmp 39)), none⟩,
    ⟨(some 41), (.call 46 [(.tmp 38), (.tmp 40)]), none⟩])
  (.cond (.tmp 41) (.exit 1) .skip))
  (.seq (.region 0 [
    ⟨(some 15), (.mov (.const (.bool false))), none⟩])
  (.seq (.seq (.region 0 [
    ⟨(some 42), (.mov (.tmp 1)), none⟩,
    ⟨(some 43), (.lenL (.tmp 42)), none⟩,
    ⟨(some 44), (.mov (.const (.int .i64 0))), none⟩])
  (.block 2 (.loop (.seq (.region 0 [
    ⟨(some 45), (.binI .lss .i64 (.tmp 44) (.tmp 43)), none⟩])
  (.seq (.cond (.tmp 45) .skip (.exit 2))
  (.seq (.block 3 (.seq (.region 1 [
    ⟨(some 46), (.iaddr 18 (.tmp 42) (.tmp 44)), none⟩,
    ⟨(some 47), (.load true 18 (.tmp 46)), none⟩,
    ⟨(some 17), (.zero 0 [(.v (.string ⟨#[]⟩)), (.v (.int .i64 0)), (.v (.int .i64 0)), (.v (.int .i64 0)), (.v (.slice none 0 0)), (.v (.int .i64 0)), (.v (.string ⟨#[]⟩)), (.v (.int .i64 0)), (.v (.string ⟨#[]⟩)), (.v (.int .i64 0)), (.v (.bool false)), (.v (.string ⟨#[]⟩)), (.v (.string ⟨#[]⟩)), (.v (.string ⟨#[]⟩)), (.v (.string ⟨#[]⟩)), (.v (.string ⟨#[]⟩)), (.v (.int .i64 0)), (.v (.string ⟨#[]⟩))]), none⟩,
    ⟨none, (.store 18 (.tmp 17) (.tmp 47)), none⟩])
  (.region 0 [
    ⟨(some 48), (.mov (.tmp 15)), none⟩,
    ⟨(some 49), (.mov (.tmp 48)), none⟩,
    ⟨(some 50), (.faddr 0 (.tmp 17)), (some (49, false))⟩,
    ⟨(some 51), (.faddr 0 (.tmp 50)), (some (49, false))⟩,
    ⟨(some 52), (.load false 1 (.tmp 51)), (some (49, false))⟩,
    ⟨(some 53), (.faddr 0 (.tmp 14)), (some (49, false))⟩,
    ⟨(some 54), (.load false 1 (.tmp 53)), (some (49, false))⟩,
    ⟨(some 55), (.binS .eql (.tmp 52) (.tmp 54)), (some (49, false))⟩,
    ⟨(some 56), (.mov (.tmp 55)), (some (49, false))⟩,
    ⟨(some 57), (.faddr 4 (.tmp 17)), (some (56, true))⟩,
    ⟨(some 58), (.load false 1 (.tmp 57)), (some (56, true))⟩,
    ⟨(some 59), (.mov (.tmp 9)), (some (56, true))⟩,
    ⟨(some 60), (.call 83 [(.tmp 58), (.tmp 59)]), (some (56, true))⟩,
    ⟨(some 61), (.pick (.tmp 56) (.tmp 60) (.const (.bool false))), (some (49, false))⟩,
    ⟨(some 62), (.pick (.tmp 49) (.const (.bool true)) (.tmp 61)), none⟩,
    ⟨(some 15), (.mov (.tmp 62)), none⟩])))
  (.region 0 [
    ⟨(some 63), (.binI .add .i64 (.tmp 44) (.const (.int .i64 1))), none⟩,
    ⟨(some 44), (.mov (.tmp 63)), none⟩])))))))
  (.seq (.region 0 [
    ⟨(some 64), (.mov (.tmp 15)), none⟩,
    ⟨(some 65), (.not (.tmp 64)), none⟩])
  (.cond (.tmp 65) (.seq (.region 0 [
    ⟨(some 8), (.mov (.const (.int .i64 0))), none⟩])
  .ret) .skip)))))))
  (.region 0 [
    ⟨(some 66), (.binI .add .i64 (.tmp 34) (.const (.int .i64 1))), none⟩,
    ⟨(some 34), (.mov (.tmp 66)), none⟩])))))))
def b543_4 : AC := (.region 0 [
    ⟨(some 8), (.mov (.const (.int .i64 1))), none⟩])
def b543_5 : AC := .ret
/-- voussoir/voussoirref46.Final -/
def b543 : AC := (.seq b543_0 (.seq b543_1 (.seq b543_2 (.seq b543_3 (.seq b543_4 b543_5)))))
def ir543 : AF := ⟨67, [(.tmp 8)], b543⟩
theorem c543 : compF tt Tryz.f43 = some ir543 := by kernel_rfl
def b544_0 : AC := (.region 0 [
    ⟨(some 10), (.mov (.const (.int .i64 0))), none⟩])
def b544_1 : AC := (.region 0 [
    ⟨(some 26), (.mov (.tmp 0)), none⟩,
    ⟨(some 27), (.mov (.tmp 3)), none⟩,
    ⟨(some 28), (.mov (.tmp 4)), none⟩,
    ⟨(some 29), (.call 41 [(.tmp 26), (.tmp 27), (.tmp 28)]), none⟩,
    ⟨(some 25), (.mov (.tmp 29)), none⟩,
    ⟨(some 30), (.ext (.tmp 25) 0), none⟩,
    ⟨(some 31), (.ext (.tmp 25) 1), none⟩,
    ⟨(some 11), (.mov (.tmp 30)), none⟩,
    ⟨(some 12), (.mov (.tmp 31)), none⟩])
def b544_2 : AC := (.region 0 [
    ⟨(some 33), (.mov (.tmp 0)), none⟩,
    ⟨(some 34), (.build [(.v (.string ⟨#[]⟩)), (.v (.int .i64 0)), (.v (.int .i64 0)), (.v (.int .i64 0)), (.v (.slice none 0 0)), (.v (.int .i64 0)), (.v (.string ⟨#[]⟩)), (.v (.int .i64 0)), (.v (.string ⟨#[]⟩)), (.v (.int .i64 0)), (.v (.bool false)), (.v (.string ⟨#[]⟩)), (.v (.string ⟨#[]⟩)), (.v (.string ⟨#[]⟩)), (.v (.string ⟨#[]⟩)), (.v (.string ⟨#[]⟩)), (.v (.int .i64 0)), (.v (.string ⟨#[]⟩))] [(17, (1, (.tmp 33)))]), none⟩,
    ⟨(some 35), (.mov (.tmp 4)), none⟩,
    ⟨(some 36), (.call 42 [(.tmp 34), (.tmp 35)]), none⟩,
    ⟨(some 32), (.mov (.tmp 36)), none⟩,
    ⟨(some 37), (.ext (.tmp 32) 0), none⟩,
    ⟨(some 38), (.ext (.tmp 32) 1), none⟩,
    ⟨(some 13), (.mov (.tmp 37)), none⟩,
    ⟨(some 14), (.mov (.tmp 38)), none⟩])
def b544_3 : AC := (.seq (.region 0 [
    ⟨(some 39), (.mov (.tmp 2)), none⟩,
    ⟨(some 40), (.lenL (.tmp 39)), none⟩,
    ⟨(some 41), (.binI .sub .i64 (.tmp 40) (.const (.int .i64 1))), none⟩,
    ⟨(some 15), (.mov (.tmp 41)), none⟩])
  (.block 0 (.loop (.seq (.seq (.region 0 [
    ⟨(some 42), (.mov (.tmp 15)), none⟩,
    ⟨(some 43), (.binI .geq .i64 (.tmp 42) (.const (.int .i64 0))), none⟩])
  (.cond (.tmp 43) .skip (.exit 0)))
  (.seq (.block 1 (.seq (.region 0 [
    ⟨(some 47), (.mov (.tmp 2)), none⟩,
    ⟨(some 48), (.mov (.tmp 15)), none⟩,
    ⟨(some 49), (.iaddr 1 (.tmp 47) (.tmp 48)), none⟩,
    ⟨(some 50), (.load false 1 (.tmp 49)), none⟩,
    ⟨(some 51), (.build [(.v (.string ⟨#[]⟩)), (.v (.int .i64 0)), (.v (.int .i64 0)), (.v (.int .i64 0)), (.v (.slice none 0 0)), (.v (.int .i64 0)), (.v (.string ⟨#[]⟩)), (.v (.int .i64 0)), (.v (.string ⟨#[]⟩)), (.v (.int .i64 0)), (.v (.bool false)), (.v (.string ⟨#[]⟩)), (.v (.string ⟨#[]⟩)), (.v (.string ⟨#[]⟩)), (.v (.string ⟨#[]⟩)), (.v (.string ⟨#[]⟩)), (.v (.int .i64 0)), (.v (.string ⟨#[]⟩))] [(17, (1, (.tmp 50)))]), none⟩,
    ⟨(some 52), (.mov (.tmp 4)), none⟩,
    ⟨(some 53), (.call 42 [(.tmp 51), (.tmp 52)]), none⟩,
    ⟨(some 46), (.mov (.tmp 53)), none⟩,
    ⟨(some 54), (.ext (.tmp 46) 0), none⟩,
    ⟨(some 55), (.ext (.tmp 46) 1), none⟩,
    ⟨(some 16), (.mov (.tmp 54)), none⟩,
    ⟨(some 17), (.mov (.tmp 55)), none⟩])
  (.seq (.seq (.region 0 [
    ⟨(some 56), (.mov (.tmp 2)), none⟩,
    ⟨(some 57), (.mov (.tmp 15)), none⟩,
    ⟨(some 58), (.iaddr 1 (.tmp 56) (.tmp 57)), none⟩,
    ⟨(some 59), (.load false 1 (.tmp 58)), none⟩,
    ⟨(some 60), (.mov (.tmp 0)), none⟩,
    ⟨(some 61), (.binS .eql (.tmp 59) (.tmp 60)), none⟩,
    ⟨(some 62), (.mov (.tmp 61)), none⟩,
    ⟨(some 63), (.mov (.tmp 16)), (some (62, false))⟩,
    ⟨(some 64), (.mov (.tmp 13)), (some (62, false))⟩,
    ⟨(some 65), (.call 82 [(.tmp 63), (.tmp 64)]), (some (62, false))⟩,
    ⟨(some 66), (.not (.tmp 65)), (some (62, false))⟩,
    ⟨(some 67), (.pick (.tmp 62) (.const (.bool true)) (.tmp 66)), none⟩,
    ⟨(some 68), (.mov (.tmp 67)), none⟩,
    ⟨(some 69), (.mov (.tmp 16)), (some (68, false))⟩,
    ⟨(some 70), (.mov (.tmp 1)), (some (68, false))⟩,
    ⟨(some 71), (.call 46 [(.tmp 69), (.tmp 70)]), (some (68, false))⟩,
    ⟨(some 72), (.not (.tmp 71)), (some (68, false))⟩,
    ⟨(some 73), (.pick (.tmp 68) (.const (.bool true)) (.tmp 72)), none⟩])
  (.cond (.tmp 73) (.exit 1) .skip))
  (.seq (.region 0 [
    ⟨(some 75), (.mov (.tmp 2)), none⟩,
    ⟨(some 76), (.mov (.tmp 15)), none⟩,
    ⟨(some 77), (.iaddr 1 (.tmp 75) (.tmp 76)), none⟩,
    ⟨(some 78), (.load false 1 (.tmp 77)), none⟩,
    ⟨(some 79), (.mov (.tmp 3)), none⟩,
    ⟨(some 80), (.mov (.tmp 4)), none⟩,
    ⟨(some 81), (.call 41 [(.tmp 78), (.tmp 79), (.tmp 80)]), none⟩,
    ⟨(some 74), (.mov (.tmp 81)), none⟩,
    ⟨(some 82), (.ext (.tmp 74) 0), none⟩,
    ⟨(some 83), (.ext (.tmp 74) 1), none⟩,
    ⟨(some 18), (.mov (.tmp 82)), none⟩,
    ⟨(some 19), (.mov (.tmp 83)), none⟩])
  (.seq (.region 0 [
    ⟨(some 84), (.mov (.tmp 11)), none⟩,
    ⟨(some 85), (.lenL (.tmp 84)), none⟩,
    ⟨(some 86), (.mov (.const (.int .i64 0))), none⟩])
  (.block 2 (.loop (.seq (.region 0 [
    ⟨(some 87), (.binI .lss .i64 (.tmp 86) (.tmp 85)), none⟩])
  (.seq (.cond (.tmp 87) .skip (.exit 2))
  (.seq (.block 3 (.seq (.region 1 [
    ⟨(some 88), (.iaddr 18 (.tmp 84) (.tmp 86)), none⟩,
    ⟨(some 89), (.load true 18 (.tmp 88)), none⟩,
    ⟨(some 21), (.zero 0 [(.v (.string ⟨#[]⟩)), (.v (.int .i64 0)), (.v (.int .i64 0)), (.v (.int .i64 0)), (.v (.slice none 0 0)), (.v (.int .i64 0)), (.v (.string ⟨#[]⟩)), (.v (.int .i64 0)), (.v (.string ⟨#[]⟩)), (.v (.int .i64 0)), (.v (.bool false)), (.v (.string ⟨#[]⟩)), (.v (.string ⟨#[]⟩)), (.v (.string ⟨#[]⟩)), (.v (.string ⟨#[]⟩)), (.v (.string ⟨#[]⟩)), (.v (.int .i64 0)), (.v (.string ⟨#[]⟩))]), none⟩,
    ⟨none, (.store 18 (.tmp 21) (.tmp 89)), none⟩])
  (.seq (.region 0 [
    ⟨(some 90), (.faddr 4 (.tmp 21)), none⟩,
    ⟨(some 91), (.load false 1 (.tmp 90)), none⟩,
    ⟨(some 92), (.mov (.tmp 18)), none⟩,
    ⟨(some 93), (.call 83 [(.tmp 91), (.tmp 92)]), none⟩])
  (.cond (.tmp 93) (.seq (.region 0 [
    ⟨(some 94), (.mov (.tmp 2)), none⟩,
    ⟨(some 95), (.mov (.tmp 15)), none⟩,
    ⟨(some 96), (.iaddr 1 (.tmp 94) (.tmp 95)), none⟩,
    ⟨(some 97), (.load false 1 (.tmp 96)), none⟩,
    ⟨(some 98), (.mov (.tmp 1)), none⟩,
    ⟨(some 99), (.mov (.tmp 2)), none⟩,
    ⟨(some 100), (.mov (.tmp 3)), none⟩,
    ⟨(some 101), (.mov (.tmp 4)), none⟩,
    ⟨(some 102), (.call 44 [(.tmp 97), (.tmp 98), (.tmp 99), (.tmp 100), (.tmp 101)]), none⟩,
    ⟨(some 10), (.mov (.tmp 102)), none⟩])
  .ret) .skip))))
  (.region 0 [
    ⟨(some 103), (.binI .add .i64 (.tmp 86) (.const (.int .i64 1))), none⟩,
    ⟨(some 86), (.mov (.tmp 103)), none⟩])))))))))))
  (.region 0 [
    ⟨(some 44), (.mov (.tmp 15)), none⟩,
    ⟨(some 45), (.binI .sub .i64 (.tmp 44) (.const (.int .i64 1))), none⟩,
    ⟨(some 15), (.mov (.tmp 45)), none⟩]))))))
def b544_4 : AC := (.region 0 [
    ⟨(some 22), (.mov (.const (.int .i64 0))), none⟩])
def b544_5 : AC := (.seq (.region 0 [
    ⟨(some 104), (.mov (.tmp 11)), none⟩,
    ⟨(some 105), (.lenL (.tmp 104)), none⟩,
    ⟨(some 106), (.mov (.const (.int .i64 0))), none⟩])
  (.block 4 (.loop (.seq (.region 0 [
    ⟨(some 107), (.binI .lss .i64 (.tmp 106) (.tmp 105)), none⟩])
  (.seq (.cond (.tmp 107) .skip (.exit 4))
  (.seq (.block 5 (.seq (.region 1 [
    ⟨(some 108), (.iaddr 18 (.tmp 104) (.tmp 106)), none⟩,
    ⟨(some 109), (.load true 18 (.tmp 108)), none⟩,
    ⟨(some 24), (.zero 0 [(.v (.string ⟨#[]⟩)), (.v (.int .i64 0)), (.v (.int .i64 0)), (.v (.int .i64 0)), (.v (.slice none 0 0)), (.v (.int .i64 0)), (.v (.string ⟨#[]⟩)), (.v (.int .i64 0)), (.v (.string ⟨#[]⟩)), (.v (.int .i64 0)), (.v (.bool false)), (.v (.string ⟨#[]⟩)), (.v (.string ⟨#[]⟩)), (.v (.string ⟨#[]⟩)), (.v (.string ⟨#[]⟩)), (.v (.string ⟨#[]⟩)), (.v (.int .i64 0)), (.v (.string ⟨#[]⟩))]), none⟩,
    ⟨none, (.store 18 (.tmp 24) (.tmp 109)), none⟩])
  (.seq (.region 0 [
    ⟨(some 110), (.faddr 4 (.tmp 24)), none⟩,
    ⟨(some 111), (.load false 1 (.tmp 110)), none⟩,
    ⟨(some 112), (.mov (.tmp 1)), none⟩,
    ⟨(some 113), (.call 45 [(.tmp 111), (.tmp 112)]), none⟩,
    ⟨(some 114), (.mov (.tmp 22)), none⟩,
    ⟨(some 115), (.binI .gtr .i64 (.tmp 113) (.tmp 114)), none⟩])
  (.cond (.tmp 115) (.region 0 [
    ⟨(some 116), (.faddr 4 (.tmp 24)), none⟩,
    ⟨(some 117), (.load false 1 (.tmp 116)), none⟩,
    ⟨(some 118), (.mov (.tmp 1)), none⟩,
    ⟨(some 119), (.call 45 [(.tmp 117), (.tmp 118)]), none⟩,
    ⟨(some 22), (.mov (.tmp 119)), none⟩]) .skip))))
  (.region 0 [
    ⟨(some 120), (.binI .add .i64 (.tmp 106) (.const (.int .i64 1))), none⟩,
    ⟨(some 106), (.mov (.tmp 120)), none⟩])))))))
def b544_6 : AC := (.region 0 [
    ⟨(some 121), (.mov (.tmp 22)), none⟩,
    ⟨(some 10), (.mov (.tmp 121)), none⟩])
def b544_7 : AC := .ret
/-- voussoir/voussoirref46.number -/
def b544 : AC := (.seq b544_0 (.seq b544_1 (.seq b544_2 (.seq b544_3 (.seq b544_4 (.seq b544_5 (.seq b544_6 b544_7)))))))
def ir544 : AF := ⟨122, [(.tmp 10)], b544⟩
theorem c544 : compF tt Tryz.f44 = some ir544 := by kernel_rfl
/-- voussoir/voussoirref46.upto -/
def b545 : AC := (.seq (.region 0 [
    ⟨(some 4), (.mov (.const (.int .i64 0))), none⟩])
  (.seq (.seq (.region 0 [
    ⟨(some 7), (.mov (.tmp 0)), none⟩,
    ⟨(some 8), (.lenL (.tmp 7)), none⟩,
    ⟨(some 9), (.mov (.const (.int .i64 0))), none⟩])
  (.block 0 (.loop (.seq (.region 0 [
    ⟨(some 10), (.binI .lss .i64 (.tmp 9) (.tmp 8)), none⟩])
  (.seq (.cond (.tmp 10) .skip (.exit 0))
  (.seq (.block 1 (.seq (.region 1 [
    ⟨(some 11), (.iaddr 2 (.tmp 7) (.tmp 9)), none⟩,
    ⟨(some 12), (.load true 2 (.tmp 11)), none⟩,
    ⟨(some 6), (.zero 0 [(.v (.string ⟨#[]⟩)), (.v (.int .i64 0))]), none⟩,
    ⟨none, (.store 2 (.tmp 6) (.tmp 12)), none⟩])
  (.seq (.region 0 [
    ⟨(some 13), (.faddr 0 (.tmp 6)), none⟩,
    ⟨(some 14), (.load false 1 (.tmp 13)), none⟩,
    ⟨(some 15), (.mov (.tmp 1)), none⟩,
    ⟨(some 16), (.binS .eql (.tmp 14) (.tmp 15)), none⟩])
  (.cond (.tmp 16) (.seq (.region 0 [
    ⟨(some 17), (.faddr 1 (.tmp 6)), none⟩,
    ⟨(some 18), (.load false 1 (.tmp 17)), none⟩,
    ⟨(some 4), (.mov (.tmp 18)), none⟩])
  .ret) .skip))))
  (.region 0 [
    ⟨(some 19), (.binI .add .i64 (.tmp 9) (.const (.int .i64 1))), none⟩,
    ⟨(some 9), (.mov (.tmp 19)), none⟩])))))))
  (.seq (.region 0 [
    ⟨(some 4), (.mov (.const (.int .i64 0))), none⟩])
  .ret)))
def ir545 : AF := ⟨20, [(.tmp 4)], b545⟩
theorem c545 : compF tt Tryz.f45 = some ir545 := by kernel_rfl
/-- voussoir/voussoirref46.has -/
def b546 : AC := (.seq (.region 0 [
    ⟨(some 4), (.mov (.const (.bool false))), none⟩])
  (.seq (.seq (.region 0 [
    ⟨(some 7), (.mov (.tmp 0)), none⟩,
    ⟨(some 8), (.lenL (.tmp 7)), none⟩,
    ⟨(some 9), (.mov (.const (.int .i64 0))), none⟩])
  (.block 0 (.loop (.seq (.region 0 [
    ⟨(some 10), (.binI .lss .i64 (.tmp 9) (.tmp 8)), none⟩])
  (.seq (.cond (.tmp 10) .skip (.exit 0))
  (.seq (.block 1 (.seq (.region 0 [
    ⟨(some 11), (.iaddr 1 (.tmp 7) (.tmp 9)), none⟩,
    ⟨(some 12), (.load false 1 (.tmp 11)), none⟩,
    ⟨(some 6), (.mov (.tmp 12)), none⟩])
  (.seq (.region 0 [
    ⟨(some 13), (.mov (.tmp 6)), none⟩,
    ⟨(some 14), (.mov (.tmp 1)), none⟩,
    ⟨(some 15), (.binS .eql (.tmp 13) (.tmp 14)), none⟩])
  (.cond (.tmp 15) (.seq (.region 0 [
    ⟨(some 4), (.mov (.const (.bool true))), none⟩])
  .ret) .skip))))
  (.region 0 [
    ⟨(some 16), (.binI .add .i64 (.tmp 9) (.const (.int .i64 1))), none⟩,
    ⟨(some 9), (.mov (.tmp 16)), none⟩])))))))
  (.seq (.region 0 [
    ⟨(some 4), (.mov (.const (.bool false))), none⟩])
  .ret)))
def ir546 : AF := ⟨17, [(.tmp 4)], b546⟩
theorem c546 : compF tt Tryz.f46 = some ir546 := by kernel_rfl
/-- voussoir/vclock.place -/
def b547 : AC := (.seq (.region 0 [
    ⟨(some 4), (.mov (.const (.int .i64 0))), none⟩,
    ⟨(some 5), (.mov (.const (.bool false))), none⟩])
  (.seq (.region 0 [
    ⟨(some 6), (.mov (.tmp 0)), none⟩,
    ⟨(some 7), (.mov (.tmp 1)), none⟩,
    ⟨(some 8), (.call 84 [(.tmp 6), (.tmp 7), (.func 85)]), none⟩,
    ⟨(some 9), (.ext (.tmp 8) 0), none⟩,
    ⟨(some 10), (.ext (.tmp 8) 1), none⟩,
    ⟨(some 4), (.mov (.tmp 9)), none⟩,
    ⟨(some 5), (.mov (.tmp 10)), none⟩])
  .ret))
def ir547 : AF := ⟨11, [(.tmp 4), (.tmp 5)], b547⟩
theorem c547 : compF tt Tryz.f47 = some ir547 := by kernel_rfl
def b62_0 : AC := (.region 2 [
    ⟨(some 2), (.box 0 (.tmp 0)), none⟩,
    ⟨(some 3), (.box 1 (.tmp 1)), none⟩,
    ⟨(some 4), (.mov (.const (.bool false))), none⟩])
def b62_1 : AC := (.seq (.region 0 [
    ⟨(some 6), (.faddr 4 (.tmp 2)), none⟩,
    ⟨(some 7), (.load false 1 (.tmp 6)), none⟩,
    ⟨(some 8), (.lenL (.tmp 7)), none⟩,
    ⟨(some 9), (.faddr 4 (.tmp 3)), none⟩,
    ⟨(some 10), (.load false 1 (.tmp 9)), none⟩,
    ⟨(some 11), (.lenL (.tmp 10)), none⟩,
    ⟨(some 12), (.binI .neq .i64 (.tmp 8) (.tmp 11)), none⟩])
  (.cond (.tmp 12) (.seq (.region 0 [
    ⟨(some 4), (.mov (.const (.bool false))), none⟩])
  .ret) .skip))
def b62_2 : AC := (.seq (.region 0 [
    ⟨(some 13), (.faddr 4 (.tmp 2)), none⟩,
    ⟨(some 14), (.load false 1 (.tmp 13)), none⟩,
    ⟨(some 15), (.lenL (.tmp 14)), none⟩,
    ⟨(some 16), (.mov (.const (.int .i64 0))), none⟩])
  (.block 0 (.loop (.seq (.region 0 [
    ⟨(some 17), (.binI .lss .i64 (.tmp 16) (.tmp 15)), none⟩])
  (.seq (.cond (.tmp 17) .skip (.exit 0))
  (.seq (.block 1 (.seq (.region 0 [
    ⟨(some 18), (.mov (.tmp 16)), none⟩,
    ⟨(some 5), (.mov (.tmp 18)), none⟩])
  (.seq (.dregion 0 [
    ⟨(some 19), (.faddr 4 (.tmp 2)), none⟩,
    ⟨(some 20), (.load false 1 (.tmp 19)), none⟩,
    ⟨(some 21), (.mov (.tmp 5)), none⟩,
    ⟨(some 22), (.iaddr 2 (.tmp 20) (.tmp 21)), none⟩,
    ⟨(some 23), (.load true 2 (.tmp 22)), none⟩,
    ⟨(some 24), (.faddr 4 (.tmp 3)), none⟩,
    ⟨(some 25), (.load false 1 (.tmp 24)), none⟩,
    ⟨(some 26), (.mov (.tmp 5)), none⟩,
    ⟨(some 27), (.iaddr 2 (.tmp 25) (.tmp 26)), none⟩,
    ⟨(some 28), (.load true 2 (.tmp 27)), none⟩,
    ⟨(some 29), (.eqA true [.s, (.i .i64)] (.tmp 23) (.tmp 28)), none⟩] [[], [0], [], [1, 2], [3], [], [5], [], [6, 7], [8], [4, 9]])
  (.cond (.tmp 29) (.seq (.region 0 [
    ⟨(some 4), (.mov (.const (.bool false))), none⟩])
  .ret) .skip))))
  (.region 0 [
    ⟨(some 30), (.binI .add .i64 (.tmp 16) (.const (.int .i64 1))), none⟩,
    ⟨(some 16), (.mov (.tmp 30)), none⟩])))))))
def b62_3 : AC := (.region 0 [
    ⟨(some 31), (.faddr 0 (.tmp 2)), none⟩,
    ⟨(some 32), (.load true 2 (.tmp 31)), none⟩,
    ⟨(some 33), (.faddr 0 (.tmp 3)), none⟩,
    ⟨(some 34), (.load true 2 (.tmp 33)), none⟩,
    ⟨(some 35), (.eqA false [.s, (.i .i64)] (.tmp 32) (.tmp 34)), none⟩,
    ⟨(some 36), (.mov (.tmp 35)), none⟩,
    ⟨(some 37), (.faddr 2 (.tmp 2)), (some (36, true))⟩,
    ⟨(some 38), (.load false 1 (.tmp 37)), (some (36, true))⟩,
    ⟨(some 39), (.faddr 2 (.tmp 3)), (some (36, true))⟩,
    ⟨(some 40), (.load false 1 (.tmp 39)), (some (36, true))⟩,
    ⟨(some 41), (.binI .eql .i64 (.tmp 38) (.tmp 40)), (some (36, true))⟩,
    ⟨(some 42), (.pick (.tmp 36) (.tmp 41) (.const (.bool false))), none⟩,
    ⟨(some 43), (.mov (.tmp 42)), none⟩,
    ⟨(some 44), (.faddr 3 (.tmp 2)), (some (43, true))⟩,
    ⟨(some 45), (.load false 1 (.tmp 44)), (some (43, true))⟩,
    ⟨(some 46), (.faddr 3 (.tmp 3)), (some (43, true))⟩,
    ⟨(some 47), (.load false 1 (.tmp 46)), (some (43, true))⟩,
    ⟨(some 48), (.binI .eql .i64 (.tmp 45) (.tmp 47)), (some (43, true))⟩,
    ⟨(some 49), (.pick (.tmp 43) (.tmp 48) (.const (.bool false))), none⟩,
    ⟨(some 50), (.mov (.tmp 49)), none⟩,
    ⟨(some 51), (.faddr 5 (.tmp 2)), (some (50, true))⟩,
    ⟨(some 52), (.load false 1 (.tmp 51)), (some (50, true))⟩,
    ⟨(some 53), (.faddr 5 (.tmp 3)), (some (50, true))⟩,
    ⟨(some 54), (.load false 1 (.tmp 53)), (some (50, true))⟩,
    ⟨(some 55), (.binI .eql .i64 (.tmp 52) (.tmp 54)), (some (50, true))⟩,
    ⟨(some 56), (.pick (.tmp 50) (.tmp 55) (.const (.bool false))), none⟩,
    ⟨(some 57), (.mov (.tmp 56)), none⟩,
    ⟨(some 58), (.faddr 6 (.tmp 2)), (some (57, true))⟩,
    ⟨(some 59), (.load true 2 (.tmp 58)), (some (57, true))⟩,
    ⟨(some 60), (.faddr 6 (.tmp 3)), (some (57, true))⟩,
    ⟨(some 61), (.load true 2 (.tmp 60)), (some (57, true))⟩,
    ⟨(some 62), (.eqA false [.s, (.i .i64)] (.tmp 59) (.tmp 61)), (some (57, true))⟩,
    ⟨(some 63), (.pick (.tmp 57) (.tmp 62) (.const (.bool false))), none⟩,
    ⟨(some 64), (.mov (.tmp 63)), none⟩,
    ⟨(some 65), (.faddr 8 (.tmp 2)), (some (64, true))⟩,
    ⟨(some 66), (.load true 2 (.tmp 65)), (some (64, true))⟩,
    ⟨(some 67), (.faddr 8 (.tmp 3)), (some (64, true))⟩,
    ⟨(some 68), (.load true 2 (.tmp 67)), (some (64, true))⟩,
    ⟨(some 69), (.eqA false [.s, (.i .i64)] (.tmp 66) (.tmp 68)), (some (64, true))⟩,
    ⟨(some 70), (.pick (.tmp 64) (.tmp 69) (.const (.bool false))), none⟩,
    ⟨(some 71), (.mov (.tmp 70)), none⟩,
    ⟨(some 72), (.faddr 10 (.tmp 2)), (some (71, true))⟩,
    ⟨(some 73), (.load true 3 (.tmp 72)), (some (71, true))⟩,
    ⟨(some 74), (.faddr 10 (.tmp 3)), (some (71, true))⟩,
    ⟨(some 75), (.load true 3 (.tmp 74)), (some (71, true))⟩,
    ⟨(some 76), (.eqA false [.b, .s, .s] (.tmp 73) (.tmp 75)), (some (71, true))⟩,
    ⟨(some 77), (.pick (.tmp 71) (.tmp 76) (.const (.bool false))), none⟩,
    ⟨(some 78), (.mov (.tmp 77)), none⟩,
    ⟨(some 79), (.faddr 13 (.tmp 2)), (some (78, true))⟩,
    ⟨(some 80), (.load false 1 (.tmp 79)), (some (78, true))⟩,
    ⟨(some 81), (.faddr 13 (.tmp 3)), (some (78, true))⟩,
    ⟨(some 82), (.load false 1 (.tmp 81)), (some (78, true))⟩,
    ⟨(some 83), (.binS .eql (.tmp 80) (.tmp 82)), (some (78, true))⟩,
    ⟨(some 84), (.pick (.tmp 78) (.tmp 83) (.const (.bool false))), none⟩,
    ⟨(some 85), (.mov (.tmp 84)), none⟩,
    ⟨(some 86), (.faddr 14 (.tmp 2)), (some (85, true))⟩,
    ⟨(some 87), (.load false 1 (.tmp 86)), (some (85, true))⟩,
    ⟨(some 88), (.faddr 14 (.tmp 3)), (some (85, true))⟩,
    ⟨(some 89), (.load false 1 (.tmp 88)), (some (85, true))⟩,
    ⟨(some 90), (.binS .eql (.tmp 87) (.tmp 89)), (some (85, true))⟩,
    ⟨(some 91), (.pick (.tmp 85) (.tmp 90) (.const (.bool false))), none⟩,
    ⟨(some 92), (.mov (.tmp 91)), none⟩,
    ⟨(some 93), (.faddr 15 (.tmp 2)), (some (92, true))⟩,
    ⟨(some 94), (.load true 2 (.tmp 93)), (some (92, true))⟩,
    ⟨(some 95), (.faddr 15 (.tmp 3)), (some (92, true))⟩,
    ⟨(some 96), (.load true 2 (.tmp 95)), (some (92, true))⟩,
    ⟨(some 97), (.eqA false [.s, (.i .i64)] (.tmp 94) (.tmp 96)), (some (92, true))⟩,
    ⟨(some 98), (.pick (.tmp 92) (.tmp 97) (.const (.bool false))), none⟩,
    ⟨(some 99), (.mov (.tmp 98)), none⟩,
    ⟨(some 100), (.faddr 17 (.tmp 2)), (some (99, true))⟩,
    ⟨(some 101), (.load false 1 (.tmp 100)), (some (99, true))⟩,
    ⟨(some 102), (.faddr 17 (.tmp 3)), (some (99, true))⟩,
    ⟨(some 103), (.load false 1 (.tmp 102)), (some (99, true))⟩,
    ⟨(some 104), (.binS .eql (.tmp 101) (.tmp 103)), (some (99, true))⟩,
    ⟨(some 105), (.pick (.tmp 99) (.tmp 104) (.const (.bool false))), none⟩,
    ⟨(some 4), (.mov (.tmp 105)), none⟩])
def b62_4 : AC := .ret
/-- voussoir/voussoirref37.Same -/
def b62 : AC := (.seq b62_0 (.seq b62_1 (.seq b62_2 (.seq b62_3 b62_4))))
def ir62 : AF := ⟨106, [(.tmp 4)], b62⟩
theorem c62 : compF tt Tryz.f56 = some ir62 := by kernel_rfl
/-- voussoir/oplog.Sort -/
def b20 : AC := (.seq (.region 0 [
    ⟨(some 2), (.mov (.const (.slice none 0 0))), none⟩])
  (.seq (.region 0 [
    ⟨(some 4), (.mov (.tmp 0)), none⟩,
    ⟨(some 5), (.call 98 [(.tmp 4)]), none⟩,
    ⟨(some 3), (.mov (.tmp 5)), none⟩])
  (.seq (.region 0 [
    ⟨(some 6), (.mov (.tmp 3)), none⟩,
    ⟨(some 7), (.call 99 [(.tmp 6), (.func 100)]), none⟩])
  (.seq (.region 0 [
    ⟨(some 8), (.mov (.tmp 3)), none⟩,
    ⟨(some 9), (.call 101 [(.tmp 8), (.func 102)]), none⟩,
    ⟨(some 2), (.mov (.tmp 9)), none⟩])
  .ret))))
def ir20 : AF := ⟨10, [(.tmp 2)], b20⟩
theorem c20 : compF tt Tryz.f57 = some ir20 := by kernel_rfl
def b558_0 : AC := (.region 1 [
    ⟨(some 2), (.box 0 (.tmp 0)), none⟩,
    ⟨(some 4), (.mov (.const (.slice none 0 0))), none⟩,
    ⟨(some 5), (.mov (.const (.bool false))), none⟩])
def b558_1 : AC := (.region 0 [
    ⟨(some 9), (.faddr 17 (.tmp 2)), none⟩,
    ⟨(some 10), (.load false 1 (.tmp 9)), none⟩,
    ⟨(some 11), (.call 103 [(.tmp 10), (.const (.string ⟨#[44]⟩))]), none⟩,
    ⟨(some 6), (.mov (.tmp 11)), none⟩])
def b558_2 : AC := (.seq (.region 0 [
    ⟨(some 12), (.faddr 5 (.tmp 2)), none⟩,
    ⟨(some 13), (.load false 1 (.tmp 12)), none⟩,
    ⟨(some 14), (.binI .neq .i64 (.tmp 13) (.const (.int .i64 5))), none⟩,
    ⟨(some 15), (.mov (.tmp 14)), none⟩,
    ⟨(some 16), (.mov (.tmp 1)), (some (15, false))⟩,
    ⟨(some 17), (.faddr 0 (.tmp 2)), (some (15, false))⟩,
    ⟨(some 18), (.faddr 0 (.tmp 17)), (some (15, false))⟩,
    ⟨(some 19), (.load false 1 (.tmp 18)), (some (15, false))⟩,
    ⟨(some 20), (.call 77 [(.tmp 16), (.tmp 19)]), (some (15, false))⟩,
    ⟨(some 21), (.not (.tmp 20)), (some (15, false))⟩,
    ⟨(some 22), (.pick (.tmp 15) (.const (.bool true)) (.tmp 21)), none⟩,
    ⟨(some 23), (.mov (.tmp 22)), none⟩,
    ⟨(some 24), (.mov (.tmp 6)), (some (23, false))⟩,
    ⟨(some 25), (.lenL (.tmp 24)), (some (23, false))⟩,
    ⟨(some 26), (.binI .mul .i64 (.const (.int .i64 2)) (.tmp 25)), (some (23, false))⟩,
    ⟨(some 27), (.mov (.tmp 1)), (some (23, false))⟩,
    ⟨(some 28), (.lenL (.tmp 27)), (some (23, false))⟩,
    ⟨(some 29), (.binI .geq .i64 (.tmp 26) (.tmp 28)), (some (23, false))⟩,
    ⟨(some 30), (.pick (.tmp 23) (.const (.bool true)) (.tmp 29)), none⟩])
  (.cond (.tmp 30) (.seq (.region 0 [
    ⟨(some 4), (.mov (.const (.slice none 0 0))), none⟩,
    ⟨(some 5), (.mov (.const (.bool false))), none⟩])
  .ret) .skip))
def b558_3 : AC := (.seq (.region 0 [
    ⟨(some 31), (.mov (.tmp 6)), none⟩,
    ⟨(some 32), (.lenL (.tmp 31)), none⟩,
    ⟨(some 33), (.mov (.const (.int .i64 0))), none⟩])
  (.block 0 (.loop (.seq (.region 0 [
    ⟨(some 34), (.binI .lss .i64 (.tmp 33) (.tmp 32)), none⟩])
  (.seq (.cond (.tmp 34) .skip (.exit 0))
  (.seq (.block 1 (.seq (.region 0 [
    ⟨(some 35), (.mov (.tmp 33)), none⟩,
    ⟨(some 36), (.iaddr 1 (.tmp 31) (.tmp 33)), none⟩,
    ⟨(some 37), (.load false 1 (.tmp 36)), none⟩,
    ⟨(some 7), (.mov (.tmp 35)), none⟩,
    ⟨(some 8), (.mov (.tmp 37)), none⟩])
  (.seq (.region 0 [
    ⟨(some 38), (.mov (.tmp 8)), none⟩,
    ⟨(some 39), (.faddr 0 (.tmp 2)), none⟩,
    ⟨(some 40), (.faddr 0 (.tmp 39)), none⟩,
    ⟨(some 41), (.load false 1 (.tmp 40)), none⟩,
    ⟨(some 42), (.binS .eql (.tmp 38) (.tmp 41)), none⟩,
    ⟨(some 43), (.mov (.tmp 42)), none⟩,
    ⟨(some 44), (.mov (.tmp 1)), (some (43, false))⟩,
    ⟨(some 45), (.mov (.tmp 8)), (some (43, false))⟩,
    ⟨(some 46), (.call 77 [(.tmp 44), (.tmp 45)]), (some (43, false))⟩,
    ⟨(some 47), (.not (.tmp 46)), (some (43, false))⟩,
    ⟨(some 48), (.pick (.tmp 43) (.const (.bool true)) (.tmp 47)), none⟩,
    ⟨(some 49), (.mov (.tmp 48)), none⟩,
    ⟨(some 50), (.mov (.tmp 7)), (some (49, false))⟩,
    ⟨(some 51), (.binI .gtr .i64 (.tmp 50) (.const (.int .i64 0))), (some (49, false))⟩,
    ⟨(some 52), (.mov (.tmp 51)), (some (49, false))⟩,
    ⟨(some 53), (.mov (.tmp 6)), (some (52, true))⟩,
    ⟨(some 54), (.mov (.tmp 7)), (some (52, true))⟩,
    ⟨(some 55), (.binI .sub .i64 (.tmp 54) (.const (.int .i64 1))), (some (52, true))⟩,
    ⟨(some 56), (.iaddr 1 (.tmp 53) (.tmp 55)), (some (52, true))⟩,
    ⟨(some 57), (.load false 1 (.tmp 56)), (some (52, true))⟩,
    ⟨(some 58), (.mov (.tmp 8)), (some (52, true))⟩,
    ⟨(some 59), (.binS .geq (.tmp 57) (.tmp 58)), (some (52, true))⟩,
    ⟨(some 60), (.pick (.tmp 52) (.tmp 59) (.const (.bool false))), (some (49, false))⟩,
    ⟨(some 61), (.pick (.tmp 49) (.const (.bool true)) (.tmp 60)), none⟩])
  (.cond (.tmp 61) (.seq (.region 0 [
    ⟨(some 4), (.mov (.const (.slice none 0 0))), none⟩,
    ⟨(some 5), (.mov (.const (.bool false))), none⟩])
  .ret) .skip))))
  (.region 0 [
    ⟨(some 62), (.binI .add .i64 (.tmp 33) (.const (.int .i64 1))), none⟩,
    ⟨(some 33), (.mov (.tmp 62)), none⟩])))))))
def b558_4 : AC := (.region 0 [
    ⟨(some 63), (.mov (.tmp 6)), none⟩,
    ⟨(some 4), (.mov (.tmp 63)), none⟩,
    ⟨(some 5), (.mov (.const (.bool true))), none⟩])
def b558_5 : AC := .ret
/-- voussoir/evict.names -/
def b558 : AC := (.seq b558_0 (.seq b558_1 (.seq b558_2 (.seq b558_3 (.seq b558_4 b558_5)))))
def ir558 : AF := ⟨64, [(.tmp 4), (.tmp 5)], b558⟩
theorem c558 : compF tt Tryz.f58 = some ir558 := by kernel_rfl
/-- voussoir/evict.part -/
def b559 : AC := (.seq (.region 1 [
    ⟨(some 3), (.box 0 (.tmp 1)), none⟩,
    ⟨(some 4), (.mov (.const (.bool false))), none⟩])
  (.seq (.region 0 [
    ⟨(some 5), (.mov (.tmp 0)), none⟩,
    ⟨(some 6), (.mkfn 104 [(.tmp 3)]), none⟩,
    ⟨(some 7), (.call 64 [(.tmp 5), (.tmp 6)]), none⟩,
    ⟨(some 8), (.not (.tmp 7)), none⟩,
    ⟨(some 4), (.mov (.tmp 8)), none⟩])
  .ret))
def ir559 : AF := ⟨9, [(.tmp 4)], b559⟩
theorem c559 : compF tt Tryz.f59 = some ir559 := by kernel_rfl
/-- (*voussoir/evict.council).of -/
def b560 : AC := (.seq (.region 1 [
    ⟨(some 3), (.box 0 (.tmp 1)), none⟩,
    ⟨(some 4), (.mov (.const (.slice none 0 0))), none⟩])
  (.seq (.region 0 [
    ⟨(some 5), (.mov (.tmp 0)), none⟩,
    ⟨(some 6), (.chk (.tmp 5)), none⟩,
    ⟨(some 7), (.faddr 2 (.tmp 6)), none⟩,
    ⟨(some 8), (.load false 1 (.tmp 7)), none⟩,
    ⟨(some 9), (.call 106 [(.tmp 8)]), none⟩,
    ⟨(some 10), (.mkfn 107 [(.tmp 3)]), none⟩,
    ⟨(some 11), (.call 105 [(.tmp 9), (.tmp 10)]), none⟩,
    ⟨(some 4), (.mov (.tmp 11)), none⟩])
  .ret))
def ir560 : AF := ⟨12, [(.tmp 4)], b560⟩
theorem c560 : compF tt Tryz.f60 = some ir560 := by kernel_rfl
/-- (*voussoir/evict.council).out$1 -/
def b561 : AC := (.seq (.region 1 [
    ⟨(some 2), (.box 0 (.tmp 0)), none⟩,
    ⟨(some 3), (.mov (.const (.bool false))), none⟩])
  (.seq (.region 0 [
    ⟨(some 4), (.load false 1 (.tmp 1)), none⟩,
    ⟨(some 5), (.mkfn 63 [(.tmp 2)]), none⟩,
    ⟨(some 6), (.call 62 [(.tmp 4), (.tmp 5)]), none⟩,
    ⟨(some 3), (.mov (.tmp 6)), none⟩])
  .ret))
def ir561 : AF := ⟨7, [(.tmp 3)], b561⟩
theorem c561 : compF tt Tryz.f61 = some ir561 := by kernel_rfl
/-- slices.ContainsFunc[[]voussoir/evict.vote,voussoir/evict.vote] -/
def b562 : AC := (.seq (.region 0 [
    ⟨(some 4), (.mov (.const (.bool false))), none⟩])
  (.seq (.region 0 [
    ⟨(some 5), (.mov (.tmp 0)), none⟩,
    ⟨(some 6), (.mov (.tmp 1)), none⟩,
    ⟨(some 7), (.call 108 [(.tmp 5), (.tmp 6)]), none⟩,
    ⟨(some 8), (.binI .geq .i64 (.tmp 7) (.const (.int .i64 0))), none⟩,
    ⟨(some 4), (.mov (.tmp 8)), none⟩])
  .ret))
def ir562 : AF := ⟨9, [(.tmp 4)], b562⟩
theorem c562 : compF tt Tryz.f62 = some ir562 := by kernel_rfl
/-- (*voussoir/evict.council).out$1$1 -/
def b563 : AC := (.seq (.region 1 [
    ⟨(some 2), (.box 0 (.tmp 0)), none⟩,
    ⟨(some 3), (.mov (.const (.bool false))), none⟩])
  (.seq (.region 0 [
    ⟨(some 4), (.faddr 0 (.tmp 2)), none⟩,
    ⟨(some 5), (.faddr 0 (.tmp 4)), none⟩,
    ⟨(some 6), (.faddr 0 (.tmp 5)), none⟩,
    ⟨(some 7), (.load false 1 (.tmp 6)), none⟩,
    ⟨(some 8), (.load false 1 (.tmp 1)), none⟩,
    ⟨(some 9), (.binS .eql (.tmp 7) (.tmp 8)), none⟩,
    ⟨(some 3), (.mov (.tmp 9)), none⟩])
  .ret))
def ir563 : AF := ⟨10, [(.tmp 3)], b563⟩
theorem c563 : compF tt Tryz.f63 = some ir563 := by kernel_rfl
/-- slices.ContainsFunc[[]string,string] -/
def b564 : AC := (.seq (.region 0 [
    ⟨(some 4), (.mov (.const (.bool false))), none⟩])
  (.seq (.region 0 [
    ⟨(some 5), (.mov (.tmp 0)), none⟩,
    ⟨(some 6), (.mov (.tmp 1)), none⟩,
    ⟨(some 7), (.call 109 [(.tmp 5), (.tmp 6)]), none⟩,
    ⟨(some 8), (.binI .geq .i64 (.tmp 7) (.const (.int .i64 0))), none⟩,
    ⟨(some 4), (.mov (.tmp 8)), none⟩])
  .ret))
def ir564 : AF := ⟨9, [(.tmp 4)], b564⟩
theorem c564 : compF tt Tryz.f64 = some ir564 := by kernel_rfl
/-- (*voussoir/evict.council).stay -/
def b565 : AC := (.seq (.region 1 [
    ⟨(some 3), (.box 0 (.tmp 1)), none⟩,
    ⟨(some 4), (.mov (.const (.slice none 0 0))), none⟩])
  (.seq (.region 0 [
    ⟨(some 5), (.mov (.tmp 0)), none⟩,
    ⟨(some 6), (.chk (.tmp 5)), none⟩,
    ⟨(some 7), (.faddr 0 (.tmp 6)), none⟩,
    ⟨(some 8), (.load false 1 (.tmp 7)), none⟩,
    ⟨(some 9), (.call 111 [(.tmp 8)]), none⟩,
    ⟨(some 10), (.mkfn 112 [(.tmp 3)]), none⟩,
    ⟨(some 11), (.call 110 [(.tmp 9), (.tmp 10)]), none⟩,
    ⟨(some 4), (.mov (.tmp 11)), none⟩])
  .ret))
def ir565 : AF := ⟨12, [(.tmp 4)], b565⟩
theorem c565 : compF tt Tryz.f65 = some ir565 := by kernel_rfl
/-- (*voussoir/evict.council).out$2 -/
def b566 : AC := (.seq (.region 0 [
    ⟨(some 3), (.mov (.const (.bool false))), none⟩])
  (.seq (.region 0 [
    ⟨(some 4), (.load false 1 (.tmp 1)), none⟩,
    ⟨(some 5), (.mov (.tmp 0)), none⟩,
    ⟨(some 6), (.callv (.tmp 4) [(.tmp 5)]), none⟩,
    ⟨(some 7), (.not (.tmp 6)), none⟩,
    ⟨(some 3), (.mov (.tmp 7)), none⟩])
  .ret))
def ir566 : AF := ⟨8, [(.tmp 3)], b566⟩
theorem c566 : compF tt Tryz.f66 = some ir566 := by kernel_rfl
/-- slices.ContainsFunc[[][]string,[]string] -/
def b567 : AC := (.seq (.region 0 [
    ⟨(some 4), (.mov (.const (.bool false))), none⟩])
  (.seq (.region 0 [
    ⟨(some 5), (.mov (.tmp 0)), none⟩,
    ⟨(some 6), (.mov (.tmp 1)), none⟩,
    ⟨(some 7), (.call 113 [(.tmp 5), (.tmp 6)]), none⟩,
    ⟨(some 8), (.binI .geq .i64 (.tmp 7) (.const (.int .i64 0))), none⟩,
    ⟨(some 4), (.mov (.tmp 8)), none⟩])
  .ret))
def ir567 : AF := ⟨9, [(.tmp 4)], b567⟩
theorem c567 : compF tt Tryz.f67 = some ir567 := by kernel_rfl
/-- (*voussoir/evict.council).out$3 -/
def b568 : AC := (.seq (.region 0 [
    ⟨(some 3), (.mov (.const (.bool false))), none⟩])
  (.seq (.region 0 [
    ⟨(some 4), (.mov (.tmp 0)), none⟩,
    ⟨(some 5), (.faddr 18 (.tmp 1)), none⟩,
    ⟨(some 6), (.load false 1 (.tmp 5)), none⟩,
    ⟨(some 7), (.call 69 [(.tmp 4), (.tmp 6)]), none⟩,
    ⟨(some 3), (.mov (.tmp 7)), none⟩])
  .ret))
def ir568 : AF := ⟨8, [(.tmp 3)], b568⟩
theorem c568 : compF tt Tryz.f68 = some ir568 := by kernel_rfl
/-- slices.Equal[[]string,string] -/
def b569 : AC := (.seq (.region 0 [
    ⟨(some 4), (.mov (.const (.bool false))), none⟩])
  (.seq (.seq (.region 0 [
    ⟨(some 6), (.mov (.tmp 0)), none⟩,
    ⟨(some 7), (.lenL (.tmp 6)), none⟩,
    ⟨(some 8), (.mov (.tmp 1)), none⟩,
    ⟨(some 9), (.lenL (.tmp 8)), none⟩,
    ⟨(some 10), (.binI .neq .i64 (.tmp 7) (.tmp 9)), none⟩])
  (.cond (.tmp 10) (.seq (.region 0 [
    ⟨(some 4), (.mov (.const (.bool false))), none⟩])
  .ret) .skip))
  (.seq (.seq (.region 0 [
    ⟨(some 11), (.mov (.tmp 0)), none⟩,
    ⟨(some 12), (.lenL (.tmp 11)), none⟩,
    ⟨(some 13), (.mov (.const (.int .i64 0))), none⟩])
  (.block 0 (.loop (.seq (.region 0 [
    ⟨(some 14), (.binI .lss .i64 (.tmp 13) (.tmp 12)), none⟩])
  (.seq (.cond (.tmp 14) .skip (.exit 0))
  (.seq (.block 1 (.seq (.region 0 [
    ⟨(some 15), (.mov (.tmp 13)), none⟩,
    ⟨(some 5), (.mov (.tmp 15)), none⟩])
  (.seq (.dregion 0 [
    ⟨(some 16), (.mov (.tmp 0)), none⟩,
    ⟨(some 17), (.mov (.tmp 5)), none⟩,
    ⟨(some 18), (.iaddr 1 (.tmp 16) (.tmp 17)), none⟩,
    ⟨(some 19), (.load false 1 (.tmp 18)), none⟩,
    ⟨(some 20), (.mov (.tmp 1)), none⟩,
    ⟨(some 21), (.mov (.tmp 5)), none⟩,
    ⟨(some 22), (.iaddr 1 (.tmp 20) (.tmp 21)), none⟩,
    ⟨(some 23), (.load false 1 (.tmp 22)), none⟩,
    ⟨(some 24), (.binS .neq (.tmp 19) (.tmp 23)), none⟩] [[], [], [0, 1], [2], [], [], [4, 5], [6], [3, 7]])
  (.cond (.tmp 24) (.seq (.region 0 [
    ⟨(some 4), (.mov (.const (.bool false))), none⟩])
  .ret) .skip))))
  (.region 0 [
    ⟨(some 25), (.binI .add .i64 (.tmp 13) (.const (.int .i64 1))), none⟩,
    ⟨(some 13), (.mov (.tmp 25)), none⟩])))))))
  (.seq (.region 0 [
    ⟨(some 4), (.mov (.const (.bool true))), none⟩])
  .ret))))
def ir569 : AF := ⟨26, [(.tmp 4)], b569⟩
theorem c569 : compF tt Tryz.f69 = some ir569 := by kernel_rfl
/-- slices.SortFunc[[][]string,[]string] -/
def b570 : AC := (.seq (.region 0 [
    ⟨(some 5), (.mov (.tmp 0)), none⟩,
    ⟨(some 6), (.lenL (.tmp 5)), none⟩,
    ⟨(some 4), (.mov (.tmp 6)), none⟩])
  (.region 0 [
    ⟨(some 7), (.mov (.tmp 0)), none⟩,
    ⟨(some 8), (.mov (.tmp 4)), none⟩,
    ⟨(some 9), (.mov (.tmp 4)), none⟩,
    ⟨(some 10), (.conv .u64 (.tmp 9)), none⟩,
    ⟨(some 11), (.call 115 [(.tmp 10)]), none⟩,
    ⟨(some 12), (.mov (.tmp 1)), none⟩,
    ⟨(some 13), (.call 114 [(.tmp 7), (.const (.int .i64 0)), (.tmp 8), (.tmp 11), (.tmp 12)]), none⟩]))
def ir570 : AF := ⟨14, [], b570⟩
theorem c570 : compF tt Tryz.f70 = some ir570 := by kernel_rfl
/-- (*voussoir/evict.council).out$4 -/
def b571 : AC := (.seq (.region 0 [
    ⟨(some 4), (.mov (.const (.int .i64 0))), none⟩])
  (.seq (.region 0 [
    ⟨(some 5), (.mov (.tmp 0)), none⟩,
    ⟨(some 6), (.lenL (.tmp 5)), none⟩,
    ⟨(some 7), (.mov (.tmp 1)), none⟩,
    ⟨(some 8), (.lenL (.tmp 7)), none⟩,
    ⟨(some 9), (.binI .sub .i64 (.tmp 6) (.tmp 8)), none⟩,
    ⟨(some 4), (.mov (.tmp 9)), none⟩])
  .ret))
def ir571 : AF := ⟨10, [(.tmp 4)], b571⟩
theorem c571 : compF tt Tryz.f71 = some ir571 := by kernel_rfl
/-- (*voussoir/evict.council).final$1 -/
def b572 : AC := (.seq (.region 1 [
    ⟨(some 3), (.box 0 (.tmp 0)), none⟩,
    ⟨(some 4), (.mov (.const (.bool false))), none⟩])
  (.seq (.region 0 [
    ⟨(some 5), (.load false 1 (.tmp 1)), none⟩,
    ⟨(some 6), (.chk (.tmp 5)), none⟩,
    ⟨(some 7), (.faddr 1 (.tmp 6)), none⟩,
    ⟨(some 8), (.load false 1 (.tmp 7)), none⟩,
    ⟨(some 9), (.mkfn 74 [(.tmp 3), (.tmp 2)]), none⟩,
    ⟨(some 10), (.call 73 [(.tmp 8), (.tmp 9)]), none⟩,
    ⟨(some 4), (.mov (.tmp 10)), none⟩])
  .ret))
def ir572 : AF := ⟨11, [(.tmp 4)], b572⟩
theorem c572 : compF tt Tryz.f72 = some ir572 := by kernel_rfl
/-- slices.ContainsFunc[[]voussoir/api.Edit,voussoir/api.Edit] -/
def b82 : AC := (.seq (.region 0 [
    ⟨(some 4), (.mov (.const (.bool false))), none⟩])
  (.seq (.region 0 [
    ⟨(some 5), (.mov (.tmp 0)), none⟩,
    ⟨(some 6), (.mov (.tmp 1)), none⟩,
    ⟨(some 7), (.call 116 [(.tmp 5), (.tmp 6)]), none⟩,
    ⟨(some 8), (.binI .geq .i64 (.tmp 7) (.const (.int .i64 0))), none⟩,
    ⟨(some 4), (.mov (.tmp 8)), none⟩])
  .ret))
def ir82 : AF := ⟨9, [(.tmp 4)], b82⟩
theorem c82 : compF tt Tryz.f73 = some ir82 := by kernel_rfl
/-- (*voussoir/evict.council).final$1$1 -/
def b574 : AC := (.seq (.region 1 [
    ⟨(some 3), (.box 0 (.tmp 0)), none⟩,
    ⟨(some 4), (.mov (.const (.bool false))), none⟩])
  (.seq (.region 0 [
    ⟨(some 5), (.faddr 0 (.tmp 3)), none⟩,
    ⟨(some 6), (.faddr 0 (.tmp 5)), none⟩,
    ⟨(some 7), (.load false 1 (.tmp 6)), none⟩,
    ⟨(some 8), (.load false 1 (.tmp 1)), none⟩,
    ⟨(some 9), (.binS .eql (.tmp 7) (.tmp 8)), none⟩,
    ⟨(some 10), (.mov (.tmp 9)), none⟩,
    ⟨(some 11), (.load true 18 (.tmp 3)), (some (10, true))⟩,
    ⟨(some 12), (.load false 1 (.tmp 2)), (some (10, true))⟩,
    ⟨(some 13), (.call 75 [(.tmp 11), (.tmp 12)]), (some (10, true))⟩,
    ⟨(some 14), (.pick (.tmp 10) (.tmp 13) (.const (.bool false))), none⟩,
    ⟨(some 4), (.mov (.tmp 14)), none⟩])
  .ret))
def ir574 : AF := ⟨15, [(.tmp 4)], b574⟩
theorem c574 : compF tt Tryz.f74 = some ir574 := by kernel_rfl
/-- voussoir/evict.knows -/
def b575 : AC := (.seq (.region 1 [
    ⟨(some 2), (.box 0 (.tmp 0)), none⟩,
    ⟨(some 4), (.mov (.const (.bool false))), none⟩])
  (.seq (.region 0 [
    ⟨(some 5), (.mov (.tmp 1)), none⟩,
    ⟨(some 6), (.mkfn 117 [(.tmp 2)]), none⟩,
    ⟨(some 7), (.call 62 [(.tmp 5), (.tmp 6)]), none⟩,
    ⟨(some 8), (.not (.tmp 7)), none⟩,
    ⟨(some 4), (.mov (.tmp 8)), none⟩])
  .ret))
def ir575 : AF := ⟨9, [(.tmp 4)], b575⟩
theorem c575 : compF tt Tryz.f75 = some ir575 := by kernel_rfl
/-- (*voussoir/evict.council).final$2 -/
def b576 : AC := (.seq (.region 0 [
    ⟨(some 3), (.mov (.const (.bool false))), none⟩])
  (.seq (.region 0 [
    ⟨(some 4), (.load false 1 (.tmp 1)), none⟩,
    ⟨(some 5), (.mov (.tmp 0)), none⟩,
    ⟨(some 6), (.callv (.tmp 4) [(.tmp 5)]), none⟩,
    ⟨(some 7), (.not (.tmp 6)), none⟩,
    ⟨(some 3), (.mov (.tmp 7)), none⟩])
  .ret))
def ir576 : AF := ⟨8, [(.tmp 3)], b576⟩
theorem c576 : compF tt Tryz.f76 = some ir576 := by kernel_rfl
/-- slices.Contains[[]string,string] -/
def b577 : AC := (.seq (.region 0 [
    ⟨(some 4), (.mov (.const (.bool false))), none⟩])
  (.seq (.region 0 [
    ⟨(some 5), (.mov (.tmp 0)), none⟩,
    ⟨(some 6), (.mov (.tmp 1)), none⟩,
    ⟨(some 7), (.call 118 [(.tmp 5), (.tmp 6)]), none⟩,
    ⟨(some 8), (.binI .geq .i64 (.tmp 7) (.const (.int .i64 0))), none⟩,
    ⟨(some 4), (.mov (.tmp 8)), none⟩])
  .ret))
def ir577 : AF := ⟨9, [(.tmp 4)], b577⟩
theorem c577 : compF tt Tryz.f77 = some ir577 := by kernel_rfl
/-- (*voussoir/evict.council).upto$1 -/
def b578 : AC := (.seq (.region 1 [
    ⟨(some 2), (.box 0 (.tmp 0)), none⟩,
    ⟨(some 3), (.mov (.const (.bool false))), none⟩])
  (.seq (.region 0 [
    ⟨(some 4), (.faddr 0 (.tmp 2)), none⟩,
    ⟨(some 5), (.load true 18 (.tmp 4)), none⟩,
    ⟨(some 6), (.load false 1 (.tmp 1)), none⟩,
    ⟨(some 7), (.call 75 [(.tmp 5), (.tmp 6)]), none⟩,
    ⟨(some 3), (.mov (.tmp 7)), none⟩])
  .ret))
def ir578 : AF := ⟨8, [(.tmp 3)], b578⟩
theorem c578 : compF tt Tryz.f78 = some ir578 := by kernel_rfl
/-- voussoir/evict.has -/
def b579 : AC := (.seq (.region 1 [
    ⟨(some 3), (.box 0 (.tmp 1)), none⟩,
    ⟨(some 4), (.mov (.const (.int .i64 0))), none⟩])
  (.seq (.region 0 [
    ⟨(some 6), (.mov (.tmp 0)), none⟩,
    ⟨(some 7), (.mkfn 120 [(.tmp 3)]), none⟩,
    ⟨(some 8), (.call 119 [(.tmp 6), (.tmp 7)]), none⟩,
    ⟨(some 5), (.mov (.tmp 8)), none⟩])
  (.seq (.seq (.region 0 [
    ⟨(some 9), (.mov (.tmp 5)), none⟩,
    ⟨(some 10), (.binI .lss .i64 (.tmp 9) (.const (.int .i64 0))), none⟩])
  (.cond (.tmp 10) (.seq (.region 0 [
    ⟨(some 4), (.mov (.const (.int .i64 0))), none⟩])
  .ret) .skip))
  (.seq (.region 0 [
    ⟨(some 11), (.mov (.tmp 0)), none⟩,
    ⟨(some 12), (.mov (.tmp 5)), none⟩,
    ⟨(some 13), (.iaddr 2 (.tmp 11) (.tmp 12)), none⟩,
    ⟨(some 14), (.faddr 1 (.tmp 13)), none⟩,
    ⟨(some 15), (.load false 1 (.tmp 14)), none⟩,
    ⟨(some 4), (.mov (.tmp 15)), none⟩])
  .ret))))
def ir579 : AF := ⟨16, [(.tmp 4)], b579⟩
theorem c579 : compF tt Tryz.f79 = some ir579 := by kernel_rfl
/-- voussoir/voussoirref39.Sort -/
def b38 : AC := (.seq (.region 0 [
    ⟨(some 2), (.mov (.const (.slice none 0 0))), none⟩])
  (.seq (.region 1 [
    ⟨(some 5), (.bsl 0 18 [(.v (.string ⟨#[]⟩)), (.v (.int .i64 0)), (.v (.int .i64 0)), (.v (.int .i64 0)), (.v (.slice none 0 0)), (.v (.int .i64 0)), (.v (.string ⟨#[]⟩)), (.v (.int .i64 0)), (.v (.string ⟨#[]⟩)), (.v (.int .i64 0)), (.v (.bool false)), (.v (.string ⟨#[]⟩)), (.v (.string ⟨#[]⟩)), (.v (.string ⟨#[]⟩)), (.v (.string ⟨#[]⟩)), (.v (.string ⟨#[]⟩)), (.v (.int .i64 0)), (.v (.string ⟨#[]⟩))] 0 []), none⟩,
    ⟨(some 3), (.mov (.tmp 5)), none⟩])
  (.seq (.seq (.region 0 [
    ⟨(some 4), (.mov (.const (.int .i64 0))), none⟩])
  (.block 0 (.loop (.seq (.seq (.region 0 [
    ⟨(some 6), (.mov (.tmp 4)), none⟩,
    ⟨(some 7), (.mov (.tmp 0)), none⟩,
    ⟨(some 8), (.lenL (.tmp 7)), none⟩,
    ⟨(some 9), (.binI .lss .i64 (.tmp 6) (.tmp 8)), none⟩])
  (.cond (.tmp 9) .skip (.exit 0)))
  (.seq (.block 1 (.region 0 [
    ⟨(some 12), (.mov (.tmp 3)), none⟩,
    ⟨(some 13), (.mov (.tmp 0)), none⟩,
    ⟨(some 14), (.mov (.tmp 4)), none⟩,
    ⟨(some 15), (.iaddr 18 (.tmp 13) (.tmp 14)), none⟩,
    ⟨(some 16), (.load true 18 (.tmp 15)), none⟩,
    ⟨(some 17), (.call 121 [(.tmp 12), (.tmp 16)]), none⟩,
    ⟨(some 3), (.mov (.tmp 17)), none⟩]))
  (.region 0 [
    ⟨(some 10), (.mov (.tmp 4)), none⟩,
    ⟨(some 11), (.binI .add .i64 (.tmp 10) (.const (.int .i64 1))), none⟩,
    ⟨(some 4), (.mov (.tmp 11)), none⟩]))))))
  (.seq (.region 0 [
    ⟨(some 18), (.mov (.tmp 3)), none⟩,
    ⟨(some 2), (.mov (.tmp 18)), none⟩])
  .ret))))
def ir38 : AF := ⟨19, [(.tmp 2)], b38⟩
theorem c38 : compF tt Tryz.f80 = some ir38 := by kernel_rfl
/-- voussoir/voussoirref46.member -/
def b581 : AC := (.seq (.region 0 [
    ⟨(some 4), (.mov (.const (.bool false))), none⟩])
  (.seq (.seq (.region 0 [
    ⟨(some 7), (.mov (.tmp 0)), none⟩,
    ⟨(some 8), (.lenL (.tmp 7)), none⟩,
    ⟨(some 9), (.mov (.const (.int .i64 0))), none⟩])
  (.block 0 (.loop (.seq (.region 0 [
    ⟨(some 10), (.binI .lss .i64 (.tmp 9) (.tmp 8)), none⟩])
  (.seq (.cond (.tmp 10) .skip (.exit 0))
  (.seq (.block 1 (.seq (.region 1 [
    ⟨(some 11), (.iaddr 2 (.tmp 7) (.tmp 9)), none⟩,
    ⟨(some 12), (.load true 2 (.tmp 11)), none⟩,
    ⟨(some 6), (.zero 0 [(.v (.string ⟨#[]⟩)), (.v (.string ⟨#[]⟩))]), none⟩,
    ⟨none, (.store 2 (.tmp 6) (.tmp 12)), none⟩])
  (.seq (.region 0 [
    ⟨(some 13), (.faddr 0 (.tmp 6)), none⟩,
    ⟨(some 14), (.load false 1 (.tmp 13)), none⟩,
    ⟨(some 15), (.mov (.tmp 1)), none⟩,
    ⟨(some 16), (.binS .eql (.tmp 14) (.tmp 15)), none⟩])
  (.cond (.tmp 16) (.seq (.region 0 [
    ⟨(some 4), (.mov (.const (.bool true))), none⟩])
  .ret) .skip))))
  (.region 0 [
    ⟨(some 17), (.binI .add .i64 (.tmp 9) (.const (.int .i64 1))), none⟩,
    ⟨(some 9), (.mov (.tmp 17)), none⟩])))))))
  (.seq (.region 0 [
    ⟨(some 4), (.mov (.const (.bool false))), none⟩])
  .ret)))
def ir581 : AF := ⟨18, [(.tmp 4)], b581⟩
theorem c581 : compF tt Tryz.f81 = some ir581 := by kernel_rfl
/-- voussoir/voussoirref46.part -/
def b582 : AC := (.seq (.region 0 [
    ⟨(some 4), (.mov (.const (.bool false))), none⟩])
  (.seq (.seq (.region 0 [
    ⟨(some 7), (.mov (.tmp 0)), none⟩,
    ⟨(some 8), (.lenL (.tmp 7)), none⟩,
    ⟨(some 9), (.mov (.const (.int .i64 0))), none⟩])
  (.block 0 (.loop (.seq (.region 0 [
    ⟨(some 10), (.binI .lss .i64 (.tmp 9) (.tmp 8)), none⟩])
  (.seq (.cond (.tmp 10) .skip (.exit 0))
  (.seq (.block 1 (.seq (.region 0 [
    ⟨(some 11), (.iaddr 1 (.tmp 7) (.tmp 9)), none⟩,
    ⟨(some 12), (.load false 1 (.tmp 11)), none⟩,
    ⟨(some 6), (.mov (.tmp 12)), none⟩])
  (.seq (.region 0 [
    ⟨(some 13), (.mov (.tmp 1)), none⟩,
    ⟨(some 14), (.mov (.tmp 6)), none⟩,
    ⟨(some 15), (.call 46 [(.tmp 13), (.tmp 14)]), none⟩,
    ⟨(some 16), (.not (.tmp 15)), none⟩])
  (.cond (.tmp 16) (.seq (.region 0 [
    ⟨(some 4), (.mov (.const (.bool false))), none⟩])
  .ret) .skip))))
  (.region 0 [
    ⟨(some 17), (.binI .add .i64 (.tmp 9) (.const (.int .i64 1))), none⟩,
    ⟨(some 9), (.mov (.tmp 17)), none⟩])))))))
  (.seq (.region 0 [
    ⟨(some 4), (.mov (.const (.bool true))), none⟩])
  .ret)))
def ir582 : AF := ⟨18, [(.tmp 4)], b582⟩
theorem c582 : compF tt Tryz.f82 = some ir582 := by kernel_rfl
/-- voussoir/voussoirref46.knows -/
def b583 : AC := (.seq (.region 0 [
    ⟨(some 4), (.mov (.const (.bool false))), none⟩])
  (.seq (.seq (.region 0 [
    ⟨(some 7), (.mov (.tmp 1)), none⟩,
    ⟨(some 8), (.lenL (.tmp 7)), none⟩,
    ⟨(some 9), (.mov (.const (.int .i64 0))), none⟩])
  (.block 0 (.loop (.seq (.region 0 [
    ⟨(some 10), (.binI .lss .i64 (.tmp 9) (.tmp 8)), none⟩])
  (.seq (.cond (.tmp 10) .skip (.exit 0))
  (.seq (.block 1 (.seq (.region 1 [
    ⟨(some 11), (.iaddr 18 (.tmp 7) (.tmp 9)), none⟩,
    ⟨(some 12), (.load true 18 (.tmp 11)), none⟩,
    ⟨(some 6), (.zero 0 [(.v (.string ⟨#[]⟩)), (.v (.int .i64 0)), (.v (.int .i64 0)), (.v (.int .i64 0)), (.v (.slice none 0 0)), (.v (.int .i64 0)), (.v (.string ⟨#[]⟩)), (.v (.int .i64 0)), (.v (.string ⟨#[]⟩)), (.v (.int .i64 0)), (.v (.bool false)), (.v (.string ⟨#[]⟩)), (.v (.string ⟨#[]⟩)), (.v (.string ⟨#[]⟩)), (.v (.string ⟨#[]⟩)), (.v (.string ⟨#[]⟩)), (.v (.int .i64 0)), (.v (.string ⟨#[]⟩))]), none⟩,
    ⟨none, (.store 18 (.tmp 6) (.tmp 12)), none⟩])
  (.seq (.region 0 [
    ⟨(some 13), (.mov (.tmp 0)), none⟩,
    ⟨(some 14), (.faddr 0 (.tmp 6)), none⟩,
    ⟨(some 15), (.load true 2 (.tmp 14)), none⟩,
    ⟨(some 16), (.call 122 [(.tmp 13), (.tmp 15)]), none⟩,
    ⟨(some 17), (.not (.tmp 16)), none⟩])
  (.cond (.tmp 17) (.seq (.region 0 [
    ⟨(some 4), (.mov (.const (.bool false))), none⟩])
  .ret) .skip))))
  (.region 0 [
    ⟨(some 18), (.binI .add .i64 (.tmp 9) (.const (.int .i64 1))), none⟩,
    ⟨(some 9), (.mov (.tmp 18)), none⟩])))))))
  (.seq (.region 0 [
    ⟨(some 4), (.mov (.const (.bool true))), none⟩])
  .ret)))
def ir583 : AF := ⟨19, [(.tmp 4)], b583⟩
theorem c583 : compF tt Tryz.f83 = some ir583 := by kernel_rfl
/-- slices.BinarySearchFunc[[]voussoir/api.Id,voussoir/api.Id,string] -/
def b584 : AC := (.seq (.region 0 [
    ⟨(some 6), (.mov (.const (.int .i64 0))), none⟩,
    ⟨(some 7), (.mov (.const (.bool false))), none⟩])
  (.seq (.region 0 [
    ⟨(some 12), (.mov (.tmp 0)), none⟩,
    ⟨(some 13), (.lenL (.tmp 12)), none⟩,
    ⟨(some 8), (.mov (.tmp 13)), none⟩])
  (.seq (.region 0 [
    ⟨(some 14), (.mov (.tmp 8)), none⟩,
    ⟨(some 9), (.mov (.const (.int .i64 0))), none⟩,
    ⟨(some 10), (.mov (.tmp 14)), none⟩])
  (.seq (.block 0 (.loop (.seq (.seq (.region 0 [
    ⟨(some 15), (.mov (.tmp 9)), none⟩,
    ⟨(some 16), (.mov (.tmp 10)), none⟩,
    ⟨(some 17), (.binI .lss .i64 (.tmp 15) (.tmp 16)), none⟩])
  (.cond (.tmp 17) .skip (.exit 0)))
  (.block 1 (.seq (.region 0 [
    ⟨(some 18), (.mov (.tmp 9)), none⟩,
    ⟨(some 19), (.mov (.tmp 10)), none⟩,
    ⟨(some 20), (.binI .add .i64 (.tmp 18) (.tmp 19)), none⟩,
    ⟨(some 21), (.conv .u64 (.tmp 20)), none⟩,
    ⟨(some 22), (.shf .shr .u64 (.tmp 21) (.const (.int .u64 1))), none⟩,
    ⟨(some 23), (.conv .i64 (.tmp 22)), none⟩,
    ⟨(some 11), (.mov (.tmp 23)), none⟩])
  (.seq (.region 0 [
    ⟨(some 24), (.mov (.tmp 2)), none⟩,
    ⟨(some 25), (.mov (.tmp 0)), none⟩,
    ⟨(some 26), (.mov (.tmp 11)), none⟩,
    ⟨(some 27), (.iaddr 2 (.tmp 25) (.tmp 26)), none⟩,
    ⟨(some 28), (.load true 2 (.tmp 27)), none⟩,
    ⟨(some 29), (.mov (.tmp 1)), none⟩,
    ⟨(some 30), (.callv (.tmp 24) [(.tmp 28), (.tmp 29)]), none⟩,
    ⟨(some 31), (.binI .lss .i64 (.tmp 30) (.const (.int .i64 0))), none⟩])
  (.cond (.tmp 31) (.region 0 [
    ⟨(some 32), (.mov (.tmp 11)), none⟩,
    ⟨(some 33), (.binI .add .i64 (.tmp 32) (.const (.int .i64 1))), none⟩,
    ⟨(some 9), (.mov (.tmp 33)), none⟩]) (.region 0 [
    ⟨(some 34), (.mov (.tmp 11)), none⟩,
    ⟨(some 10), (.mov (.tmp 34)), none⟩]))))))))
  (.seq (.region 0 [
    ⟨(some 35), (.mov (.tmp 9)), none⟩,
    ⟨(some 36), (.mov (.tmp 9)), none⟩,
    ⟨(some 37), (.mov (.tmp 8)), none⟩,
    ⟨(some 38), (.binI .lss .i64 (.tmp 36) (.tmp 37)), none⟩,
    ⟨(some 39), (.mov (.tmp 38)), none⟩,
    ⟨(some 40), (.mov (.tmp 2)), (some (39, true))⟩,
    ⟨(some 41), (.mov (.tmp 0)), (some (39, true))⟩,
    ⟨(some 42), (.mov (.tmp 9)), (some (39, true))⟩,
    ⟨(some 43), (.iaddr 2 (.tmp 41) (.tmp 42)), (some (39, true))⟩,
    ⟨(some 44), (.load true 2 (.tmp 43)), (some (39, true))⟩,
    ⟨(some 45), (.mov (.tmp 1)), (some (39, true))⟩,
    ⟨(some 46), (.callv (.tmp 40) [(.tmp 44), (.tmp 45)]), (some (39, true))⟩,
    ⟨(some 47), (.binI .eql .i64 (.tmp 46) (.const (.int .i64 0))), (some (39, true))⟩,
    ⟨(some 48), (.pick (.tmp 39) (.tmp 47) (.const (.bool false))), none⟩,
    ⟨(some 6), (.mov (.tmp 35)), none⟩,
    ⟨(some 7), (.mov (.tmp 48)), none⟩])
  .ret)))))
def ir584 : AF := ⟨49, [(.tmp 6), (.tmp 7)], b584⟩
theorem c584 : compF tt Tryz.f84 = some ir584 := by kernel_rfl
/-- voussoir/vclock.place$1 -/
def b585 : AC := (.seq (.region 1 [
    ⟨(some 2), (.box 0 (.tmp 0)), none⟩,
    ⟨(some 4), (.mov (.const (.int .i64 0))), none⟩])
  (.seq (.region 0 [
    ⟨(some 5), (.faddr 0 (.tmp 2)), none⟩,
    ⟨(some 6), (.load false 1 (.tmp 5)), none⟩,
    ⟨(some 7), (.mov (.tmp 1)), none⟩,
    ⟨(some 8), (.call 86 [(.tmp 6), (.tmp 7)]), none⟩,
    ⟨(some 4), (.mov (.tmp 8)), none⟩])
  .ret))
def ir585 : AF := ⟨9, [(.tmp 4)], b585⟩
theorem c585 : compF tt Tryz.f85 = some ir585 := by kernel_rfl
/-- strings.Compare -/
def b49 : AC := (.seq (.region 0 [
    ⟨(some 4), (.mov (.const (.int .i64 0))), none⟩])
  (.seq (.region 0 [
    ⟨(some 5), (.mov (.tmp 0)), none⟩,
    ⟨(some 6), (.mov (.tmp 1)), none⟩,
    ⟨(some 7), (.call 123 [(.tmp 5), (.tmp 6)]), none⟩,
    ⟨(some 4), (.mov (.tmp 7)), none⟩])
  .ret))
def ir49 : AF := ⟨8, [(.tmp 4)], b49⟩
theorem c49 : compF tt Tryz.f86 = some ir49 := by kernel_rfl
/-- slices.Clone[[]voussoir/api.Edit,voussoir/api.Edit] -/
def b43 : AC := (.seq (.region 0 [
    ⟨(some 2), (.mov (.const (.slice none 0 0))), none⟩])
  (.seq (.seq (.region 0 [
    ⟨(some 3), (.mov (.tmp 0)), none⟩,
    ⟨(some 4), (.eqN false .sl (.tmp 3)), none⟩])
  (.cond (.tmp 4) (.seq (.region 0 [
    ⟨(some 2), (.mov (.const (.slice none 0 0))), none⟩])
  .ret) .skip))
  (.seq (.region 2 [
    ⟨(some 5), (.bsl 0 18 [(.v (.string ⟨#[]⟩)), (.v (.int .i64 0)), (.v (.int .i64 0)), (.v (.int .i64 0)), (.v (.slice none 0 0)), (.v (.int .i64 0)), (.v (.string ⟨#[]⟩)), (.v (.int .i64 0)), (.v (.string ⟨#[]⟩)), (.v (.int .i64 0)), (.v (.bool false)), (.v (.string ⟨#[]⟩)), (.v (.string ⟨#[]⟩)), (.v (.string ⟨#[]⟩)), (.v (.string ⟨#[]⟩)), (.v (.string ⟨#[]⟩)), (.v (.int .i64 0)), (.v (.string ⟨#[]⟩))] 0 []), none⟩,
    ⟨(some 6), (.mov (.tmp 0)), none⟩,
    ⟨(some 7), (.app 1 18 232 (.tmp 5) (.tmp 6)), none⟩,
    ⟨(some 2), (.mov (.tmp 7)), none⟩])
  .ret)))
def ir43 : AF := ⟨8, [(.tmp 2)], b43⟩
theorem c43 : compF tt Tryz.f98 = some ir43 := by kernel_rfl
/-- slices.SortStableFunc[[]voussoir/api.Edit,voussoir/api.Edit] -/
def b44 : AC := (.region 0 [
    ⟨(some 4), (.mov (.tmp 0)), none⟩,
    ⟨(some 5), (.mov (.tmp 0)), none⟩,
    ⟨(some 6), (.lenL (.tmp 5)), none⟩,
    ⟨(some 7), (.mov (.tmp 1)), none⟩,
    ⟨(some 8), (.call 132 [(.tmp 4), (.tmp 6), (.tmp 7)]), none⟩])
def ir44 : AF := ⟨9, [], b44⟩
theorem c44 : compF tt Tryz.f99 = some ir44 := by kernel_rfl
/-- voussoir/vclock.CompareEdits -/
def b21 : AC := (.seq (.region 2 [
    ⟨(some 2), (.box 0 (.tmp 0)), none⟩,
    ⟨(some 3), (.box 1 (.tmp 1)), none⟩,
    ⟨(some 4), (.mov (.const (.int .i64 0))), none⟩])
  (.seq (.dregion 1 [
    ⟨(some 5), (.faddr 2 (.tmp 2)), none⟩,
    ⟨(some 6), (.load false 1 (.tmp 5)), none⟩,
    ⟨(some 7), (.faddr 2 (.tmp 3)), none⟩,
    ⟨(some 8), (.load false 1 (.tmp 7)), none⟩,
    ⟨(some 9), (.call 134 [(.tmp 6), (.tmp 8)]), none⟩,
    ⟨(some 10), (.faddr 0 (.tmp 2)), none⟩,
    ⟨(some 11), (.faddr 0 (.tmp 10)), none⟩,
    ⟨(some 12), (.load false 1 (.tmp 11)), none⟩,
    ⟨(some 13), (.faddr 0 (.tmp 3)), none⟩,
    ⟨(some 14), (.faddr 0 (.tmp 13)), none⟩,
    ⟨(some 15), (.load false 1 (.tmp 14)), none⟩,
    ⟨(some 16), (.call 86 [(.tmp 12), (.tmp 15)]), none⟩,
    ⟨(some 17), (.faddr 0 (.tmp 2)), none⟩,
    ⟨(some 18), (.faddr 1 (.tmp 17)), none⟩,
    ⟨(some 19), (.load false 1 (.tmp 18)), none⟩,
    ⟨(some 20), (.faddr 0 (.tmp 3)), none⟩,
    ⟨(some 21), (.faddr 1 (.tmp 20)), none⟩,
    ⟨(some 22), (.load false 1 (.tmp 21)), none⟩,
    ⟨(some 23), (.call 134 [(.tmp 19), (.tmp 22)]), none⟩,
    ⟨(some 24), (.bsl 0 1 [(.v (.int .i64 0))] 3 [(0, (.tmp 9)), (1, (.tmp 16)), (2, (.tmp 23))]), none⟩,
    ⟨(some 25), (.call 133 [(.tmp 24)]), none⟩,
    ⟨(some 4), (.mov (.tmp 25)), none⟩] [[], [0], [], [2], [1, 3], [], [5], [6], [], [8], [9], [7, 10, 4], [], [12], [13], [], [15], [16], [14, 17, 11], [4, 11, 18], [19, 18], [20, 20, 0, 1, 2, 3, 4, 5, 6, 7, 8, 9, 10, 11, 12, 13, 14, 15, 16, 17, 18, 19, 20]])
  .ret))
def ir21 : AF := ⟨26, [(.tmp 4)], b21⟩
theorem c21 : compF tt Tryz.f100 = some ir21 := by kernel_rfl
def b45_0 : AC := (.region 0 [
    ⟨(some 4), (.mov (.const (.slice none 0 0))), none⟩])
def b45_1 : AC := (.seq (.region 0 [
    ⟨(some 8), (.mov (.tmp 0)), none⟩,
    ⟨(some 9), (.lenL (.tmp 8)), none⟩,
    ⟨(some 10), (.binI .lss .i64 (.tmp 9) (.const (.int .i64 2))), none⟩])
  (.cond (.tmp 10) (.seq (.region 0 [
    ⟨(some 11), (.mov (.tmp 0)), none⟩,
    ⟨(some 4), (.mov (.tmp 11)), none⟩])
  .ret) .skip))
def b45_2 : AC := (.seq (.region 0 [
    ⟨(some 5), (.mov (.const (.int .i64 1))), none⟩])
  (.block 0 (.loop (.seq (.seq (.region 0 [
    ⟨(some 12), (.mov (.tmp 5)), none⟩,
    ⟨(some 13), (.mov (.tmp 0)), none⟩,
    ⟨(some 14), (.lenL (.tmp 13)), none⟩,
    ⟨(some 15), (.binI .lss .i64 (.tmp 12) (.tmp 14)), none⟩])
  (.cond (.tmp 15) .skip (.exit 0)))
  (.seq (.block 1 (.seq (.dregion 0 [
    ⟨(some 18), (.mov (.tmp 1)), none⟩,
    ⟨(some 19), (.mov (.tmp 0)), none⟩,
    ⟨(some 20), (.mov (.tmp 5)), none⟩,
    ⟨(some 21), (.iaddr 18 (.tmp 19) (.tmp 20)), none⟩,
    ⟨(some 22), (.load true 18 (.tmp 21)), none⟩,
    ⟨(some 23), (.mov (.tmp 0)), none⟩,
    ⟨(some 24), (.mov (.tmp 5)), none⟩,
    ⟨(some 25), (.binI .sub .i64 (.tmp 24) (.const (.int .i64 1))), none⟩,
    ⟨(some 26), (.iaddr 18 (.tmp 23) (.tmp 25)), none⟩,
    ⟨(some 27), (.load true 18 (.tmp 26)), none⟩,
    ⟨(some 28), (.callv (.tmp 18) [(.tmp 22), (.tmp 27)]), none⟩] [[], [], [], [1, 2], [3], [], [], [6], [5, 7], [8], [0, 4, 9]])
  (.cond (.tmp 28) (.seq (.region 0 [
    ⟨(some 29), (.mov (.tmp 0)), none⟩,
    ⟨(some 30), (.mov (.tmp 5)), none⟩,
    ⟨(some 31), (.slice 18 (.tmp 29) (some (.tmp 30)) none), none⟩,
    ⟨(some 6), (.mov (.tmp 31)), none⟩])
  (.seq (.seq (.region 0 [
    ⟨(some 7), (.mov (.const (.int .i64 1))), none⟩])
  (.block 2 (.loop (.seq (.seq (.region 0 [
    ⟨(some 32), (.mov (.tmp 7)), none⟩,
    ⟨(some 33), (.mov (.tmp 6)), none⟩,
    ⟨(some 34), (.lenL (.tmp 33)), none⟩,
    ⟨(some 35), (.binI .lss .i64 (.tmp 32) (.tmp 34)), none⟩])
  (.cond (.tmp 35) .skip (.exit 2)))
  (.seq (.block 3 (.seq (.dregion 0 [
    ⟨(some 38), (.mov (.tmp 1)), none⟩,
    ⟨(some 39), (.mov (.tmp 6)), none⟩,
    ⟨(some 40), (.mov (.tmp 7)), none⟩,
    ⟨(some 41), (.iaddr 18 (.tmp 39) (.tmp 40)), none⟩,
    ⟨(some 42), (.load true 18 (.tmp 41)), none⟩,
    ⟨(some 43), (.mov (.tmp 6)), none⟩,
    ⟨(some 44), (.mov (.tmp 7)), none⟩,
    ⟨(some 45), (.binI .sub .i64 (.tmp 44) (.const (.int .i64 1))), none⟩,
    ⟨(some 46), (.iaddr 18 (.tmp 43) (.tmp 45)), none⟩,
    ⟨(some 47), (.load true 18 (.tmp 46)), none⟩,
    ⟨(some 48), (.callv (.tmp 38) [(.tmp 42), (.tmp 47)]), none⟩,
    ⟨(some 49), (.not (.tmp 48)), none⟩] [[], [], [], [1, 2], [3], [], [], [6], [5, 7], [8], [0, 4, 9], [10]])
  (.cond (.tmp 49) (.seq (.region 0 [
    ⟨(some 50), (.mov (.tmp 0)), none⟩,
    ⟨(some 51), (.mov (.tmp 5)), none⟩,
    ⟨(some 52), (.mov (.tmp 6)), none⟩,
    ⟨(some 53), (.mov (.tmp 7)), none⟩,
    ⟨(some 54), (.iaddr 18 (.tmp 52) (.tmp 53)), none⟩,
    ⟨(some 55), (.load true 18 (.tmp 54)), none⟩,
    ⟨(some 56), (.iaddr 18 (.tmp 50) (.tmp 51)), none⟩,
    ⟨none, (.store 18 (.tmp 56) (.tmp 55)), none⟩])
  (.region 0 [
    ⟨(some 57), (.mov (.tmp 5)), none⟩,
    ⟨(some 58), (.binI .add .i64 (.tmp 57) (.const (.int .i64 1))), none⟩,
    ⟨(some 5), (.mov (.tmp 58)), none⟩])) .skip)))
  (.region 0 [
    ⟨(some 36), (.mov (.tmp 7)), none⟩,
    ⟨(some 37), (.binI .add .i64 (.tmp 36) (.const (.int .i64 1))), none⟩,
    ⟨(some 7), (.mov (.tmp 37)), none⟩]))))))
  (.seq (.region 0 [
    ⟨(some 59), (.mov (.tmp 0)), none⟩,
    ⟨(some 60), (.mov (.tmp 5)), none⟩,
    ⟨(some 61), (.slice 18 (.tmp 59) (some (.tmp 60)) none), none⟩,
    ⟨none, (.clr 18 [(.v (.string ⟨#[]⟩)), (.v (.int .i64 0)), (.v (.int .i64 0)), (.v (.int .i64 0)), (.v (.slice none 0 0)), (.v (.int .i64 0)), (.v (.string ⟨#[]⟩)), (.v (.int .i64 0)), (.v (.string ⟨#[]⟩)), (.v (.int .i64 0)), (.v (.bool false)), (.v (.string ⟨#[]⟩)), (.v (.string ⟨#[]⟩)), (.v (.string ⟨#[]⟩)), (.v (.string ⟨#[]⟩)), (.v (.string ⟨#[]⟩)), (.v (.int .i64 0)), (.v (.string ⟨#[]⟩))] (.tmp 61)), none⟩])
  (.seq (.region 0 [
    ⟨(some 62), (.mov (.tmp 0)), none⟩,
    ⟨(some 63), (.mov (.tmp 5)), none⟩,
    ⟨(some 64), (.slice 18 (.tmp 62) none (some (.tmp 63))), none⟩,
    ⟨(some 4), (.mov (.tmp 64)), none⟩])
  .ret)))) .skip)))
  (.region 0 [
    ⟨(some 16), (.mov (.tmp 5)), none⟩,
    ⟨(some 17), (.binI .add .i64 (.tmp 16) (.const (.int .i64 1))), none⟩,
    ⟨(some 5), (.mov (.tmp 17)), none⟩]))))))
def b45_3 : AC := (.region 0 [
    ⟨(some 65), (.mov (.tmp 0)), none⟩,
    ⟨(some 4), (.mov (.tmp 65)), none⟩])
def b45_4 : AC := .ret
/-- slices.CompactFunc[[]voussoir/api.Edit,voussoir/api.Edit] -/
def b45 : AC := (.seq b45_0 (.seq b45_1 (.seq b45_2 (.seq b45_3 b45_4))))
def ir45 : AF := ⟨66, [(.tmp 4)], b45⟩
theorem c45 : compF tt Tryz.f101 = some ir45 := by kernel_rfl
/-- voussoir/oplog.Sort$1 -/
def b46 : AC := (.seq (.region 2 [
    ⟨(some 2), (.box 0 (.tmp 0)), none⟩,
    ⟨(some 3), (.box 1 (.tmp 1)), none⟩,
    ⟨(some 4), (.mov (.const (.bool false))), none⟩])
  (.seq (.region 0 [
    ⟨(some 5), (.load true 18 (.tmp 2)), none⟩,
    ⟨(some 6), (.load true 18 (.tmp 3)), none⟩,
    ⟨(some 7), (.call 100 [(.tmp 5), (.tmp 6)]), none⟩,
    ⟨(some 8), (.binI .eql .i64 (.tmp 7) (.const (.int .i64 0))), none⟩,
    ⟨(some 4), (.mov (.tmp 8)), none⟩])
  .ret))
def ir46 : AF := ⟨9, [(.tmp 4)], b46⟩
theorem c46 : compF tt Tryz.f102 = some ir46 := by kernel_rfl
/-- voussoir/evict.part$1 -/
def b604 : AC := (.seq (.region 0 [
    ⟨(some 3), (.mov (.const (.bool false))), none⟩])
  (.seq (.region 0 [
    ⟨(some 4), (.load false 1 (.tmp 1)), none⟩,
    ⟨(some 5), (.mov (.tmp 0)), none⟩,
    ⟨(some 6), (.call 77 [(.tmp 4), (.tmp 5)]), none⟩,
    ⟨(some 7), (.not (.tmp 6)), none⟩,
    ⟨(some 3), (.mov (.tmp 7)), none⟩])
  .ret))
def ir604 : AF := ⟨8, [(.tmp 3)], b604⟩
theorem c604 : compF tt Tryz.f104 = some ir604 := by kernel_rfl
/-- slices.DeleteFunc[[]voussoir/evict.vote,voussoir/evict.vote] -/
def b605 : AC := (.seq (.region 0 [
    ⟨(some 4), (.mov (.const (.slice none 0 0))), none⟩])
  (.seq (.region 0 [
    ⟨(some 8), (.mov (.tmp 0)), none⟩,
    ⟨(some 9), (.mov (.tmp 1)), none⟩,
    ⟨(some 10), (.call 108 [(.tmp 8), (.tmp 9)]), none⟩,
    ⟨(some 5), (.mov (.tmp 10)), none⟩])
  (.seq (.seq (.region 0 [
    ⟨(some 11), (.mov (.tmp 5)), none⟩,
    ⟨(some 12), (.binI .eql .i64 (.tmp 11) (.const (.int .i64 (-1)))), none⟩])
  (.cond (.tmp 12) (.seq (.region 0 [
    ⟨(some 13), (.mov (.tmp 0)), none⟩,
    ⟨(some 4), (.mov (.tmp 13)), none⟩])
  .ret) .skip))
  (.seq (.seq (.region 0 [
    ⟨(some 14), (.mov (.tmp 5)), none⟩,
    ⟨(some 15), (.binI .add .i64 (.tmp 14) (.const (.int .i64 1))), none⟩,
    ⟨(some 6), (.mov (.tmp 15)), none⟩])
  (.block 0 (.loop (.seq (.seq (.region 0 [
    ⟨(some 16), (.mov (.tmp 6)), none⟩,
    ⟨(some 17), (.mov (.tmp 0)), none⟩,
    ⟨(some 18), (.lenL (.tmp 17)), none⟩,
    ⟨(some 19), (.binI .lss .i64 (.tmp 16) (.tmp 18)), none⟩])
  (.cond (.tmp 19) .skip (.exit 0)))
  (.seq (.block 1 (.seq (.region 1 [
    ⟨(some 22), (.mov (.tmp 0)), none⟩,
    ⟨(some 23), (.mov (.tmp 6)), none⟩,
    ⟨(some 24), (.iaddr 19 (.tmp 22) (.tmp 23)), none⟩,
    ⟨(some 25), (.load true 19 (.tmp 24)), none⟩,
    ⟨(some 7), (.zero 0 [(.v (.string ⟨#[]⟩)), (.v (.int .i64 0)), (.v (.int .i64 0)), (.v (.int .i64 0)), (.v (.slice none 0 0)), (.v (.int .i64 0)), (.v (.string ⟨#[]⟩)), (.v (.int .i64 0)), (.v (.string ⟨#[]⟩)), (.v (.int .i64 0)), (.v (.bool false)), (.v (.string ⟨#[]⟩)), (.v (.string ⟨#[]⟩)), (.v (.string ⟨#[]⟩)), (.v (.string ⟨#[]⟩)), (.v (.string ⟨#[]⟩)), (.v (.int .i64 0)), (.v (.string ⟨#[]⟩)), (.v (.slice none 0 0))]), none⟩,
    ⟨none, (.store 19 (.tmp 7) (.tmp 25)), none⟩])
  (.seq (.region 0 [
    ⟨(some 26), (.mov (.tmp 1)), none⟩,
    ⟨(some 27), (.load true 19 (.tmp 7)), none⟩,
    ⟨(some 28), (.callv (.tmp 26) [(.tmp 27)]), none⟩,
    ⟨(some 29), (.not (.tmp 28)), none⟩])
  (.cond (.tmp 29) (.seq (.region 0 [
    ⟨(some 30), (.mov (.tmp 0)), none⟩,
    ⟨(some 31), (.mov (.tmp 5)), none⟩,
    ⟨(some 32), (.load true 19 (.tmp 7)), none⟩,
    ⟨(some 33), (.iaddr 19 (.tmp 30) (.tmp 31)), none⟩,
    ⟨none, (.store 19 (.tmp 33) (.tmp 32)), none⟩])
  (.region 0 [
    ⟨(some 34), (.mov (.tmp 5)), none⟩,
    ⟨(some 35), (.binI .add .i64 (.tmp 34) (.const (.int .i64 1))), none⟩,
    ⟨(some 5), (.mov (.tmp 35)), none⟩])) .skip))))
  (.region 0 [
    ⟨(some 20), (.mov (.tmp 6)), none⟩,
    ⟨(some 21), (.binI .add .i64 (.tmp 20) (.const (.int .i64 1))), none⟩,
    ⟨(some 6), (.mov (.tmp 21)), none⟩]))))))
  (.seq (.region 0 [
    ⟨(some 36), (.mov (.tmp 0)), none⟩,
    ⟨(some 37), (.mov (.tmp 5)), none⟩,
    ⟨(some 38), (.slice 19 (.tmp 36) (some (.tmp 37)) none), none⟩,
    ⟨none, (.clr 19 [(.v (.string ⟨#[]⟩)), (.v (.int .i64 0)), (.v (.int .i64 0)), (.v (.int .i64 0)), (.v (.slice none 0 0)), (.v (.int .i64 0)), (.v (.string ⟨#[]⟩)), (.v (.int .i64 0)), (.v (.string ⟨#[]⟩)), (.v (.int .i64 0)), (.v (.bool false)), (.v (.string ⟨#[]⟩)), (.v (.string ⟨#[]⟩)), (.v (.string ⟨#[]⟩)), (.v (.string ⟨#[]⟩)), (.v (.string ⟨#[]⟩)), (.v (.int .i64 0)), (.v (.string ⟨#[]⟩)), (.v (.slice none 0 0))] (.tmp 38)), none⟩])
  (.seq (.region 0 [
    ⟨(some 39), (.mov (.tmp 0)), none⟩,
    ⟨(some 40), (.mov (.tmp 5)), none⟩,
    ⟨(some 41), (.slice 19 (.tmp 39) none (some (.tmp 40))), none⟩,
    ⟨(some 4), (.mov (.tmp 41)), none⟩])
  .ret))))))
def ir605 : AF := ⟨42, [(.tmp 4)], b605⟩
theorem c605 : compF tt Tryz.f105 = some ir605 := by kernel_rfl
/-- slices.Clone[[]voussoir/evict.vote,voussoir/evict.vote] -/
def b606 : AC := (.seq (.region 0 [
    ⟨(some 2), (.mov (.const (.slice none 0 0))), none⟩])
  (.seq (.seq (.region 0 [
    ⟨(some 3), (.mov (.tmp 0)), none⟩,
    ⟨(some 4), (.eqN false .sl (.tmp 3)), none⟩])
  (.cond (.tmp 4) (.seq (.region 0 [
    ⟨(some 2), (.mov (.const (.slice none 0 0))), none⟩])
  .ret) .skip))
  (.seq (.region 2 [
    ⟨(some 5), (.bsl 0 19 [(.v (.string ⟨#[]⟩)), (.v (.int .i64 0)), (.v (.int .i64 0)), (.v (.int .i64 0)), (.v (.slice none 0 0)), (.v (.int .i64 0)), (.v (.string ⟨#[]⟩)), (.v (.int .i64 0)), (.v (.string ⟨#[]⟩)), (.v (.int .i64 0)), (.v (.bool false)), (.v (.string ⟨#[]⟩)), (.v (.string ⟨#[]⟩)), (.v (.string ⟨#[]⟩)), (.v (.string ⟨#[]⟩)), (.v (.string ⟨#[]⟩)), (.v (.int .i64 0)), (.v (.string ⟨#[]⟩)), (.v (.slice none 0 0))] 0 []), none⟩,
    ⟨(some 6), (.mov (.tmp 0)), none⟩,
    ⟨(some 7), (.app 1 19 256 (.tmp 5) (.tmp 6)), none⟩,
    ⟨(some 2), (.mov (.tmp 7)), none⟩])
  .ret)))
def ir606 : AF := ⟨8, [(.tmp 2)], b606⟩
theorem c606 : compF tt Tryz.f106 = some ir606 := by kernel_rfl
/-- (*voussoir/evict.council).of$1 -/
def b607 : AC := (.seq (.region 1 [
    ⟨(some 2), (.box 0 (.tmp 0)), none⟩,
    ⟨(some 3), (.mov (.const (.bool false))), none⟩])
  (.seq (.region 0 [
    ⟨(some 4), (.faddr 18 (.tmp 2)), none⟩,
    ⟨(some 5), (.load false 1 (.tmp 4)), none⟩,
    ⟨(some 6), (.load false 1 (.tmp 1)), none⟩,
    ⟨(some 7), (.call 69 [(.tmp 5), (.tmp 6)]), none⟩,
    ⟨(some 8), (.not (.tmp 7)), none⟩,
    ⟨(some 3), (.mov (.tmp 8)), none⟩])
  .ret))
def ir607 : AF := ⟨9, [(.tmp 3)], b607⟩
theorem c607 : compF tt Tryz.f107 = some ir607 := by kernel_rfl
/-- slices.IndexFunc[[]voussoir/evict.vote,voussoir/evict.vote] -/
def b608 : AC := (.seq (.region 0 [
    ⟨(some 4), (.mov (.const (.int .i64 0))), none⟩])
  (.seq (.seq (.region 0 [
    ⟨(some 6), (.mov (.tmp 0)), none⟩,
    ⟨(some 7), (.lenL (.tmp 6)), none⟩,
    ⟨(some 8), (.mov (.const (.int .i64 0))), none⟩])
  (.block 0 (.loop (.seq (.region 0 [
    ⟨(some 9), (.binI .lss .i64 (.tmp 8) (.tmp 7)), none⟩])
  (.seq (.cond (.tmp 9) .skip (.exit 0))
  (.seq (.block 1 (.seq (.region 0 [
    ⟨(some 10), (.mov (.tmp 8)), none⟩,
    ⟨(some 5), (.mov (.tmp 10)), none⟩])
  (.seq (.region 0 [
    ⟨(some 11), (.mov (.tmp 1)), none⟩,
    ⟨(some 12), (.mov (.tmp 0)), none⟩,
    ⟨(some 13), (.mov (.tmp 5)), none⟩,
    ⟨(some 14), (.iaddr 19 (.tmp 12) (.tmp 13)), none⟩,
    ⟨(some 15), (.load true 19 (.tmp 14)), none⟩,
    ⟨(some 16), (.callv (.tmp 11) [(.tmp 15)]), none⟩])
  (.cond (.tmp 16) (.seq (.region 0 [
    ⟨(some 17), (.mov (.tmp 5)), none⟩,
    ⟨(some 4), (.mov (.tmp 17)), none⟩])
  .ret) .skip))))
  (.region 0 [
    ⟨(some 18), (.binI .add .i64 (.tmp 8) (.const (.int .i64 1))), none⟩,
    ⟨(some 8), (.mov (.tmp 18)), none⟩])))))))
  (.seq (.region 0 [
    ⟨(some 4), (.mov (.const (.int .i64 (-1)))), none⟩])
  .ret)))
def ir608 : AF := ⟨19, [(.tmp 4)], b608⟩
theorem c608 : compF tt Tryz.f108 = some ir608 := by kernel_rfl
/-- slices.IndexFunc[[]string,string] -/
def b609 : AC := (.seq (.region 0 [
    ⟨(some 4), (.mov (.const (.int .i64 0))), none⟩])
  (.seq (.seq (.region 0 [
    ⟨(some 6), (.mov (.tmp 0)), none⟩,
    ⟨(some 7), (.lenL (.tmp 6)), none⟩,
    ⟨(some 8), (.mov (.const (.int .i64 0))), none⟩])
  (.block 0 (.loop (.seq (.region 0 [
    ⟨(some 9), (.binI .lss .i64 (.tmp 8) (.tmp 7)), none⟩])
  (.seq (.cond (.tmp 9) .skip (.exit 0))
  (.seq (.block 1 (.seq (.region 0 [
    ⟨(some 10), (.mov (.tmp 8)), none⟩,
    ⟨(some 5), (.mov (.tmp 10)), none⟩])
  (.seq (.region 0 [
    ⟨(some 11), (.mov (.tmp 1)), none⟩,
    ⟨(some 12), (.mov (.tmp 0)), none⟩,
    ⟨(some 13), (.mov (.tmp 5)), none⟩,
    ⟨(some 14), (.iaddr 1 (.tmp 12) (.tmp 13)), none⟩,
    ⟨(some 15), (.load false 1 (.tmp 14)), none⟩,
    ⟨(some 16), (.callv (.tmp 11) [(.tmp 15)]), none⟩])
  (.cond (.tmp 16) (.seq (.region 0 [
    ⟨(some 17), (.mov (.tmp 5)), none⟩,
    ⟨(some 4), (.mov (.tmp 17)), none⟩])
  .ret) .skip))))
  (.region 0 [
    ⟨(some 18), (.binI .add .i64 (.tmp 8) (.const (.int .i64 1))), none⟩,
    ⟨(some 8), (.mov (.tmp 18)), none⟩])))))))
  (.seq (.region 0 [
    ⟨(some 4), (.mov (.const (.int .i64 (-1)))), none⟩])
  .ret)))
def ir609 : AF := ⟨19, [(.tmp 4)], b609⟩
theorem c609 : compF tt Tryz.f109 = some ir609 := by kernel_rfl
/-- slices.DeleteFunc[[]string,string] -/
def b610 : AC := (.seq (.region 0 [
    ⟨(some 4), (.mov (.const (.slice none 0 0))), none⟩])
  (.seq (.region 0 [
    ⟨(some 8), (.mov (.tmp 0)), none⟩,
    ⟨(some 9), (.mov (.tmp 1)), none⟩,
    ⟨(some 10), (.call 109 [(.tmp 8), (.tmp 9)]), none⟩,
    ⟨(some 5), (.mov (.tmp 10)), none⟩])
  (.seq (.seq (.region 0 [
    ⟨(some 11), (.mov (.tmp 5)), none⟩,
    ⟨(some 12), (.binI .eql .i64 (.tmp 11) (.const (.int .i64 (-1)))), none⟩])
  (.cond (.tmp 12) (.seq (.region 0 [
    ⟨(some 13), (.mov (.tmp 0)), none⟩,
    ⟨(some 4), (.mov (.tmp 13)), none⟩])
  .ret) .skip))
  (.seq (.seq (.region 0 [
    ⟨(some 14), (.mov (.tmp 5)), none⟩,
    ⟨(some 15), (.binI .add .i64 (.tmp 14) (.const (.int .i64 1))), none⟩,
    ⟨(some 6), (.mov (.tmp 15)), none⟩])
  (.block 0 (.loop (.seq (.seq (.region 0 [
    ⟨(some 16), (.mov (.tmp 6)), none⟩,
    ⟨(some 17), (.mov (.tmp 0)), none⟩,
    ⟨(some 18), (.lenL (.tmp 17)), none⟩,
    ⟨(some 19), (.binI .lss .i64 (.tmp 16) (.tmp 18)), none⟩])
  (.cond (.tmp 19) .skip (.exit 0)))
  (.seq (.block 1 (.seq (.region 0 [
    ⟨(some 22), (.mov (.tmp 0)), none⟩,
    ⟨(some 23), (.mov (.tmp 6)), none⟩,
    ⟨(some 24), (.iaddr 1 (.tmp 22) (.tmp 23)), none⟩,
    ⟨(some 25), (.load false 1 (.tmp 24)), none⟩,
    ⟨(some 7), (.mov (.tmp 25)), none⟩])
  (.seq (.region 0 [
    ⟨(some 26), (.mov (.tmp 1)), none⟩,
    ⟨(some 27), (.mov (.tmp 7)), none⟩,
    ⟨(some 28), (.callv (.tmp 26) [(.tmp 27)]), none⟩,
    ⟨(some 29), (.not (.tmp 28)), none⟩])
  (.cond (.tmp 29) (.seq (.region 0 [
    ⟨(some 30), (.mov (.tmp 0)), none⟩,
    ⟨(some 31), (.mov (.tmp 5)), none⟩,
    ⟨(some 32), (.mov (.tmp 7)), none⟩,
    ⟨(some 33), (.iaddr 1 (.tmp 30) (.tmp 31)), none⟩,
    ⟨none, (.store 1 (.tmp 33) (.tmp 32)), none⟩])
  (.region 0 [
    ⟨(some 34), (.mov (.tmp 5)), none⟩,
    ⟨(some 35), (.binI .add .i64 (.tmp 34) (.const (.int .i64 1))), none⟩,
    ⟨(some 5), (.mov (.tmp 35)), none⟩])) .skip))))
  (.region 0 [
    ⟨(some 20), (.mov (.tmp 6)), none⟩,
    ⟨(some 21), (.binI .add .i64 (.tmp 20) (.const (.int .i64 1))), none⟩,
    ⟨(some 6), (.mov (.tmp 21)), none⟩]))))))
  (.seq (.region 0 [
    ⟨(some 36), (.mov (.tmp 0)), none⟩,
    ⟨(some 37), (.mov (.tmp 5)), none⟩,
    ⟨(some 38), (.slice 1 (.tmp 36) (some (.tmp 37)) none), none⟩,
    ⟨none, (.clr 1 [(.v (.string ⟨#[]⟩))] (.tmp 38)), none⟩])
  (.seq (.region 0 [
    ⟨(some 39), (.mov (.tmp 0)), none⟩,
    ⟨(some 40), (.mov (.tmp 5)), none⟩,
    ⟨(some 41), (.slice 1 (.tmp 39) none (some (.tmp 40))), none⟩,
    ⟨(some 4), (.mov (.tmp 41)), none⟩])
  .ret))))))
def ir610 : AF := ⟨42, [(.tmp 4)], b610⟩
theorem c610 : compF tt Tryz.f110 = some ir610 := by kernel_rfl
/-- slices.Clone[[]string,string] -/
def b611 : AC := (.seq (.region 0 [
    ⟨(some 2), (.mov (.const (.slice none 0 0))), none⟩])
  (.seq (.seq (.region 0 [
    ⟨(some 3), (.mov (.tmp 0)), none⟩,
    ⟨(some 4), (.eqN false .sl (.tmp 3)), none⟩])
  (.cond (.tmp 4) (.seq (.region 0 [
    ⟨(some 2), (.mov (.const (.slice none 0 0))), none⟩])
  .ret) .skip))
  (.seq (.region 2 [
    ⟨(some 5), (.bsl 0 1 [(.v (.string ⟨#[]⟩))] 0 []), none⟩,
    ⟨(some 6), (.mov (.tmp 0)), none⟩,
    ⟨(some 7), (.app 1 1 16 (.tmp 5) (.tmp 6)), none⟩,
    ⟨(some 2), (.mov (.tmp 7)), none⟩])
  .ret)))
def ir611 : AF := ⟨8, [(.tmp 2)], b611⟩
theorem c611 : compF tt Tryz.f111 = some ir611 := by kernel_rfl
/-- (*voussoir/evict.council).stay$1 -/
def b612 : AC := (.seq (.region 0 [
    ⟨(some 3), (.mov (.const (.bool false))), none⟩])
  (.seq (.region 0 [
    ⟨(some 4), (.load false 1 (.tmp 1)), none⟩,
    ⟨(some 5), (.mov (.tmp 0)), none⟩,
    ⟨(some 6), (.call 77 [(.tmp 4), (.tmp 5)]), none⟩,
    ⟨(some 3), (.mov (.tmp 6)), none⟩])
  .ret))
def ir612 : AF := ⟨7, [(.tmp 3)], b612⟩
theorem c612 : compF tt Tryz.f112 = some ir612 := by kernel_rfl
/-- slices.IndexFunc[[][]string,[]string] -/
def b613 : AC := (.seq (.region 0 [
    ⟨(some 4), (.mov (.const (.int .i64 0))), none⟩])
  (.seq (.seq (.region 0 [
    ⟨(some 6), (.mov (.tmp 0)), none⟩,
    ⟨(some 7), (.lenL (.tmp 6)), none⟩,
    ⟨(some 8), (.mov (.const (.int .i64 0))), none⟩])
  (.block 0 (.loop (.seq (.region 0 [
    ⟨(some 9), (.binI .lss .i64 (.tmp 8) (.tmp 7)), none⟩])
  (.seq (.cond (.tmp 9) .skip (.exit 0))
  (.seq (.block 1 (.seq (.region 0 [
    ⟨(some 10), (.mov (.tmp 8)), none⟩,
    ⟨(some 5), (.mov (.tmp 10)), none⟩])
  (.seq (.region 0 [
    ⟨(some 11), (.mov (.tmp 1)), none⟩,
    ⟨(some 12), (.mov (.tmp 0)), none⟩,
    ⟨(some 13), (.mov (.tmp 5)), none⟩,
    ⟨(some 14), (.iaddr 1 (.tmp 12) (.tmp 13)), none⟩,
    ⟨(some 15), (.load false 1 (.tmp 14)), none⟩,
    ⟨(some 16), (.callv (.tmp 11) [(.tmp 15)]), none⟩])
  (.cond (.tmp 16) (.seq (.region 0 [
    ⟨(some 17), (.mov (.tmp 5)), none⟩,
    ⟨(some 4), (.mov (.tmp 17)), none⟩])
  .ret) .skip))))
  (.region 0 [
    ⟨(some 18), (.binI .add .i64 (.tmp 8) (.const (.int .i64 1))), none⟩,
    ⟨(some 8), (.mov (.tmp 18)), none⟩])))))))
  (.seq (.region 0 [
    ⟨(some 4), (.mov (.const (.int .i64 (-1)))), none⟩])
  .ret)))
def ir613 : AF := ⟨19, [(.tmp 4)], b613⟩
theorem c613 : compF tt Tryz.f113 = some ir613 := by kernel_rfl
def b614_0 : AC := (.region 0 [
    ⟨(some 10), (.mov (.const (.bool true))), none⟩])
def b614_1 : AC := (.region 0 [
    ⟨(some 11), (.mov (.const (.bool true))), none⟩])
def b614_2 : AC := (.block 0 (.loop (.block 1 (.seq (.region 0 [
    ⟨(some 21), (.mov (.tmp 2)), none⟩,
    ⟨(some 22), (.mov (.tmp 1)), none⟩,
    ⟨(some 23), (.binI .sub .i64 (.tmp 21) (.tmp 22)), none⟩,
    ⟨(some 12), (.mov (.tmp 23)), none⟩])
  (.seq (.seq (.region 0 [
    ⟨(some 24), (.mov (.tmp 12)), none⟩,
    ⟨(some 25), (.binI .leq .i64 (.tmp 24) (.const (.int .i64 12))), none⟩])
  (.cond (.tmp 25) (.seq (.region 0 [
    ⟨(some 26), (.mov (.tmp 0)), none⟩,
    ⟨(some 27), (.mov (.tmp 1)), none⟩,
    ⟨(some 28), (.mov (.tmp 2)), none⟩,
    ⟨(some 29), (.mov (.tmp 4)), none⟩,
    ⟨(some 30), (.call 136 [(.tmp 26), (.tmp 27), (.tmp 28), (.tmp 29)]), none⟩])
  .ret) .skip))
  (.seq (.seq (.region 0 [
    ⟨(some 31), (.mov (.tmp 3)), none⟩,
    ⟨(some 32), (.binI .eql .i64 (.tmp 31) (.const (.int .i64 0))), none⟩])
  (.cond (.tmp 32) (.seq (.region 0 [
    ⟨(some 33), (.mov (.tmp 0)), none⟩,
    ⟨(some 34), (.mov (.tmp 1)), none⟩,
    ⟨(some 35), (.mov (.tmp 2)), none⟩,
    ⟨(some 36), (.mov (.tmp 4)), none⟩,
    ⟨(some 37), (.call 137 [(.tmp 33), (.tmp 34), (.tmp 35), (.tmp 36)]), none⟩])
  .ret) .skip))
  (.seq (.seq (.region 0 [
    ⟨(some 38), (.mov (.tmp 10)), none⟩,
    ⟨(some 39), (.not (.tmp 38)), none⟩])
  (.cond (.tmp 39) (.seq (.region 0 [
    ⟨(some 40), (.mov (.tmp 0)), none⟩,
    ⟨(some 41), (.mov (.tmp 1)), none⟩,
    ⟨(some 42), (.mov (.tmp 2)), none⟩,
    ⟨(some 43), (.mov (.tmp 4)), none⟩,
    ⟨(some 44), (.call 138 [(.tmp 40), (.tmp 41), (.tmp 42), (.tmp 43)]), none⟩])
  (.region 0 [
    ⟨(some 45), (.mov (.tmp 3)), none⟩,
    ⟨(some 46), (.binI .sub .i64 (.tmp 45) (.const (.int .i64 1))), none⟩,
    ⟨(some 3), (.mov (.tmp 46)), none⟩])) .skip))
  (.seq (.region 0 [
    ⟨(some 48), (.mov (.tmp 0)), none⟩,
    ⟨(some 49), (.mov (.tmp 1)), none⟩,
    ⟨(some 50), (.mov (.tmp 2)), none⟩,
    ⟨(some 51), (.mov (.tmp 4)), none⟩,
    ⟨(some 52), (.call 139 [(.tmp 48), (.tmp 49), (.tmp 50), (.tmp 51)]), none⟩,
    ⟨(some 47), (.mov (.tmp 52)), none⟩,
    ⟨(some 53), (.ext (.tmp 47) 0), none⟩,
    ⟨(some 54), (.ext (.tmp 47) 1), none⟩,
    ⟨(some 13), (.mov (.tmp 53)), none⟩,
    ⟨(some 14), (.mov (.tmp 54)), none⟩])
  (.seq (.seq (.region 0 [
    ⟨(some 55), (.mov (.tmp 14)), none⟩,
    ⟨(some 56), (.binI .eql .i64 (.tmp 55) (.const (.int .i64 2))), none⟩])
  (.cond (.tmp 56) (.seq (.region 0 [
    ⟨(some 57), (.mov (.tmp 0)), none⟩,
    ⟨(some 58), (.mov (.tmp 1)), none⟩,
    ⟨(some 59), (.mov (.tmp 2)), none⟩,
    ⟨(some 60), (.mov (.tmp 4)), none⟩,
    ⟨(some 61), (.call 140 [(.tmp 57), (.tmp 58), (.tmp 59), (.tmp 60)]), none⟩])
  (.seq (.region 0 [
    ⟨(some 62), (.mov (.tmp 2)), none⟩,
    ⟨(some 63), (.binI .sub .i64 (.tmp 62) (.const (.int .i64 1))), none⟩,
    ⟨(some 64), (.mov (.tmp 13)), none⟩,
    ⟨(some 65), (.mov (.tmp 1)), none⟩,
    ⟨(some 66), (.binI .sub .i64 (.tmp 64) (.tmp 65)), none⟩,
    ⟨(some 67), (.binI .sub .i64 (.tmp 63) (.tmp 66)), none⟩,
    ⟨(some 13), (.mov (.tmp 67)), none⟩])
  (.region 0 [
    ⟨(some 14), (.mov (.const (.int .i64 1))), none⟩]))) .skip))
  (.seq (.seq (.region 0 [
    ⟨(some 68), (.mov (.tmp 10)), none⟩,
    ⟨(some 69), (.mov (.tmp 68)), none⟩,
    ⟨(some 70), (.mov (.tmp 11)), (some (69, true))⟩,
    ⟨(some 71), (.pick (.tmp 69) (.tmp 70) (.const (.bool false))), none⟩,
    ⟨(some 72), (.mov (.tmp 71)), none⟩,
    ⟨(some 73), (.mov (.tmp 14)), (some (72, true))⟩,
    ⟨(some 74), (.binI .eql .i64 (.tmp 73) (.const (.int .i64 1))), (some (72, true))⟩,
    ⟨(some 75), (.pick (.tmp 72) (.tmp 74) (.const (.bool false))), none⟩])
  (.cond (.tmp 75) (.seq (.region 0 [
    ⟨(some 76), (.mov (.tmp 0)), none⟩,
    ⟨(some 77), (.mov (.tmp 1)), none⟩,
    ⟨(some 78), (.mov (.tmp 2)), none⟩,
    ⟨(some 79), (.mov (.tmp 4)), none⟩,
    ⟨(some 80), (.call 141 [(.tmp 76), (.tmp 77), (.tmp 78), (.tmp 79)]), none⟩])
  (.cond (.tmp 80) .ret .skip)) .skip))
  (.seq (.seq (.dregion 0 [
    ⟨(some 81), (.mov (.tmp 1)), none⟩,
    ⟨(some 82), (.binI .gtr .i64 (.tmp 81) (.const (.int .i64 0))), none⟩,
    ⟨(some 83), (.mov (.tmp 82)), none⟩,
    ⟨(some 84), (.mov (.tmp 4)), (some (83, true))⟩,
    ⟨(some 85), (.mov (.tmp 0)), (some (83, true))⟩,
    ⟨(some 86), (.mov (.tmp 1)), (some (83, true))⟩,
    ⟨(some 87), (.binI .sub .i64 (.tmp 86) (.const (.int .i64 1))), (some (83, true))⟩,
    ⟨(some 88), (.iaddr 1 (.tmp 85) (.tmp 87)), (some (83, true))⟩,
    ⟨(some 89), (.load false 1 (.tmp 88)), (some (83, true))⟩,
    ⟨(some 90), (.mov (.tmp 0)), (some (83, true))⟩,
    ⟨(some 91), (.mov (.tmp 13)), (some (83, true))⟩,
    ⟨(some 92), (.iaddr 1 (.tmp 90) (.tmp 91)), (some (83, true))⟩,
    ⟨(some 93), (.load false 1 (.tmp 92)), (some (83, true))⟩,
    ⟨(some 94), (.callv (.tmp 84) [(.tmp 89), (.tmp 93)]), (some (83, true))⟩,
    ⟨(some 95), (.binI .lss .i64 (.tmp 94) (.const (.int .i64 0))), (some (83, true))⟩,
    ⟨(some 96), (.not (.tmp 95)), (some (83, true))⟩,
    ⟨(some 97), (.pick (.tmp 83) (.tmp 96) (.const (.bool false))), none⟩] [[], [0], [1], [2], [2], [2], [5, 2], [4, 6, 2], [7, 2], [2], [2], [9, 10, 2], [11, 2], [3, 8, 12, 2, 2], [13, 2], [14, 2], [2, 15]])
  (.cond (.tmp 97) (.seq (.region 0 [
    ⟨(some 98), (.mov (.tmp 0)), none⟩,
    ⟨(some 99), (.mov (.tmp 1)), none⟩,
    ⟨(some 100), (.mov (.tmp 2)), none⟩,
    ⟨(some 101), (.mov (.tmp 13)), none⟩,
    ⟨(some 102), (.mov (.tmp 4)), none⟩,
    ⟨(some 103), (.call 142 [(.tmp 98), (.tmp 99), (.tmp 100), (.tmp 101), (.tmp 102)]), none⟩,
    ⟨(some 15), (.mov (.tmp 103)), none⟩])
  (.seq (.region 0 [
    ⟨(some 104), (.mov (.tmp 15)), none⟩,
    ⟨(some 1), (.mov (.tmp 104)), none⟩])
  (.exit 1))) .skip))
  (.seq (.region 0 [
    ⟨(some 106), (.mov (.tmp 0)), none⟩,
    ⟨(some 107), (.mov (.tmp 1)), none⟩,
    ⟨(some 108), (.mov (.tmp 2)), none⟩,
    ⟨(some 109), (.mov (.tmp 13)), none⟩,
    ⟨(some 110), (.mov (.tmp 4)), none⟩,
    ⟨(some 111), (.call 143 [(.tmp 106), (.tmp 107), (.tmp 108), (.tmp 109), (.tmp 110)]), none⟩,
    ⟨(some 105), (.mov (.tmp 111)), none⟩,
    ⟨(some 112), (.ext (.tmp 105) 0), none⟩,
    ⟨(some 113), (.ext (.tmp 105) 1), none⟩,
    ⟨(some 16), (.mov (.tmp 112)), none⟩,
    ⟨(some 17), (.mov (.tmp 113)), none⟩])
  (.seq (.region 0 [
    ⟨(some 114), (.mov (.tmp 17)), none⟩,
    ⟨(some 11), (.mov (.tmp 114)), none⟩])
  (.seq (.region 0 [
    ⟨(some 115), (.mov (.tmp 16)), none⟩,
    ⟨(some 116), (.mov (.tmp 1)), none⟩,
    ⟨(some 117), (.binI .sub .i64 (.tmp 115) (.tmp 116)), none⟩,
    ⟨(some 118), (.mov (.tmp 2)), none⟩,
    ⟨(some 119), (.mov (.tmp 16)), none⟩,
    ⟨(some 120), (.binI .sub .i64 (.tmp 118) (.tmp 119)), none⟩,
    ⟨(some 18), (.mov (.tmp 117)), none⟩,
    ⟨(some 19), (.mov (.tmp 120)), none⟩])
  (.seq (.region 0 [
    ⟨(some 121), (.mov (.tmp 12)), none⟩,
    ⟨(some 122), (.binI .quo .i64 (.tmp 121) (.const (.int .i64 8))), none⟩,
    ⟨(some 20), (.mov (.tmp 122)), none⟩])
  (.seq (.region 0 [
    ⟨(some 123), (.mov (.tmp 18)), none⟩,
    ⟨(some 124), (.mov (.tmp 19)), none⟩,
    ⟨(some 125), (.binI .lss .i64 (.tmp 123) (.tmp 124)), none⟩])
  (.cond (.tmp 125) (.seq (.region 0 [
    ⟨(some 126), (.mov (.tmp 18)), none⟩,
    ⟨(some 127), (.mov (.tmp 20)), none⟩,
    ⟨(some 128), (.binI .geq .i64 (.tmp 126) (.tmp 127)), none⟩,
    ⟨(some 10), (.mov (.tmp 128)), none⟩])
  (.seq (.region 0 [
    ⟨(some 129), (.mov (.tmp 0)), none⟩,
    ⟨(some 130), (.mov (.tmp 1)), none⟩,
    ⟨(some 131), (.mov (.tmp 16)), none⟩,
    ⟨(some 132), (.mov (.tmp 3)), none⟩,
    ⟨(some 133), (.mov (.tmp 4)), none⟩,
    ⟨(some 134), (.call 114 [(.tmp 129), (.tmp 130), (.tmp 131), (.tmp 132), (.tmp 133)]), none⟩])
  (.region 0 [
    ⟨(some 135), (.mov (.tmp 16)), none⟩,
    ⟨(some 136), (.binI .add .i64 (.tmp 135) (.const (.int .i64 1))), none⟩,
    ⟨(some 1), (.mov (.tmp 136)), none⟩]))) (.seq (.region 0 [
    ⟨(some 137), (.mov (.tmp 19)), none⟩,
    ⟨(some 138), (.mov (.tmp 20)), none⟩,
    ⟨(some 139), (.binI .geq .i64 (.tmp 137) (.tmp 138)), none⟩,
    ⟨(some 10), (.mov (.tmp 139)), none⟩])
  (.seq (.region 0 [
    ⟨(some 140), (.mov (.tmp 0)), none⟩,
    ⟨(some 141), (.mov (.tmp 16)), none⟩,
    ⟨(some 142), (.binI .add .i64 (.tmp 141) (.const (.int .i64 1))), none⟩,
    ⟨(some 143), (.mov (.tmp 2)), none⟩,
    ⟨(some 144), (.mov (.tmp 3)), none⟩,
    ⟨(some 145), (.mov (.tmp 4)), none⟩,
    ⟨(some 146), (.call 114 [(.tmp 140), (.tmp 142), (.tmp 143), (.tmp 144), (.tmp 145)]), none⟩])
  (.region 0 [
    ⟨(some 147), (.mov (.tmp 16)), none⟩,
    ⟨(some 2), (.mov (.tmp 147)), none⟩]))))))))))))))))))))
/-- slices.pdqsortCmpFunc[[]string] -/
def b614 : AC := (.seq b614_0 (.seq b614_1 b614_2))
def ir614 : AF := ⟨148, [], b614⟩
theorem c614 : compF tt Tryz.f114 = some ir614 := by kernel_rfl
/-- math/bits.Len -/
def b75 : AC := (.seq (.region 0 [
    ⟨(some 2), (.mov (.const (.int .i64 0))), none⟩])
  (.seq (.cond (.const (.bool false)) (.seq (.region 0 [
    ⟨(some 3), (.mov (.tmp 0)), none⟩,
    ⟨(some 4), (.conv .u32 (.tmp 3)), none⟩,
    ⟨(some 5), (.call 144 [(.tmp 4)]), none⟩,
    ⟨(some 2), (.mov (.tmp 5)), none⟩])
  .ret) .skip)
  (.seq (.region 0 [
    ⟨(some 6), (.mov (.tmp 0)), none⟩,
    ⟨(some 7), (.call 145 [(.tmp 6)]), none⟩,
    ⟨(some 2), (.mov (.tmp 7)), none⟩])
  .ret)))
def ir75 : AF := ⟨8, [(.tmp 2)], b75⟩
theorem c75 : compF tt Tryz.f115 = some ir75 := by kernel_rfl
/-- slices.IndexFunc[[]voussoir/api.Edit,voussoir/api.Edit] -/
def b60 : AC := (.seq (.region 0 [
    ⟨(some 4), (.mov (.const (.int .i64 0))), none⟩])
  (.seq (.seq (.region 0 [
    ⟨(some 6), (.mov (.tmp 0)), none⟩,
    ⟨(some 7), (.lenL (.tmp 6)), none⟩,
    ⟨(some 8), (.mov (.const (.int .i64 0))), none⟩])
  (.block 0 (.loop (.seq (.region 0 [
    ⟨(some 9), (.binI .lss .i64 (.tmp 8) (.tmp 7)), none⟩])
  (.seq (.cond (.tmp 9) .skip (.exit 0))
  (.seq (.block 1 (.seq (.region 0 [
    ⟨(some 10), (.mov (.tmp 8)), none⟩,
    ⟨(some 5), (.mov (.tmp 10)), none⟩])
  (.seq (.region 0 [
    ⟨(some 11), (.mov (.tmp 1)), none⟩,
    ⟨(some 12), (.mov (.tmp 0)), none⟩,
    ⟨(some 13), (.mov (.tmp 5)), none⟩,
    ⟨(some 14), (.iaddr 18 (.tmp 12) (.tmp 13)), none⟩,
    ⟨(some 15), (.load true 18 (.tmp 14)), none⟩,
    ⟨(some 16), (.callv (.tmp 11) [(.tmp 15)]), none⟩])
  (.cond (.tmp 16) (.seq (.region 0 [
    ⟨(some 17), (.mov (.tmp 5)), none⟩,
    ⟨(some 4), (.mov (.tmp 17)), none⟩])
  .ret) .skip))))
  (.region 0 [
    ⟨(some 18), (.binI .add .i64 (.tmp 8) (.const (.int .i64 1))), none⟩,
    ⟨(some 8), (.mov (.tmp 18)), none⟩])))))))
  (.seq (.region 0 [
    ⟨(some 4), (.mov (.const (.int .i64 (-1)))), none⟩])
  .ret)))
def ir60 : AF := ⟨19, [(.tmp 4)], b60⟩
theorem c60 : compF tt Tryz.f116 = some ir60 := by kernel_rfl
/-- voussoir/evict.knows$1 -/
def b617 : AC := (.seq (.region 1 [
    ⟨(some 2), (.box 0 (.tmp 0)), none⟩,
    ⟨(some 3), (.mov (.const (.bool false))), none⟩])
  (.seq (.region 0 [
    ⟨(some 4), (.faddr 4 (.tmp 1)), none⟩,
    ⟨(some 5), (.load false 1 (.tmp 4)), none⟩,
    ⟨(some 6), (.faddr 0 (.tmp 2)), none⟩,
    ⟨(some 7), (.faddr 0 (.tmp 6)), none⟩,
    ⟨(some 8), (.load true 2 (.tmp 7)), none⟩,
    ⟨(some 9), (.call 17 [(.tmp 5), (.tmp 8)]), none⟩,
    ⟨(some 10), (.not (.tmp 9)), none⟩,
    ⟨(some 3), (.mov (.tmp 10)), none⟩])
  .ret))
def ir617 : AF := ⟨11, [(.tmp 3)], b617⟩
theorem c617 : compF tt Tryz.f117 = some ir617 := by kernel_rfl
/-- slices.Index[[]string,string] -/
def b618 : AC := (.seq (.region 0 [
    ⟨(some 4), (.mov (.const (.int .i64 0))), none⟩])
  (.seq (.seq (.region 0 [
    ⟨(some 6), (.mov (.tmp 0)), none⟩,
    ⟨(some 7), (.lenL (.tmp 6)), none⟩,
    ⟨(some 8), (.mov (.const (.int .i64 0))), none⟩])
  (.block 0 (.loop (.seq (.region 0 [
    ⟨(some 9), (.binI .lss .i64 (.tmp 8) (.tmp 7)), none⟩])
  (.seq (.cond (.tmp 9) .skip (.exit 0))
  (.seq (.block 1 (.seq (.region 0 [
    ⟨(some 10), (.mov (.tmp 8)), none⟩,
    ⟨(some 5), (.mov (.tmp 10)), none⟩])
  (.seq (.region 0 [
    ⟨(some 11), (.mov (.tmp 1)), none⟩,
    ⟨(some 12), (.mov (.tmp 0)), none⟩,
    ⟨(some 13), (.mov (.tmp 5)), none⟩,
    ⟨(some 14), (.iaddr 1 (.tmp 12) (.tmp 13)), none⟩,
    ⟨(some 15), (.load false 1 (.tmp 14)), none⟩,
    ⟨(some 16), (.binS .eql (.tmp 11) (.tmp 15)), none⟩])
  (.cond (.tmp 16) (.seq (.region 0 [
    ⟨(some 17), (.mov (.tmp 5)), none⟩,
    ⟨(some 4), (.mov (.tmp 17)), none⟩])
  .ret) .skip))))
  (.region 0 [
    ⟨(some 18), (.binI .add .i64 (.tmp 8) (.const (.int .i64 1))), none⟩,
    ⟨(some 8), (.mov (.tmp 18)), none⟩])))))))
  (.seq (.region 0 [
    ⟨(some 4), (.mov (.const (.int .i64 (-1)))), none⟩])
  .ret)))
def ir618 : AF := ⟨19, [(.tmp 4)], b618⟩
theorem c618 : compF tt Tryz.f118 = some ir618 := by kernel_rfl
/-- slices.IndexFunc[[]voussoir/api.Id,voussoir/api.Id] -/
def b619 : AC := (.seq (.region 0 [
    ⟨(some 4), (.mov (.const (.int .i64 0))), none⟩])
  (.seq (.seq (.region 0 [
    ⟨(some 6), (.mov (.tmp 0)), none⟩,
    ⟨(some 7), (.lenL (.tmp 6)), none⟩,
    ⟨(some 8), (.mov (.const (.int .i64 0))), none⟩])
  (.block 0 (.loop (.seq (.region 0 [
    ⟨(some 9), (.binI .lss .i64 (.tmp 8) (.tmp 7)), none⟩])
  (.seq (.cond (.tmp 9) .skip (.exit 0))
  (.seq (.block 1 (.seq (.region 0 [
    ⟨(some 10), (.mov (.tmp 8)), none⟩,
    ⟨(some 5), (.mov (.tmp 10)), none⟩])
  (.seq (.region 0 [
    ⟨(some 11), (.mov (.tmp 1)), none⟩,
    ⟨(some 12), (.mov (.tmp 0)), none⟩,
    ⟨(some 13), (.mov (.tmp 5)), none⟩,
    ⟨(some 14), (.iaddr 2 (.tmp 12) (.tmp 13)), none⟩,
    ⟨(some 15), (.load true 2 (.tmp 14)), none⟩,
    ⟨(some 16), (.callv (.tmp 11) [(.tmp 15)]), none⟩])
  (.cond (.tmp 16) (.seq (.region 0 [
    ⟨(some 17), (.mov (.tmp 5)), none⟩,
    ⟨(some 4), (.mov (.tmp 17)), none⟩])
  .ret) .skip))))
  (.region 0 [
    ⟨(some 18), (.binI .add .i64 (.tmp 8) (.const (.int .i64 1))), none⟩,
    ⟨(some 8), (.mov (.tmp 18)), none⟩])))))))
  (.seq (.region 0 [
    ⟨(some 4), (.mov (.const (.int .i64 (-1)))), none⟩])
  .ret)))
def ir619 : AF := ⟨19, [(.tmp 4)], b619⟩
theorem c619 : compF tt Tryz.f119 = some ir619 := by kernel_rfl
/-- voussoir/evict.has$1 -/
def b620 : AC := (.seq (.region 1 [
    ⟨(some 2), (.box 0 (.tmp 0)), none⟩,
    ⟨(some 3), (.mov (.const (.bool false))), none⟩])
  (.seq (.region 0 [
    ⟨(some 4), (.faddr 0 (.tmp 2)), none⟩,
    ⟨(some 5), (.load false 1 (.tmp 4)), none⟩,
    ⟨(some 6), (.load false 1 (.tmp 1)), none⟩,
    ⟨(some 7), (.binS .eql (.tmp 5) (.tmp 6)), none⟩,
    ⟨(some 3), (.mov (.tmp 7)), none⟩])
  .ret))
def ir620 : AF := ⟨8, [(.tmp 3)], b620⟩
theorem c620 : compF tt Tryz.f120 = some ir620 := by kernel_rfl
def b63_0 : AC := (.region 1 [
    ⟨(some 3), (.box 0 (.tmp 1)), none⟩,
    ⟨(some 4), (.mov (.const (.slice none 0 0))), none⟩])
def b63_1 : AC := (.seq (.region 0 [
    ⟨(some 5), (.mov (.const (.int .i64 0))), none⟩])
  (.block 0 (.loop (.seq (.seq (.region 0 [
    ⟨(some 8), (.mov (.tmp 5)), none⟩,
    ⟨(some 9), (.mov (.tmp 0)), none⟩,
    ⟨(some 10), (.lenL (.tmp 9)), none⟩,
    ⟨(some 11), (.binI .lss .i64 (.tmp 8) (.tmp 10)), none⟩])
  (.cond (.tmp 11) .skip (.exit 0)))
  (.seq (.block 1 (.seq (.dregion 0 [
    ⟨(some 14), (.mov (.tmp 0)), none⟩,
    ⟨(some 15), (.mov (.tmp 5)), none⟩,
    ⟨(some 16), (.iaddr 18 (.tmp 14) (.tmp 15)), none⟩,
    ⟨(some 17), (.load true 18 (.tmp 16)), none⟩,
    ⟨(some 18), (.load true 18 (.tmp 3)), none⟩,
    ⟨(some 19), (.call 146 [(.tmp 17), (.tmp 18)]), none⟩,
    ⟨(some 6), (.mov (.tmp 19)), none⟩] [[], [], [0, 1], [2], [], [3, 4], [5, 5, 0, 1, 2, 3, 4, 5]])
  (.seq (.seq (.region 0 [
    ⟨(some 20), (.mov (.tmp 6)), none⟩,
    ⟨(some 21), (.binI .eql .i64 (.tmp 20) (.const (.int .i64 0))), none⟩])
  (.cond (.tmp 21) (.seq (.region 0 [
    ⟨(some 22), (.mov (.tmp 0)), none⟩,
    ⟨(some 4), (.mov (.tmp 22)), none⟩])
  .ret) .skip))
  (.seq (.region 0 [
    ⟨(some 23), (.mov (.tmp 6)), none⟩,
    ⟨(some 24), (.binI .gtr .i64 (.tmp 23) (.const (.int .i64 0))), none⟩])
  (.cond (.tmp 24) (.seq (.region 2 [
    ⟨(some 25), (.bsl 0 18 [(.v (.string ⟨#[]⟩)), (.v (.int .i64 0)), (.v (.int .i64 0)), (.v (.int .i64 0)), (.v (.slice none 0 0)), (.v (.int .i64 0)), (.v (.string ⟨#[]⟩)), (.v (.int .i64 0)), (.v (.string ⟨#[]⟩)), (.v (.int .i64 0)), (.v (.bool false)), (.v (.string ⟨#[]⟩)), (.v (.string ⟨#[]⟩)), (.v (.string ⟨#[]⟩)), (.v (.string ⟨#[]⟩)), (.v (.string ⟨#[]⟩)), (.v (.int .i64 0)), (.v (.string ⟨#[]⟩))] 0 []), none⟩,
    ⟨(some 26), (.mov (.tmp 0)), none⟩,
    ⟨(some 27), (.mov (.tmp 5)), none⟩,
    ⟨(some 28), (.slice 18 (.tmp 26) none (some (.tmp 27))), none⟩,
    ⟨(some 29), (.app 1 18 232 (.tmp 25) (.tmp 28)), none⟩,
    ⟨(some 7), (.mov (.tmp 29)), none⟩])
  (.seq (.region 2 [
    ⟨(some 30), (.mov (.tmp 7)), none⟩,
    ⟨(some 31), (.load true 18 (.tmp 3)), none⟩,
    ⟨(some 32), (.bsl 0 18 [(.v (.string ⟨#[]⟩)), (.v (.int .i64 0)), (.v (.int .i64 0)), (.v (.int .i64 0)), (.v (.slice none 0 0)), (.v (.int .i64 0)), (.v (.string ⟨#[]⟩)), (.v (.int .i64 0)), (.v (.string ⟨#[]⟩)), (.v (.int .i64 0)), (.v (.bool false)), (.v (.string ⟨#[]⟩)), (.v (.string ⟨#[]⟩)), (.v (.string ⟨#[]⟩)), (.v (.string ⟨#[]⟩)), (.v (.string ⟨#[]⟩)), (.v (.int .i64 0)), (.v (.string ⟨#[]⟩))] 1 [(0, (.tmp 31))]), none⟩,
    ⟨(some 33), (.app 1 18 232 (.tmp 30) (.tmp 32)), none⟩,
    ⟨(some 7), (.mov (.tmp 33)), none⟩])
  (.seq (.region 1 [
    ⟨(some 34), (.mov (.tmp 7)), none⟩,
    ⟨(some 35), (.mov (.tmp 0)), none⟩,
    ⟨(some 36), (.mov (.tmp 5)), none⟩,
    ⟨(some 37), (.slice 18 (.tmp 35) (some (.tmp 36)) none), none⟩,
    ⟨(some 38), (.app 0 18 232 (.tmp 34) (.tmp 37)), none⟩,
    ⟨(some 4), (.mov (.tmp 38)), none⟩])
  .ret))) .skip)))))
  (.region 0 [
    ⟨(some 12), (.mov (.tmp 5)), none⟩,
    ⟨(some 13), (.binI .add .i64 (.tmp 12) (.const (.int .i64 1))), none⟩,
    ⟨(some 5), (.mov (.tmp 13)), none⟩]))))))
def b63_2 : AC := (.dregion 4 [
    ⟨(some 39), (.bsl 0 18 [(.v (.string ⟨#[]⟩)), (.v (.int .i64 0)), (.v (.int .i64 0)), (.v (.int .i64 0)), (.v (.slice none 0 0)), (.v (.int .i64 0)), (.v (.string ⟨#[]⟩)), (.v (.int .i64 0)), (.v (.string ⟨#[]⟩)), (.v (.int .i64 0)), (.v (.bool false)), (.v (.string ⟨#[]⟩)), (.v (.string ⟨#[]⟩)), (.v (.string ⟨#[]⟩)), (.v (.string ⟨#[]⟩)), (.v (.string ⟨#[]⟩)), (.v (.int .i64 0)), (.v (.string ⟨#[]⟩))] 0 []), none⟩,
    ⟨(some 40), (.mov (.tmp 0)), none⟩,
    ⟨(some 41), (.app 1 18 232 (.tmp 39) (.tmp 40)), none⟩,
    ⟨(some 42), (.load true 18 (.tmp 3)), none⟩,
    ⟨(some 43), (.bsl 2 18 [(.v (.string ⟨#[]⟩)), (.v (.int .i64 0)), (.v (.int .i64 0)), (.v (.int .i64 0)), (.v (.slice none 0 0)), (.v (.int .i64 0)), (.v (.string ⟨#[]⟩)), (.v (.int .i64 0)), (.v (.string ⟨#[]⟩)), (.v (.int .i64 0)), (.v (.bool false)), (.v (.string ⟨#[]⟩)), (.v (.string ⟨#[]⟩)), (.v (.string ⟨#[]⟩)), (.v (.string ⟨#[]⟩)), (.v (.string ⟨#[]⟩)), (.v (.int .i64 0)), (.v (.string ⟨#[]⟩))] 1 [(0, (.tmp 42))]), none⟩,
    ⟨(some 44), (.app 3 18 232 (.tmp 41) (.tmp 43)), none⟩,
    ⟨(some 4), (.mov (.tmp 44)), none⟩] [[], [], [0, 1], [], [3], [2, 4, 2], [5, 5, 0, 1, 2, 3, 4, 5]])
def b63_3 : AC := .ret
/-- voussoir/voussoirref39.insert -/
def b63 : AC := (.seq b63_0 (.seq b63_1 (.seq b63_2 b63_3)))
def ir63 : AF := ⟨45, [(.tmp 4)], b63⟩
theorem c63 : compF tt Tryz.f121 = some ir63 := by kernel_rfl
/-- voussoir/voussoirref36.Has -/
def b622 : AC := (.seq (.region 1 [
    ⟨(some 3), (.box 0 (.tmp 1)), none⟩,
    ⟨(some 4), (.mov (.const (.bool false))), none⟩])
  (.seq (.dregion 0 [
    ⟨(some 5), (.faddr 1 (.tmp 3)), none⟩,
    ⟨(some 6), (.load false 1 (.tmp 5)), none⟩,
    ⟨(some 7), (.binI .geq .i64 (.tmp 6) (.const (.int .i64 1))), none⟩,
    ⟨(some 8), (.mov (.tmp 7)), none⟩,
    ⟨(some 9), (.mov (.tmp 0)), (some (8, true))⟩,
    ⟨(some 10), (.faddr 0 (.tmp 3)), (some (8, true))⟩,
    ⟨(some 11), (.load false 1 (.tmp 10)), (some (8, true))⟩,
    ⟨(some 12), (.call 147 [(.tmp 9), (.tmp 11)]), (some (8, true))⟩,
    ⟨(some 13), (.faddr 1 (.tmp 3)), (some (8, true))⟩,
    ⟨(some 14), (.load false 1 (.tmp 13)), (some (8, true))⟩,
    ⟨(some 15), (.binI .geq .i64 (.tmp 12) (.tmp 14)), (some (8, true))⟩,
    ⟨(some 16), (.pick (.tmp 8) (.tmp 15) (.const (.bool false))), none⟩,
    ⟨(some 4), (.mov (.tmp 16)), none⟩] [[], [0], [1], [2], [3], [3], [5, 3], [4, 6, 3, 3], [3], [8, 3], [7, 9, 3], [3, 10], [11, 7, 0, 1, 2, 3, 4, 5, 6, 7, 8, 9, 10, 11]])
  .ret))
def ir622 : AF := ⟨17, [(.tmp 4)], b622⟩
theorem c622 : compF tt Tryz.f122 = some ir622 := by kernel_rfl
def b64_0 : AC := (.region 0 [
    ⟨(some 6), (.mov (.const (.int .i64 20))), none⟩])
def b64_1 : AC := (.region 0 [
    ⟨(some 10), (.mov (.tmp 6)), none⟩,
    ⟨(some 7), (.mov (.const (.int .i64 0))), none⟩,
    ⟨(some 8), (.mov (.tmp 10)), none⟩])
def b64_2 : AC := (.block 0 (.loop (.seq (.seq (.region 0 [
    ⟨(some 11), (.mov (.tmp 8)), none⟩,
    ⟨(some 12), (.mov (.tmp 1)), none⟩,
    ⟨(some 13), (.binI .leq .i64 (.tmp 11) (.tmp 12)), none⟩])
  (.cond (.tmp 13) .skip (.exit 0)))
  (.block 1 (.seq (.region 0 [
    ⟨(some 14), (.mov (.tmp 0)), none⟩,
    ⟨(some 15), (.mov (.tmp 7)), none⟩,
    ⟨(some 16), (.mov (.tmp 8)), none⟩,
    ⟨(some 17), (.mov (.tmp 2)), none⟩,
    ⟨(some 18), (.call 154 [(.tmp 14), (.tmp 15), (.tmp 16), (.tmp 17)]), none⟩])
  (.seq (.region 0 [
    ⟨(some 19), (.mov (.tmp 8)), none⟩,
    ⟨(some 7), (.mov (.tmp 19)), none⟩])
  (.region 0 [
    ⟨(some 20), (.mov (.tmp 8)), none⟩,
    ⟨(some 21), (.mov (.tmp 6)), none⟩,
    ⟨(some 22), (.binI .add .i64 (.tmp 20) (.tmp 21)), none⟩,
    ⟨(some 8), (.mov (.tmp 22)), none⟩])))))))
def b64_3 : AC := (.region 0 [
    ⟨(some 23), (.mov (.tmp 0)), none⟩,
    ⟨(some 24), (.mov (.tmp 7)), none⟩,
    ⟨(some 25), (.mov (.tmp 1)), none⟩,
    ⟨(some 26), (.mov (.tmp 2)), none⟩,
    ⟨(some 27), (.call 154 [(.tmp 23), (.tmp 24), (.tmp 25), (.tmp 26)]), none⟩])
def b64_4 : AC := (.block 2 (.loop (.seq (.seq (.region 0 [
    ⟨(some 28), (.mov (.tmp 6)), none⟩,
    ⟨(some 29), (.mov (.tmp 1)), none⟩,
    ⟨(some 30), (.binI .lss .i64 (.tmp 28) (.tmp 29)), none⟩])
  (.cond (.tmp 30) .skip (.exit 2)))
  (.block 3 (.seq (.region 0 [
    ⟨(some 31), (.mov (.tmp 6)), none⟩,
    ⟨(some 32), (.binI .mul .i64 (.const (.int .i64 2)) (.tmp 31)), none⟩,
    ⟨(some 7), (.mov (.const (.int .i64 0))), none⟩,
    ⟨(some 8), (.mov (.tmp 32)), none⟩])
  (.seq (.block 4 (.loop (.seq (.seq (.region 0 [
    ⟨(some 33), (.mov (.tmp 8)), none⟩,
    ⟨(some 34), (.mov (.tmp 1)), none⟩,
    ⟨(some 35), (.binI .leq .i64 (.tmp 33) (.tmp 34)), none⟩])
  (.cond (.tmp 35) .skip (.exit 4)))
  (.block 5 (.seq (.region 0 [
    ⟨(some 36), (.mov (.tmp 0)), none⟩,
    ⟨(some 37), (.mov (.tmp 7)), none⟩,
    ⟨(some 38), (.mov (.tmp 7)), none⟩,
    ⟨(some 39), (.mov (.tmp 6)), none⟩,
    ⟨(some 40), (.binI .add .i64 (.tmp 38) (.tmp 39)), none⟩,
    ⟨(some 41), (.mov (.tmp 8)), none⟩,
    ⟨(some 42), (.mov (.tmp 2)), none⟩,
    ⟨(some 43), (.call 155 [(.tmp 36), (.tmp 37), (.tmp 40), (.tmp 41), (.tmp 42)]), none⟩])
  (.seq (.region 0 [
    ⟨(some 44), (.mov (.tmp 8)), none⟩,
    ⟨(some 7), (.mov (.tmp 44)), none⟩])
  (.region 0 [
    ⟨(some 45), (.mov (.tmp 8)), none⟩,
    ⟨(some 46), (.mov (.tmp 6)), none⟩,
    ⟨(some 47), (.binI .mul .i64 (.const (.int .i64 2)) (.tmp 46)), none⟩,
    ⟨(some 48), (.binI .add .i64 (.tmp 45) (.tmp 47)), none⟩,
    ⟨(some 8), (.mov (.tmp 48)), none⟩])))))))
  (.seq (.seq (.region 0 [
    ⟨(some 49), (.mov (.tmp 7)), none⟩,
    ⟨(some 50), (.mov (.tmp 6)), none⟩,
    ⟨(some 51), (.binI .add .i64 (.tmp 49) (.tmp 50)), none⟩,
    ⟨(some 9), (.mov (.tmp 51)), none⟩])
  (.seq (.region 0 [
    ⟨(some 52), (.mov (.tmp 9)), none⟩,
    ⟨(some 53), (.mov (.tmp 1)), none⟩,
    ⟨(some 54), (.binI .lss .i64 (.tmp 52) (.tmp 53)), none⟩])
  (.cond (.tmp 54) (.region 0 [
    ⟨(some 55), (.mov (.tmp 0)), none⟩,
    ⟨(some 56), (.mov (.tmp 7)), none⟩,
    ⟨(some 57), (.mov (.tmp 9)), none⟩,
    ⟨(some 58), (.mov (.tmp 1)), none⟩,
    ⟨(some 59), (.mov (.tmp 2)), none⟩,
    ⟨(some 60), (.call 155 [(.tmp 55), (.tmp 56), (.tmp 57), (.tmp 58), (.tmp 59)]), none⟩]) .skip)))
  (.region 0 [
    ⟨(some 61), (.mov (.tmp 6)), none⟩,
    ⟨(some 62), (.binI .mul .i64 (.tmp 61) (.const (.int .i64 2))), none⟩,
    ⟨(some 6), (.mov (.tmp 62)), none⟩]))))))))
/-- slices.stableCmpFunc[voussoir/api.Edit] -/
def b64 : AC := (.seq b64_0 (.seq b64_1 (.seq b64_2 (.seq b64_3 b64_4))))
def ir64 : AF := ⟨63, [], b64⟩
theorem c64 : compF tt Tryz.f132 = some ir64 := by kernel_rfl
/-- cmp.Or[int] -/
def b47 : AC := (.seq (.region 0 [
    ⟨(some 2), (.mov (.const (.int .i64 0))), none⟩])
  (.seq (.region 0 [
    ⟨(some 3), (.mov (.const (.int .i64 0))), none⟩])
  (.seq (.seq (.region 0 [
    ⟨(some 6), (.mov (.tmp 0)), none⟩,
    ⟨(some 7), (.lenL (.tmp 6)), none⟩,
    ⟨(some 8), (.mov (.const (.int .i64 0))), none⟩])
  (.block 0 (.loop (.seq (.region 0 [
    ⟨(some 9), (.binI .lss .i64 (.tmp 8) (.tmp 7)), none⟩])
  (.seq (.cond (.tmp 9) .skip (.exit 0))
  (.seq (.block 1 (.seq (.region 0 [
    ⟨(some 10), (.iaddr 1 (.tmp 6) (.tmp 8)), none⟩,
    ⟨(some 11), (.load false 1 (.tmp 10)), none⟩,
    ⟨(some 5), (.mov (.tmp 11)), none⟩])
  (.seq (.region 0 [
    ⟨(some 12), (.mov (.tmp 5)), none⟩,
    ⟨(some 13), (.mov (.tmp 3)), none⟩,
    ⟨(some 14), (.binI .neq .i64 (.tmp 12) (.tmp 13)), none⟩])
  (.cond (.tmp 14) (.seq (.region 0 [
    ⟨(some 15), (.mov (.tmp 5)), none⟩,
    ⟨(some 2), (.mov (.tmp 15)), none⟩])
  .ret) .skip))))
  (.region 0 [
    ⟨(some 16), (.binI .add .i64 (.tmp 8) (.const (.int .i64 1))), none⟩,
    ⟨(some 8), (.mov (.tmp 16)), none⟩])))))))
  (.seq (.region 0 [
    ⟨(some 17), (.mov (.tmp 3)), none⟩,
    ⟨(some 2), (.mov (.tmp 17)), none⟩])
  .ret))))
def ir47 : AF := ⟨18, [(.tmp 2)], b47⟩
theorem c47 : compF tt Tryz.f133 = some ir47 := by kernel_rfl
/-- cmp.Compare[int] -/
def b48 : AC := (.seq (.region 0 [
    ⟨(some 4), (.mov (.const (.int .i64 0))), none⟩])
  (.seq (.region 0 [
    ⟨(some 7), (.mov (.tmp 0)), none⟩,
    ⟨(some 8), (.call 156 [(.tmp 7)]), none⟩,
    ⟨(some 5), (.mov (.tmp 8)), none⟩])
  (.seq (.region 0 [
    ⟨(some 9), (.mov (.tmp 1)), none⟩,
    ⟨(some 10), (.call 156 [(.tmp 9)]), none⟩,
    ⟨(some 6), (.mov (.tmp 10)), none⟩])
  (.seq (.seq (.region 0 [
    ⟨(some 11), (.mov (.tmp 5)), none⟩])
  (.cond (.tmp 11) (.seq (.seq (.region 0 [
    ⟨(some 12), (.mov (.tmp 6)), none⟩])
  (.cond (.tmp 12) (.seq (.region 0 [
    ⟨(some 4), (.mov (.const (.int .i64 0))), none⟩])
  .ret) .skip))
  (.seq (.region 0 [
    ⟨(some 4), (.mov (.const (.int .i64 (-1)))), none⟩])
  .ret)) .skip))
  (.seq (.seq (.region 0 [
    ⟨(some 13), (.mov (.tmp 6)), none⟩])
  (.cond (.tmp 13) (.seq (.region 0 [
    ⟨(some 4), (.mov (.const (.int .i64 1))), none⟩])
  .ret) .skip))
  (.seq (.seq (.region 0 [
    ⟨(some 14), (.mov (.tmp 0)), none⟩,
    ⟨(some 15), (.mov (.tmp 1)), none⟩,
    ⟨(some 16), (.binI .lss .i64 (.tmp 14) (.tmp 15)), none⟩])
  (.cond (.tmp 16) (.seq (.region 0 [
    ⟨(some 4), (.mov (.const (.int .i64 (-1)))), none⟩])
  .ret) .skip))
  (.seq (.seq (.region 0 [
    ⟨(some 17), (.mov (.tmp 0)), none⟩,
    ⟨(some 18), (.mov (.tmp 1)), none⟩,
    ⟨(some 19), (.binI .gtr .i64 (.tmp 17) (.tmp 18)), none⟩])
  (.cond (.tmp 19) (.seq (.region 0 [
    ⟨(some 4), (.mov (.const (.int .i64 1))), none⟩])
  .ret) .skip))
  (.seq (.region 0 [
    ⟨(some 4), (.mov (.const (.int .i64 0))), none⟩])
  .ret))))))))
def ir48 : AF := ⟨20, [(.tmp 4)], b48⟩
theorem c48 : compF tt Tryz.f134 = some ir48 := by kernel_rfl
/-- slices.insertionSortCmpFunc[[]string] -/
def b636 : AC := (.seq (.region 0 [
    ⟨(some 10), (.mov (.tmp 1)), none⟩,
    ⟨(some 11), (.binI .add .i64 (.tmp 10) (.const (.int .i64 1))), none⟩,
    ⟨(some 8), (.mov (.tmp 11)), none⟩])
  (.block 0 (.loop (.seq (.seq (.region 0 [
    ⟨(some 12), (.mov (.tmp 8)), none⟩,
    ⟨(some 13), (.mov (.tmp 2)), none⟩,
    ⟨(some 14), (.binI .lss .i64 (.tmp 12) (.tmp 13)), none⟩])
  (.cond (.tmp 14) .skip (.exit 0)))
  (.seq (.block 1 (.seq (.region 0 [
    ⟨(some 17), (.mov (.tmp 8)), none⟩,
    ⟨(some 9), (.mov (.tmp 17)), none⟩])
  (.block 2 (.loop (.seq (.seq (.dregion 0 [
    ⟨(some 18), (.mov (.tmp 9)), none⟩,
    ⟨(some 19), (.mov (.tmp 1)), none⟩,
    ⟨(some 20), (.binI .gtr .i64 (.tmp 18) (.tmp 19)), none⟩,
    ⟨(some 21), (.mov (.tmp 20)), none⟩,
    ⟨(some 22), (.mov (.tmp 3)), (some (21, true))⟩,
    ⟨(some 23), (.mov (.tmp 0)), (some (21, true))⟩,
    ⟨(some 24), (.mov (.tmp 9)), (some (21, true))⟩,
    ⟨(some 25), (.iaddr 1 (.tmp 23) (.tmp 24)), (some (21, true))⟩,
    ⟨(some 26), (.load false 1 (.tmp 25)), (some (21, true))⟩,
    ⟨(some 27), (.mov (.tmp 0)), (some (21, true))⟩,
    ⟨(some 28), (.mov (.tmp 9)), (some (21, true))⟩,
    ⟨(some 29), (.binI .sub .i64 (.tmp 28) (.const (.int .i64 1))), (some (21, true))⟩,
    ⟨(some 30), (.iaddr 1 (.tmp 27) (.tmp 29)), (some (21, true))⟩,
    ⟨(some 31), (.load false 1 (.tmp 30)), (some (21, true))⟩,
    ⟨(some 32), (.callv (.tmp 22) [(.tmp 26), (.tmp 31)]), (some (21, true))⟩,
    ⟨(some 33), (.binI .lss .i64 (.tmp 32) (.const (.int .i64 0))), (some (21, true))⟩,
    ⟨(some 34), (.pick (.tmp 21) (.tmp 33) (.const (.bool false))), none⟩] [[], [], [0, 1], [2], [3], [3], [3], [5, 6, 3], [7, 3], [3], [3], [10, 3], [9, 11, 3], [12, 3], [4, 8, 13, 3, 3], [14, 3], [3, 15]])
  (.cond (.tmp 34) .skip (.exit 2)))
  (.seq (.block 3 (.dregion 0 [
    ⟨(some 37), (.mov (.tmp 0)), none⟩,
    ⟨(some 38), (.mov (.tmp 9)), none⟩,
    ⟨(some 39), (.mov (.tmp 0)), none⟩,
    ⟨(some 40), (.mov (.tmp 9)), none⟩,
    ⟨(some 41), (.binI .sub .i64 (.tmp 40) (.const (.int .i64 1))), none⟩,
    ⟨(some 42), (.mov (.tmp 0)), none⟩,
    ⟨(some 43), (.mov (.tmp 9)), none⟩,
    ⟨(some 44), (.binI .sub .i64 (.tmp 43) (.const (.int .i64 1))), none⟩,
    ⟨(some 45), (.iaddr 1 (.tmp 42) (.tmp 44)), none⟩,
    ⟨(some 46), (.load false 1 (.tmp 45)), none⟩,
    ⟨(some 47), (.mov (.tmp 0)), none⟩,
    ⟨(some 48), (.mov (.tmp 9)), none⟩,
    ⟨(some 49), (.iaddr 1 (.tmp 47) (.tmp 48)), none⟩,
    ⟨(some 50), (.load false 1 (.tmp 49)), none⟩,
    ⟨(some 51), (.iaddr 1 (.tmp 37) (.tmp 38)), none⟩,
    ⟨none, (.store 1 (.tmp 51) (.tmp 46)), none⟩,
    ⟨(some 52), (.iaddr 1 (.tmp 39) (.tmp 41)), none⟩,
    ⟨none, (.store 1 (.tmp 52) (.tmp 50)), none⟩] [[], [], [], [], [3], [], [], [6], [5, 7], [8], [], [], [10, 11], [12], [0, 1, 0, 1, 5, 6, 7, 8, 9, 13], [14, 9, 0, 1, 5, 6, 7, 8, 9, 13], [2, 4, 0, 1, 2, 3, 4, 5, 6, 7, 8, 9, 10, 11, 12, 13, 14, 15], [16, 13, 15, 0, 1, 2, 3, 4, 5, 6, 7, 8, 9, 10, 11, 12, 13, 14, 15]]))
  (.region 0 [
    ⟨(some 35), (.mov (.tmp 9)), none⟩,
    ⟨(some 36), (.binI .sub .i64 (.tmp 35) (.const (.int .i64 1))), none⟩,
    ⟨(some 9), (.mov (.tmp 36)), none⟩])))))))
  (.region 0 [
    ⟨(some 15), (.mov (.tmp 8)), none⟩,
    ⟨(some 16), (.binI .add .i64 (.tmp 15) (.const (.int .i64 1))), none⟩,
    ⟨(some 8), (.mov (.tmp 16)), none⟩]))))))
def ir636 : AF := ⟨53, [], b636⟩
theorem c636 : compF tt Tryz.f136 = some ir636 := by kernel_rfl
/-- math/bits.Len64 -/
def b94 : AC := (.seq (.region 0 [
    ⟨(some 2), (.mov (.const (.int .i64 0))), none⟩])
  (.seq (.seq (.region 0 [
    ⟨(some 3), (.mov (.tmp 0)), none⟩,
    ⟨(some 4), (.binI .geq .u64 (.tmp 3) (.const (.int .u64 4294967296))), none⟩])
  (.cond (.tmp 4) (.seq (.region 0 [
    ⟨(some 5), (.mov (.tmp 0)), none⟩,
    ⟨(some 6), (.shf .shr .u64 (.tmp 5) (.const (.int .u64 32))), none⟩,
    ⟨(some 0), (.mov (.tmp 6)), none⟩])
  (.region 0 [
    ⟨(some 2), (.mov (.const (.int .i64 32))), none⟩])) .skip))
  (.seq (.seq (.region 0 [
    ⟨(some 7), (.mov (.tmp 0)), none⟩,
    ⟨(some 8), (.binI .geq .u64 (.tmp 7) (.const (.int .u64 65536))), none⟩])
  (.cond (.tmp 8) (.seq (.region 0 [
    ⟨(some 9), (.mov (.tmp 0)), none⟩,
    ⟨(some 10), (.shf .shr .u64 (.tmp 9) (.const (.int .u64 16))), none⟩,
    ⟨(some 0), (.mov (.tmp 10)), none⟩])
  (.region 0 [
    ⟨(some 11), (.mov (.tmp 2)), none⟩,
    ⟨(some 12), (.binI .add .i64 (.tmp 11) (.const (.int .i64 16))), none⟩,
    ⟨(some 2), (.mov (.tmp 12)), none⟩])) .skip))
  (.seq (.seq (.region 0 [
    ⟨(some 13), (.mov (.tmp 0)), none⟩,
    ⟨(some 14), (.binI .geq .u64 (.tmp 13) (.const (.int .u64 256))), none⟩])
  (.cond (.tmp 14) (.seq (.region 0 [
    ⟨(some 15), (.mov (.tmp 0)), none⟩,
    ⟨(some 16), (.shf .shr .u64 (.tmp 15) (.const (.int .u64 8))), none⟩,
    ⟨(some 0), (.mov (.tmp 16)), none⟩])
  (.region 0 [
    ⟨(some 17), (.mov (.tmp 2)), none⟩,
    ⟨(some 18), (.binI .add .i64 (.tmp 17) (.const (.int .i64 8))), none⟩,
    ⟨(some 2), (.mov (.tmp 18)), none⟩])) .skip))
  (.seq (.region 0 [
    ⟨(some 19), (.mov (.tmp 2)), none⟩,
    ⟨(some 20), (.mov (.tmp 0)), none⟩,
    ⟨(some 21), (.conv .u8 (.tmp 20)), none⟩,
    ⟨(some 22), (.index (.const (.string ⟨#[0, 1, 2, 2, 3, 3, 3, 3, 4, 4, 4, 4, 4, 4, 4, 4, 5, 5, 5, 5, 5, 5, 5, 5, 5, 5, 5, 5, 5, 5, 5, 5, 6, 6, 6, 6, 6, 6, 6, 6, 6, 6, 6, 6, 6, 6, 6, 6, 6, 6, 6, 6, 6, 6, 6, 6, 6, 6, 6, 6, 6, 6, 6, 6, 7, 7, 7, 7, 7, 7, 7, 7, 7, 7, 7, 7, 7, 7, 7, 7, 7, 7, 7, 7, 7, 7, 7, 7, 7, 7, 7, 7, 7, 7, 7, 7, 7, 7, 7, 7, 7, 7, 7, 7, 7, 7, 7, 7, 7, 7, 7, 7, 7, 7, 7, 7, 7, 7, 7, 7, 7, 7, 7, 7, 7, 7, 7, 7, 8, 8, 8, 8, 8, 8, 8, 8, 8, 8, 8, 8, 8, 8, 8, 8, 8, 8, 8, 8, 8, 8, 8, 8, 8, 8, 8, 8, 8, 8, 8, 8, 8, 8, 8, 8, 8, 8, 8, 8, 8, 8, 8, 8, 8, 8, 8, 8, 8, 8, 8, 8, 8, 8, 8, 8, 8, 8, 8, 8, 8, 8, 8, 8, 8, 8, 8, 8, 8, 8, 8, 8, 8, 8, 8, 8, 8, 8, 8, 8, 8, 8, 8, 8, 8, 8, 8, 8, 8, 8, 8, 8, 8, 8, 8, 8, 8, 8, 8, 8, 8, 8, 8, 8, 8, 8, 8, 8, 8, 8, 8, 8, 8, 8, 8, 8, 8, 8, 8, 8, 8, 8, 8, 8, 8, 8, 8, 8]⟩)) (.tmp 21)), none⟩,
    ⟨(some 23), (.conv .i64 (.tmp 22)), none⟩,
    ⟨(some 24), (.binI .add .i64 (.tmp 19) (.tmp 23)), none⟩,
    ⟨(some 2), (.mov (.tmp 24)), none⟩])
  .ret)))))
def ir94 : AF := ⟨25, [(.tmp 2)], b94⟩
theorem c94 : compF tt Tryz.f145 = some ir94 := by kernel_rfl
/-- voussoir/voussoirref36.Cmp -/
def b76 : AC := (.seq (.region 2 [
    ⟨(some 2), (.box 0 (.tmp 0)), none⟩,
    ⟨(some 3), (.box 1 (.tmp 1)), none⟩,
    ⟨(some 4), (.mov (.const (.int .i64 0))), none⟩])
  (.seq (.seq (.region 0 [
    ⟨(some 5), (.faddr 2 (.tmp 2)), none⟩,
    ⟨(some 6), (.load false 1 (.tmp 5)), none⟩,
    ⟨(some 7), (.faddr 2 (.tmp 3)), none⟩,
    ⟨(some 8), (.load false 1 (.tmp 7)), none⟩,
    ⟨(some 9), (.binI .neq .i64 (.tmp 6) (.tmp 8)), none⟩])
  (.cond (.tmp 9) (.seq (.seq (.region 0 [
    ⟨(some 10), (.faddr 2 (.tmp 2)), none⟩,
    ⟨(some 11), (.load false 1 (.tmp 10)), none⟩,
    ⟨(some 12), (.faddr 2 (.tmp 3)), none⟩,
    ⟨(some 13), (.load false 1 (.tmp 12)), none⟩,
    ⟨(some 14), (.binI .lss .i64 (.tmp 11) (.tmp 13)), none⟩])
  (.cond (.tmp 14) (.seq (.region 0 [
    ⟨(some 4), (.mov (.const (.int .i64 (-1)))), none⟩])
  .ret) .skip))
  (.seq (.region 0 [
    ⟨(some 4), (.mov (.const (.int .i64 1))), none⟩])
  .ret)) .skip))
  (.seq (.seq (.region 0 [
    ⟨(some 15), (.faddr 0 (.tmp 2)), none⟩,
    ⟨(some 16), (.faddr 0 (.tmp 15)), none⟩,
    ⟨(some 17), (.load false 1 (.tmp 16)), none⟩,
    ⟨(some 18), (.faddr 0 (.tmp 3)), none⟩,
    ⟨(some 19), (.faddr 0 (.tmp 18)), none⟩,
    ⟨(some 20), (.load false 1 (.tmp 19)), none⟩,
    ⟨(some 21), (.binS .neq (.tmp 17) (.tmp 20)), none⟩])
  (.cond (.tmp 21) (.seq (.seq (.region 0 [
    ⟨(some 22), (.faddr 0 (.tmp 2)), none⟩,
    ⟨(some 23), (.faddr 0 (.tmp 22)), none⟩,
    ⟨(some 24), (.load false 1 (.tmp 23)), none⟩,
    ⟨(some 25), (.faddr 0 (.tmp 3)), none⟩,
    ⟨(some 26), (.faddr 0 (.tmp 25)), none⟩,
    ⟨(some 27), (.load false 1 (.tmp 26)), none⟩,
    ⟨(some 28), (.binS .lss (.tmp 24) (.tmp 27)), none⟩])
  (.cond (.tmp 28) (.seq (.region 0 [
    ⟨(some 4), (.mov (.const (.int .i64 (-1)))), none⟩])
  .ret) .skip))
  (.seq (.region 0 [
    ⟨(some 4), (.mov (.const (.int .i64 1))), none⟩])
  .ret)) .skip))
  (.seq (.seq (.region 0 [
    ⟨(some 29), (.faddr 0 (.tmp 2)), none⟩,
    ⟨(some 30), (.faddr 1 (.tmp 29)), none⟩,
    ⟨(some 31), (.load false 1 (.tmp 30)), none⟩,
    ⟨(some 32), (.faddr 0 (.tmp 3)), none⟩,
    ⟨(some 33), (.faddr 1 (.tmp 32)), none⟩,
    ⟨(some 34), (.load false 1 (.tmp 33)), none⟩,
    ⟨(some 35), (.binI .lss .i64 (.tmp 31) (.tmp 34)), none⟩])
  (.cond (.tmp 35) (.seq (.region 0 [
    ⟨(some 4), (.mov (.const (.int .i64 (-1)))), none⟩])
  .ret) .skip))
  (.seq (.seq (.region 0 [
    ⟨(some 36), (.faddr 0 (.tmp 2)), none⟩,
    ⟨(some 37), (.faddr 1 (.tmp 36)), none⟩,
    ⟨(some 38), (.load false 1 (.tmp 37)), none⟩,
    ⟨(some 39), (.faddr 0 (.tmp 3)), none⟩,
    ⟨(some 40), (.faddr 1 (.tmp 39)), none⟩,
    ⟨(some 41), (.load false 1 (.tmp 40)), none⟩,
    ⟨(some 42), (.binI .gtr .i64 (.tmp 38) (.tmp 41)), none⟩])
  (.cond (.tmp 42) (.seq (.region 0 [
    ⟨(some 4), (.mov (.const (.int .i64 1))), none⟩])
  .ret) .skip))
  (.seq (.region 0 [
    ⟨(some 4), (.mov (.const (.int .i64 0))), none⟩])
  .ret))))))
def ir76 : AF := ⟨43, [(.tmp 4)], b76⟩
theorem c76 : compF tt Tryz.f146 = some ir76 := by kernel_rfl
/-- voussoir/voussoirref36.upto -/
def b647 : AC := (.seq (.region 0 [
    ⟨(some 4), (.mov (.const (.int .i64 0))), none⟩])
  (.seq (.seq (.region 0 [
    ⟨(some 5), (.mov (.const (.int .i64 0))), none⟩])
  (.block 0 (.loop (.seq (.seq (.region 0 [
    ⟨(some 6), (.mov (.tmp 5)), none⟩,
    ⟨(some 7), (.mov (.tmp 0)), none⟩,
    ⟨(some 8), (.lenL (.tmp 7)), none⟩,
    ⟨(some 9), (.binI .lss .i64 (.tmp 6) (.tmp 8)), none⟩])
  (.cond (.tmp 9) .skip (.exit 0)))
  (.seq (.block 1 (.seq (.region 0 [
    ⟨(some 12), (.mov (.tmp 0)), none⟩,
    ⟨(some 13), (.mov (.tmp 5)), none⟩,
    ⟨(some 14), (.iaddr 2 (.tmp 12) (.tmp 13)), none⟩,
    ⟨(some 15), (.faddr 0 (.tmp 14)), none⟩,
    ⟨(some 16), (.load false 1 (.tmp 15)), none⟩,
    ⟨(some 17), (.mov (.tmp 1)), none⟩,
    ⟨(some 18), (.binS .eql (.tmp 16) (.tmp 17)), none⟩])
  (.cond (.tmp 18) (.seq (.region 0 [
    ⟨(some 19), (.mov (.tmp 0)), none⟩,
    ⟨(some 20), (.mov (.tmp 5)), none⟩,
    ⟨(some 21), (.iaddr 2 (.tmp 19) (.tmp 20)), none⟩,
    ⟨(some 22), (.faddr 1 (.tmp 21)), none⟩,
    ⟨(some 23), (.load false 1 (.tmp 22)), none⟩,
    ⟨(some 4), (.mov (.tmp 23)), none⟩])
  .ret) .skip)))
  (.region 0 [
    ⟨(some 10), (.mov (.tmp 5)), none⟩,
    ⟨(some 11), (.binI .add .i64 (.tmp 10) (.const (.int .i64 1))), none⟩,
    ⟨(some 5), (.mov (.tmp 11)), none⟩]))))))
  (.seq (.region 0 [
    ⟨(some 4), (.mov (.const (.int .i64 0))), none⟩])
  .ret)))
def ir647 : AF := ⟨24, [(.tmp 4)], b647⟩
theorem c647 : compF tt Tryz.f147 = some ir647 := by kernel_rfl
/-- slices.insertionSortCmpFunc[voussoir/api.Edit] -/
def b77 : AC := (.seq (.region 0 [
    ⟨(some 10), (.mov (.tmp 1)), none⟩,
    ⟨(some 11), (.binI .add .i64 (.tmp 10) (.const (.int .i64 1))), none⟩,
    ⟨(some 8), (.mov (.tmp 11)), none⟩])
  (.block 0 (.loop (.seq (.seq (.region 0 [
    ⟨(some 12), (.mov (.tmp 8)), none⟩,
    ⟨(some 13), (.mov (.tmp 2)), none⟩,
    ⟨(some 14), (.binI .lss .i64 (.tmp 12) (.tmp 13)), none⟩])
  (.cond (.tmp 14) .skip (.exit 0)))
  (.seq (.block 1 (.seq (.region 0 [
    ⟨(some 17), (.mov (.tmp 8)), none⟩,
    ⟨(some 9), (.mov (.tmp 17)), none⟩])
  (.block 2 (.loop (.seq (.seq (.dregion 0 [
    ⟨(some 18), (.mov (.tmp 9)), none⟩,
    ⟨(some 19), (.mov (.tmp 1)), none⟩,
    ⟨(some 20), (.binI .gtr .i64 (.tmp 18) (.tmp 19)), none⟩,
    ⟨(some 21), (.mov (.tmp 20)), none⟩,
    ⟨(some 22), (.mov (.tmp 3)), (some (21, true))⟩,
    ⟨(some 23), (.mov (.tmp 0)), (some (21, true))⟩,
    ⟨(some 24), (.mov (.tmp 9)), (some (21, true))⟩,
    ⟨(some 25), (.iaddr 18 (.tmp 23) (.tmp 24)), (some (21, true))⟩,
    ⟨(some 26), (.load true 18 (.tmp 25)), (some (21, true))⟩,
    ⟨(some 27), (.mov (.tmp 0)), (some (21, true))⟩,
    ⟨(some 28), (.mov (.tmp 9)), (some (21, true))⟩,
    ⟨(some 29), (.binI .sub .i64 (.tmp 28) (.const (.int .i64 1))), (some (21, true))⟩,
    ⟨(some 30), (.iaddr 18 (.tmp 27) (.tmp 29)), (some (21, true))⟩,
    ⟨(some 31), (.load true 18 (.tmp 30)), (some (21, true))⟩,
    ⟨(some 32), (.callv (.tmp 22) [(.tmp 26), (.tmp 31)]), (some (21, true))⟩,
    ⟨(some 33), (.binI .lss .i64 (.tmp 32) (.const (.int .i64 0))), (some (21, true))⟩,
    ⟨(some 34), (.pick (.tmp 21) (.tmp 33) (.const (.bool false))), none⟩] [[], [], [0, 1], [2], [3], [3], [3], [5, 6, 3], [7, 3], [3], [3], [10, 3], [9, 11, 3], [12, 3], [4, 8, 13, 3, 3], [14, 3], [3, 15]])
  (.cond (.tmp 34) .skip (.exit 2)))
  (.seq (.block 3 (.dregion 0 [
    ⟨(some 37), (.mov (.tmp 0)), none⟩,
    ⟨(some 38), (.mov (.tmp 9)), none⟩,
    ⟨(some 39), (.mov (.tmp 0)), none⟩,
    ⟨(some 40), (.mov (.tmp 9)), none⟩,
    ⟨(some 41), (.binI .sub .i64 (.tmp 40) (.const (.int .i64 1))), none⟩,
    ⟨(some 42), (.mov (.tmp 0)), none⟩,
    ⟨(some 43), (.mov (.tmp 9)), none⟩,
    ⟨(some 44), (.binI .sub .i64 (.tmp 43) (.const (.int .i64 1))), none⟩,
    ⟨(some 45), (.iaddr 18 (.tmp 42) (.tmp 44)), none⟩,
    ⟨(some 46), (.load true 18 (.tmp 45)), none⟩,
    ⟨(some 47), (.mov (.tmp 0)), none⟩,
    ⟨(some 48), (.mov (.tmp 9)), none⟩,
    ⟨(some 49), (.iaddr 18 (.tmp 47) (.tmp 48)), none⟩,
    ⟨(some 50), (.load true 18 (.tmp 49)), none⟩,
    ⟨(some 51), (.iaddr 18 (.tmp 37) (.tmp 38)), none⟩,
    ⟨none, (.store 18 (.tmp 51) (.tmp 46)), none⟩,
    ⟨(some 52), (.iaddr 18 (.tmp 39) (.tmp 41)), none⟩,
    ⟨none, (.store 18 (.tmp 52) (.tmp 50)), none⟩] [[], [], [], [], [3], [], [], [6], [5, 7], [8], [], [], [10, 11], [12], [0, 1, 0, 1, 5, 6, 7, 8, 9, 13], [14, 9, 0, 1, 5, 6, 7, 8, 9, 13], [2, 4, 0, 1, 2, 3, 4, 5, 6, 7, 8, 9, 10, 11, 12, 13, 14, 15], [16, 13, 15, 0, 1, 2, 3, 4, 5, 6, 7, 8, 9, 10, 11, 12, 13, 14, 15]]))
  (.region 0 [
    ⟨(some 35), (.mov (.tmp 9)), none⟩,
    ⟨(some 36), (.binI .sub .i64 (.tmp 35) (.const (.int .i64 1))), none⟩,
    ⟨(some 9), (.mov (.tmp 36)), none⟩])))))))
  (.region 0 [
    ⟨(some 15), (.mov (.tmp 8)), none⟩,
    ⟨(some 16), (.binI .add .i64 (.tmp 15) (.const (.int .i64 1))), none⟩,
    ⟨(some 8), (.mov (.tmp 16)), none⟩]))))))
def ir77 : AF := ⟨53, [], b77⟩
theorem c77 : compF tt Tryz.f154 = some ir77 := by kernel_rfl
def b78_0 : AC := (.seq (.region 0 [
    ⟨(some 25), (.mov (.tmp 2)), none⟩,
    ⟨(some 26), (.mov (.tmp 1)), none⟩,
    ⟨(some 27), (.binI .sub .i64 (.tmp 25) (.tmp 26)), none⟩,
    ⟨(some 28), (.binI .eql .i64 (.tmp 27) (.const (.int .i64 1))), none⟩])
  (.cond (.tmp 28) (.seq (.region 0 [
    ⟨(some 29), (.mov (.tmp 2)), none⟩,
    ⟨(some 10), (.mov (.tmp 29)), none⟩])
  (.seq (.region 0 [
    ⟨(some 30), (.mov (.tmp 3)), none⟩,
    ⟨(some 11), (.mov (.tmp 30)), none⟩])
  (.seq (.block 0 (.loop (.seq (.seq (.region 0 [
    ⟨(some 31), (.mov (.tmp 10)), none⟩,
    ⟨(some 32), (.mov (.tmp 11)), none⟩,
    ⟨(some 33), (.binI .lss .i64 (.tmp 31) (.tmp 32)), none⟩])
  (.cond (.tmp 33) .skip (.exit 0)))
  (.block 1 (.seq (.region 0 [
    ⟨(some 34), (.mov (.tmp 10)), none⟩,
    ⟨(some 35), (.mov (.tmp 11)), none⟩,
    ⟨(some 36), (.binI .add .i64 (.tmp 34) (.tmp 35)), none⟩,
    ⟨(some 37), (.conv .u64 (.tmp 36)), none⟩,
    ⟨(some 38), (.shf .shr .u64 (.tmp 37) (.const (.int .u64 1))), none⟩,
    ⟨(some 39), (.conv .i64 (.tmp 38)), none⟩,
    ⟨(some 12), (.mov (.tmp 39)), none⟩])
  (.seq (.dregion 0 [
    ⟨(some 40), (.mov (.tmp 4)), none⟩,
    ⟨(some 41), (.mov (.tmp 0)), none⟩,
    ⟨(some 42), (.mov (.tmp 12)), none⟩,
    ⟨(some 43), (.iaddr 18 (.tmp 41) (.tmp 42)), none⟩,
    ⟨(some 44), (.load true 18 (.tmp 43)), none⟩,
    ⟨(some 45), (.mov (.tmp 0)), none⟩,
    ⟨(some 46), (.mov (.tmp 1)), none⟩,
    ⟨(some 47), (.iaddr 18 (.tmp 45) (.tmp 46)), none⟩,
    ⟨(some 48), (.load true 18 (.tmp 47)), none⟩,
    ⟨(some 49), (.callv (.tmp 40) [(.tmp 44), (.tmp 48)]), none⟩,
    ⟨(some 50), (.binI .lss .i64 (.tmp 49) (.const (.int .i64 0))), none⟩] [[], [], [], [1, 2], [3], [], [], [5, 6], [7], [0, 4, 8], [9]])
  (.cond (.tmp 50) (.region 0 [
    ⟨(some 51), (.mov (.tmp 12)), none⟩,
    ⟨(some 52), (.binI .add .i64 (.tmp 51) (.const (.int .i64 1))), none⟩,
    ⟨(some 10), (.mov (.tmp 52)), none⟩]) (.region 0 [
    ⟨(some 53), (.mov (.tmp 12)), none⟩,
    ⟨(some 11), (.mov (.tmp 53)), none⟩]))))))))
  (.seq (.seq (.region 0 [
    ⟨(some 54), (.mov (.tmp 1)), none⟩,
    ⟨(some 13), (.mov (.tmp 54)), none⟩])
  (.block 2 (.loop (.seq (.seq (.region 0 [
    ⟨(some 55), (.mov (.tmp 13)), none⟩,
    ⟨(some 56), (.mov (.tmp 10)), none⟩,
    ⟨(some 57), (.binI .sub .i64 (.tmp 56) (.const (.int .i64 1))), none⟩,
    ⟨(some 58), (.binI .lss .i64 (.tmp 55) (.tmp 57)), none⟩])
  (.cond (.tmp 58) .skip (.exit 2)))
  (.seq (.block 3 (.dregion 0 [
    ⟨(some 61), (.mov (.tmp 0)), none⟩,
    ⟨(some 62), (.mov (.tmp 13)), none⟩,
    ⟨(some 63), (.mov (.tmp 0)), none⟩,
    ⟨(some 64), (.mov (.tmp 13)), none⟩,
    ⟨(some 65), (.binI .add .i64 (.tmp 64) (.const (.int .i64 1))), none⟩,
    ⟨(some 66), (.mov (.tmp 0)), none⟩,
    ⟨(some 67), (.mov (.tmp 13)), none⟩,
    ⟨(some 68), (.binI .add .i64 (.tmp 67) (.const (.int .i64 1))), none⟩,
    ⟨(some 69), (.iaddr 18 (.tmp 66) (.tmp 68)), none⟩,
    ⟨(some 70), (.load true 18 (.tmp 69)), none⟩,
    ⟨(some 71), (.mov (.tmp 0)), none⟩,
    ⟨(some 72), (.mov (.tmp 13)), none⟩,
    ⟨(some 73), (.iaddr 18 (.tmp 71) (.tmp 72)), none⟩,
    ⟨(some 74), (.load true 18 (.tmp 73)), none⟩,
    ⟨(some 75), (.iaddr 18 (.tmp 61) (.tmp 62)), none⟩,
    ⟨none, (.store 18 (.tmp 75) (.tmp 70)), none⟩,
    ⟨(some 76), (.iaddr 18 (.tmp 63) (.tmp 65)), none⟩,
    ⟨none, (.store 18 (.tmp 76) (.tmp 74)), none⟩] [[], [], [], [], [3], [], [], [6], [5, 7], [8], [], [], [10, 11], [12], [0, 1, 0, 1, 5, 6, 7, 8, 9, 13], [14, 9, 0, 1, 5, 6, 7, 8, 9, 13], [2, 4, 0, 1, 2, 3, 4, 5, 6, 7, 8, 9, 10, 11, 12, 13, 14, 15], [16, 13, 15, 0, 1, 2, 3, 4, 5, 6, 7, 8, 9, 10, 11, 12, 13, 14, 15]]))
  (.region 0 [
    ⟨(some 59), (.mov (.tmp 13)), none⟩,
    ⟨(some 60), (.binI .add .i64 (.tmp 59) (.const (.int .i64 1))), none⟩,
    ⟨(some 13), (.mov (.tmp 60)), none⟩]))))))
  .ret)))) .skip))
def b78_1 : AC := (.seq (.region 0 [
    ⟨(some 77), (.mov (.tmp 3)), none⟩,
    ⟨(some 78), (.mov (.tmp 2)), none⟩,
    ⟨(some 79), (.binI .sub .i64 (.tmp 77) (.tmp 78)), none⟩,
    ⟨(some 80), (.binI .eql .i64 (.tmp 79) (.const (.int .i64 1))), none⟩])
  (.cond (.tmp 80) (.seq (.region 0 [
    ⟨(some 81), (.mov (.tmp 1)), none⟩,
    ⟨(some 14), (.mov (.tmp 81)), none⟩])
  (.seq (.region 0 [
    ⟨(some 82), (.mov (.tmp 2)), none⟩,
    ⟨(some 15), (.mov (.tmp 82)), none⟩])
  (.seq (.block 4 (.loop (.seq (.seq (.region 0 [
    ⟨(some 83), (.mov (.tmp 14)), none⟩,
    ⟨(some 84), (.mov (.tmp 15)), none⟩,
    ⟨(some 85), (.binI .lss .i64 (.tmp 83) (.tmp 84)), none⟩])
  (.cond (.tmp 85) .skip (.exit 4)))
  (.block 5 (.seq (.region 0 [
    ⟨(some 86), (.mov (.tmp 14)), none⟩,
    ⟨(some 87), (.mov (.tmp 15)), none⟩,
    ⟨(some 88), (.binI .add .i64 (.tmp 86) (.tmp 87)), none⟩,
    ⟨(some 89), (.conv .u64 (.tmp 88)), none⟩,
    ⟨(some 90), (.shf .shr .u64 (.tmp 89) (.const (.int .u64 1))), none⟩,
    ⟨(some 91), (.conv .i64 (.tmp 90)), none⟩,
    ⟨(some 16), (.mov (.tmp 91)), none⟩])
  (.seq (.dregion 0 [
    ⟨(some 92), (.mov (.tmp 4)), none⟩,
    ⟨(some 93), (.mov (.tmp 0)), none⟩,
    ⟨(some 94), (.mov (.tmp 2)), none⟩,
    ⟨(some 95), (.iaddr 18 (.tmp 93) (.tmp 94)), none⟩,
    ⟨(some 96), (.load true 18 (.tmp 95)), none⟩,
    ⟨(some 97), (.mov (.tmp 0)), none⟩,
    ⟨(some 98), (.mov (.tmp 16)), none⟩,
    ⟨(some 99), (.iaddr 18 (.tmp 97) (.tmp 98)), none⟩,
    ⟨(some 100), (.load true 18 (.tmp 99)), none⟩,
    ⟨(some 101), (.callv (.tmp 92) [(.tmp 96), (.tmp 100)]), none⟩,
    ⟨(some 102), (.binI .lss .i64 (.tmp 101) (.const (.int .i64 0))), none⟩,
    ⟨(some 103), (.not (.tmp 102)), none⟩] [[], [], [], [1, 2], [3], [], [], [5, 6], [7], [0, 4, 8], [9], [10]])
  (.cond (.tmp 103) (.region 0 [
    ⟨(some 104), (.mov (.tmp 16)), none⟩,
    ⟨(some 105), (.binI .add .i64 (.tmp 104) (.const (.int .i64 1))), none⟩,
    ⟨(some 14), (.mov (.tmp 105)), none⟩]) (.region 0 [
    ⟨(some 106), (.mov (.tmp 16)), none⟩,
    ⟨(some 15), (.mov (.tmp 106)), none⟩]))))))))
  (.seq (.seq (.region 0 [
    ⟨(some 107), (.mov (.tmp 2)), none⟩,
    ⟨(some 17), (.mov (.tmp 107)), none⟩])
  (.block 6 (.loop (.seq (.seq (.region 0 [
    ⟨(some 108), (.mov (.tmp 17)), none⟩,
    ⟨(some 109), (.mov (.tmp 14)), none⟩,
    ⟨(some 110), (.binI .gtr .i64 (.tmp 108) (.tmp 109)), none⟩])
  (.cond (.tmp 110) .skip (.exit 6)))
  (.seq (.block 7 (.dregion 0 [
    ⟨(some 113), (.mov (.tmp 0)), none⟩,
    ⟨(some 114), (.mov (.tmp 17)), none⟩,
    ⟨(some 115), (.mov (.tmp 0)), none⟩,
    ⟨(some 116), (.mov (.tmp 17)), none⟩,
    ⟨(some 117), (.binI .sub .i64 (.tmp 116) (.const (.int .i64 1))), none⟩,
    ⟨(some 118), (.mov (.tmp 0)), none⟩,
    ⟨(some 119), (.mov (.tmp 17)), none⟩,
    ⟨(some 120), (.binI .sub .i64 (.tmp 119) (.const (.int .i64 1))), none⟩,
    ⟨(some 121), (.iaddr 18 (.tmp 118) (.tmp 120)), none⟩,
    ⟨(some 122), (.load true 18 (.tmp 121)), none⟩,
    ⟨(some 123), (.mov (.tmp 0)), none⟩,
    ⟨(some 124), (.mov (.tmp 17)), none⟩,
    ⟨(some 125), (.iaddr 18 (.tmp 123) (.tmp 124)), none⟩,
    ⟨(some 126), (.load true 18 (.tmp 125)), none⟩,
    ⟨(some 127), (.iaddr 18 (.tmp 113) (.tmp 114)), none⟩,
    ⟨none, (.store 18 (.tmp 127) (.tmp 122)), none⟩,
    ⟨(some 128), (.iaddr 18 (.tmp 115) (.tmp 117)), none⟩,
    ⟨none, (.store 18 (.tmp 128) (.tmp 126)), none⟩] [[], [], [], [], [3], [], [], [6], [5, 7], [8], [], [], [10, 11], [12], [0, 1, 0, 1, 5, 6, 7, 8, 9, 13], [14, 9, 0, 1, 5, 6, 7, 8, 9, 13], [2, 4, 0, 1, 2, 3, 4, 5, 6, 7, 8, 9, 10, 11, 12, 13, 14, 15], [16, 13, 15, 0, 1, 2, 3, 4, 5, 6, 7, 8, 9, 10, 11, 12, 13, 14, 15]]))
  (.region 0 [
    ⟨(some 111), (.mov (.tmp 17)), none⟩,
    ⟨(some 112), (.binI .sub .i64 (.tmp 111) (.const (.int .i64 1))), none⟩,
    ⟨(some 17), (.mov (.tmp 112)), none⟩]))))))
  .ret)))) .skip))
def b78_2 : AC := (.region 0 [
    ⟨(some 129), (.mov (.tmp 1)), none⟩,
    ⟨(some 130), (.mov (.tmp 3)), none⟩,
    ⟨(some 131), (.binI .add .i64 (.tmp 129) (.tmp 130)), none⟩,
    ⟨(some 132), (.conv .u64 (.tmp 131)), none⟩,
    ⟨(some 133), (.shf .shr .u64 (.tmp 132) (.const (.int .u64 1))), none⟩,
    ⟨(some 134), (.conv .i64 (.tmp 133)), none⟩,
    ⟨(some 18), (.mov (.tmp 134)), none⟩])
def b78_3 : AC := (.region 0 [
    ⟨(some 135), (.mov (.tmp 18)), none⟩,
    ⟨(some 136), (.mov (.tmp 2)), none⟩,
    ⟨(some 137), (.binI .add .i64 (.tmp 135) (.tmp 136)), none⟩,
    ⟨(some 19), (.mov (.tmp 137)), none⟩])
def b78_4 : AC := (.region 0 [
    ⟨(some 20), (.mov (.const (.int .i64 0))), none⟩,
    ⟨(some 21), (.mov (.const (.int .i64 0))), none⟩])
def b78_5 : AC := (.seq (.region 0 [
    ⟨(some 138), (.mov (.tmp 2)), none⟩,
    ⟨(some 139), (.mov (.tmp 18)), none⟩,
    ⟨(some 140), (.binI .gtr .i64 (.tmp 138) (.tmp 139)), none⟩])
  (.cond (.tmp 140) (.seq (.region 0 [
    ⟨(some 141), (.mov (.tmp 19)), none⟩,
    ⟨(some 142), (.mov (.tmp 3)), none⟩,
    ⟨(some 143), (.binI .sub .i64 (.tmp 141) (.tmp 142)), none⟩,
    ⟨(some 20), (.mov (.tmp 143)), none⟩])
  (.region 0 [
    ⟨(some 144), (.mov (.tmp 18)), none⟩,
    ⟨(some 21), (.mov (.tmp 144)), none⟩])) (.seq (.region 0 [
    ⟨(some 145), (.mov (.tmp 1)), none⟩,
    ⟨(some 20), (.mov (.tmp 145)), none⟩])
  (.region 0 [
    ⟨(some 146), (.mov (.tmp 2)), none⟩,
    ⟨(some 21), (.mov (.tmp 146)), none⟩]))))
def b78_6 : AC := (.region 0 [
    ⟨(some 147), (.mov (.tmp 19)), none⟩,
    ⟨(some 148), (.binI .sub .i64 (.tmp 147) (.const (.int .i64 1))), none⟩,
    ⟨(some 22), (.mov (.tmp 148)), none⟩])
def b78_7 : AC := (.block 8 (.loop (.seq (.seq (.region 0 [
    ⟨(some 149), (.mov (.tmp 20)), none⟩,
    ⟨(some 150), (.mov (.tmp 21)), none⟩,
    ⟨(some 151), (.binI .lss .i64 (.tmp 149) (.tmp 150)), none⟩])
  (.cond (.tmp 151) .skip (.exit 8)))
  (.block 9 (.seq (.region 0 [
    ⟨(some 152), (.mov (.tmp 20)), none⟩,
    ⟨(some 153), (.mov (.tmp 21)), none⟩,
    ⟨(some 154), (.binI .add .i64 (.tmp 152) (.tmp 153)), none⟩,
    ⟨(some 155), (.conv .u64 (.tmp 154)), none⟩,
    ⟨(some 156), (.shf .shr .u64 (.tmp 155) (.const (.int .u64 1))), none⟩,
    ⟨(some 157), (.conv .i64 (.tmp 156)), none⟩,
    ⟨(some 23), (.mov (.tmp 157)), none⟩])
  (.seq (.dregion 0 [
    ⟨(some 158), (.mov (.tmp 4)), none⟩,
    ⟨(some 159), (.mov (.tmp 0)), none⟩,
    ⟨(some 160), (.mov (.tmp 22)), none⟩,
    ⟨(some 161), (.mov (.tmp 23)), none⟩,
    ⟨(some 162), (.binI .sub .i64 (.tmp 160) (.tmp 161)), none⟩,
    ⟨(some 163), (.iaddr 18 (.tmp 159) (.tmp 162)), none⟩,
    ⟨(some 164), (.load true 18 (.tmp 163)), none⟩,
    ⟨(some 165), (.mov (.tmp 0)), none⟩,
    ⟨(some 166), (.mov (.tmp 23)), none⟩,
    ⟨(some 167), (.iaddr 18 (.tmp 165) (.tmp 166)), none⟩,
    ⟨(some 168), (.load true 18 (.tmp 167)), none⟩,
    ⟨(some 169), (.callv (.tmp 158) [(.tmp 164), (.tmp 168)]), none⟩,
    ⟨(some 170), (.binI .lss .i64 (.tmp 169) (.const (.int .i64 0))), none⟩,
    ⟨(some 171), (.not (.tmp 170)), none⟩] [[], [], [], [], [2, 3], [1, 4], [5], [], [], [7, 8], [9], [0, 6, 10], [11], [12]])
  (.cond (.tmp 171) (.region 0 [
    ⟨(some 172), (.mov (.tmp 23)), none⟩,
    ⟨(some 173), (.binI .add .i64 (.tmp 172) (.const (.int .i64 1))), none⟩,
    ⟨(some 20), (.mov (.tmp 173)), none⟩]) (.region 0 [
    ⟨(some 174), (.mov (.tmp 23)), none⟩,
    ⟨(some 21), (.mov (.tmp 174)), none⟩]))))))))
def b78_8 : AC := (.region 0 [
    ⟨(some 175), (.mov (.tmp 19)), none⟩,
    ⟨(some 176), (.mov (.tmp 20)), none⟩,
    ⟨(some 177), (.binI .sub .i64 (.tmp 175) (.tmp 176)), none⟩,
    ⟨(some 24), (.mov (.tmp 177)), none⟩])
def b78_9 : AC := (.seq (.region 0 [
    ⟨(some 178), (.mov (.tmp 20)), none⟩,
    ⟨(some 179), (.mov (.tmp 2)), none⟩,
    ⟨(some 180), (.binI .lss .i64 (.tmp 178) (.tmp 179)), none⟩,
    ⟨(some 181), (.mov (.tmp 180)), none⟩,
    ⟨(some 182), (.mov (.tmp 2)), (some (181, true))⟩,
    ⟨(some 183), (.mov (.tmp 24)), (some (181, true))⟩,
    ⟨(some 184), (.binI .lss .i64 (.tmp 182) (.tmp 183)), (some (181, true))⟩,
    ⟨(some 185), (.pick (.tmp 181) (.tmp 184) (.const (.bool false))), none⟩])
  (.cond (.tmp 185) (.region 0 [
    ⟨(some 186), (.mov (.tmp 0)), none⟩,
    ⟨(some 187), (.mov (.tmp 20)), none⟩,
    ⟨(some 188), (.mov (.tmp 2)), none⟩,
    ⟨(some 189), (.mov (.tmp 24)), none⟩,
    ⟨(some 190), (.mov (.tmp 4)), none⟩,
    ⟨(some 191), (.call 166 [(.tmp 186), (.tmp 187), (.tmp 188), (.tmp 189), (.tmp 190)]), none⟩]) .skip))
def b78_10 : AC := (.seq (.region 0 [
    ⟨(some 192), (.mov (.tmp 1)), none⟩,
    ⟨(some 193), (.mov (.tmp 20)), none⟩,
    ⟨(some 194), (.binI .lss .i64 (.tmp 192) (.tmp 193)), none⟩,
    ⟨(some 195), (.mov (.tmp 194)), none⟩,
    ⟨(some 196), (.mov (.tmp 20)), (some (195, true))⟩,
    ⟨(some 197), (.mov (.tmp 18)), (some (195, true))⟩,
    ⟨(some 198), (.binI .lss .i64 (.tmp 196) (.tmp 197)), (some (195, true))⟩,
    ⟨(some 199), (.pick (.tmp 195) (.tmp 198) (.const (.bool false))), none⟩])
  (.cond (.tmp 199) (.region 0 [
    ⟨(some 200), (.mov (.tmp 0)), none⟩,
    ⟨(some 201), (.mov (.tmp 1)), none⟩,
    ⟨(some 202), (.mov (.tmp 20)), none⟩,
    ⟨(some 203), (.mov (.tmp 18)), none⟩,
    ⟨(some 204), (.mov (.tmp 4)), none⟩,
    ⟨(some 205), (.call 155 [(.tmp 200), (.tmp 201), (.tmp 202), (.tmp 203), (.tmp 204)]), none⟩]) .skip))
def b78_11 : AC := (.region 0 [
    ⟨(some 206), (.mov (.tmp 18)), none⟩,
    ⟨(some 207), (.mov (.tmp 24)), none⟩,
    ⟨(some 208), (.binI .lss .i64 (.tmp 206) (.tmp 207)), none⟩,
    ⟨(some 209), (.mov (.tmp 208)), none⟩,
    ⟨(some 210), (.mov (.tmp 24)), (some (209, true))⟩,
    ⟨(some 211), (.mov (.tmp 3)), (some (209, true))⟩,
    ⟨(some 212), (.binI .lss .i64 (.tmp 210) (.tmp 211)), (some (209, true))⟩,
    ⟨(some 213), (.pick (.tmp 209) (.tmp 212) (.const (.bool false))), none⟩])
def b78_12 : AC := (.cond (.tmp 213) (.region 0 [
    ⟨(some 214), (.mov (.tmp 0)), none⟩,
    ⟨(some 215), (.mov (.tmp 18)), none⟩,
    ⟨(some 216), (.mov (.tmp 24)), none⟩,
    ⟨(some 217), (.mov (.tmp 3)), none⟩,
    ⟨(some 218), (.mov (.tmp 4)), none⟩,
    ⟨(some 219), (.call 155 [(.tmp 214), (.tmp 215), (.tmp 216), (.tmp 217), (.tmp 218)]), none⟩]) .skip)
/-- slices.symMergeCmpFunc[voussoir/api.Edit] -/
def b78 : AC := (.seq b78_0 (.seq b78_1 (.seq b78_2 (.seq b78_3 (.seq b78_4 (.seq b78_5 (.seq b78_6 (.seq b78_7 (.seq b78_8 (.seq b78_9 (.seq b78_10 (.seq b78_11 b78_12))))))))))))
def ir78 : AF := ⟨220, [], b78⟩
theorem c78 : compF tt Tryz.f155 = some ir78 := by kernel_rfl
/-- cmp.isNaN[int] -/
def b65 : AC := (.seq (.region 0 [
    ⟨(some 2), (.mov (.const (.bool false))), none⟩])
  (.seq (.region 0 [
    ⟨(some 3), (.mov (.tmp 0)), none⟩,
    ⟨(some 4), (.mov (.tmp 0)), none⟩,
    ⟨(some 5), (.binI .neq .i64 (.tmp 3) (.tmp 4)), none⟩,
    ⟨(some 2), (.mov (.tmp 5)), none⟩])
  .ret))
def ir65 : AF := ⟨6, [(.tmp 2)], b65⟩
theorem c65 : compF tt Tryz.f156 = some ir65 := by kernel_rfl
/-- slices.rotateCmpFunc[voussoir/api.Edit] -/
def b95 : AC := (.seq (.region 0 [
    ⟨(some 12), (.mov (.tmp 2)), none⟩,
    ⟨(some 13), (.mov (.tmp 1)), none⟩,
    ⟨(some 14), (.binI .sub .i64 (.tmp 12) (.tmp 13)), none⟩,
    ⟨(some 10), (.mov (.tmp 14)), none⟩])
  (.seq (.region 0 [
    ⟨(some 15), (.mov (.tmp 3)), none⟩,
    ⟨(some 16), (.mov (.tmp 2)), none⟩,
    ⟨(some 17), (.binI .sub .i64 (.tmp 15) (.tmp 16)), none⟩,
    ⟨(some 11), (.mov (.tmp 17)), none⟩])
  (.seq (.block 0 (.loop (.seq (.seq (.region 0 [
    ⟨(some 18), (.mov (.tmp 10)), none⟩,
    ⟨(some 19), (.mov (.tmp 11)), none⟩,
    ⟨(some 20), (.binI .neq .i64 (.tmp 18) (.tmp 19)), none⟩])
  (.cond (.tmp 20) .skip (.exit 0)))
  (.block 1 (.seq (.region 0 [
    ⟨(some 21), (.mov (.tmp 10)), none⟩,
    ⟨(some 22), (.mov (.tmp 11)), none⟩,
    ⟨(some 23), (.binI .gtr .i64 (.tmp 21) (.tmp 22)), none⟩])
  (.cond (.tmp 23) (.seq (.region 0 [
    ⟨(some 24), (.mov (.tmp 0)), none⟩,
    ⟨(some 25), (.mov (.tmp 2)), none⟩,
    ⟨(some 26), (.mov (.tmp 10)), none⟩,
    ⟨(some 27), (.binI .sub .i64 (.tmp 25) (.tmp 26)), none⟩,
    ⟨(some 28), (.mov (.tmp 2)), none⟩,
    ⟨(some 29), (.mov (.tmp 11)), none⟩,
    ⟨(some 30), (.mov (.tmp 4)), none⟩,
    ⟨(some 31), (.call 172 [(.tmp 24), (.tmp 27), (.tmp 28), (.tmp 29), (.tmp 30)]), none⟩])
  (.region 0 [
    ⟨(some 32), (.mov (.tmp 10)), none⟩,
    ⟨(some 33), (.mov (.tmp 11)), none⟩,
    ⟨(some 34), (.binI .sub .i64 (.tmp 32) (.tmp 33)), none⟩,
    ⟨(some 10), (.mov (.tmp 34)), none⟩])) (.seq (.region 0 [
    ⟨(some 35), (.mov (.tmp 0)), none⟩,
    ⟨(some 36), (.mov (.tmp 2)), none⟩,
    ⟨(some 37), (.mov (.tmp 10)), none⟩,
    ⟨(some 38), (.binI .sub .i64 (.tmp 36) (.tmp 37)), none⟩,
    ⟨(some 39), (.mov (.tmp 2)), none⟩,
    ⟨(some 40), (.mov (.tmp 11)), none⟩,
    ⟨(some 41), (.binI .add .i64 (.tmp 39) (.tmp 40)), none⟩,
    ⟨(some 42), (.mov (.tmp 10)), none⟩,
    ⟨(some 43), (.binI .sub .i64 (.tmp 41) (.tmp 42)), none⟩,
    ⟨(some 44), (.mov (.tmp 10)), none⟩,
    ⟨(some 45), (.mov (.tmp 4)), none⟩,
    ⟨(some 46), (.call 172 [(.tmp 35), (.tmp 38), (.tmp 43), (.tmp 44), (.tmp 45)]), none⟩])
  (.region 0 [
    ⟨(some 47), (.mov (.tmp 11)), none⟩,
    ⟨(some 48), (.mov (.tmp 10)), none⟩,
    ⟨(some 49), (.binI .sub .i64 (.tmp 47) (.tmp 48)), none⟩,
    ⟨(some 11), (.mov (.tmp 49)), none⟩]))))))))
  (.region 0 [
    ⟨(some 50), (.mov (.tmp 0)), none⟩,
    ⟨(some 51), (.mov (.tmp 2)), none⟩,
    ⟨(some 52), (.mov (.tmp 10)), none⟩,
    ⟨(some 53), (.binI .sub .i64 (.tmp 51) (.tmp 52)), none⟩,
    ⟨(some 54), (.mov (.tmp 2)), none⟩,
    ⟨(some 55), (.mov (.tmp 10)), none⟩,
    ⟨(some 56), (.mov (.tmp 4)), none⟩,
    ⟨(some 57), (.call 172 [(.tmp 50), (.tmp 53), (.tmp 54), (.tmp 55), (.tmp 56)]), none⟩]))))
def ir95 : AF := ⟨58, [], b95⟩
theorem c95 : compF tt Tryz.f166 = some ir95 := by kernel_rfl
/-- slices.swapRangeCmpFunc[voussoir/api.Edit] -/
def b103 : AC := (.seq (.region 0 [
    ⟨(some 10), (.mov (.const (.int .i64 0))), none⟩])
  (.block 0 (.loop (.seq (.seq (.region 0 [
    ⟨(some 11), (.mov (.tmp 10)), none⟩,
    ⟨(some 12), (.mov (.tmp 3)), none⟩,
    ⟨(some 13), (.binI .lss .i64 (.tmp 11) (.tmp 12)), none⟩])
  (.cond (.tmp 13) .skip (.exit 0)))
  (.seq (.block 1 (.dregion 0 [
    ⟨(some 16), (.mov (.tmp 0)), none⟩,
    ⟨(some 17), (.mov (.tmp 1)), none⟩,
    ⟨(some 18), (.mov (.tmp 10)), none⟩,
    ⟨(some 19), (.binI .add .i64 (.tmp 17) (.tmp 18)), none⟩,
    ⟨(some 20), (.mov (.tmp 0)), none⟩,
    ⟨(some 21), (.mov (.tmp 2)), none⟩,
    ⟨(some 22), (.mov (.tmp 10)), none⟩,
    ⟨(some 23), (.binI .add .i64 (.tmp 21) (.tmp 22)), none⟩,
    ⟨(some 24), (.mov (.tmp 0)), none⟩,
    ⟨(some 25), (.mov (.tmp 2)), none⟩,
    ⟨(some 26), (.mov (.tmp 10)), none⟩,
    ⟨(some 27), (.binI .add .i64 (.tmp 25) (.tmp 26)), none⟩,
    ⟨(some 28), (.iaddr 18 (.tmp 24) (.tmp 27)), none⟩,
    ⟨(some 29), (.load true 18 (.tmp 28)), none⟩,
    ⟨(some 30), (.mov (.tmp 0)), none⟩,
    ⟨(some 31), (.mov (.tmp 1)), none⟩,
    ⟨(some 32), (.mov (.tmp 10)), none⟩,
    ⟨(some 33), (.binI .add .i64 (.tmp 31) (.tmp 32)), none⟩,
    ⟨(some 34), (.iaddr 18 (.tmp 30) (.tmp 33)), none⟩,
    ⟨(some 35), (.load true 18 (.tmp 34)), none⟩,
    ⟨(some 36), (.iaddr 18 (.tmp 16) (.tmp 19)), none⟩,
    ⟨none, (.store 18 (.tmp 36) (.tmp 29)), none⟩,
    ⟨(some 37), (.iaddr 18 (.tmp 20) (.tmp 23)), none⟩,
    ⟨none, (.store 18 (.tmp 37) (.tmp 35)), none⟩] [[], [], [], [1, 2], [], [], [], [5, 6], [], [], [], [9, 10], [8, 11], [12], [], [], [], [15, 16], [14, 17], [18], [0, 3, 0, 1, 2, 3, 8, 9, 10, 11, 12, 13, 19], [20, 13, 0, 1, 2, 3, 8, 9, 10, 11, 12, 13, 19], [4, 7, 0, 1, 2, 3, 4, 5, 6, 7, 8, 9, 10, 11, 12, 13, 14, 15, 16, 17, 18, 19, 20, 21], [22, 19, 21, 0, 1, 2, 3, 4, 5, 6, 7, 8, 9, 10, 11, 12, 13, 14, 15, 16, 17, 18, 19, 20, 21]]))
  (.region 0 [
    ⟨(some 14), (.mov (.tmp 10)), none⟩,
    ⟨(some 15), (.binI .add .i64 (.tmp 14) (.const (.int .i64 1))), none⟩,
    ⟨(some 10), (.mov (.tmp 15)), none⟩]))))))
def ir103 : AF := ⟨38, [], b103⟩
theorem c103 : compF tt Tryz.f172 = some ir103 := by kernel_rfl
end Go.Aw.Try

namespace Go.Aw
open Go
variable {P : Program} {G : Gl}

theorem acalls_of_calls {f : Nat} {xs : List Value} {r : Value} (hc : Callable P f) (hone : r.oneCell' = true) (h : ∀ w, Calls P f xs.toArray w fun e w' => e = .returned r ∧ w' = w) (H : List O) :
    ACalls P G f (xs.map fun x => .c (.d (.v x))) H fun t H' => t = .val r ∧ H' = H := by
  refine ⟨hc, fun ρ w vs hH hG hv => ?_⟩
  have : vs = xs.toArray := by
    apply Array.ext
    · rw [hv.1]; simp
    · intro i h1 h2
      have hx : (xs.map fun x => V.c (.d (.v x)))[i]? = some (.c (.d (.v (xs[i]'(by simpa using h2))))) := by simp [show i < xs.length by simpa using h2]
      have := hv.2 i _ vs[i] hx (by simp)
      simpa using drel_v this
  subst this
  exact (h w).mono fun e w' ⟨e1, e2⟩ => by
    subst e2
    exact ⟨r, _, ρ, H, e1, ⟨rfl, rfl⟩, hH, DRel.v _ hone, .refl _⟩

theorem callable_of {f : Nat} {fn : Func} (hf : P.funcs[f]? = some fn) (h1 : fn.body.isNone = false) (h2 : (fn.name == "runtime.NumGoroutine") = false) : Callable P f := ⟨fn, hf, h1, h2⟩

theorem fin_here {N0 : Nat} {R : T → List O → Prop} {t : T} {H : List O} (hN : N0 ≤ H.length) (h : R t H) : Fin P N0 R t H :=
  ⟨t, H, ⟨hN, fun ρ w v hH ht => ⟨ρ, hH, ht, fun _ _ => rfl, fun _ h => h⟩⟩, h⟩
end Go.Aw

namespace Go.Proofs
open Go
set_option maxHeartbeats 1000000 in
set_option maxRecDepth 100000 in
theorem Try.calls66 (a b : ByteArray) (w : World) :
    Calls Tryz.prog 123 #[.string a, .string b] w fun e w' => e = .returned (.int .i64 (Lib.compareBytes a.data.toList b.data.toList)) ∧ w' = w := by
  have mixed := Checked.mixed Tryz.checked
  go_enter Tryz.func123, Tryz.ntmps123
  go_wp2
  rw [run_callFunc_extern Tryz.func148 (by kernel_rfl) (by kernel_rfl) (by kernel_rfl) (e := Extern.BytealgCompare.compare) (by kernel_rfl), Lib.run_compareString]
  simp only [Result.andThen]
  rw [Oper.upon_value]
  go_wp2
  go_ret
  exact ⟨rfl, rfl⟩
end Go.Proofs
