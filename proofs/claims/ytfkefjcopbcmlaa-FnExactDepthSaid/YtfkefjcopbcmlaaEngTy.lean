/- The types of this program, as the engine reads them: a table, and that the program has it so. -/
import Derived.Test.YtfkefjcopbcmlaaEngU
import Derived.Test.YtfkefjcopbcmlaaProg
namespace Go.Proofs.Ytfkefjcopbcmlaa
open Go Go.RowKit
set_option maxRecDepth 100000

def tyL : List (Nat × TyE) := [
  (1, ⟨.sc, 1, 8, []⟩),
  (2, ⟨.it .i64, 1, 8, [.int .i64 0]⟩),
  (3, ⟨.it .i64, 1, 8, [.int .i64 0]⟩),
  (4, ⟨.bo, 1, 1, [.bool false]⟩),
  (5, ⟨.it .u8, 1, 1, [.int .u8 0]⟩),
  (6, ⟨.it .u8, 1, 1, [.int .u8 0]⟩),
  (7, ⟨.st [(0, 2), (1, 3), (2, 4), (3, 6)], 4, 24, [.int .i64 0, .int .i64 0, .bool false, .int .u8 0]⟩),
  (8, ⟨.st [(0, 2), (1, 3), (2, 4), (3, 6)], 4, 24, [.int .i64 0, .int .i64 0, .bool false, .int .u8 0]⟩),
  (9, ⟨.ss, 1, 16, [.str ByteArray.empty]⟩),
  (10, ⟨.ss, 1, 16, [.str ByteArray.empty]⟩),
  (11, ⟨.ss, 1, 16, [.str ByteArray.empty]⟩),
  (12, ⟨.it .u64, 1, 8, [.int .u64 0]⟩),
  (13, ⟨.st [(0, 9), (1, 12)], 2, 24, [.str ByteArray.empty, .int .u64 0]⟩),
  (14, ⟨.st [(0, 9), (1, 12)], 2, 24, [.str ByteArray.empty, .int .u64 0]⟩),
  (15, ⟨.sc, 1, 8, []⟩),
  (16, ⟨.sc, 1, 8, []⟩),
  (17, ⟨.sc, 1, 8, []⟩),
  (18, ⟨.st [(0, 17)], 1, 8, []⟩),
  (19, ⟨.st [(0, 17)], 1, 8, []⟩),
  (20, ⟨.sc, 1, 16, []⟩),
  (21, ⟨.it .i32, 1, 4, [.int .i32 0]⟩),
  (22, ⟨.sl 5, 1, 24, [.nl 5]⟩),
  (23, ⟨.sc, 1, 8, []⟩),
  (24, ⟨.sl 36, 1, 24, [.nl 36]⟩),
  (25, ⟨.sl 40, 1, 24, [.nl 40]⟩),
  (26, ⟨.st [(0, 24), (1, 25)], 2, 48, [.nl 36, .nl 40]⟩),
  (27, ⟨.st [(0, 24), (1, 25)], 2, 48, [.nl 36, .nl 40]⟩),
  (28, ⟨.sc, 1, 8, []⟩),
  (30, ⟨.sc, 1, 8, []⟩),
  (31, ⟨.sc, 1, 8, []⟩),
  (32, ⟨.sl 121, 1, 24, [.nl 121]⟩),
  (34, ⟨.sc, 1, 8, []⟩),
  (35, ⟨.st [(0, 3), (1, 3), (2, 3)], 3, 24, [.int .i64 0, .int .i64 0, .int .i64 0]⟩),
  (36, ⟨.st [(0, 3), (1, 3), (2, 3)], 3, 24, [.int .i64 0, .int .i64 0, .int .i64 0]⟩),
  (38, ⟨.sc, 1, 8, []⟩),
  (39, ⟨.st [(0, 3), (1, 3), (2, 32)], 3, 40, [.int .i64 0, .int .i64 0, .nl 121]⟩),
  (40, ⟨.st [(0, 3), (1, 3), (2, 32)], 3, 40, [.int .i64 0, .int .i64 0, .nl 121]⟩),
  (42, ⟨.sc, 1, 8, []⟩),
  (44, ⟨.sc, 1, 8, []⟩),
  (45, ⟨.sl 4, 1, 24, [.nl 4]⟩),
  (46, ⟨.sl 50, 1, 24, [.nl 50]⟩),
  (48, ⟨.sc, 1, 8, []⟩),
  (49, ⟨.st [(0, 3), (1, 3), (2, 3)], 3, 24, [.int .i64 0, .int .i64 0, .int .i64 0]⟩),
  (50, ⟨.st [(0, 3), (1, 3), (2, 3)], 3, 24, [.int .i64 0, .int .i64 0, .int .i64 0]⟩),
  (51, ⟨.sc, 1, 8, []⟩),
  (52, ⟨.sl 168, 1, 24, [.nl 168]⟩),
  (53, ⟨.ar 4 3, 4, 32, [.int .i64 0, .int .i64 0, .int .i64 0, .int .i64 0]⟩),
  (54, ⟨.sl 186, 1, 24, [.nl 186]⟩),
  (55, ⟨.sl 86, 1, 24, [.nl 86]⟩),
  (56, ⟨.st [(0, 3), (1, 52), (2, 3), (3, 53), (7, 54), (8, 3), (9, 55), (10, 3), (11, 3), (12, 3), (13, 3)], 14, 160, [.int .i64 0, .nl 168, .int .i64 0, .int .i64 0, .int .i64 0, .int .i64 0, .int .i64 0, .nl 186, .int .i64 0, .nl 86, .int .i64 0, .int .i64 0, .int .i64 0, .int .i64 0]⟩),
  (57, ⟨.st [(0, 3), (1, 52), (2, 3), (3, 53), (7, 54), (8, 3), (9, 55), (10, 3), (11, 3), (12, 3), (13, 3)], 14, 160, [.int .i64 0, .nl 168, .int .i64 0, .int .i64 0, .int .i64 0, .int .i64 0, .int .i64 0, .nl 186, .int .i64 0, .nl 86, .int .i64 0, .int .i64 0, .int .i64 0, .int .i64 0]⟩),
  (58, ⟨.sc, 1, 8, []⟩),
  (59, ⟨.sc, 1, 8, []⟩),
  (60, ⟨.sl 166, 1, 24, [.nl 166]⟩),
  (61, ⟨.st [(0, 3), (1, 60), (2, 3), (3, 53), (7, 32), (8, 3), (9, 46), (10, 3), (11, 3), (12, 3), (13, 3)], 14, 160, [.int .i64 0, .nl 166, .int .i64 0, .int .i64 0, .int .i64 0, .int .i64 0, .int .i64 0, .nl 121, .int .i64 0, .nl 50, .int .i64 0, .int .i64 0, .int .i64 0, .int .i64 0]⟩),
  (62, ⟨.st [(0, 3), (1, 60), (2, 3), (3, 53), (7, 32), (8, 3), (9, 46), (10, 3), (11, 3), (12, 3), (13, 3)], 14, 160, [.int .i64 0, .nl 166, .int .i64 0, .int .i64 0, .int .i64 0, .int .i64 0, .int .i64 0, .nl 121, .int .i64 0, .nl 50, .int .i64 0, .int .i64 0, .int .i64 0, .int .i64 0]⟩),
  (63, ⟨.sc, 1, 8, []⟩),
  (64, ⟨.sc, 1, 8, []⟩),
  (65, ⟨.sc, 1, 8, []⟩),
  (66, ⟨.sl 3, 1, 24, [.nl 3]⟩),
  (67, ⟨.sc, 1, 8, []⟩),
  (68, ⟨.sc, 1, 8, []⟩),
  (69, ⟨.sc, 1, 8, []⟩),
  (70, ⟨.sc, 1, 8, []⟩),
  (71, ⟨.sc, 1, 8, []⟩),
  (72, ⟨.sc, 1, 8, []⟩),
  (73, ⟨.sc, 1, 8, []⟩),
  (74, ⟨.sl 191, 1, 24, [.nl 191]⟩),
  (75, ⟨.sl 157, 1, 24, [.nl 157]⟩),
  (76, ⟨.st [(0, 74), (1, 75)], 2, 48, [.nl 191, .nl 157]⟩),
  (77, ⟨.st [(0, 74), (1, 75)], 2, 48, [.nl 191, .nl 157]⟩),
  (78, ⟨.sc, 1, 8, []⟩),
  (79, ⟨.sc, 1, 8, []⟩),
  (80, ⟨.sc, 1, 8, []⟩),
  (81, ⟨.sc, 1, 8, []⟩),
  (83, ⟨.sc, 1, 8, []⟩),
  (84, ⟨.sc, 1, 8, []⟩),
  (85, ⟨.sc, 1, 8, []⟩),
  (86, ⟨.st [(0, 3), (1, 3), (2, 3)], 3, 24, [.int .i64 0, .int .i64 0, .int .i64 0]⟩),
  (87, ⟨.sc, 1, 8, []⟩),
  (88, ⟨.sc, 1, 8, []⟩),
  (89, ⟨.sc, 1, 8, []⟩),
  (90, ⟨.sl 62, 1, 24, [.nl 62]⟩),
  (91, ⟨.sl 151, 1, 24, [.nl 151]⟩),
  (92, ⟨.st [(0, 66), (1, 27), (3, 90), (4, 91)], 5, 120, [.nl 3, .nl 36, .nl 40, .nl 62, .nl 151]⟩),
  (93, ⟨.st [(0, 66), (1, 27), (3, 90), (4, 91)], 5, 120, [.nl 3, .nl 36, .nl 40, .nl 62, .nl 151]⟩),
  (94, ⟨.sc, 1, 8, []⟩),
  (96, ⟨.sc, 1, 8, []⟩),
  (97, ⟨.sc, 1, 8, []⟩),
  (98, ⟨.sc, 1, 8, []⟩),
  (100, ⟨.sc, 1, 8, []⟩),
  (101, ⟨.sc, 1, 8, []⟩),
  (102, ⟨.sc, 1, 8, []⟩),
  (103, ⟨.sc, 1, 8, []⟩),
  (104, ⟨.sc, 1, 8, []⟩),
  (105, ⟨.sc, 1, 8, []⟩),
  (106, ⟨.sc, 1, 8, []⟩),
  (108, ⟨.sc, 1, 8, []⟩),
  (109, ⟨.sc, 1, 8, []⟩),
  (110, ⟨.sc, 1, 8, []⟩),
  (111, ⟨.sc, 1, 8, []⟩),
  (112, ⟨.sc, 1, 8, []⟩),
  (113, ⟨.sc, 1, 8, []⟩),
  (114, ⟨.sc, 1, 8, []⟩),
  (115, ⟨.sc, 1, 8, []⟩),
  (116, ⟨.sc, 1, 8, []⟩),
  (117, ⟨.sc, 1, 8, []⟩),
  (118, ⟨.sc, 1, 8, []⟩),
  (119, ⟨.sc, 1, 8, []⟩),
  (120, ⟨.st [(0, 3), (1, 3), (2, 3), (3, 3), (4, 4)], 5, 40, [.int .i64 0, .int .i64 0, .int .i64 0, .int .i64 0, .bool false]⟩),
  (121, ⟨.st [(0, 3), (1, 3), (2, 3), (3, 3), (4, 4)], 5, 40, [.int .i64 0, .int .i64 0, .int .i64 0, .int .i64 0, .bool false]⟩),
  (122, ⟨.sc, 1, 8, []⟩),
  (123, ⟨.sc, 1, 8, []⟩),
  (124, ⟨.sc, 1, 8, []⟩),
  (125, ⟨.sc, 1, 8, []⟩),
  (126, ⟨.sc, 1, 8, []⟩),
  (127, ⟨.sc, 1, 8, []⟩),
  (128, ⟨.sc, 1, 8, []⟩),
  (129, ⟨.sc, 1, 8, []⟩),
  (130, ⟨.sc, 1, 8, []⟩),
  (131, ⟨.sc, 1, 8, []⟩),
  (132, ⟨.sc, 1, 8, []⟩),
  (133, ⟨.sc, 1, 8, []⟩),
  (134, ⟨.sc, 1, 8, []⟩),
  (135, ⟨.sc, 1, 8, []⟩),
  (136, ⟨.sc, 1, 8, []⟩),
  (137, ⟨.sc, 1, 8, []⟩),
  (138, ⟨.sc, 1, 8, []⟩),
  (139, ⟨.sc, 1, 8, []⟩),
  (140, ⟨.sc, 1, 8, []⟩),
  (141, ⟨.sc, 1, 8, []⟩),
  (142, ⟨.sc, 1, 8, []⟩),
  (143, ⟨.sc, 1, 8, []⟩),
  (144, ⟨.sc, 1, 8, []⟩),
  (145, ⟨.sc, 1, 8, []⟩),
  (146, ⟨.sc, 1, 8, []⟩),
  (147, ⟨.sc, 1, 8, []⟩),
  (148, ⟨.sc, 1, 8, []⟩),
  (149, ⟨.sc, 1, 8, []⟩),
  (150, ⟨.st [(0, 3), (1, 3), (2, 3), (3, 3)], 4, 32, [.int .i64 0, .int .i64 0, .int .i64 0, .int .i64 0]⟩),
  (151, ⟨.st [(0, 3), (1, 3), (2, 3), (3, 3)], 4, 32, [.int .i64 0, .int .i64 0, .int .i64 0, .int .i64 0]⟩),
  (152, ⟨.sc, 1, 8, []⟩),
  (153, ⟨.sc, 1, 8, []⟩),
  (154, ⟨.sc, 1, 8, []⟩),
  (155, ⟨.sc, 1, 8, []⟩),
  (156, ⟨.st [(0, 3), (1, 3), (2, 54)], 3, 40, [.int .i64 0, .int .i64 0, .nl 186]⟩),
  (157, ⟨.st [(0, 3), (1, 3), (2, 54)], 3, 40, [.int .i64 0, .int .i64 0, .nl 186]⟩),
  (158, ⟨.sc, 1, 8, []⟩),
  (159, ⟨.sc, 1, 8, []⟩),
  (160, ⟨.sc, 1, 8, []⟩),
  (161, ⟨.sc, 1, 8, []⟩),
  (162, ⟨.sc, 1, 8, []⟩),
  (163, ⟨.sc, 1, 8, []⟩),
  (164, ⟨.sc, 1, 8, []⟩),
  (165, ⟨.st [(0, 3), (1, 3), (2, 3)], 3, 24, [.int .i64 0, .int .i64 0, .int .i64 0]⟩),
  (166, ⟨.st [(0, 3), (1, 3), (2, 3)], 3, 24, [.int .i64 0, .int .i64 0, .int .i64 0]⟩),
  (167, ⟨.sc, 1, 8, []⟩),
  (168, ⟨.st [(0, 3), (1, 3), (2, 3)], 3, 24, [.int .i64 0, .int .i64 0, .int .i64 0]⟩),
  (169, ⟨.sc, 1, 8, []⟩),
  (170, ⟨.sc, 1, 8, []⟩),
  (171, ⟨.sc, 1, 8, []⟩),
  (172, ⟨.sc, 1, 8, []⟩),
  (174, ⟨.sc, 1, 8, []⟩),
  (175, ⟨.st [(0, 22), (1, 3), (2, 3)], 3, 40, [.nl 5, .int .i64 0, .int .i64 0]⟩),
  (176, ⟨.st [(0, 22), (1, 3), (2, 3)], 3, 40, [.nl 5, .int .i64 0, .int .i64 0]⟩),
  (177, ⟨.sc, 1, 8, []⟩),
  (178, ⟨.sc, 1, 8, []⟩),
  (179, ⟨.sc, 1, 8, []⟩),
  (180, ⟨.sc, 1, 8, []⟩),
  (181, ⟨.it .u64, 1, 8, [.int .u64 0]⟩),
  (182, ⟨.sc, 1, 8, []⟩),
  (183, ⟨.sc, 1, 8, []⟩),
  (184, ⟨.sc, 1, 8, []⟩),
  (185, ⟨.sc, 1, 8, []⟩),
  (186, ⟨.st [(0, 3), (1, 3), (2, 3), (3, 3), (4, 4)], 5, 40, [.int .i64 0, .int .i64 0, .int .i64 0, .int .i64 0, .bool false]⟩),
  (187, ⟨.sc, 1, 8, []⟩),
  (188, ⟨.sc, 1, 8, []⟩),
  (189, ⟨.sc, 1, 8, []⟩),
  (190, ⟨.sc, 1, 8, []⟩),
  (191, ⟨.st [(0, 3), (1, 3), (2, 3)], 3, 24, [.int .i64 0, .int .i64 0, .int .i64 0]⟩),
  (192, ⟨.sl 60, 1, 24, [.nl 60]⟩),
  (193, ⟨.sc, 1, 8, []⟩),
  (195, ⟨.sc, 1, 8, []⟩),
  (196, ⟨.sc, 1, 8, []⟩),
  (197, ⟨.sc, 1, 8, []⟩),
  (198, ⟨.sc, 1, 8, []⟩),
  (199, ⟨.sc, 1, 8, []⟩),
  (200, ⟨.sc, 1, 8, []⟩),
  (201, ⟨.sc, 1, 8, []⟩),
  (202, ⟨.sc, 1, 8, []⟩),
  (203, ⟨.sc, 1, 8, []⟩),
  (204, ⟨.it .i64, 1, 8, [.int .i64 0]⟩),
  (206, ⟨.sc, 1, 8, []⟩),
  (207, ⟨.sc, 1, 8, []⟩),
  (208, ⟨.sc, 1, 8, []⟩),
  (209, ⟨.sc, 1, 8, []⟩),
  (210, ⟨.sc, 1, 8, []⟩),
  (211, ⟨.it .u32, 1, 4, [.int .u32 0]⟩),
  (212, ⟨.sc, 1, 8, []⟩),
  (213, ⟨.it .u64, 1, 8, [.int .u64 0]⟩),
  (214, ⟨.sc, 1, 8, []⟩),
  (215, ⟨.sc, 1, 8, []⟩),
  (216, ⟨.ar 6 3, 6, 48, [.int .i64 0, .int .i64 0, .int .i64 0, .int .i64 0, .int .i64 0, .int .i64 0]⟩),
  (217, ⟨.sc, 1, 8, []⟩),
  (218, ⟨.sc, 1, 8, []⟩),
  (220, ⟨.sc, 1, 8, []⟩),
  (221, ⟨.sc, 1, 8, []⟩),
  (222, ⟨.it .u64, 1, 8, [.int .u64 0]⟩),
  (223, ⟨.sc, 1, 8, []⟩),
  (224, ⟨.sc, 1, 8, []⟩),
  (225, ⟨.sc, 1, 8, []⟩),
  (226, ⟨.sc, 1, 8, []⟩),
  (227, ⟨.sc, 1, 8, []⟩),
  (229, ⟨.sc, 1, 8, []⟩),
  (230, ⟨.sc, 1, 8, []⟩),
  (231, ⟨.sc, 1, 8, []⟩),
  (233, ⟨.sc, 1, 8, []⟩),
  (234, ⟨.sc, 1, 8, []⟩),
  (235, ⟨.sc, 1, 8, []⟩),
  (236, ⟨.sc, 1, 8, []⟩),
  (237, ⟨.sc, 1, 8, []⟩),
  (238, ⟨.sc, 1, 8, []⟩),
  (239, ⟨.st [(0, 17), (1, 17), (2, 17), (3, 9)], 4, 40, []⟩),
  (240, ⟨.st [(0, 17), (1, 17), (2, 17), (3, 9)], 4, 40, []⟩),
  (241, ⟨.ar 0 16, 0, 0, []⟩),
  (242, ⟨.st [(0, 241)], 0, 0, []⟩),
  (243, ⟨.st [(0, 241)], 0, 0, []⟩),
  (244, ⟨.sc, 1, 8, []⟩),
  (245, ⟨.it .u8, 1, 1, [.int .u8 0]⟩),
  (246, ⟨.it .u8, 1, 1, [.int .u8 0]⟩),
  (247, ⟨.sc, 1, 8, []⟩),
  (248, ⟨.sc, 1, 8, []⟩),
  (249, ⟨.it .i32, 1, 4, [.int .i32 0]⟩),
  (250, ⟨.it .i32, 1, 4, [.int .i32 0]⟩),
  (251, ⟨.st [(0, 12), (1, 12), (2, 211), (3, 245), (4, 5), (5, 5), (6, 246), (7, 247), (8, 248), (9, 249), (10, 250)], 11, 48, []⟩),
  (252, ⟨.st [(0, 12), (1, 12), (2, 211), (3, 245), (4, 5), (5, 5), (6, 246), (7, 247), (8, 248), (9, 249), (10, 250)], 11, 48, []⟩)]
def ty : Ty := fun t => (tyL.find? fun p => Nat.beq p.1 t).map (·.2)
@[go_sem] theorem ty_1 : ty 1 = some ⟨.sc, 1, 8, []⟩ := by kernel_rfl
@[go_sem] theorem ty_2 : ty 2 = some ⟨.it .i64, 1, 8, [.int .i64 0]⟩ := by kernel_rfl
@[go_sem] theorem ty_3 : ty 3 = some ⟨.it .i64, 1, 8, [.int .i64 0]⟩ := by kernel_rfl
@[go_sem] theorem ty_4 : ty 4 = some ⟨.bo, 1, 1, [.bool false]⟩ := by kernel_rfl
@[go_sem] theorem ty_5 : ty 5 = some ⟨.it .u8, 1, 1, [.int .u8 0]⟩ := by kernel_rfl
@[go_sem] theorem ty_6 : ty 6 = some ⟨.it .u8, 1, 1, [.int .u8 0]⟩ := by kernel_rfl
@[go_sem] theorem ty_7 : ty 7 = some ⟨.st [(0, 2), (1, 3), (2, 4), (3, 6)], 4, 24, [.int .i64 0, .int .i64 0, .bool false, .int .u8 0]⟩ := by kernel_rfl
@[go_sem] theorem ty_8 : ty 8 = some ⟨.st [(0, 2), (1, 3), (2, 4), (3, 6)], 4, 24, [.int .i64 0, .int .i64 0, .bool false, .int .u8 0]⟩ := by kernel_rfl
@[go_sem] theorem ty_9 : ty 9 = some ⟨.ss, 1, 16, [.str ByteArray.empty]⟩ := by kernel_rfl
@[go_sem] theorem ty_10 : ty 10 = some ⟨.ss, 1, 16, [.str ByteArray.empty]⟩ := by kernel_rfl
@[go_sem] theorem ty_11 : ty 11 = some ⟨.ss, 1, 16, [.str ByteArray.empty]⟩ := by kernel_rfl
@[go_sem] theorem ty_12 : ty 12 = some ⟨.it .u64, 1, 8, [.int .u64 0]⟩ := by kernel_rfl
@[go_sem] theorem ty_13 : ty 13 = some ⟨.st [(0, 9), (1, 12)], 2, 24, [.str ByteArray.empty, .int .u64 0]⟩ := by kernel_rfl
@[go_sem] theorem ty_14 : ty 14 = some ⟨.st [(0, 9), (1, 12)], 2, 24, [.str ByteArray.empty, .int .u64 0]⟩ := by kernel_rfl
@[go_sem] theorem ty_15 : ty 15 = some ⟨.sc, 1, 8, []⟩ := by kernel_rfl
@[go_sem] theorem ty_16 : ty 16 = some ⟨.sc, 1, 8, []⟩ := by kernel_rfl
@[go_sem] theorem ty_17 : ty 17 = some ⟨.sc, 1, 8, []⟩ := by kernel_rfl
@[go_sem] theorem ty_18 : ty 18 = some ⟨.st [(0, 17)], 1, 8, []⟩ := by kernel_rfl
@[go_sem] theorem ty_19 : ty 19 = some ⟨.st [(0, 17)], 1, 8, []⟩ := by kernel_rfl
@[go_sem] theorem ty_20 : ty 20 = some ⟨.sc, 1, 16, []⟩ := by kernel_rfl
@[go_sem] theorem ty_21 : ty 21 = some ⟨.it .i32, 1, 4, [.int .i32 0]⟩ := by kernel_rfl
@[go_sem] theorem ty_22 : ty 22 = some ⟨.sl 5, 1, 24, [.nl 5]⟩ := by kernel_rfl
@[go_sem] theorem ty_23 : ty 23 = some ⟨.sc, 1, 8, []⟩ := by kernel_rfl
@[go_sem] theorem ty_24 : ty 24 = some ⟨.sl 36, 1, 24, [.nl 36]⟩ := by kernel_rfl
@[go_sem] theorem ty_25 : ty 25 = some ⟨.sl 40, 1, 24, [.nl 40]⟩ := by kernel_rfl
@[go_sem] theorem ty_26 : ty 26 = some ⟨.st [(0, 24), (1, 25)], 2, 48, [.nl 36, .nl 40]⟩ := by kernel_rfl
@[go_sem] theorem ty_27 : ty 27 = some ⟨.st [(0, 24), (1, 25)], 2, 48, [.nl 36, .nl 40]⟩ := by kernel_rfl
@[go_sem] theorem ty_28 : ty 28 = some ⟨.sc, 1, 8, []⟩ := by kernel_rfl
@[go_sem] theorem ty_30 : ty 30 = some ⟨.sc, 1, 8, []⟩ := by kernel_rfl
@[go_sem] theorem ty_31 : ty 31 = some ⟨.sc, 1, 8, []⟩ := by kernel_rfl
@[go_sem] theorem ty_32 : ty 32 = some ⟨.sl 121, 1, 24, [.nl 121]⟩ := by kernel_rfl
@[go_sem] theorem ty_34 : ty 34 = some ⟨.sc, 1, 8, []⟩ := by kernel_rfl
@[go_sem] theorem ty_35 : ty 35 = some ⟨.st [(0, 3), (1, 3), (2, 3)], 3, 24, [.int .i64 0, .int .i64 0, .int .i64 0]⟩ := by kernel_rfl
@[go_sem] theorem ty_36 : ty 36 = some ⟨.st [(0, 3), (1, 3), (2, 3)], 3, 24, [.int .i64 0, .int .i64 0, .int .i64 0]⟩ := by kernel_rfl
@[go_sem] theorem ty_38 : ty 38 = some ⟨.sc, 1, 8, []⟩ := by kernel_rfl
@[go_sem] theorem ty_39 : ty 39 = some ⟨.st [(0, 3), (1, 3), (2, 32)], 3, 40, [.int .i64 0, .int .i64 0, .nl 121]⟩ := by kernel_rfl
@[go_sem] theorem ty_40 : ty 40 = some ⟨.st [(0, 3), (1, 3), (2, 32)], 3, 40, [.int .i64 0, .int .i64 0, .nl 121]⟩ := by kernel_rfl
@[go_sem] theorem ty_42 : ty 42 = some ⟨.sc, 1, 8, []⟩ := by kernel_rfl
@[go_sem] theorem ty_44 : ty 44 = some ⟨.sc, 1, 8, []⟩ := by kernel_rfl
@[go_sem] theorem ty_45 : ty 45 = some ⟨.sl 4, 1, 24, [.nl 4]⟩ := by kernel_rfl
@[go_sem] theorem ty_46 : ty 46 = some ⟨.sl 50, 1, 24, [.nl 50]⟩ := by kernel_rfl
@[go_sem] theorem ty_48 : ty 48 = some ⟨.sc, 1, 8, []⟩ := by kernel_rfl
@[go_sem] theorem ty_49 : ty 49 = some ⟨.st [(0, 3), (1, 3), (2, 3)], 3, 24, [.int .i64 0, .int .i64 0, .int .i64 0]⟩ := by kernel_rfl
@[go_sem] theorem ty_50 : ty 50 = some ⟨.st [(0, 3), (1, 3), (2, 3)], 3, 24, [.int .i64 0, .int .i64 0, .int .i64 0]⟩ := by kernel_rfl
@[go_sem] theorem ty_51 : ty 51 = some ⟨.sc, 1, 8, []⟩ := by kernel_rfl
@[go_sem] theorem ty_52 : ty 52 = some ⟨.sl 168, 1, 24, [.nl 168]⟩ := by kernel_rfl
@[go_sem] theorem ty_53 : ty 53 = some ⟨.ar 4 3, 4, 32, [.int .i64 0, .int .i64 0, .int .i64 0, .int .i64 0]⟩ := by kernel_rfl
@[go_sem] theorem ty_54 : ty 54 = some ⟨.sl 186, 1, 24, [.nl 186]⟩ := by kernel_rfl
@[go_sem] theorem ty_55 : ty 55 = some ⟨.sl 86, 1, 24, [.nl 86]⟩ := by kernel_rfl
@[go_sem] theorem ty_56 : ty 56 = some ⟨.st [(0, 3), (1, 52), (2, 3), (3, 53), (7, 54), (8, 3), (9, 55), (10, 3), (11, 3), (12, 3), (13, 3)], 14, 160, [.int .i64 0, .nl 168, .int .i64 0, .int .i64 0, .int .i64 0, .int .i64 0, .int .i64 0, .nl 186, .int .i64 0, .nl 86, .int .i64 0, .int .i64 0, .int .i64 0, .int .i64 0]⟩ := by kernel_rfl
@[go_sem] theorem ty_57 : ty 57 = some ⟨.st [(0, 3), (1, 52), (2, 3), (3, 53), (7, 54), (8, 3), (9, 55), (10, 3), (11, 3), (12, 3), (13, 3)], 14, 160, [.int .i64 0, .nl 168, .int .i64 0, .int .i64 0, .int .i64 0, .int .i64 0, .int .i64 0, .nl 186, .int .i64 0, .nl 86, .int .i64 0, .int .i64 0, .int .i64 0, .int .i64 0]⟩ := by kernel_rfl
@[go_sem] theorem ty_58 : ty 58 = some ⟨.sc, 1, 8, []⟩ := by kernel_rfl
@[go_sem] theorem ty_59 : ty 59 = some ⟨.sc, 1, 8, []⟩ := by kernel_rfl
@[go_sem] theorem ty_60 : ty 60 = some ⟨.sl 166, 1, 24, [.nl 166]⟩ := by kernel_rfl
@[go_sem] theorem ty_61 : ty 61 = some ⟨.st [(0, 3), (1, 60), (2, 3), (3, 53), (7, 32), (8, 3), (9, 46), (10, 3), (11, 3), (12, 3), (13, 3)], 14, 160, [.int .i64 0, .nl 166, .int .i64 0, .int .i64 0, .int .i64 0, .int .i64 0, .int .i64 0, .nl 121, .int .i64 0, .nl 50, .int .i64 0, .int .i64 0, .int .i64 0, .int .i64 0]⟩ := by kernel_rfl
@[go_sem] theorem ty_62 : ty 62 = some ⟨.st [(0, 3), (1, 60), (2, 3), (3, 53), (7, 32), (8, 3), (9, 46), (10, 3), (11, 3), (12, 3), (13, 3)], 14, 160, [.int .i64 0, .nl 166, .int .i64 0, .int .i64 0, .int .i64 0, .int .i64 0, .int .i64 0, .nl 121, .int .i64 0, .nl 50, .int .i64 0, .int .i64 0, .int .i64 0, .int .i64 0]⟩ := by kernel_rfl
@[go_sem] theorem ty_63 : ty 63 = some ⟨.sc, 1, 8, []⟩ := by kernel_rfl
@[go_sem] theorem ty_64 : ty 64 = some ⟨.sc, 1, 8, []⟩ := by kernel_rfl
@[go_sem] theorem ty_65 : ty 65 = some ⟨.sc, 1, 8, []⟩ := by kernel_rfl
@[go_sem] theorem ty_66 : ty 66 = some ⟨.sl 3, 1, 24, [.nl 3]⟩ := by kernel_rfl
@[go_sem] theorem ty_67 : ty 67 = some ⟨.sc, 1, 8, []⟩ := by kernel_rfl
@[go_sem] theorem ty_68 : ty 68 = some ⟨.sc, 1, 8, []⟩ := by kernel_rfl
@[go_sem] theorem ty_69 : ty 69 = some ⟨.sc, 1, 8, []⟩ := by kernel_rfl
@[go_sem] theorem ty_70 : ty 70 = some ⟨.sc, 1, 8, []⟩ := by kernel_rfl
@[go_sem] theorem ty_71 : ty 71 = some ⟨.sc, 1, 8, []⟩ := by kernel_rfl
@[go_sem] theorem ty_72 : ty 72 = some ⟨.sc, 1, 8, []⟩ := by kernel_rfl
@[go_sem] theorem ty_73 : ty 73 = some ⟨.sc, 1, 8, []⟩ := by kernel_rfl
@[go_sem] theorem ty_74 : ty 74 = some ⟨.sl 191, 1, 24, [.nl 191]⟩ := by kernel_rfl
@[go_sem] theorem ty_75 : ty 75 = some ⟨.sl 157, 1, 24, [.nl 157]⟩ := by kernel_rfl
@[go_sem] theorem ty_76 : ty 76 = some ⟨.st [(0, 74), (1, 75)], 2, 48, [.nl 191, .nl 157]⟩ := by kernel_rfl
@[go_sem] theorem ty_77 : ty 77 = some ⟨.st [(0, 74), (1, 75)], 2, 48, [.nl 191, .nl 157]⟩ := by kernel_rfl
@[go_sem] theorem ty_78 : ty 78 = some ⟨.sc, 1, 8, []⟩ := by kernel_rfl
@[go_sem] theorem ty_79 : ty 79 = some ⟨.sc, 1, 8, []⟩ := by kernel_rfl
@[go_sem] theorem ty_80 : ty 80 = some ⟨.sc, 1, 8, []⟩ := by kernel_rfl
@[go_sem] theorem ty_81 : ty 81 = some ⟨.sc, 1, 8, []⟩ := by kernel_rfl
@[go_sem] theorem ty_83 : ty 83 = some ⟨.sc, 1, 8, []⟩ := by kernel_rfl
@[go_sem] theorem ty_84 : ty 84 = some ⟨.sc, 1, 8, []⟩ := by kernel_rfl
@[go_sem] theorem ty_85 : ty 85 = some ⟨.sc, 1, 8, []⟩ := by kernel_rfl
@[go_sem] theorem ty_86 : ty 86 = some ⟨.st [(0, 3), (1, 3), (2, 3)], 3, 24, [.int .i64 0, .int .i64 0, .int .i64 0]⟩ := by kernel_rfl
@[go_sem] theorem ty_87 : ty 87 = some ⟨.sc, 1, 8, []⟩ := by kernel_rfl
@[go_sem] theorem ty_88 : ty 88 = some ⟨.sc, 1, 8, []⟩ := by kernel_rfl
@[go_sem] theorem ty_89 : ty 89 = some ⟨.sc, 1, 8, []⟩ := by kernel_rfl
@[go_sem] theorem ty_90 : ty 90 = some ⟨.sl 62, 1, 24, [.nl 62]⟩ := by kernel_rfl
@[go_sem] theorem ty_91 : ty 91 = some ⟨.sl 151, 1, 24, [.nl 151]⟩ := by kernel_rfl
@[go_sem] theorem ty_92 : ty 92 = some ⟨.st [(0, 66), (1, 27), (3, 90), (4, 91)], 5, 120, [.nl 3, .nl 36, .nl 40, .nl 62, .nl 151]⟩ := by kernel_rfl
@[go_sem] theorem ty_93 : ty 93 = some ⟨.st [(0, 66), (1, 27), (3, 90), (4, 91)], 5, 120, [.nl 3, .nl 36, .nl 40, .nl 62, .nl 151]⟩ := by kernel_rfl
@[go_sem] theorem ty_94 : ty 94 = some ⟨.sc, 1, 8, []⟩ := by kernel_rfl
@[go_sem] theorem ty_96 : ty 96 = some ⟨.sc, 1, 8, []⟩ := by kernel_rfl
@[go_sem] theorem ty_97 : ty 97 = some ⟨.sc, 1, 8, []⟩ := by kernel_rfl
@[go_sem] theorem ty_98 : ty 98 = some ⟨.sc, 1, 8, []⟩ := by kernel_rfl
@[go_sem] theorem ty_100 : ty 100 = some ⟨.sc, 1, 8, []⟩ := by kernel_rfl
@[go_sem] theorem ty_101 : ty 101 = some ⟨.sc, 1, 8, []⟩ := by kernel_rfl
@[go_sem] theorem ty_102 : ty 102 = some ⟨.sc, 1, 8, []⟩ := by kernel_rfl
@[go_sem] theorem ty_103 : ty 103 = some ⟨.sc, 1, 8, []⟩ := by kernel_rfl
@[go_sem] theorem ty_104 : ty 104 = some ⟨.sc, 1, 8, []⟩ := by kernel_rfl
@[go_sem] theorem ty_105 : ty 105 = some ⟨.sc, 1, 8, []⟩ := by kernel_rfl
@[go_sem] theorem ty_106 : ty 106 = some ⟨.sc, 1, 8, []⟩ := by kernel_rfl
@[go_sem] theorem ty_108 : ty 108 = some ⟨.sc, 1, 8, []⟩ := by kernel_rfl
@[go_sem] theorem ty_109 : ty 109 = some ⟨.sc, 1, 8, []⟩ := by kernel_rfl
@[go_sem] theorem ty_110 : ty 110 = some ⟨.sc, 1, 8, []⟩ := by kernel_rfl
@[go_sem] theorem ty_111 : ty 111 = some ⟨.sc, 1, 8, []⟩ := by kernel_rfl
@[go_sem] theorem ty_112 : ty 112 = some ⟨.sc, 1, 8, []⟩ := by kernel_rfl
@[go_sem] theorem ty_113 : ty 113 = some ⟨.sc, 1, 8, []⟩ := by kernel_rfl
@[go_sem] theorem ty_114 : ty 114 = some ⟨.sc, 1, 8, []⟩ := by kernel_rfl
@[go_sem] theorem ty_115 : ty 115 = some ⟨.sc, 1, 8, []⟩ := by kernel_rfl
@[go_sem] theorem ty_116 : ty 116 = some ⟨.sc, 1, 8, []⟩ := by kernel_rfl
@[go_sem] theorem ty_117 : ty 117 = some ⟨.sc, 1, 8, []⟩ := by kernel_rfl
@[go_sem] theorem ty_118 : ty 118 = some ⟨.sc, 1, 8, []⟩ := by kernel_rfl
@[go_sem] theorem ty_119 : ty 119 = some ⟨.sc, 1, 8, []⟩ := by kernel_rfl
@[go_sem] theorem ty_120 : ty 120 = some ⟨.st [(0, 3), (1, 3), (2, 3), (3, 3), (4, 4)], 5, 40, [.int .i64 0, .int .i64 0, .int .i64 0, .int .i64 0, .bool false]⟩ := by kernel_rfl
@[go_sem] theorem ty_121 : ty 121 = some ⟨.st [(0, 3), (1, 3), (2, 3), (3, 3), (4, 4)], 5, 40, [.int .i64 0, .int .i64 0, .int .i64 0, .int .i64 0, .bool false]⟩ := by kernel_rfl
@[go_sem] theorem ty_122 : ty 122 = some ⟨.sc, 1, 8, []⟩ := by kernel_rfl
@[go_sem] theorem ty_123 : ty 123 = some ⟨.sc, 1, 8, []⟩ := by kernel_rfl
@[go_sem] theorem ty_124 : ty 124 = some ⟨.sc, 1, 8, []⟩ := by kernel_rfl
@[go_sem] theorem ty_125 : ty 125 = some ⟨.sc, 1, 8, []⟩ := by kernel_rfl
@[go_sem] theorem ty_126 : ty 126 = some ⟨.sc, 1, 8, []⟩ := by kernel_rfl
@[go_sem] theorem ty_127 : ty 127 = some ⟨.sc, 1, 8, []⟩ := by kernel_rfl
@[go_sem] theorem ty_128 : ty 128 = some ⟨.sc, 1, 8, []⟩ := by kernel_rfl
@[go_sem] theorem ty_129 : ty 129 = some ⟨.sc, 1, 8, []⟩ := by kernel_rfl
@[go_sem] theorem ty_130 : ty 130 = some ⟨.sc, 1, 8, []⟩ := by kernel_rfl
@[go_sem] theorem ty_131 : ty 131 = some ⟨.sc, 1, 8, []⟩ := by kernel_rfl
@[go_sem] theorem ty_132 : ty 132 = some ⟨.sc, 1, 8, []⟩ := by kernel_rfl
@[go_sem] theorem ty_133 : ty 133 = some ⟨.sc, 1, 8, []⟩ := by kernel_rfl
@[go_sem] theorem ty_134 : ty 134 = some ⟨.sc, 1, 8, []⟩ := by kernel_rfl
@[go_sem] theorem ty_135 : ty 135 = some ⟨.sc, 1, 8, []⟩ := by kernel_rfl
@[go_sem] theorem ty_136 : ty 136 = some ⟨.sc, 1, 8, []⟩ := by kernel_rfl
@[go_sem] theorem ty_137 : ty 137 = some ⟨.sc, 1, 8, []⟩ := by kernel_rfl
@[go_sem] theorem ty_138 : ty 138 = some ⟨.sc, 1, 8, []⟩ := by kernel_rfl
@[go_sem] theorem ty_139 : ty 139 = some ⟨.sc, 1, 8, []⟩ := by kernel_rfl
@[go_sem] theorem ty_140 : ty 140 = some ⟨.sc, 1, 8, []⟩ := by kernel_rfl
@[go_sem] theorem ty_141 : ty 141 = some ⟨.sc, 1, 8, []⟩ := by kernel_rfl
@[go_sem] theorem ty_142 : ty 142 = some ⟨.sc, 1, 8, []⟩ := by kernel_rfl
@[go_sem] theorem ty_143 : ty 143 = some ⟨.sc, 1, 8, []⟩ := by kernel_rfl
@[go_sem] theorem ty_144 : ty 144 = some ⟨.sc, 1, 8, []⟩ := by kernel_rfl
@[go_sem] theorem ty_145 : ty 145 = some ⟨.sc, 1, 8, []⟩ := by kernel_rfl
@[go_sem] theorem ty_146 : ty 146 = some ⟨.sc, 1, 8, []⟩ := by kernel_rfl
@[go_sem] theorem ty_147 : ty 147 = some ⟨.sc, 1, 8, []⟩ := by kernel_rfl
@[go_sem] theorem ty_148 : ty 148 = some ⟨.sc, 1, 8, []⟩ := by kernel_rfl
@[go_sem] theorem ty_149 : ty 149 = some ⟨.sc, 1, 8, []⟩ := by kernel_rfl
@[go_sem] theorem ty_150 : ty 150 = some ⟨.st [(0, 3), (1, 3), (2, 3), (3, 3)], 4, 32, [.int .i64 0, .int .i64 0, .int .i64 0, .int .i64 0]⟩ := by kernel_rfl
@[go_sem] theorem ty_151 : ty 151 = some ⟨.st [(0, 3), (1, 3), (2, 3), (3, 3)], 4, 32, [.int .i64 0, .int .i64 0, .int .i64 0, .int .i64 0]⟩ := by kernel_rfl
@[go_sem] theorem ty_152 : ty 152 = some ⟨.sc, 1, 8, []⟩ := by kernel_rfl
@[go_sem] theorem ty_153 : ty 153 = some ⟨.sc, 1, 8, []⟩ := by kernel_rfl
@[go_sem] theorem ty_154 : ty 154 = some ⟨.sc, 1, 8, []⟩ := by kernel_rfl
@[go_sem] theorem ty_155 : ty 155 = some ⟨.sc, 1, 8, []⟩ := by kernel_rfl
@[go_sem] theorem ty_156 : ty 156 = some ⟨.st [(0, 3), (1, 3), (2, 54)], 3, 40, [.int .i64 0, .int .i64 0, .nl 186]⟩ := by kernel_rfl
@[go_sem] theorem ty_157 : ty 157 = some ⟨.st [(0, 3), (1, 3), (2, 54)], 3, 40, [.int .i64 0, .int .i64 0, .nl 186]⟩ := by kernel_rfl
@[go_sem] theorem ty_158 : ty 158 = some ⟨.sc, 1, 8, []⟩ := by kernel_rfl
@[go_sem] theorem ty_159 : ty 159 = some ⟨.sc, 1, 8, []⟩ := by kernel_rfl
@[go_sem] theorem ty_160 : ty 160 = some ⟨.sc, 1, 8, []⟩ := by kernel_rfl
@[go_sem] theorem ty_161 : ty 161 = some ⟨.sc, 1, 8, []⟩ := by kernel_rfl
@[go_sem] theorem ty_162 : ty 162 = some ⟨.sc, 1, 8, []⟩ := by kernel_rfl
@[go_sem] theorem ty_163 : ty 163 = some ⟨.sc, 1, 8, []⟩ := by kernel_rfl
@[go_sem] theorem ty_164 : ty 164 = some ⟨.sc, 1, 8, []⟩ := by kernel_rfl
@[go_sem] theorem ty_165 : ty 165 = some ⟨.st [(0, 3), (1, 3), (2, 3)], 3, 24, [.int .i64 0, .int .i64 0, .int .i64 0]⟩ := by kernel_rfl
@[go_sem] theorem ty_166 : ty 166 = some ⟨.st [(0, 3), (1, 3), (2, 3)], 3, 24, [.int .i64 0, .int .i64 0, .int .i64 0]⟩ := by kernel_rfl
@[go_sem] theorem ty_167 : ty 167 = some ⟨.sc, 1, 8, []⟩ := by kernel_rfl
@[go_sem] theorem ty_168 : ty 168 = some ⟨.st [(0, 3), (1, 3), (2, 3)], 3, 24, [.int .i64 0, .int .i64 0, .int .i64 0]⟩ := by kernel_rfl
@[go_sem] theorem ty_169 : ty 169 = some ⟨.sc, 1, 8, []⟩ := by kernel_rfl
@[go_sem] theorem ty_170 : ty 170 = some ⟨.sc, 1, 8, []⟩ := by kernel_rfl
@[go_sem] theorem ty_171 : ty 171 = some ⟨.sc, 1, 8, []⟩ := by kernel_rfl
@[go_sem] theorem ty_172 : ty 172 = some ⟨.sc, 1, 8, []⟩ := by kernel_rfl
@[go_sem] theorem ty_174 : ty 174 = some ⟨.sc, 1, 8, []⟩ := by kernel_rfl
@[go_sem] theorem ty_175 : ty 175 = some ⟨.st [(0, 22), (1, 3), (2, 3)], 3, 40, [.nl 5, .int .i64 0, .int .i64 0]⟩ := by kernel_rfl
@[go_sem] theorem ty_176 : ty 176 = some ⟨.st [(0, 22), (1, 3), (2, 3)], 3, 40, [.nl 5, .int .i64 0, .int .i64 0]⟩ := by kernel_rfl
@[go_sem] theorem ty_177 : ty 177 = some ⟨.sc, 1, 8, []⟩ := by kernel_rfl
@[go_sem] theorem ty_178 : ty 178 = some ⟨.sc, 1, 8, []⟩ := by kernel_rfl
@[go_sem] theorem ty_179 : ty 179 = some ⟨.sc, 1, 8, []⟩ := by kernel_rfl
@[go_sem] theorem ty_180 : ty 180 = some ⟨.sc, 1, 8, []⟩ := by kernel_rfl
@[go_sem] theorem ty_181 : ty 181 = some ⟨.it .u64, 1, 8, [.int .u64 0]⟩ := by kernel_rfl
@[go_sem] theorem ty_182 : ty 182 = some ⟨.sc, 1, 8, []⟩ := by kernel_rfl
@[go_sem] theorem ty_183 : ty 183 = some ⟨.sc, 1, 8, []⟩ := by kernel_rfl
@[go_sem] theorem ty_184 : ty 184 = some ⟨.sc, 1, 8, []⟩ := by kernel_rfl
@[go_sem] theorem ty_185 : ty 185 = some ⟨.sc, 1, 8, []⟩ := by kernel_rfl
@[go_sem] theorem ty_186 : ty 186 = some ⟨.st [(0, 3), (1, 3), (2, 3), (3, 3), (4, 4)], 5, 40, [.int .i64 0, .int .i64 0, .int .i64 0, .int .i64 0, .bool false]⟩ := by kernel_rfl
@[go_sem] theorem ty_187 : ty 187 = some ⟨.sc, 1, 8, []⟩ := by kernel_rfl
@[go_sem] theorem ty_188 : ty 188 = some ⟨.sc, 1, 8, []⟩ := by kernel_rfl
@[go_sem] theorem ty_189 : ty 189 = some ⟨.sc, 1, 8, []⟩ := by kernel_rfl
@[go_sem] theorem ty_190 : ty 190 = some ⟨.sc, 1, 8, []⟩ := by kernel_rfl
@[go_sem] theorem ty_191 : ty 191 = some ⟨.st [(0, 3), (1, 3), (2, 3)], 3, 24, [.int .i64 0, .int .i64 0, .int .i64 0]⟩ := by kernel_rfl
@[go_sem] theorem ty_192 : ty 192 = some ⟨.sl 60, 1, 24, [.nl 60]⟩ := by kernel_rfl
@[go_sem] theorem ty_193 : ty 193 = some ⟨.sc, 1, 8, []⟩ := by kernel_rfl
@[go_sem] theorem ty_195 : ty 195 = some ⟨.sc, 1, 8, []⟩ := by kernel_rfl
@[go_sem] theorem ty_196 : ty 196 = some ⟨.sc, 1, 8, []⟩ := by kernel_rfl
@[go_sem] theorem ty_197 : ty 197 = some ⟨.sc, 1, 8, []⟩ := by kernel_rfl
@[go_sem] theorem ty_198 : ty 198 = some ⟨.sc, 1, 8, []⟩ := by kernel_rfl
@[go_sem] theorem ty_199 : ty 199 = some ⟨.sc, 1, 8, []⟩ := by kernel_rfl
@[go_sem] theorem ty_200 : ty 200 = some ⟨.sc, 1, 8, []⟩ := by kernel_rfl
@[go_sem] theorem ty_201 : ty 201 = some ⟨.sc, 1, 8, []⟩ := by kernel_rfl
@[go_sem] theorem ty_202 : ty 202 = some ⟨.sc, 1, 8, []⟩ := by kernel_rfl
@[go_sem] theorem ty_203 : ty 203 = some ⟨.sc, 1, 8, []⟩ := by kernel_rfl
@[go_sem] theorem ty_204 : ty 204 = some ⟨.it .i64, 1, 8, [.int .i64 0]⟩ := by kernel_rfl
@[go_sem] theorem ty_206 : ty 206 = some ⟨.sc, 1, 8, []⟩ := by kernel_rfl
@[go_sem] theorem ty_207 : ty 207 = some ⟨.sc, 1, 8, []⟩ := by kernel_rfl
@[go_sem] theorem ty_208 : ty 208 = some ⟨.sc, 1, 8, []⟩ := by kernel_rfl
@[go_sem] theorem ty_209 : ty 209 = some ⟨.sc, 1, 8, []⟩ := by kernel_rfl
@[go_sem] theorem ty_210 : ty 210 = some ⟨.sc, 1, 8, []⟩ := by kernel_rfl
@[go_sem] theorem ty_211 : ty 211 = some ⟨.it .u32, 1, 4, [.int .u32 0]⟩ := by kernel_rfl
@[go_sem] theorem ty_212 : ty 212 = some ⟨.sc, 1, 8, []⟩ := by kernel_rfl
@[go_sem] theorem ty_213 : ty 213 = some ⟨.it .u64, 1, 8, [.int .u64 0]⟩ := by kernel_rfl
@[go_sem] theorem ty_214 : ty 214 = some ⟨.sc, 1, 8, []⟩ := by kernel_rfl
@[go_sem] theorem ty_215 : ty 215 = some ⟨.sc, 1, 8, []⟩ := by kernel_rfl
@[go_sem] theorem ty_216 : ty 216 = some ⟨.ar 6 3, 6, 48, [.int .i64 0, .int .i64 0, .int .i64 0, .int .i64 0, .int .i64 0, .int .i64 0]⟩ := by kernel_rfl
@[go_sem] theorem ty_217 : ty 217 = some ⟨.sc, 1, 8, []⟩ := by kernel_rfl
@[go_sem] theorem ty_218 : ty 218 = some ⟨.sc, 1, 8, []⟩ := by kernel_rfl
@[go_sem] theorem ty_220 : ty 220 = some ⟨.sc, 1, 8, []⟩ := by kernel_rfl
@[go_sem] theorem ty_221 : ty 221 = some ⟨.sc, 1, 8, []⟩ := by kernel_rfl
@[go_sem] theorem ty_222 : ty 222 = some ⟨.it .u64, 1, 8, [.int .u64 0]⟩ := by kernel_rfl
@[go_sem] theorem ty_223 : ty 223 = some ⟨.sc, 1, 8, []⟩ := by kernel_rfl
@[go_sem] theorem ty_224 : ty 224 = some ⟨.sc, 1, 8, []⟩ := by kernel_rfl
@[go_sem] theorem ty_225 : ty 225 = some ⟨.sc, 1, 8, []⟩ := by kernel_rfl
@[go_sem] theorem ty_226 : ty 226 = some ⟨.sc, 1, 8, []⟩ := by kernel_rfl
@[go_sem] theorem ty_227 : ty 227 = some ⟨.sc, 1, 8, []⟩ := by kernel_rfl
@[go_sem] theorem ty_229 : ty 229 = some ⟨.sc, 1, 8, []⟩ := by kernel_rfl
@[go_sem] theorem ty_230 : ty 230 = some ⟨.sc, 1, 8, []⟩ := by kernel_rfl
@[go_sem] theorem ty_231 : ty 231 = some ⟨.sc, 1, 8, []⟩ := by kernel_rfl
@[go_sem] theorem ty_233 : ty 233 = some ⟨.sc, 1, 8, []⟩ := by kernel_rfl
@[go_sem] theorem ty_234 : ty 234 = some ⟨.sc, 1, 8, []⟩ := by kernel_rfl
@[go_sem] theorem ty_235 : ty 235 = some ⟨.sc, 1, 8, []⟩ := by kernel_rfl
@[go_sem] theorem ty_236 : ty 236 = some ⟨.sc, 1, 8, []⟩ := by kernel_rfl
@[go_sem] theorem ty_237 : ty 237 = some ⟨.sc, 1, 8, []⟩ := by kernel_rfl
@[go_sem] theorem ty_238 : ty 238 = some ⟨.sc, 1, 8, []⟩ := by kernel_rfl
@[go_sem] theorem ty_239 : ty 239 = some ⟨.st [(0, 17), (1, 17), (2, 17), (3, 9)], 4, 40, []⟩ := by kernel_rfl
@[go_sem] theorem ty_240 : ty 240 = some ⟨.st [(0, 17), (1, 17), (2, 17), (3, 9)], 4, 40, []⟩ := by kernel_rfl
@[go_sem] theorem ty_241 : ty 241 = some ⟨.ar 0 16, 0, 0, []⟩ := by kernel_rfl
@[go_sem] theorem ty_242 : ty 242 = some ⟨.st [(0, 241)], 0, 0, []⟩ := by kernel_rfl
@[go_sem] theorem ty_243 : ty 243 = some ⟨.st [(0, 241)], 0, 0, []⟩ := by kernel_rfl
@[go_sem] theorem ty_244 : ty 244 = some ⟨.sc, 1, 8, []⟩ := by kernel_rfl
@[go_sem] theorem ty_245 : ty 245 = some ⟨.it .u8, 1, 1, [.int .u8 0]⟩ := by kernel_rfl
@[go_sem] theorem ty_246 : ty 246 = some ⟨.it .u8, 1, 1, [.int .u8 0]⟩ := by kernel_rfl
@[go_sem] theorem ty_247 : ty 247 = some ⟨.sc, 1, 8, []⟩ := by kernel_rfl
@[go_sem] theorem ty_248 : ty 248 = some ⟨.sc, 1, 8, []⟩ := by kernel_rfl
@[go_sem] theorem ty_249 : ty 249 = some ⟨.it .i32, 1, 4, [.int .i32 0]⟩ := by kernel_rfl
@[go_sem] theorem ty_250 : ty 250 = some ⟨.it .i32, 1, 4, [.int .i32 0]⟩ := by kernel_rfl
@[go_sem] theorem ty_251 : ty 251 = some ⟨.st [(0, 12), (1, 12), (2, 211), (3, 245), (4, 5), (5, 5), (6, 246), (7, 247), (8, 248), (9, 249), (10, 250)], 11, 48, []⟩ := by kernel_rfl
@[go_sem] theorem ty_252 : ty 252 = some ⟨.st [(0, 12), (1, 12), (2, 211), (3, 245), (4, 5), (5, 5), (6, 246), (7, 247), (8, 248), (9, 249), (10, 250)], 11, 48, []⟩ := by kernel_rfl
theorem tyAll : (tyL.all fun p => chkT Try.prog p.1 p.2) = true := by kernel_rfl
theorem hT : TyOK Try.prog ty := by
  intro t d h
  unfold ty at h
  cases hf : tyL.find? (fun p => Nat.beq p.1 t) with
  | none => rw [hf] at h; cases h
  | some p =>
    rw [hf] at h
    simp only [Option.map_some, Option.some.injEq] at h
    subst h
    have h1 := List.find?_some hf
    have h2 := List.all_eq_true.1 tyAll p (List.mem_of_find?_eq_some hf)
    have e : p.1 = t := Nat.eq_of_beq_eq_true h1
    rw [← e]
    exact chkT_spec h2
theorem hM : Try.prog.follows .mixedOrders = true := by kernel_rfl
end Go.Proofs.Ytfkefjcopbcmlaa
