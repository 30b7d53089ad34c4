/- The types of this program, as the engine reads them: a table, and that the program has it so. -/
import Derived.Test.YtclljpdcpcolpaaEngU
import Derived.Test.YtclljpdcpcolpaaProg
namespace Go.Proofs.Ytclljpdcpcolpaa
open Go Go.RowKit
set_option maxRecDepth 100000

def tyL : List (Nat × TyE) := [
  (1, ⟨.sc, 1, 8, []⟩),
  (2, ⟨.it .i64, 1, 8, [.int .i64 0]⟩),
  (3, ⟨.it .i64, 1, 8, [.int .i64 0]⟩),
  (4, ⟨.bo, 1, 1, [.bool false]⟩),
  (5, ⟨.it .u8, 1, 1, [.int .u8 0]⟩),
  (6, ⟨.it .u8, 1, 1, [.int .u8 0]⟩),
  (7, ⟨.st [(0, 2), (1, 3), (2, 4), (3, 6)], 4, 24, [.int .i64 0, .int .i64 0, .bool false, .int .u8 0]⟩),
  (8, ⟨.st [(0, 2), (1, 3), (2, 4), (3, 6)], 4, 24, [.int .i64 0, .int .i64 0, .bool false, .int .u8 0]⟩),
  (9, ⟨.ss, 1, 16, [.str ByteArray.empty]⟩),
  (10, ⟨.ss, 1, 16, [.str ByteArray.empty]⟩),
  (11, ⟨.ss, 1, 16, [.str ByteArray.empty]⟩),
  (12, ⟨.it .u64, 1, 8, [.int .u64 0]⟩),
  (13, ⟨.st [(0, 9), (1, 12)], 2, 24, [.str ByteArray.empty, .int .u64 0]⟩),
  (14, ⟨.st [(0, 9), (1, 12)], 2, 24, [.str ByteArray.empty, .int .u64 0]⟩),
  (15, ⟨.sc, 1, 8, []⟩),
  (16, ⟨.sc, 1, 8, []⟩),
  (17, ⟨.sc, 1, 8, []⟩),
  (18, ⟨.st [(0, 17)], 1, 8, []⟩),
  (19, ⟨.st [(0, 17)], 1, 8, []⟩),
  (20, ⟨.sc, 1, 16, []⟩),
  (21, ⟨.it .i32, 1, 4, [.int .i32 0]⟩),
  (22, ⟨.sl 3, 1, 24, [.nl 3]⟩),
  (23, ⟨.sl 56, 1, 24, [.nl 56]⟩),
  (24, ⟨.sc, 1, 8, []⟩),
  (26, ⟨.sc, 1, 8, []⟩),
  (27, ⟨.sc, 1, 8, []⟩),
  (28, ⟨.sl 62, 1, 24, [.nl 62]⟩),
  (29, ⟨.sc, 1, 8, []⟩),
  (30, ⟨.sc, 1, 8, []⟩),
  (31, ⟨.sc, 1, 8, []⟩),
  (32, ⟨.sc, 1, 8, []⟩),
  (33, ⟨.sc, 1, 8, []⟩),
  (34, ⟨.sc, 1, 8, []⟩),
  (35, ⟨.sl 170, 1, 24, [.nl 170]⟩),
  (36, ⟨.st [(0, 35), (1, 23)], 2, 48, [.nl 170, .nl 56]⟩),
  (37, ⟨.st [(0, 35), (1, 23)], 2, 48, [.nl 170, .nl 56]⟩),
  (38, ⟨.sl 68, 1, 24, [.nl 68]⟩),
  (39, ⟨.sc, 1, 8, []⟩),
  (40, ⟨.sc, 1, 8, []⟩),
  (41, ⟨.sc, 1, 8, []⟩),
  (42, ⟨.sl 125, 1, 24, [.nl 125]⟩),
  (43, ⟨.st [(0, 42), (1, 28)], 2, 48, [.nl 125, .nl 62]⟩),
  (44, ⟨.st [(0, 42), (1, 28)], 2, 48, [.nl 125, .nl 62]⟩),
  (45, ⟨.sc, 1, 8, []⟩),
  (46, ⟨.sl 69, 1, 24, [.nl 69]⟩),
  (47, ⟨.sc, 1, 8, []⟩),
  (48, ⟨.sc, 1, 8, []⟩),
  (49, ⟨.sc, 1, 8, []⟩),
  (50, ⟨.sc, 1, 8, []⟩),
  (51, ⟨.sc, 1, 8, []⟩),
  (52, ⟨.sc, 1, 8, []⟩),
  (53, ⟨.sc, 1, 8, []⟩),
  (54, ⟨.sl 174, 1, 24, [.nl 174]⟩),
  (55, ⟨.st [(0, 3), (1, 3), (2, 54)], 3, 40, [.int .i64 0, .int .i64 0, .nl 174]⟩),
  (56, ⟨.st [(0, 3), (1, 3), (2, 54)], 3, 40, [.int .i64 0, .int .i64 0, .nl 174]⟩),
  (57, ⟨.sc, 1, 8, []⟩),
  (59, ⟨.sc, 1, 8, []⟩),
  (60, ⟨.sl 131, 1, 24, [.nl 131]⟩),
  (61, ⟨.st [(0, 3), (1, 3), (2, 60)], 3, 40, [.int .i64 0, .int .i64 0, .nl 131]⟩),
  (62, ⟨.st [(0, 3), (1, 3), (2, 60)], 3, 40, [.int .i64 0, .int .i64 0, .nl 131]⟩),
  (63, ⟨.sc, 1, 8, []⟩),
  (64, ⟨.sc, 1, 8, []⟩),
  (65, ⟨.sc, 1, 8, []⟩),
  (66, ⟨.sc, 1, 8, []⟩),
  (67, ⟨.st [(0, 3), (1, 3), (2, 3)], 3, 24, [.int .i64 0, .int .i64 0, .int .i64 0]⟩),
  (68, ⟨.st [(0, 3), (1, 3), (2, 3)], 3, 24, [.int .i64 0, .int .i64 0, .int .i64 0]⟩),
  (69, ⟨.st [(0, 3), (1, 3), (2, 3)], 3, 24, [.int .i64 0, .int .i64 0, .int .i64 0]⟩),
  (71, ⟨.sc, 1, 8, []⟩),
  (72, ⟨.sc, 1, 8, []⟩),
  (73, ⟨.sc, 1, 8, []⟩),
  (74, ⟨.sc, 1, 8, []⟩),
  (75, ⟨.sl 184, 1, 24, [.nl 184]⟩),
  (76, ⟨.ar 4 3, 4, 32, [.int .i64 0, .int .i64 0, .int .i64 0, .int .i64 0]⟩),
  (77, ⟨.st [(0, 3), (1, 75), (2, 3), (3, 76), (7, 54), (8, 3), (9, 38), (10, 3), (11, 3), (12, 3), (13, 3)], 14, 160, [.int .i64 0, .nl 184, .int .i64 0, .int .i64 0, .int .i64 0, .int .i64 0, .int .i64 0, .nl 174, .int .i64 0, .nl 68, .int .i64 0, .int .i64 0, .int .i64 0, .int .i64 0]⟩),
  (78, ⟨.st [(0, 3), (1, 75), (2, 3), (3, 76), (7, 54), (8, 3), (9, 38), (10, 3), (11, 3), (12, 3), (13, 3)], 14, 160, [.int .i64 0, .nl 184, .int .i64 0, .int .i64 0, .int .i64 0, .int .i64 0, .int .i64 0, .nl 174, .int .i64 0, .nl 68, .int .i64 0, .int .i64 0, .int .i64 0, .int .i64 0]⟩),
  (79, ⟨.sc, 1, 8, []⟩),
  (80, ⟨.sc, 1, 8, []⟩),
  (81, ⟨.sl 146, 1, 24, [.nl 146]⟩),
  (82, ⟨.st [(0, 3), (1, 81), (2, 3), (3, 76), (7, 60), (8, 3), (9, 46), (10, 3), (11, 3), (12, 3), (13, 3)], 14, 160, [.int .i64 0, .nl 146, .int .i64 0, .int .i64 0, .int .i64 0, .int .i64 0, .int .i64 0, .nl 131, .int .i64 0, .nl 69, .int .i64 0, .int .i64 0, .int .i64 0, .int .i64 0]⟩),
  (83, ⟨.st [(0, 3), (1, 81), (2, 3), (3, 76), (7, 60), (8, 3), (9, 46), (10, 3), (11, 3), (12, 3), (13, 3)], 14, 160, [.int .i64 0, .nl 146, .int .i64 0, .int .i64 0, .int .i64 0, .int .i64 0, .int .i64 0, .nl 131, .int .i64 0, .nl 69, .int .i64 0, .int .i64 0, .int .i64 0, .int .i64 0]⟩),
  (84, ⟨.sc, 1, 8, []⟩),
  (85, ⟨.sc, 1, 8, []⟩),
  (86, ⟨.sc, 1, 8, []⟩),
  (88, ⟨.sc, 1, 8, []⟩),
  (89, ⟨.sl 75, 1, 24, [.nl 75]⟩),
  (90, ⟨.sc, 1, 8, []⟩),
  (91, ⟨.sl 83, 1, 24, [.nl 83]⟩),
  (92, ⟨.sl 193, 1, 24, [.nl 193]⟩),
  (93, ⟨.st [(0, 22), (1, 44), (3, 91), (4, 92)], 5, 120, [.nl 3, .nl 125, .nl 62, .nl 83, .nl 193]⟩),
  (94, ⟨.st [(0, 22), (1, 44), (3, 91), (4, 92)], 5, 120, [.nl 3, .nl 125, .nl 62, .nl 83, .nl 193]⟩),
  (96, ⟨.sc, 1, 8, []⟩),
  (97, ⟨.sl 81, 1, 24, [.nl 81]⟩),
  (98, ⟨.sc, 1, 8, []⟩),
  (99, ⟨.sc, 1, 8, []⟩),
  (100, ⟨.sc, 1, 8, []⟩),
  (101, ⟨.sc, 1, 8, []⟩),
  (102, ⟨.sc, 1, 8, []⟩),
  (103, ⟨.sc, 1, 8, []⟩),
  (104, ⟨.sl 78, 1, 24, [.nl 78]⟩),
  (105, ⟨.sl 196, 1, 24, [.nl 196]⟩),
  (106, ⟨.st [(0, 22), (1, 37), (3, 104), (4, 105)], 5, 120, [.nl 3, .nl 170, .nl 56, .nl 78, .nl 196]⟩),
  (107, ⟨.st [(0, 22), (1, 37), (3, 104), (4, 105)], 5, 120, [.nl 3, .nl 170, .nl 56, .nl 78, .nl 196]⟩),
  (108, ⟨.sc, 1, 8, []⟩),
  (109, ⟨.sc, 1, 8, []⟩),
  (110, ⟨.sc, 1, 8, []⟩),
  (111, ⟨.sc, 1, 8, []⟩),
  (112, ⟨.sc, 1, 8, []⟩),
  (113, ⟨.sc, 1, 8, []⟩),
  (114, ⟨.sc, 1, 8, []⟩),
  (115, ⟨.sc, 1, 8, []⟩),
  (116, ⟨.sc, 1, 8, []⟩),
  (117, ⟨.sc, 1, 8, []⟩),
  (118, ⟨.sc, 1, 8, []⟩),
  (119, ⟨.sc, 1, 8, []⟩),
  (120, ⟨.sc, 1, 8, []⟩),
  (121, ⟨.sc, 1, 8, []⟩),
  (122, ⟨.sc, 1, 8, []⟩),
  (123, ⟨.sc, 1, 8, []⟩),
  (124, ⟨.st [(0, 3), (1, 3), (2, 3)], 3, 24, [.int .i64 0, .int .i64 0, .int .i64 0]⟩),
  (125, ⟨.st [(0, 3), (1, 3), (2, 3)], 3, 24, [.int .i64 0, .int .i64 0, .int .i64 0]⟩),
  (126, ⟨.sc, 1, 8, []⟩),
  (127, ⟨.sc, 1, 8, []⟩),
  (128, ⟨.sc, 1, 8, []⟩),
  (129, ⟨.sc, 1, 8, []⟩),
  (130, ⟨.st [(0, 3), (1, 3), (2, 3), (3, 3), (4, 4)], 5, 40, [.int .i64 0, .int .i64 0, .int .i64 0, .int .i64 0, .bool false]⟩),
  (131, ⟨.st [(0, 3), (1, 3), (2, 3), (3, 3), (4, 4)], 5, 40, [.int .i64 0, .int .i64 0, .int .i64 0, .int .i64 0, .bool false]⟩),
  (132, ⟨.sc, 1, 8, []⟩),
  (133, ⟨.sc, 1, 8, []⟩),
  (134, ⟨.sc, 1, 8, []⟩),
  (135, ⟨.sc, 1, 8, []⟩),
  (136, ⟨.sc, 1, 8, []⟩),
  (138, ⟨.sc, 1, 8, []⟩),
  (139, ⟨.sc, 1, 8, []⟩),
  (140, ⟨.sc, 1, 8, []⟩),
  (141, ⟨.sc, 1, 8, []⟩),
  (142, ⟨.sc, 1, 8, []⟩),
  (143, ⟨.sc, 1, 8, []⟩),
  (144, ⟨.sc, 1, 8, []⟩),
  (145, ⟨.st [(0, 3), (1, 3), (2, 3)], 3, 24, [.int .i64 0, .int .i64 0, .int .i64 0]⟩),
  (146, ⟨.st [(0, 3), (1, 3), (2, 3)], 3, 24, [.int .i64 0, .int .i64 0, .int .i64 0]⟩),
  (147, ⟨.sc, 1, 8, []⟩),
  (148, ⟨.sc, 1, 8, []⟩),
  (149, ⟨.sc, 1, 8, []⟩),
  (150, ⟨.sc, 1, 8, []⟩),
  (151, ⟨.sc, 1, 8, []⟩),
  (152, ⟨.sc, 1, 8, []⟩),
  (154, ⟨.sc, 1, 8, []⟩),
  (155, ⟨.sc, 1, 8, []⟩),
  (157, ⟨.sc, 1, 8, []⟩),
  (158, ⟨.sc, 1, 8, []⟩),
  (159, ⟨.sc, 1, 8, []⟩),
  (160, ⟨.sc, 1, 8, []⟩),
  (161, ⟨.sc, 1, 8, []⟩),
  (162, ⟨.sc, 1, 8, []⟩),
  (163, ⟨.sc, 1, 8, []⟩),
  (164, ⟨.sc, 1, 8, []⟩),
  (165, ⟨.sc, 1, 8, []⟩),
  (166, ⟨.sc, 1, 8, []⟩),
  (167, ⟨.sc, 1, 8, []⟩),
  (168, ⟨.sc, 1, 8, []⟩),
  (169, ⟨.sc, 1, 8, []⟩),
  (170, ⟨.st [(0, 3), (1, 3), (2, 3)], 3, 24, [.int .i64 0, .int .i64 0, .int .i64 0]⟩),
  (171, ⟨.sc, 1, 8, []⟩),
  (172, ⟨.sc, 1, 8, []⟩),
  (173, ⟨.sc, 1, 8, []⟩),
  (174, ⟨.st [(0, 3), (1, 3), (2, 3), (3, 3), (4, 4)], 5, 40, [.int .i64 0, .int .i64 0, .int .i64 0, .int .i64 0, .bool false]⟩),
  (175, ⟨.sc, 1, 8, []⟩),
  (176, ⟨.sc, 1, 8, []⟩),
  (177, ⟨.sc, 1, 8, []⟩),
  (178, ⟨.sc, 1, 8, []⟩),
  (179, ⟨.ar 6 3, 6, 48, [.int .i64 0, .int .i64 0, .int .i64 0, .int .i64 0, .int .i64 0, .int .i64 0]⟩),
  (180, ⟨.sc, 1, 8, []⟩),
  (181, ⟨.sc, 1, 8, []⟩),
  (182, ⟨.sc, 1, 8, []⟩),
  (183, ⟨.sc, 1, 8, []⟩),
  (184, ⟨.st [(0, 3), (1, 3), (2, 3)], 3, 24, [.int .i64 0, .int .i64 0, .int .i64 0]⟩),
  (185, ⟨.sc, 1, 8, []⟩),
  (186, ⟨.sc, 1, 8, []⟩),
  (187, ⟨.sc, 1, 8, []⟩),
  (188, ⟨.sc, 1, 8, []⟩),
  (189, ⟨.sc, 1, 8, []⟩),
  (190, ⟨.sc, 1, 8, []⟩),
  (191, ⟨.sc, 1, 8, []⟩),
  (192, ⟨.st [(0, 3), (1, 3), (2, 3), (3, 3)], 4, 32, [.int .i64 0, .int .i64 0, .int .i64 0, .int .i64 0]⟩),
  (193, ⟨.st [(0, 3), (1, 3), (2, 3), (3, 3)], 4, 32, [.int .i64 0, .int .i64 0, .int .i64 0, .int .i64 0]⟩),
  (194, ⟨.sc, 1, 8, []⟩),
  (195, ⟨.sc, 1, 8, []⟩),
  (196, ⟨.st [(0, 3), (1, 3), (2, 3), (3, 3)], 4, 32, [.int .i64 0, .int .i64 0, .int .i64 0, .int .i64 0]⟩),
  (197, ⟨.sc, 1, 8, []⟩),
  (198, ⟨.sc, 1, 8, []⟩),
  (199, ⟨.sc, 1, 8, []⟩),
  (200, ⟨.sc, 1, 8, []⟩),
  (201, ⟨.sc, 1, 8, []⟩),
  (202, ⟨.st [(0, 17), (1, 17), (2, 17), (3, 9)], 4, 40, []⟩),
  (203, ⟨.st [(0, 17), (1, 17), (2, 17), (3, 9)], 4, 40, []⟩),
  (204, ⟨.ar 0 16, 0, 0, []⟩),
  (205, ⟨.st [(0, 204)], 0, 0, []⟩),
  (206, ⟨.st [(0, 204)], 0, 0, []⟩),
  (207, ⟨.sc, 1, 8, []⟩),
  (208, ⟨.it .u32, 1, 4, [.int .u32 0]⟩),
  (209, ⟨.it .u8, 1, 1, [.int .u8 0]⟩),
  (210, ⟨.it .u8, 1, 1, [.int .u8 0]⟩),
  (211, ⟨.sc, 1, 8, []⟩),
  (212, ⟨.sc, 1, 8, []⟩),
  (213, ⟨.it .i32, 1, 4, [.int .i32 0]⟩),
  (214, ⟨.it .i32, 1, 4, [.int .i32 0]⟩),
  (215, ⟨.st [(0, 12), (1, 12), (2, 208), (3, 209), (4, 5), (5, 5), (6, 210), (7, 211), (8, 212), (9, 213), (10, 214)], 11, 48, []⟩),
  (216, ⟨.st [(0, 12), (1, 12), (2, 208), (3, 209), (4, 5), (5, 5), (6, 210), (7, 211), (8, 212), (9, 213), (10, 214)], 11, 48, []⟩)]
def ty : Ty := fun t => (tyL.find? fun p => Nat.beq p.1 t).map (·.2)
@[go_sem] theorem ty_1 : ty 1 = some ⟨.sc, 1, 8, []⟩ := by kernel_rfl
@[go_sem] theorem ty_2 : ty 2 = some ⟨.it .i64, 1, 8, [.int .i64 0]⟩ := by kernel_rfl
@[go_sem] theorem ty_3 : ty 3 = some ⟨.it .i64, 1, 8, [.int .i64 0]⟩ := by kernel_rfl
@[go_sem] theorem ty_4 : ty 4 = some ⟨.bo, 1, 1, [.bool false]⟩ := by kernel_rfl
@[go_sem] theorem ty_5 : ty 5 = some ⟨.it .u8, 1, 1, [.int .u8 0]⟩ := by kernel_rfl
@[go_sem] theorem ty_6 : ty 6 = some ⟨.it .u8, 1, 1, [.int .u8 0]⟩ := by kernel_rfl
@[go_sem] theorem ty_7 : ty 7 = some ⟨.st [(0, 2), (1, 3), (2, 4), (3, 6)], 4, 24, [.int .i64 0, .int .i64 0, .bool false, .int .u8 0]⟩ := by kernel_rfl
@[go_sem] theorem ty_8 : ty 8 = some ⟨.st [(0, 2), (1, 3), (2, 4), (3, 6)], 4, 24, [.int .i64 0, .int .i64 0, .bool false, .int .u8 0]⟩ := by kernel_rfl
@[go_sem] theorem ty_9 : ty 9 = some ⟨.ss, 1, 16, [.str ByteArray.empty]⟩ := by kernel_rfl
@[go_sem] theorem ty_10 : ty 10 = some ⟨.ss, 1, 16, [.str ByteArray.empty]⟩ := by kernel_rfl
@[go_sem] theorem ty_11 : ty 11 = some ⟨.ss, 1, 16, [.str ByteArray.empty]⟩ := by kernel_rfl
@[go_sem] theorem ty_12 : ty 12 = some ⟨.it .u64, 1, 8, [.int .u64 0]⟩ := by kernel_rfl
@[go_sem] theorem ty_13 : ty 13 = some ⟨.st [(0, 9), (1, 12)], 2, 24, [.str ByteArray.empty, .int .u64 0]⟩ := by kernel_rfl
@[go_sem] theorem ty_14 : ty 14 = some ⟨.st [(0, 9), (1, 12)], 2, 24, [.str ByteArray.empty, .int .u64 0]⟩ := by kernel_rfl
@[go_sem] theorem ty_15 : ty 15 = some ⟨.sc, 1, 8, []⟩ := by kernel_rfl
@[go_sem] theorem ty_16 : ty 16 = some ⟨.sc, 1, 8, []⟩ := by kernel_rfl
@[go_sem] theorem ty_17 : ty 17 = some ⟨.sc, 1, 8, []⟩ := by kernel_rfl
@[go_sem] theorem ty_18 : ty 18 = some ⟨.st [(0, 17)], 1, 8, []⟩ := by kernel_rfl
@[go_sem] theorem ty_19 : ty 19 = some ⟨.st [(0, 17)], 1, 8, []⟩ := by kernel_rfl
@[go_sem] theorem ty_20 : ty 20 = some ⟨.sc, 1, 16, []⟩ := by kernel_rfl
@[go_sem] theorem ty_21 : ty 21 = some ⟨.it .i32, 1, 4, [.int .i32 0]⟩ := by kernel_rfl
@[go_sem] theorem ty_22 : ty 22 = some ⟨.sl 3, 1, 24, [.nl 3]⟩ := by kernel_rfl
@[go_sem] theorem ty_23 : ty 23 = some ⟨.sl 56, 1, 24, [.nl 56]⟩ := by kernel_rfl
@[go_sem] theorem ty_24 : ty 24 = some ⟨.sc, 1, 8, []⟩ := by kernel_rfl
@[go_sem] theorem ty_26 : ty 26 = some ⟨.sc, 1, 8, []⟩ := by kernel_rfl
@[go_sem] theorem ty_27 : ty 27 = some ⟨.sc, 1, 8, []⟩ := by kernel_rfl
@[go_sem] theorem ty_28 : ty 28 = some ⟨.sl 62, 1, 24, [.nl 62]⟩ := by kernel_rfl
@[go_sem] theorem ty_29 : ty 29 = some ⟨.sc, 1, 8, []⟩ := by kernel_rfl
@[go_sem] theorem ty_30 : ty 30 = some ⟨.sc, 1, 8, []⟩ := by kernel_rfl
@[go_sem] theorem ty_31 : ty 31 = some ⟨.sc, 1, 8, []⟩ := by kernel_rfl
@[go_sem] theorem ty_32 : ty 32 = some ⟨.sc, 1, 8, []⟩ := by kernel_rfl
@[go_sem] theorem ty_33 : ty 33 = some ⟨.sc, 1, 8, []⟩ := by kernel_rfl
@[go_sem] theorem ty_34 : ty 34 = some ⟨.sc, 1, 8, []⟩ := by kernel_rfl
@[go_sem] theorem ty_35 : ty 35 = some ⟨.sl 170, 1, 24, [.nl 170]⟩ := by kernel_rfl
@[go_sem] theorem ty_36 : ty 36 = some ⟨.st [(0, 35), (1, 23)], 2, 48, [.nl 170, .nl 56]⟩ := by kernel_rfl
@[go_sem] theorem ty_37 : ty 37 = some ⟨.st [(0, 35), (1, 23)], 2, 48, [.nl 170, .nl 56]⟩ := by kernel_rfl
@[go_sem] theorem ty_38 : ty 38 = some ⟨.sl 68, 1, 24, [.nl 68]⟩ := by kernel_rfl
@[go_sem] theorem ty_39 : ty 39 = some ⟨.sc, 1, 8, []⟩ := by kernel_rfl
@[go_sem] theorem ty_40 : ty 40 = some ⟨.sc, 1, 8, []⟩ := by kernel_rfl
@[go_sem] theorem ty_41 : ty 41 = some ⟨.sc, 1, 8, []⟩ := by kernel_rfl
@[go_sem] theorem ty_42 : ty 42 = some ⟨.sl 125, 1, 24, [.nl 125]⟩ := by kernel_rfl
@[go_sem] theorem ty_43 : ty 43 = some ⟨.st [(0, 42), (1, 28)], 2, 48, [.nl 125, .nl 62]⟩ := by kernel_rfl
@[go_sem] theorem ty_44 : ty 44 = some ⟨.st [(0, 42), (1, 28)], 2, 48, [.nl 125, .nl 62]⟩ := by kernel_rfl
@[go_sem] theorem ty_45 : ty 45 = some ⟨.sc, 1, 8, []⟩ := by kernel_rfl
@[go_sem] theorem ty_46 : ty 46 = some ⟨.sl 69, 1, 24, [.nl 69]⟩ := by kernel_rfl
@[go_sem] theorem ty_47 : ty 47 = some ⟨.sc, 1, 8, []⟩ := by kernel_rfl
@[go_sem] theorem ty_48 : ty 48 = some ⟨.sc, 1, 8, []⟩ := by kernel_rfl
@[go_sem] theorem ty_49 : ty 49 = some ⟨.sc, 1, 8, []⟩ := by kernel_rfl
@[go_sem] theorem ty_50 : ty 50 = some ⟨.sc, 1, 8, []⟩ := by kernel_rfl
@[go_sem] theorem ty_51 : ty 51 = some ⟨.sc, 1, 8, []⟩ := by kernel_rfl
@[go_sem] theorem ty_52 : ty 52 = some ⟨.sc, 1, 8, []⟩ := by kernel_rfl
@[go_sem] theorem ty_53 : ty 53 = some ⟨.sc, 1, 8, []⟩ := by kernel_rfl
@[go_sem] theorem ty_54 : ty 54 = some ⟨.sl 174, 1, 24, [.nl 174]⟩ := by kernel_rfl
@[go_sem] theorem ty_55 : ty 55 = some ⟨.st [(0, 3), (1, 3), (2, 54)], 3, 40, [.int .i64 0, .int .i64 0, .nl 174]⟩ := by kernel_rfl
@[go_sem] theorem ty_56 : ty 56 = some ⟨.st [(0, 3), (1, 3), (2, 54)], 3, 40, [.int .i64 0, .int .i64 0, .nl 174]⟩ := by kernel_rfl
@[go_sem] theorem ty_57 : ty 57 = some ⟨.sc, 1, 8, []⟩ := by kernel_rfl
@[go_sem] theorem ty_59 : ty 59 = some ⟨.sc, 1, 8, []⟩ := by kernel_rfl
@[go_sem] theorem ty_60 : ty 60 = some ⟨.sl 131, 1, 24, [.nl 131]⟩ := by kernel_rfl
@[go_sem] theorem ty_61 : ty 61 = some ⟨.st [(0, 3), (1, 3), (2, 60)], 3, 40, [.int .i64 0, .int .i64 0, .nl 131]⟩ := by kernel_rfl
@[go_sem] theorem ty_62 : ty 62 = some ⟨.st [(0, 3), (1, 3), (2, 60)], 3, 40, [.int .i64 0, .int .i64 0, .nl 131]⟩ := by kernel_rfl
@[go_sem] theorem ty_63 : ty 63 = some ⟨.sc, 1, 8, []⟩ := by kernel_rfl
@[go_sem] theorem ty_64 : ty 64 = some ⟨.sc, 1, 8, []⟩ := by kernel_rfl
@[go_sem] theorem ty_65 : ty 65 = some ⟨.sc, 1, 8, []⟩ := by kernel_rfl
@[go_sem] theorem ty_66 : ty 66 = some ⟨.sc, 1, 8, []⟩ := by kernel_rfl
@[go_sem] theorem ty_67 : ty 67 = some ⟨.st [(0, 3), (1, 3), (2, 3)], 3, 24, [.int .i64 0, .int .i64 0, .int .i64 0]⟩ := by kernel_rfl
@[go_sem] theorem ty_68 : ty 68 = some ⟨.st [(0, 3), (1, 3), (2, 3)], 3, 24, [.int .i64 0, .int .i64 0, .int .i64 0]⟩ := by kernel_rfl
@[go_sem] theorem ty_69 : ty 69 = some ⟨.st [(0, 3), (1, 3), (2, 3)], 3, 24, [.int .i64 0, .int .i64 0, .int .i64 0]⟩ := by kernel_rfl
@[go_sem] theorem ty_71 : ty 71 = some ⟨.sc, 1, 8, []⟩ := by kernel_rfl
@[go_sem] theorem ty_72 : ty 72 = some ⟨.sc, 1, 8, []⟩ := by kernel_rfl
@[go_sem] theorem ty_73 : ty 73 = some ⟨.sc, 1, 8, []⟩ := by kernel_rfl
@[go_sem] theorem ty_74 : ty 74 = some ⟨.sc, 1, 8, []⟩ := by kernel_rfl
@[go_sem] theorem ty_75 : ty 75 = some ⟨.sl 184, 1, 24, [.nl 184]⟩ := by kernel_rfl
@[go_sem] theorem ty_76 : ty 76 = some ⟨.ar 4 3, 4, 32, [.int .i64 0, .int .i64 0, .int .i64 0, .int .i64 0]⟩ := by kernel_rfl
@[go_sem] theorem ty_77 : ty 77 = some ⟨.st [(0, 3), (1, 75), (2, 3), (3, 76), (7, 54), (8, 3), (9, 38), (10, 3), (11, 3), (12, 3), (13, 3)], 14, 160, [.int .i64 0, .nl 184, .int .i64 0, .int .i64 0, .int .i64 0, .int .i64 0, .int .i64 0, .nl 174, .int .i64 0, .nl 68, .int .i64 0, .int .i64 0, .int .i64 0, .int .i64 0]⟩ := by kernel_rfl
@[go_sem] theorem ty_78 : ty 78 = some ⟨.st [(0, 3), (1, 75), (2, 3), (3, 76), (7, 54), (8, 3), (9, 38), (10, 3), (11, 3), (12, 3), (13, 3)], 14, 160, [.int .i64 0, .nl 184, .int .i64 0, .int .i64 0, .int .i64 0, .int .i64 0, .int .i64 0, .nl 174, .int .i64 0, .nl 68, .int .i64 0, .int .i64 0, .int .i64 0, .int .i64 0]⟩ := by kernel_rfl
@[go_sem] theorem ty_79 : ty 79 = some ⟨.sc, 1, 8, []⟩ := by kernel_rfl
@[go_sem] theorem ty_80 : ty 80 = some ⟨.sc, 1, 8, []⟩ := by kernel_rfl
@[go_sem] theorem ty_81 : ty 81 = some ⟨.sl 146, 1, 24, [.nl 146]⟩ := by kernel_rfl
@[go_sem] theorem ty_82 : ty 82 = some ⟨.st [(0, 3), (1, 81), (2, 3), (3, 76), (7, 60), (8, 3), (9, 46), (10, 3), (11, 3), (12, 3), (13, 3)], 14, 160, [.int .i64 0, .nl 146, .int .i64 0, .int .i64 0, .int .i64 0, .int .i64 0, .int .i64 0, .nl 131, .int .i64 0, .nl 69, .int .i64 0, .int .i64 0, .int .i64 0, .int .i64 0]⟩ := by kernel_rfl
@[go_sem] theorem ty_83 : ty 83 = some ⟨.st [(0, 3), (1, 81), (2, 3), (3, 76), (7, 60), (8, 3), (9, 46), (10, 3), (11, 3), (12, 3), (13, 3)], 14, 160, [.int .i64 0, .nl 146, .int .i64 0, .int .i64 0, .int .i64 0, .int .i64 0, .int .i64 0, .nl 131, .int .i64 0, .nl 69, .int .i64 0, .int .i64 0, .int .i64 0, .int .i64 0]⟩ := by kernel_rfl
@[go_sem] theorem ty_84 : ty 84 = some ⟨.sc, 1, 8, []⟩ := by kernel_rfl
@[go_sem] theorem ty_85 : ty 85 = some ⟨.sc, 1, 8, []⟩ := by kernel_rfl
@[go_sem] theorem ty_86 : ty 86 = some ⟨.sc, 1, 8, []⟩ := by kernel_rfl
@[go_sem] theorem ty_88 : ty 88 = some ⟨.sc, 1, 8, []⟩ := by kernel_rfl
@[go_sem] theorem ty_89 : ty 89 = some ⟨.sl 75, 1, 24, [.nl 75]⟩ := by kernel_rfl
@[go_sem] theorem ty_90 : ty 90 = some ⟨.sc, 1, 8, []⟩ := by kernel_rfl
@[go_sem] theorem ty_91 : ty 91 = some ⟨.sl 83, 1, 24, [.nl 83]⟩ := by kernel_rfl
@[go_sem] theorem ty_92 : ty 92 = some ⟨.sl 193, 1, 24, [.nl 193]⟩ := by kernel_rfl
@[go_sem] theorem ty_93 : ty 93 = some ⟨.st [(0, 22), (1, 44), (3, 91), (4, 92)], 5, 120, [.nl 3, .nl 125, .nl 62, .nl 83, .nl 193]⟩ := by kernel_rfl
@[go_sem] theorem ty_94 : ty 94 = some ⟨.st [(0, 22), (1, 44), (3, 91), (4, 92)], 5, 120, [.nl 3, .nl 125, .nl 62, .nl 83, .nl 193]⟩ := by kernel_rfl
@[go_sem] theorem ty_96 : ty 96 = some ⟨.sc, 1, 8, []⟩ := by kernel_rfl
@[go_sem] theorem ty_97 : ty 97 = some ⟨.sl 81, 1, 24, [.nl 81]⟩ := by kernel_rfl
@[go_sem] theorem ty_98 : ty 98 = some ⟨.sc, 1, 8, []⟩ := by kernel_rfl
@[go_sem] theorem ty_99 : ty 99 = some ⟨.sc, 1, 8, []⟩ := by kernel_rfl
@[go_sem] theorem ty_100 : ty 100 = some ⟨.sc, 1, 8, []⟩ := by kernel_rfl
@[go_sem] theorem ty_101 : ty 101 = some ⟨.sc, 1, 8, []⟩ := by kernel_rfl
@[go_sem] theorem ty_102 : ty 102 = some ⟨.sc, 1, 8, []⟩ := by kernel_rfl
@[go_sem] theorem ty_103 : ty 103 = some ⟨.sc, 1, 8, []⟩ := by kernel_rfl
@[go_sem] theorem ty_104 : ty 104 = some ⟨.sl 78, 1, 24, [.nl 78]⟩ := by kernel_rfl
@[go_sem] theorem ty_105 : ty 105 = some ⟨.sl 196, 1, 24, [.nl 196]⟩ := by kernel_rfl
@[go_sem] theorem ty_106 : ty 106 = some ⟨.st [(0, 22), (1, 37), (3, 104), (4, 105)], 5, 120, [.nl 3, .nl 170, .nl 56, .nl 78, .nl 196]⟩ := by kernel_rfl
@[go_sem] theorem ty_107 : ty 107 = some ⟨.st [(0, 22), (1, 37), (3, 104), (4, 105)], 5, 120, [.nl 3, .nl 170, .nl 56, .nl 78, .nl 196]⟩ := by kernel_rfl
@[go_sem] theorem ty_108 : ty 108 = some ⟨.sc, 1, 8, []⟩ := by kernel_rfl
@[go_sem] theorem ty_109 : ty 109 = some ⟨.sc, 1, 8, []⟩ := by kernel_rfl
@[go_sem] theorem ty_110 : ty 110 = some ⟨.sc, 1, 8, []⟩ := by kernel_rfl
@[go_sem] theorem ty_111 : ty 111 = some ⟨.sc, 1, 8, []⟩ := by kernel_rfl
@[go_sem] theorem ty_112 : ty 112 = some ⟨.sc, 1, 8, []⟩ := by kernel_rfl
@[go_sem] theorem ty_113 : ty 113 = some ⟨.sc, 1, 8, []⟩ := by kernel_rfl
@[go_sem] theorem ty_114 : ty 114 = some ⟨.sc, 1, 8, []⟩ := by kernel_rfl
@[go_sem] theorem ty_115 : ty 115 = some ⟨.sc, 1, 8, []⟩ := by kernel_rfl
@[go_sem] theorem ty_116 : ty 116 = some ⟨.sc, 1, 8, []⟩ := by kernel_rfl
@[go_sem] theorem ty_117 : ty 117 = some ⟨.sc, 1, 8, []⟩ := by kernel_rfl
@[go_sem] theorem ty_118 : ty 118 = some ⟨.sc, 1, 8, []⟩ := by kernel_rfl
@[go_sem] theorem ty_119 : ty 119 = some ⟨.sc, 1, 8, []⟩ := by kernel_rfl
@[go_sem] theorem ty_120 : ty 120 = some ⟨.sc, 1, 8, []⟩ := by kernel_rfl
@[go_sem] theorem ty_121 : ty 121 = some ⟨.sc, 1, 8, []⟩ := by kernel_rfl
@[go_sem] theorem ty_122 : ty 122 = some ⟨.sc, 1, 8, []⟩ := by kernel_rfl
@[go_sem] theorem ty_123 : ty 123 = some ⟨.sc, 1, 8, []⟩ := by kernel_rfl
@[go_sem] theorem ty_124 : ty 124 = some ⟨.st [(0, 3), (1, 3), (2, 3)], 3, 24, [.int .i64 0, .int .i64 0, .int .i64 0]⟩ := by kernel_rfl
@[go_sem] theorem ty_125 : ty 125 = some ⟨.st [(0, 3), (1, 3), (2, 3)], 3, 24, [.int .i64 0, .int .i64 0, .int .i64 0]⟩ := by kernel_rfl
@[go_sem] theorem ty_126 : ty 126 = some ⟨.sc, 1, 8, []⟩ := by kernel_rfl
@[go_sem] theorem ty_127 : ty 127 = some ⟨.sc, 1, 8, []⟩ := by kernel_rfl
@[go_sem] theorem ty_128 : ty 128 = some ⟨.sc, 1, 8, []⟩ := by kernel_rfl
@[go_sem] theorem ty_129 : ty 129 = some ⟨.sc, 1, 8, []⟩ := by kernel_rfl
@[go_sem] theorem ty_130 : ty 130 = some ⟨.st [(0, 3), (1, 3), (2, 3), (3, 3), (4, 4)], 5, 40, [.int .i64 0, .int .i64 0, .int .i64 0, .int .i64 0, .bool false]⟩ := by kernel_rfl
@[go_sem] theorem ty_131 : ty 131 = some ⟨.st [(0, 3), (1, 3), (2, 3), (3, 3), (4, 4)], 5, 40, [.int .i64 0, .int .i64 0, .int .i64 0, .int .i64 0, .bool false]⟩ := by kernel_rfl
@[go_sem] theorem ty_132 : ty 132 = some ⟨.sc, 1, 8, []⟩ := by kernel_rfl
@[go_sem] theorem ty_133 : ty 133 = some ⟨.sc, 1, 8, []⟩ := by kernel_rfl
@[go_sem] theorem ty_134 : ty 134 = some ⟨.sc, 1, 8, []⟩ := by kernel_rfl
@[go_sem] theorem ty_135 : ty 135 = some ⟨.sc, 1, 8, []⟩ := by kernel_rfl
@[go_sem] theorem ty_136 : ty 136 = some ⟨.sc, 1, 8, []⟩ := by kernel_rfl
@[go_sem] theorem ty_138 : ty 138 = some ⟨.sc, 1, 8, []⟩ := by kernel_rfl
@[go_sem] theorem ty_139 : ty 139 = some ⟨.sc, 1, 8, []⟩ := by kernel_rfl
@[go_sem] theorem ty_140 : ty 140 = some ⟨.sc, 1, 8, []⟩ := by kernel_rfl
@[go_sem] theorem ty_141 : ty 141 = some ⟨.sc, 1, 8, []⟩ := by kernel_rfl
@[go_sem] theorem ty_142 : ty 142 = some ⟨.sc, 1, 8, []⟩ := by kernel_rfl
@[go_sem] theorem ty_143 : ty 143 = some ⟨.sc, 1, 8, []⟩ := by kernel_rfl
@[go_sem] theorem ty_144 : ty 144 = some ⟨.sc, 1, 8, []⟩ := by kernel_rfl
@[go_sem] theorem ty_145 : ty 145 = some ⟨.st [(0, 3), (1, 3), (2, 3)], 3, 24, [.int .i64 0, .int .i64 0, .int .i64 0]⟩ := by kernel_rfl
@[go_sem] theorem ty_146 : ty 146 = some ⟨.st [(0, 3), (1, 3), (2, 3)], 3, 24, [.int .i64 0, .int .i64 0, .int .i64 0]⟩ := by kernel_rfl
@[go_sem] theorem ty_147 : ty 147 = some ⟨.sc, 1, 8, []⟩ := by kernel_rfl
@[go_sem] theorem ty_148 : ty 148 = some ⟨.sc, 1, 8, []⟩ := by kernel_rfl
@[go_sem] theorem ty_149 : ty 149 = some ⟨.sc, 1, 8, []⟩ := by kernel_rfl
@[go_sem] theorem ty_150 : ty 150 = some ⟨.sc, 1, 8, []⟩ := by kernel_rfl
@[go_sem] theorem ty_151 : ty 151 = some ⟨.sc, 1, 8, []⟩ := by kernel_rfl
@[go_sem] theorem ty_152 : ty 152 = some ⟨.sc, 1, 8, []⟩ := by kernel_rfl
@[go_sem] theorem ty_154 : ty 154 = some ⟨.sc, 1, 8, []⟩ := by kernel_rfl
@[go_sem] theorem ty_155 : ty 155 = some ⟨.sc, 1, 8, []⟩ := by kernel_rfl
@[go_sem] theorem ty_157 : ty 157 = some ⟨.sc, 1, 8, []⟩ := by kernel_rfl
@[go_sem] theorem ty_158 : ty 158 = some ⟨.sc, 1, 8, []⟩ := by kernel_rfl
@[go_sem] theorem ty_159 : ty 159 = some ⟨.sc, 1, 8, []⟩ := by kernel_rfl
@[go_sem] theorem ty_160 : ty 160 = some ⟨.sc, 1, 8, []⟩ := by kernel_rfl
@[go_sem] theorem ty_161 : ty 161 = some ⟨.sc, 1, 8, []⟩ := by kernel_rfl
@[go_sem] theorem ty_162 : ty 162 = some ⟨.sc, 1, 8, []⟩ := by kernel_rfl
@[go_sem] theorem ty_163 : ty 163 = some ⟨.sc, 1, 8, []⟩ := by kernel_rfl
@[go_sem] theorem ty_164 : ty 164 = some ⟨.sc, 1, 8, []⟩ := by kernel_rfl
@[go_sem] theorem ty_165 : ty 165 = some ⟨.sc, 1, 8, []⟩ := by kernel_rfl
@[go_sem] theorem ty_166 : ty 166 = some ⟨.sc, 1, 8, []⟩ := by kernel_rfl
@[go_sem] theorem ty_167 : ty 167 = some ⟨.sc, 1, 8, []⟩ := by kernel_rfl
@[go_sem] theorem ty_168 : ty 168 = some ⟨.sc, 1, 8, []⟩ := by kernel_rfl
@[go_sem] theorem ty_169 : ty 169 = some ⟨.sc, 1, 8, []⟩ := by kernel_rfl
@[go_sem] theorem ty_170 : ty 170 = some ⟨.st [(0, 3), (1, 3), (2, 3)], 3, 24, [.int .i64 0, .int .i64 0, .int .i64 0]⟩ := by kernel_rfl
@[go_sem] theorem ty_171 : ty 171 = some ⟨.sc, 1, 8, []⟩ := by kernel_rfl
@[go_sem] theorem ty_172 : ty 172 = some ⟨.sc, 1, 8, []⟩ := by kernel_rfl
@[go_sem] theorem ty_173 : ty 173 = some ⟨.sc, 1, 8, []⟩ := by kernel_rfl
@[go_sem] theorem ty_174 : ty 174 = some ⟨.st [(0, 3), (1, 3), (2, 3), (3, 3), (4, 4)], 5, 40, [.int .i64 0, .int .i64 0, .int .i64 0, .int .i64 0, .bool false]⟩ := by kernel_rfl
@[go_sem] theorem ty_175 : ty 175 = some ⟨.sc, 1, 8, []⟩ := by kernel_rfl
@[go_sem] theorem ty_176 : ty 176 = some ⟨.sc, 1, 8, []⟩ := by kernel_rfl
@[go_sem] theorem ty_177 : ty 177 = some ⟨.sc, 1, 8, []⟩ := by kernel_rfl
@[go_sem] theorem ty_178 : ty 178 = some ⟨.sc, 1, 8, []⟩ := by kernel_rfl
@[go_sem] theorem ty_179 : ty 179 = some ⟨.ar 6 3, 6, 48, [.int .i64 0, .int .i64 0, .int .i64 0, .int .i64 0, .int .i64 0, .int .i64 0]⟩ := by kernel_rfl
@[go_sem] theorem ty_180 : ty 180 = some ⟨.sc, 1, 8, []⟩ := by kernel_rfl
@[go_sem] theorem ty_181 : ty 181 = some ⟨.sc, 1, 8, []⟩ := by kernel_rfl
@[go_sem] theorem ty_182 : ty 182 = some ⟨.sc, 1, 8, []⟩ := by kernel_rfl
@[go_sem] theorem ty_183 : ty 183 = some ⟨.sc, 1, 8, []⟩ := by kernel_rfl
@[go_sem] theorem ty_184 : ty 184 = some ⟨.st [(0, 3), (1, 3), (2, 3)], 3, 24, [.int .i64 0, .int .i64 0, .int .i64 0]⟩ := by kernel_rfl
@[go_sem] theorem ty_185 : ty 185 = some ⟨.sc, 1, 8, []⟩ := by kernel_rfl
@[go_sem] theorem ty_186 : ty 186 = some ⟨.sc, 1, 8, []⟩ := by kernel_rfl
@[go_sem] theorem ty_187 : ty 187 = some ⟨.sc, 1, 8, []⟩ := by kernel_rfl
@[go_sem] theorem ty_188 : ty 188 = some ⟨.sc, 1, 8, []⟩ := by kernel_rfl
@[go_sem] theorem ty_189 : ty 189 = some ⟨.sc, 1, 8, []⟩ := by kernel_rfl
@[go_sem] theorem ty_190 : ty 190 = some ⟨.sc, 1, 8, []⟩ := by kernel_rfl
@[go_sem] theorem ty_191 : ty 191 = some ⟨.sc, 1, 8, []⟩ := by kernel_rfl
@[go_sem] theorem ty_192 : ty 192 = some ⟨.st [(0, 3), (1, 3), (2, 3), (3, 3)], 4, 32, [.int .i64 0, .int .i64 0, .int .i64 0, .int .i64 0]⟩ := by kernel_rfl
@[go_sem] theorem ty_193 : ty 193 = some ⟨.st [(0, 3), (1, 3), (2, 3), (3, 3)], 4, 32, [.int .i64 0, .int .i64 0, .int .i64 0, .int .i64 0]⟩ := by kernel_rfl
@[go_sem] theorem ty_194 : ty 194 = some ⟨.sc, 1, 8, []⟩ := by kernel_rfl
@[go_sem] theorem ty_195 : ty 195 = some ⟨.sc, 1, 8, []⟩ := by kernel_rfl
@[go_sem] theorem ty_196 : ty 196 = some ⟨.st [(0, 3), (1, 3), (2, 3), (3, 3)], 4, 32, [.int .i64 0, .int .i64 0, .int .i64 0, .int .i64 0]⟩ := by kernel_rfl
@[go_sem] theorem ty_197 : ty 197 = some ⟨.sc, 1, 8, []⟩ := by kernel_rfl
@[go_sem] theorem ty_198 : ty 198 = some ⟨.sc, 1, 8, []⟩ := by kernel_rfl
@[go_sem] theorem ty_199 : ty 199 = some ⟨.sc, 1, 8, []⟩ := by kernel_rfl
@[go_sem] theorem ty_200 : ty 200 = some ⟨.sc, 1, 8, []⟩ := by kernel_rfl
@[go_sem] theorem ty_201 : ty 201 = some ⟨.sc, 1, 8, []⟩ := by kernel_rfl
@[go_sem] theorem ty_202 : ty 202 = some ⟨.st [(0, 17), (1, 17), (2, 17), (3, 9)], 4, 40, []⟩ := by kernel_rfl
@[go_sem] theorem ty_203 : ty 203 = some ⟨.st [(0, 17), (1, 17), (2, 17), (3, 9)], 4, 40, []⟩ := by kernel_rfl
@[go_sem] theorem ty_204 : ty 204 = some ⟨.ar 0 16, 0, 0, []⟩ := by kernel_rfl
@[go_sem] theorem ty_205 : ty 205 = some ⟨.st [(0, 204)], 0, 0, []⟩ := by kernel_rfl
@[go_sem] theorem ty_206 : ty 206 = some ⟨.st [(0, 204)], 0, 0, []⟩ := by kernel_rfl
@[go_sem] theorem ty_207 : ty 207 = some ⟨.sc, 1, 8, []⟩ := by kernel_rfl
@[go_sem] theorem ty_208 : ty 208 = some ⟨.it .u32, 1, 4, [.int .u32 0]⟩ := by kernel_rfl
@[go_sem] theorem ty_209 : ty 209 = some ⟨.it .u8, 1, 1, [.int .u8 0]⟩ := by kernel_rfl
@[go_sem] theorem ty_210 : ty 210 = some ⟨.it .u8, 1, 1, [.int .u8 0]⟩ := by kernel_rfl
@[go_sem] theorem ty_211 : ty 211 = some ⟨.sc, 1, 8, []⟩ := by kernel_rfl
@[go_sem] theorem ty_212 : ty 212 = some ⟨.sc, 1, 8, []⟩ := by kernel_rfl
@[go_sem] theorem ty_213 : ty 213 = some ⟨.it .i32, 1, 4, [.int .i32 0]⟩ := by kernel_rfl
@[go_sem] theorem ty_214 : ty 214 = some ⟨.it .i32, 1, 4, [.int .i32 0]⟩ := by kernel_rfl
@[go_sem] theorem ty_215 : ty 215 = some ⟨.st [(0, 12), (1, 12), (2, 208), (3, 209), (4, 5), (5, 5), (6, 210), (7, 211), (8, 212), (9, 213), (10, 214)], 11, 48, []⟩ := by kernel_rfl
@[go_sem] theorem ty_216 : ty 216 = some ⟨.st [(0, 12), (1, 12), (2, 208), (3, 209), (4, 5), (5, 5), (6, 210), (7, 211), (8, 212), (9, 213), (10, 214)], 11, 48, []⟩ := by kernel_rfl
theorem tyAll : (tyL.all fun p => chkT Try.prog p.1 p.2) = true := by kernel_rfl
theorem hT : TyOK Try.prog ty := by
  intro t d h
  unfold ty at h
  cases hf : tyL.find? (fun p => Nat.beq p.1 t) with
  | none => rw [hf] at h; cases h
  | some p =>
    rw [hf] at h
    simp only [Option.map_some, Option.some.injEq] at h
    subst h
    have h1 := List.find?_some hf
    have h2 := List.all_eq_true.1 tyAll p (List.mem_of_find?_eq_some hf)
    have e : p.1 = t := Nat.eq_of_beq_eq_true h1
    rw [← e]
    exact chkT_spec h2
theorem hM : Try.prog.follows .mixedOrders = true := by kernel_rfl
end Go.Proofs.Ytclljpdcpcolpaa
