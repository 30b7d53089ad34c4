/- The value-level engine, fourth bundle: the table of types, what came in reads as trees, loops whose tokens change, slices taken out of rows. -/
import Derived.Test.YtchkbgekmoileaaEd
import Derived.Test.YtchkbgekmoileaaProg
import Derived.Carry
import Derived.DataReads
import Derived.ChangeSame
import Derived.ProofKit
import Derived.WideKeyArgs
/- The types of this program, as the engine reads them: a table, and that the program has it so. -/
namespace Go.Proofs.Ytchkbgekmoileaa
open Go Go.RowKit
set_option maxRecDepth 100000

def tyL : List (Nat × TyE) := [
  (1, ⟨.sc, 1, 8, []⟩),
  (2, ⟨.it .i64, 1, 8, [.int .i64 0]⟩),
  (3, ⟨.it .i64, 1, 8, [.int .i64 0]⟩),
  (4, ⟨.bo, 1, 1, [.bool false]⟩),
  (5, ⟨.it .u8, 1, 1, [.int .u8 0]⟩),
  (6, ⟨.it .u8, 1, 1, [.int .u8 0]⟩),
  (9, ⟨.ss, 1, 16, [.str ByteArray.empty]⟩),
  (10, ⟨.ss, 1, 16, [.str ByteArray.empty]⟩),
  (11, ⟨.ss, 1, 16, [.str ByteArray.empty]⟩),
  (12, ⟨.it .u64, 1, 8, [.int .u64 0]⟩),
  (15, ⟨.sc, 1, 8, []⟩),
  (16, ⟨.sc, 1, 8, []⟩),
  (17, ⟨.sc, 1, 8, []⟩),
  (20, ⟨.sc, 1, 16, []⟩),
  (21, ⟨.it .i32, 1, 4, [.int .i32 0]⟩),
  (22, ⟨.sl 5, 1, 24, [.nl 5]⟩),
  (23, ⟨.sc, 1, 8, []⟩),
  (24, ⟨.sl 36, 1, 24, [.nl 36]⟩),
  (25, ⟨.sl 40, 1, 24, [.nl 40]⟩),
  (26, ⟨.st [(0, 24), (1, 25)], 2, 48, [.nl 36, .nl 40]⟩),
  (27, ⟨.st [(0, 24), (1, 25)], 2, 48, [.nl 36, .nl 40]⟩),
  (28, ⟨.sc, 1, 8, []⟩),
  (30, ⟨.sc, 1, 8, []⟩),
  (31, ⟨.sc, 1, 8, []⟩),
  (32, ⟨.sl 70, 1, 24, [.nl 70]⟩),
  (34, ⟨.sc, 1, 8, []⟩),
  (35, ⟨.st [(0, 3), (1, 3), (2, 3)], 3, 24, [.int .i64 0, .int .i64 0, .int .i64 0]⟩),
  (36, ⟨.st [(0, 3), (1, 3), (2, 3)], 3, 24, [.int .i64 0, .int .i64 0, .int .i64 0]⟩),
  (38, ⟨.sc, 1, 8, []⟩),
  (39, ⟨.st [(0, 3), (1, 3), (2, 32)], 3, 40, [.int .i64 0, .int .i64 0, .nl 70]⟩),
  (40, ⟨.st [(0, 3), (1, 3), (2, 32)], 3, 40, [.int .i64 0, .int .i64 0, .nl 70]⟩),
  (42, ⟨.sc, 1, 8, []⟩),
  (44, ⟨.sc, 1, 8, []⟩),
  (45, ⟨.sl 4, 1, 24, [.nl 4]⟩),
  (46, ⟨.sl 50, 1, 24, [.nl 50]⟩),
  (48, ⟨.sc, 1, 8, []⟩),
  (49, ⟨.st [(0, 3), (1, 3), (2, 3)], 3, 24, [.int .i64 0, .int .i64 0, .int .i64 0]⟩),
  (50, ⟨.st [(0, 3), (1, 3), (2, 3)], 3, 24, [.int .i64 0, .int .i64 0, .int .i64 0]⟩),
  (51, ⟨.sc, 1, 8, []⟩),
  (52, ⟨.sl 3, 1, 24, [.nl 3]⟩),
  (53, ⟨.sl 86, 1, 24, [.nl 86]⟩),
  (54, ⟨.sc, 1, 8, []⟩),
  (56, ⟨.sc, 1, 8, []⟩),
  (57, ⟨.sc, 1, 8, []⟩),
  (58, ⟨.sc, 1, 8, []⟩),
  (59, ⟨.sc, 1, 8, []⟩),
  (60, ⟨.sc, 1, 8, []⟩),
  (61, ⟨.sc, 1, 8, []⟩),
  (62, ⟨.sc, 1, 8, []⟩),
  (63, ⟨.sc, 1, 8, []⟩),
  (64, ⟨.sc, 1, 8, []⟩),
  (65, ⟨.sc, 1, 8, []⟩),
  (66, ⟨.sc, 1, 8, []⟩),
  (67, ⟨.sc, 1, 8, []⟩),
  (68, ⟨.sc, 1, 8, []⟩),
  (69, ⟨.st [(0, 3), (1, 3), (2, 3), (3, 3), (4, 4)], 5, 40, [.int .i64 0, .int .i64 0, .int .i64 0, .int .i64 0, .bool false]⟩),
  (70, ⟨.st [(0, 3), (1, 3), (2, 3), (3, 3), (4, 4)], 5, 40, [.int .i64 0, .int .i64 0, .int .i64 0, .int .i64 0, .bool false]⟩),
  (71, ⟨.sc, 1, 8, []⟩),
  (72, ⟨.sc, 1, 8, []⟩),
  (73, ⟨.sc, 1, 8, []⟩),
  (74, ⟨.sc, 1, 8, []⟩),
  (75, ⟨.sc, 1, 8, []⟩),
  (76, ⟨.sc, 1, 8, []⟩),
  (77, ⟨.sc, 1, 8, []⟩),
  (78, ⟨.sc, 1, 8, []⟩),
  (79, ⟨.sc, 1, 8, []⟩),
  (80, ⟨.sc, 1, 8, []⟩),
  (81, ⟨.sc, 1, 8, []⟩),
  (82, ⟨.sc, 1, 8, []⟩),
  (83, ⟨.sc, 1, 8, []⟩),
  (84, ⟨.sl 136, 1, 24, [.nl 136]⟩),
  (85, ⟨.st [(0, 3), (1, 3), (2, 84)], 3, 40, [.int .i64 0, .int .i64 0, .nl 136]⟩),
  (86, ⟨.st [(0, 3), (1, 3), (2, 84)], 3, 40, [.int .i64 0, .int .i64 0, .nl 136]⟩),
  (87, ⟨.sc, 1, 8, []⟩),
  (88, ⟨.sc, 1, 8, []⟩),
  (89, ⟨.sc, 1, 8, []⟩),
  (90, ⟨.sc, 1, 8, []⟩),
  (91, ⟨.sc, 1, 8, []⟩),
  (92, ⟨.sc, 1, 8, []⟩),
  (93, ⟨.sc, 1, 8, []⟩),
  (94, ⟨.sc, 1, 8, []⟩),
  (95, ⟨.sc, 1, 8, []⟩),
  (97, ⟨.sc, 1, 8, []⟩),
  (98, ⟨.st [(0, 22), (1, 3), (2, 3)], 3, 40, [.nl 5, .int .i64 0, .int .i64 0]⟩),
  (99, ⟨.st [(0, 22), (1, 3), (2, 3)], 3, 40, [.nl 5, .int .i64 0, .int .i64 0]⟩),
  (100, ⟨.sc, 1, 8, []⟩),
  (101, ⟨.sc, 1, 8, []⟩),
  (102, ⟨.sc, 1, 8, []⟩),
  (103, ⟨.sc, 1, 8, []⟩),
  (104, ⟨.it .u64, 1, 8, [.int .u64 0]⟩),
  (105, ⟨.sc, 1, 8, []⟩),
  (106, ⟨.sc, 1, 8, []⟩),
  (107, ⟨.sc, 1, 8, []⟩),
  (108, ⟨.sc, 1, 8, []⟩),
  (109, ⟨.sc, 1, 8, []⟩),
  (110, ⟨.sc, 1, 8, []⟩),
  (111, ⟨.sc, 1, 8, []⟩),
  (112, ⟨.sc, 1, 8, []⟩),
  (113, ⟨.sc, 1, 8, []⟩),
  (114, ⟨.sc, 1, 8, []⟩),
  (116, ⟨.sc, 1, 8, []⟩),
  (117, ⟨.sc, 1, 8, []⟩),
  (118, ⟨.sc, 1, 8, []⟩),
  (119, ⟨.sc, 1, 8, []⟩),
  (120, ⟨.sc, 1, 8, []⟩),
  (121, ⟨.it .i64, 1, 8, [.int .i64 0]⟩),
  (123, ⟨.sc, 1, 8, []⟩),
  (124, ⟨.sc, 1, 8, []⟩),
  (125, ⟨.sc, 1, 8, []⟩),
  (126, ⟨.sc, 1, 8, []⟩),
  (127, ⟨.sc, 1, 8, []⟩),
  (128, ⟨.it .u32, 1, 4, [.int .u32 0]⟩),
  (129, ⟨.sc, 1, 8, []⟩),
  (130, ⟨.it .u64, 1, 8, [.int .u64 0]⟩),
  (131, ⟨.sc, 1, 8, []⟩),
  (132, ⟨.sc, 1, 8, []⟩),
  (133, ⟨.ar 6 3, 6, 48, [.int .i64 0, .int .i64 0, .int .i64 0, .int .i64 0, .int .i64 0, .int .i64 0]⟩),
  (134, ⟨.sc, 1, 8, []⟩),
  (135, ⟨.sc, 1, 8, []⟩),
  (136, ⟨.st [(0, 3), (1, 3), (2, 3), (3, 3), (4, 4)], 5, 40, [.int .i64 0, .int .i64 0, .int .i64 0, .int .i64 0, .bool false]⟩),
  (137, ⟨.sc, 1, 8, []⟩),
  (138, ⟨.sc, 1, 8, []⟩),
  (139, ⟨.sc, 1, 8, []⟩),
  (140, ⟨.it .u64, 1, 8, [.int .u64 0]⟩),
  (141, ⟨.sc, 1, 8, []⟩),
  (142, ⟨.sc, 1, 8, []⟩),
  (143, ⟨.sc, 1, 8, []⟩),
  (144, ⟨.sc, 1, 8, []⟩),
  (145, ⟨.sc, 1, 8, []⟩),
  (146, ⟨.sc, 1, 8, []⟩),
  (147, ⟨.sc, 1, 8, []⟩),
  (149, ⟨.sc, 1, 8, []⟩),
  (150, ⟨.sc, 1, 8, []⟩),
  (151, ⟨.sc, 1, 8, []⟩),
  (154, ⟨.ar 0 16, 0, 0, []⟩),
  (157, ⟨.sc, 1, 8, []⟩),
  (158, ⟨.it .u8, 1, 1, [.int .u8 0]⟩),
  (159, ⟨.it .u8, 1, 1, [.int .u8 0]⟩),
  (160, ⟨.sc, 1, 8, []⟩),
  (161, ⟨.sc, 1, 8, []⟩),
  (162, ⟨.it .i32, 1, 4, [.int .i32 0]⟩),
  (163, ⟨.it .i32, 1, 4, [.int .i32 0]⟩)]
def ty : Ty := fun t => (tyL.find? fun p => Nat.beq p.1 t).map (·.2)
@[go_sem] theorem ty_1 : ty 1 = some ⟨.sc, 1, 8, []⟩ := by kernel_rfl
@[go_sem] theorem ty_2 : ty 2 = some ⟨.it .i64, 1, 8, [.int .i64 0]⟩ := by kernel_rfl
@[go_sem] theorem ty_3 : ty 3 = some ⟨.it .i64, 1, 8, [.int .i64 0]⟩ := by kernel_rfl
@[go_sem] theorem ty_4 : ty 4 = some ⟨.bo, 1, 1, [.bool false]⟩ := by kernel_rfl
@[go_sem] theorem ty_5 : ty 5 = some ⟨.it .u8, 1, 1, [.int .u8 0]⟩ := by kernel_rfl
@[go_sem] theorem ty_6 : ty 6 = some ⟨.it .u8, 1, 1, [.int .u8 0]⟩ := by kernel_rfl
@[go_sem] theorem ty_9 : ty 9 = some ⟨.ss, 1, 16, [.str ByteArray.empty]⟩ := by kernel_rfl
@[go_sem] theorem ty_10 : ty 10 = some ⟨.ss, 1, 16, [.str ByteArray.empty]⟩ := by kernel_rfl
@[go_sem] theorem ty_11 : ty 11 = some ⟨.ss, 1, 16, [.str ByteArray.empty]⟩ := by kernel_rfl
@[go_sem] theorem ty_12 : ty 12 = some ⟨.it .u64, 1, 8, [.int .u64 0]⟩ := by kernel_rfl
@[go_sem] theorem ty_15 : ty 15 = some ⟨.sc, 1, 8, []⟩ := by kernel_rfl
@[go_sem] theorem ty_16 : ty 16 = some ⟨.sc, 1, 8, []⟩ := by kernel_rfl
@[go_sem] theorem ty_17 : ty 17 = some ⟨.sc, 1, 8, []⟩ := by kernel_rfl
@[go_sem] theorem ty_20 : ty 20 = some ⟨.sc, 1, 16, []⟩ := by kernel_rfl
@[go_sem] theorem ty_21 : ty 21 = some ⟨.it .i32, 1, 4, [.int .i32 0]⟩ := by kernel_rfl
@[go_sem] theorem ty_22 : ty 22 = some ⟨.sl 5, 1, 24, [.nl 5]⟩ := by kernel_rfl
@[go_sem] theorem ty_23 : ty 23 = some ⟨.sc, 1, 8, []⟩ := by kernel_rfl
@[go_sem] theorem ty_24 : ty 24 = some ⟨.sl 36, 1, 24, [.nl 36]⟩ := by kernel_rfl
@[go_sem] theorem ty_25 : ty 25 = some ⟨.sl 40, 1, 24, [.nl 40]⟩ := by kernel_rfl
@[go_sem] theorem ty_26 : ty 26 = some ⟨.st [(0, 24), (1, 25)], 2, 48, [.nl 36, .nl 40]⟩ := by kernel_rfl
@[go_sem] theorem ty_27 : ty 27 = some ⟨.st [(0, 24), (1, 25)], 2, 48, [.nl 36, .nl 40]⟩ := by kernel_rfl
@[go_sem] theorem ty_28 : ty 28 = some ⟨.sc, 1, 8, []⟩ := by kernel_rfl
@[go_sem] theorem ty_30 : ty 30 = some ⟨.sc, 1, 8, []⟩ := by kernel_rfl
@[go_sem] theorem ty_31 : ty 31 = some ⟨.sc, 1, 8, []⟩ := by kernel_rfl
@[go_sem] theorem ty_32 : ty 32 = some ⟨.sl 70, 1, 24, [.nl 70]⟩ := by kernel_rfl
@[go_sem] theorem ty_34 : ty 34 = some ⟨.sc, 1, 8, []⟩ := by kernel_rfl
@[go_sem] theorem ty_35 : ty 35 = some ⟨.st [(0, 3), (1, 3), (2, 3)], 3, 24, [.int .i64 0, .int .i64 0, .int .i64 0]⟩ := by kernel_rfl
@[go_sem] theorem ty_36 : ty 36 = some ⟨.st [(0, 3), (1, 3), (2, 3)], 3, 24, [.int .i64 0, .int .i64 0, .int .i64 0]⟩ := by kernel_rfl
@[go_sem] theorem ty_38 : ty 38 = some ⟨.sc, 1, 8, []⟩ := by kernel_rfl
@[go_sem] theorem ty_39 : ty 39 = some ⟨.st [(0, 3), (1, 3), (2, 32)], 3, 40, [.int .i64 0, .int .i64 0, .nl 70]⟩ := by kernel_rfl
@[go_sem] theorem ty_40 : ty 40 = some ⟨.st [(0, 3), (1, 3), (2, 32)], 3, 40, [.int .i64 0, .int .i64 0, .nl 70]⟩ := by kernel_rfl
@[go_sem] theorem ty_42 : ty 42 = some ⟨.sc, 1, 8, []⟩ := by kernel_rfl
@[go_sem] theorem ty_44 : ty 44 = some ⟨.sc, 1, 8, []⟩ := by kernel_rfl
@[go_sem] theorem ty_45 : ty 45 = some ⟨.sl 4, 1, 24, [.nl 4]⟩ := by kernel_rfl
@[go_sem] theorem ty_46 : ty 46 = some ⟨.sl 50, 1, 24, [.nl 50]⟩ := by kernel_rfl
@[go_sem] theorem ty_48 : ty 48 = some ⟨.sc, 1, 8, []⟩ := by kernel_rfl
@[go_sem] theorem ty_49 : ty 49 = some ⟨.st [(0, 3), (1, 3), (2, 3)], 3, 24, [.int .i64 0, .int .i64 0, .int .i64 0]⟩ := by kernel_rfl
@[go_sem] theorem ty_50 : ty 50 = some ⟨.st [(0, 3), (1, 3), (2, 3)], 3, 24, [.int .i64 0, .int .i64 0, .int .i64 0]⟩ := by kernel_rfl
@[go_sem] theorem ty_51 : ty 51 = some ⟨.sc, 1, 8, []⟩ := by kernel_rfl
@[go_sem] theorem ty_52 : ty 52 = some ⟨.sl 3, 1, 24, [.nl 3]⟩ := by kernel_rfl
@[go_sem] theorem ty_53 : ty 53 = some ⟨.sl 86, 1, 24, [.nl 86]⟩ := by kernel_rfl
@[go_sem] theorem ty_54 : ty 54 = some ⟨.sc, 1, 8, []⟩ := by kernel_rfl
@[go_sem] theorem ty_56 : ty 56 = some ⟨.sc, 1, 8, []⟩ := by kernel_rfl
@[go_sem] theorem ty_57 : ty 57 = some ⟨.sc, 1, 8, []⟩ := by kernel_rfl
@[go_sem] theorem ty_58 : ty 58 = some ⟨.sc, 1, 8, []⟩ := by kernel_rfl
@[go_sem] theorem ty_59 : ty 59 = some ⟨.sc, 1, 8, []⟩ := by kernel_rfl
@[go_sem] theorem ty_60 : ty 60 = some ⟨.sc, 1, 8, []⟩ := by kernel_rfl
@[go_sem] theorem ty_61 : ty 61 = some ⟨.sc, 1, 8, []⟩ := by kernel_rfl
@[go_sem] theorem ty_62 : ty 62 = some ⟨.sc, 1, 8, []⟩ := by kernel_rfl
@[go_sem] theorem ty_63 : ty 63 = some ⟨.sc, 1, 8, []⟩ := by kernel_rfl
@[go_sem] theorem ty_64 : ty 64 = some ⟨.sc, 1, 8, []⟩ := by kernel_rfl
@[go_sem] theorem ty_65 : ty 65 = some ⟨.sc, 1, 8, []⟩ := by kernel_rfl
@[go_sem] theorem ty_66 : ty 66 = some ⟨.sc, 1, 8, []⟩ := by kernel_rfl
@[go_sem] theorem ty_67 : ty 67 = some ⟨.sc, 1, 8, []⟩ := by kernel_rfl
@[go_sem] theorem ty_68 : ty 68 = some ⟨.sc, 1, 8, []⟩ := by kernel_rfl
@[go_sem] theorem ty_69 : ty 69 = some ⟨.st [(0, 3), (1, 3), (2, 3), (3, 3), (4, 4)], 5, 40, [.int .i64 0, .int .i64 0, .int .i64 0, .int .i64 0, .bool false]⟩ := by kernel_rfl
@[go_sem] theorem ty_70 : ty 70 = some ⟨.st [(0, 3), (1, 3), (2, 3), (3, 3), (4, 4)], 5, 40, [.int .i64 0, .int .i64 0, .int .i64 0, .int .i64 0, .bool false]⟩ := by kernel_rfl
@[go_sem] theorem ty_71 : ty 71 = some ⟨.sc, 1, 8, []⟩ := by kernel_rfl
@[go_sem] theorem ty_72 : ty 72 = some ⟨.sc, 1, 8, []⟩ := by kernel_rfl
@[go_sem] theorem ty_73 : ty 73 = some ⟨.sc, 1, 8, []⟩ := by kernel_rfl
@[go_sem] theorem ty_74 : ty 74 = some ⟨.sc, 1, 8, []⟩ := by kernel_rfl
@[go_sem] theorem ty_75 : ty 75 = some ⟨.sc, 1, 8, []⟩ := by kernel_rfl
@[go_sem] theorem ty_76 : ty 76 = some ⟨.sc, 1, 8, []⟩ := by kernel_rfl
@[go_sem] theorem ty_77 : ty 77 = some ⟨.sc, 1, 8, []⟩ := by kernel_rfl
@[go_sem] theorem ty_78 : ty 78 = some ⟨.sc, 1, 8, []⟩ := by kernel_rfl
@[go_sem] theorem ty_79 : ty 79 = some ⟨.sc, 1, 8, []⟩ := by kernel_rfl
@[go_sem] theorem ty_80 : ty 80 = some ⟨.sc, 1, 8, []⟩ := by kernel_rfl
@[go_sem] theorem ty_81 : ty 81 = some ⟨.sc, 1, 8, []⟩ := by kernel_rfl
@[go_sem] theorem ty_82 : ty 82 = some ⟨.sc, 1, 8, []⟩ := by kernel_rfl
@[go_sem] theorem ty_83 : ty 83 = some ⟨.sc, 1, 8, []⟩ := by kernel_rfl
@[go_sem] theorem ty_84 : ty 84 = some ⟨.sl 136, 1, 24, [.nl 136]⟩ := by kernel_rfl
@[go_sem] theorem ty_85 : ty 85 = some ⟨.st [(0, 3), (1, 3), (2, 84)], 3, 40, [.int .i64 0, .int .i64 0, .nl 136]⟩ := by kernel_rfl
@[go_sem] theorem ty_86 : ty 86 = some ⟨.st [(0, 3), (1, 3), (2, 84)], 3, 40, [.int .i64 0, .int .i64 0, .nl 136]⟩ := by kernel_rfl
@[go_sem] theorem ty_87 : ty 87 = some ⟨.sc, 1, 8, []⟩ := by kernel_rfl
@[go_sem] theorem ty_88 : ty 88 = some ⟨.sc, 1, 8, []⟩ := by kernel_rfl
@[go_sem] theorem ty_89 : ty 89 = some ⟨.sc, 1, 8, []⟩ := by kernel_rfl
@[go_sem] theorem ty_90 : ty 90 = some ⟨.sc, 1, 8, []⟩ := by kernel_rfl
@[go_sem] theorem ty_91 : ty 91 = some ⟨.sc, 1, 8, []⟩ := by kernel_rfl
@[go_sem] theorem ty_92 : ty 92 = some ⟨.sc, 1, 8, []⟩ := by kernel_rfl
@[go_sem] theorem ty_93 : ty 93 = some ⟨.sc, 1, 8, []⟩ := by kernel_rfl
@[go_sem] theorem ty_94 : ty 94 = some ⟨.sc, 1, 8, []⟩ := by kernel_rfl
@[go_sem] theorem ty_95 : ty 95 = some ⟨.sc, 1, 8, []⟩ := by kernel_rfl
@[go_sem] theorem ty_97 : ty 97 = some ⟨.sc, 1, 8, []⟩ := by kernel_rfl
@[go_sem] theorem ty_98 : ty 98 = some ⟨.st [(0, 22), (1, 3), (2, 3)], 3, 40, [.nl 5, .int .i64 0, .int .i64 0]⟩ := by kernel_rfl
@[go_sem] theorem ty_99 : ty 99 = some ⟨.st [(0, 22), (1, 3), (2, 3)], 3, 40, [.nl 5, .int .i64 0, .int .i64 0]⟩ := by kernel_rfl
@[go_sem] theorem ty_100 : ty 100 = some ⟨.sc, 1, 8, []⟩ := by kernel_rfl
@[go_sem] theorem ty_101 : ty 101 = some ⟨.sc, 1, 8, []⟩ := by kernel_rfl
@[go_sem] theorem ty_102 : ty 102 = some ⟨.sc, 1, 8, []⟩ := by kernel_rfl
@[go_sem] theorem ty_103 : ty 103 = some ⟨.sc, 1, 8, []⟩ := by kernel_rfl
@[go_sem] theorem ty_104 : ty 104 = some ⟨.it .u64, 1, 8, [.int .u64 0]⟩ := by kernel_rfl
@[go_sem] theorem ty_105 : ty 105 = some ⟨.sc, 1, 8, []⟩ := by kernel_rfl
@[go_sem] theorem ty_106 : ty 106 = some ⟨.sc, 1, 8, []⟩ := by kernel_rfl
@[go_sem] theorem ty_107 : ty 107 = some ⟨.sc, 1, 8, []⟩ := by kernel_rfl
@[go_sem] theorem ty_108 : ty 108 = some ⟨.sc, 1, 8, []⟩ := by kernel_rfl
@[go_sem] theorem ty_109 : ty 109 = some ⟨.sc, 1, 8, []⟩ := by kernel_rfl
@[go_sem] theorem ty_110 : ty 110 = some ⟨.sc, 1, 8, []⟩ := by kernel_rfl
@[go_sem] theorem ty_111 : ty 111 = some ⟨.sc, 1, 8, []⟩ := by kernel_rfl
@[go_sem] theorem ty_112 : ty 112 = some ⟨.sc, 1, 8, []⟩ := by kernel_rfl
@[go_sem] theorem ty_113 : ty 113 = some ⟨.sc, 1, 8, []⟩ := by kernel_rfl
@[go_sem] theorem ty_114 : ty 114 = some ⟨.sc, 1, 8, []⟩ := by kernel_rfl
@[go_sem] theorem ty_116 : ty 116 = some ⟨.sc, 1, 8, []⟩ := by kernel_rfl
@[go_sem] theorem ty_117 : ty 117 = some ⟨.sc, 1, 8, []⟩ := by kernel_rfl
@[go_sem] theorem ty_118 : ty 118 = some ⟨.sc, 1, 8, []⟩ := by kernel_rfl
@[go_sem] theorem ty_119 : ty 119 = some ⟨.sc, 1, 8, []⟩ := by kernel_rfl
@[go_sem] theorem ty_120 : ty 120 = some ⟨.sc, 1, 8, []⟩ := by kernel_rfl
@[go_sem] theorem ty_121 : ty 121 = some ⟨.it .i64, 1, 8, [.int .i64 0]⟩ := by kernel_rfl
@[go_sem] theorem ty_123 : ty 123 = some ⟨.sc, 1, 8, []⟩ := by kernel_rfl
@[go_sem] theorem ty_124 : ty 124 = some ⟨.sc, 1, 8, []⟩ := by kernel_rfl
@[go_sem] theorem ty_125 : ty 125 = some ⟨.sc, 1, 8, []⟩ := by kernel_rfl
@[go_sem] theorem ty_126 : ty 126 = some ⟨.sc, 1, 8, []⟩ := by kernel_rfl
@[go_sem] theorem ty_127 : ty 127 = some ⟨.sc, 1, 8, []⟩ := by kernel_rfl
@[go_sem] theorem ty_128 : ty 128 = some ⟨.it .u32, 1, 4, [.int .u32 0]⟩ := by kernel_rfl
@[go_sem] theorem ty_129 : ty 129 = some ⟨.sc, 1, 8, []⟩ := by kernel_rfl
@[go_sem] theorem ty_130 : ty 130 = some ⟨.it .u64, 1, 8, [.int .u64 0]⟩ := by kernel_rfl
@[go_sem] theorem ty_131 : ty 131 = some ⟨.sc, 1, 8, []⟩ := by kernel_rfl
@[go_sem] theorem ty_132 : ty 132 = some ⟨.sc, 1, 8, []⟩ := by kernel_rfl
@[go_sem] theorem ty_133 : ty 133 = some ⟨.ar 6 3, 6, 48, [.int .i64 0, .int .i64 0, .int .i64 0, .int .i64 0, .int .i64 0, .int .i64 0]⟩ := by kernel_rfl
@[go_sem] theorem ty_134 : ty 134 = some ⟨.sc, 1, 8, []⟩ := by kernel_rfl
@[go_sem] theorem ty_135 : ty 135 = some ⟨.sc, 1, 8, []⟩ := by kernel_rfl
@[go_sem] theorem ty_136 : ty 136 = some ⟨.st [(0, 3), (1, 3), (2, 3), (3, 3), (4, 4)], 5, 40, [.int .i64 0, .int .i64 0, .int .i64 0, .int .i64 0, .bool false]⟩ := by kernel_rfl
@[go_sem] theorem ty_137 : ty 137 = some ⟨.sc, 1, 8, []⟩ := by kernel_rfl
@[go_sem] theorem ty_138 : ty 138 = some ⟨.sc, 1, 8, []⟩ := by kernel_rfl
@[go_sem] theorem ty_139 : ty 139 = some ⟨.sc, 1, 8, []⟩ := by kernel_rfl
@[go_sem] theorem ty_140 : ty 140 = some ⟨.it .u64, 1, 8, [.int .u64 0]⟩ := by kernel_rfl
@[go_sem] theorem ty_141 : ty 141 = some ⟨.sc, 1, 8, []⟩ := by kernel_rfl
@[go_sem] theorem ty_142 : ty 142 = some ⟨.sc, 1, 8, []⟩ := by kernel_rfl
@[go_sem] theorem ty_143 : ty 143 = some ⟨.sc, 1, 8, []⟩ := by kernel_rfl
@[go_sem] theorem ty_144 : ty 144 = some ⟨.sc, 1, 8, []⟩ := by kernel_rfl
@[go_sem] theorem ty_145 : ty 145 = some ⟨.sc, 1, 8, []⟩ := by kernel_rfl
@[go_sem] theorem ty_146 : ty 146 = some ⟨.sc, 1, 8, []⟩ := by kernel_rfl
@[go_sem] theorem ty_147 : ty 147 = some ⟨.sc, 1, 8, []⟩ := by kernel_rfl
@[go_sem] theorem ty_149 : ty 149 = some ⟨.sc, 1, 8, []⟩ := by kernel_rfl
@[go_sem] theorem ty_150 : ty 150 = some ⟨.sc, 1, 8, []⟩ := by kernel_rfl
@[go_sem] theorem ty_151 : ty 151 = some ⟨.sc, 1, 8, []⟩ := by kernel_rfl
@[go_sem] theorem ty_154 : ty 154 = some ⟨.ar 0 16, 0, 0, []⟩ := by kernel_rfl
@[go_sem] theorem ty_157 : ty 157 = some ⟨.sc, 1, 8, []⟩ := by kernel_rfl
@[go_sem] theorem ty_158 : ty 158 = some ⟨.it .u8, 1, 1, [.int .u8 0]⟩ := by kernel_rfl
@[go_sem] theorem ty_159 : ty 159 = some ⟨.it .u8, 1, 1, [.int .u8 0]⟩ := by kernel_rfl
@[go_sem] theorem ty_160 : ty 160 = some ⟨.sc, 1, 8, []⟩ := by kernel_rfl
@[go_sem] theorem ty_161 : ty 161 = some ⟨.sc, 1, 8, []⟩ := by kernel_rfl
@[go_sem] theorem ty_162 : ty 162 = some ⟨.it .i32, 1, 4, [.int .i32 0]⟩ := by kernel_rfl
@[go_sem] theorem ty_163 : ty 163 = some ⟨.it .i32, 1, 4, [.int .i32 0]⟩ := by kernel_rfl
theorem tyAll : (tyL.all fun p => chkT Try.prog p.1 p.2) = true := by kernel_rfl
theorem hT : TyOK Try.prog ty := by
  intro t d h
  unfold ty at h
  cases hf : tyL.find? (fun p => Nat.beq p.1 t) with
  | none => rw [hf] at h; cases h
  | some p =>
    rw [hf] at h
    simp only [Option.map_some, Option.some.injEq] at h
    subst h
    have h1 := List.find?_some hf
    have h2 := List.all_eq_true.1 tyAll p (List.mem_of_find?_eq_some hf)
    have e : p.1 = t := Nat.eq_of_beq_eq_true h1
    rw [← e]
    exact chkT_spec h2
theorem hM : Try.prog.follows .mixedOrders = true := by kernel_rfl

/-! ### The walk's rules, with what is to be reckoned as a default: F is what the walk is told -/
section
variable {E : Env} {rest : List Oper} {K : St → Prop} {tm : Nat → VV} {H : Heap} {nx N : Nat} {lim : Option Nat} {s : St}
theorem wHb : (∀ (p : Prop) [Decidable p], (decide p = true) = p) ∧ (∀ (p : Prop) [Decidable p], (decide p = false) ↔ ¬ p) ∧ (∀ {α : Type} [BEq α] [LawfulBEq α] {a b : α}, (a != b) = true ↔ a ≠ b) ∧ (∀ {α : Type} (a b : α), (a ≠ b) = ¬ a = b) ∧ (∀ {b : Bool}, ((!b) = true) = (b = false)) ∧ (∀ {b : Bool}, ((!b) = false) = (b = true)) ∧ ((true = false) = False) ∧ ((false = true) = False) ∧ ((¬ True) = False) ∧ (∀ {α : Type} (a : α), (a = a) = True) :=
  ⟨@decide_eq_true_eq, @decide_eq_false_iff_not, @bne_iff_ne, @ne_eq.{1}, by simp, by simp, by simp, by simp, by simp, @eq_self.{1}⟩
theorem wSq {a b : Code} {Q : Exit → St → Prop} (h : ∀ K : St → Prop, (∀ s, VWP Try.prog E b Q s → K s) → VWP Try.prog E a (thenQ K Q) s) : VWP Try.prog E (.seq a b) Q s := VWP_seq_k h
theorem wRg {id : Nat} {l : List Oper} {Q : Exit → St → Prop} (h : vops Try.prog ty l.toArray l s (Q .normal)) : VWP Try.prog E (.region id l.toArray false) Q s := VWP_region_k hT h
theorem wDr {id : Nat} {l : List Oper} {Q : Exit → St → Prop} (h : vdraw Try.prog ty l.toArray l 0 nx ⟨tm, H, nx, N, none⟩ (Q .normal)) (hok : drawOK l.toArray = true := by kernel_rfl) : VWP Try.prog E (.region id l.toArray true) Q ⟨tm, H, nx, N, none⟩ := VWP_draw_k hT hM hok rfl h
theorem wLf {u : Nat} {x v : VV} (he : x = v) (hs : scalV v = true := by rfl) (h : tm u = x := by simp only [go_sem, Nat.reduceLT, Nat.reduceLeDiff, Nat.reduceEqDiff, Nat.reduceAdd, Nat.reduceMul, Nat.reduceSub, reduceCtorEq]; rfl) : RetOK Try.prog ty [.tmp u] v [] ⟨tm, H, nx, N, lim⟩ := ret_scal h hs he

theorem wCd {c : Operand} {a b : Code} {Q : Exit → St → Prop} {v : Bool} (h1 : v = true → VWP Try.prog E a Q s) (h2 : v = false → VWP Try.prog E b Q s) (hc : ev s c = .bool v := by simp only [go_sem, Nat.reduceLT, Nat.reduceLeDiff, Nat.reduceEqDiff, Nat.reduceAdd, Nat.reduceMul, Nat.reduceSub, reduceCtorEq, F]; rfl) : VWP Try.prog E (.cond c a b) Q s := VWP_cond2 v hc h1 h2
theorem wGd {ops : Array Oper} {o : Oper} {b c : Bool} {u : Nat} {v : VV} (h1 : c = true → GuardV Try.prog ty ops o b rest ⟨updV u (.bool true) tm, H, nx, N, lim⟩ K u (.bool true)) (h2 : c = false → GuardV Try.prog ty ops o b rest ⟨updV u (.bool false) tm, H, nx, N, lim⟩ K u (.bool false)) (h0 : tm u = v := by simp only [go_sem, Nat.reduceLT, Nat.reduceLeDiff, Nat.reduceEqDiff, Nat.reduceAdd, Nat.reduceMul, Nat.reduceSub, reduceCtorEq, F]) (h : v = .bool c := by rfl) :
    GuardV Try.prog ty ops o b rest ⟨tm, H, nx, N, lim⟩ K u v := guard_split h0 h h1 h2
theorem wCa {f : FuncId} {args : List VV} {dd : Nat} {v : VV} {l : List (TypeId × List (List PT))} (hok : ∀ x ∈ args, frzOk H x := by simp only [go_sem, Nat.reduceLT, Nat.reduceLeDiff, Nat.reduceEqDiff, Nat.reduceAdd, Nat.reduceMul, Nat.reduceSub, reduceCtorEq, F, List.mem_cons, List.not_mem_nil, or_false, forall_eq_or_imp, forall_eq, frzOk, frzOkC] <;> try simp) {args' : List VV} (ha : args.map (frzA H) = args' := by simp only [go_sem, Nat.reduceLT, Nat.reduceLeDiff, Nat.reduceEqDiff, Nat.reduceAdd, Nat.reduceMul, Nat.reduceSub, reduceCtorEq, F, frzA, frzC] <;> try rfl) (c : SatP Try.prog f args' v l) (hr : (⟨tm, H, nx, N, lim⟩ : St).room l.length = true := by simp only [go_sem, Nat.reduceLT, Nat.reduceLeDiff, Nat.reduceEqDiff, Nat.reduceAdd, Nat.reduceMul, Nat.reduceSub, reduceCtorEq, F] <;> try simp)
    (hd : dd < N := by decide) (k : K ⟨updV dd (shV nx v) tm, addH nx l H, nx + l.length, N, lim⟩) : CallK Try.prog f args ⟨tm, H, nx, N, lim⟩ (some dd) K := callK hok ha c hr hd k
theorem wOw {f : FuncId} {args : List VV} {dd : Nat} {v : VV} {O : List Ent} (σ : List Nat) (hn : σ.Nodup := by simp) (h1 : ∀ T ∈ σ, viewOkE σ H (H T) := by simp only [go_sem, Nat.reduceLT, Nat.reduceLeDiff, Nat.reduceEqDiff, Nat.reduceAdd, Nat.reduceMul, Nat.reduceSub, reduceCtorEq, F, List.mem_cons, List.not_mem_nil, or_false, forall_eq_or_imp, forall_eq, viewOkE, viewOkC] <;> try simp) (h2 : ∀ x ∈ args, viewOk σ H x := by simp only [go_sem, Nat.reduceLT, Nat.reduceLeDiff, Nat.reduceEqDiff, Nat.reduceAdd, Nat.reduceMul, Nat.reduceSub, reduceCtorEq, F, List.mem_cons, List.not_mem_nil, or_false, forall_eq_or_imp, forall_eq, viewOk, viewOkC, frzOk, frzOkC] <;> try simp) {args' : List VV} (ha : args.map (viewA σ H) = args' := by simp only [go_sem, Nat.reduceLT, Nat.reduceLeDiff, Nat.reduceEqDiff, Nat.reduceAdd, Nat.reduceMul, Nat.reduceSub, reduceCtorEq, F, frzA, frzC] <;> try rfl) {I : List Ent} (hI : (σ.map fun T => viewE σ H (H T)) = I := by simp only [go_sem, Nat.reduceLT, Nat.reduceLeDiff, Nat.reduceEqDiff, Nat.reduceAdd, Nat.reduceMul, Nat.reduceSub, reduceCtorEq, F] <;> try rfl)
    (c : SatO Try.prog f args' I v O) (hd : dd < N := by decide) (k : K ⟨updV dd (bkV σ nx v) tm, putO (bkE σ nx) σ nx O H, nx + (O.length - σ.length), N, none⟩) : CallK Try.prog f args ⟨tm, H, nx, N, none⟩ (some dd) K := callO σ hn h1 h2 ha hI c hd k

theorem wCdx {c : Operand} {a b : Code} {Q : Exit → St → Prop} {v : Bool} (h1 : v = true → VWP Try.prog E a Q s) (h2 : v = false → VWP Try.prog E b Q s) (hc : ev s c = .bool v := by simp only [go_sem, Nat.reduceLT, Nat.reduceLeDiff, Nat.reduceEqDiff, Nat.reduceAdd, Nat.reduceMul, Nat.reduceSub, reduceCtorEq, Int.reduceBEq, Int.reduceBNe, Int.reduceLT, Int.reduceLE, Int.reduceAdd, Int.reduceToNat, F]; rfl) : VWP Try.prog E (.cond c a b) Q s := VWP_cond2 v hc h1 h2
theorem wGdx {ops : Array Oper} {o : Oper} {b c : Bool} {u : Nat} {v : VV} (h1 : c = true → GuardV Try.prog ty ops o b rest ⟨updV u (.bool true) tm, H, nx, N, lim⟩ K u (.bool true)) (h2 : c = false → GuardV Try.prog ty ops o b rest ⟨updV u (.bool false) tm, H, nx, N, lim⟩ K u (.bool false)) (h0 : tm u = v := by simp only [go_sem, Nat.reduceLT, Nat.reduceLeDiff, Nat.reduceEqDiff, Nat.reduceAdd, Nat.reduceMul, Nat.reduceSub, reduceCtorEq, Int.reduceBEq, Int.reduceBNe, Int.reduceLT, Int.reduceLE, Int.reduceAdd, Int.reduceToNat, F]) (h : v = .bool c := by rfl) :
    GuardV Try.prog ty ops o b rest ⟨tm, H, nx, N, lim⟩ K u v := guard_split h0 h h1 h2
theorem wCax {f : FuncId} {args : List VV} {dd : Nat} {v : VV} {l : List (TypeId × List (List PT))} (hok : ∀ x ∈ args, frzOk H x := by simp only [go_sem, Nat.reduceLT, Nat.reduceLeDiff, Nat.reduceEqDiff, Nat.reduceAdd, Nat.reduceMul, Nat.reduceSub, reduceCtorEq, Int.reduceBEq, Int.reduceBNe, Int.reduceLT, Int.reduceLE, Int.reduceAdd, Int.reduceToNat, F, List.mem_cons, List.not_mem_nil, or_false, forall_eq_or_imp, forall_eq, frzOk, frzOkC] <;> try simp) {args' : List VV} (ha : args.map (frzA H) = args' := by simp only [go_sem, Nat.reduceLT, Nat.reduceLeDiff, Nat.reduceEqDiff, Nat.reduceAdd, Nat.reduceMul, Nat.reduceSub, reduceCtorEq, Int.reduceBEq, Int.reduceBNe, Int.reduceLT, Int.reduceLE, Int.reduceAdd, Int.reduceToNat, F, frzA, frzC] <;> try rfl) (c : SatP Try.prog f args' v l) (hr : (⟨tm, H, nx, N, lim⟩ : St).room l.length = true := by simp only [go_sem, Nat.reduceLT, Nat.reduceLeDiff, Nat.reduceEqDiff, Nat.reduceAdd, Nat.reduceMul, Nat.reduceSub, reduceCtorEq, Int.reduceBEq, Int.reduceBNe, Int.reduceLT, Int.reduceLE, Int.reduceAdd, Int.reduceToNat, F] <;> try simp)
    (hd : dd < N := by decide) (k : K ⟨updV dd (shV nx v) tm, addH nx l H, nx + l.length, N, lim⟩) : CallK Try.prog f args ⟨tm, H, nx, N, lim⟩ (some dd) K := callK hok ha c hr hd k
theorem wOwx {f : FuncId} {args : List VV} {dd : Nat} {v : VV} {O : List Ent} (σ : List Nat) (hn : σ.Nodup := by simp) (h1 : ∀ T ∈ σ, viewOkE σ H (H T) := by simp only [go_sem, Nat.reduceLT, Nat.reduceLeDiff, Nat.reduceEqDiff, Nat.reduceAdd, Nat.reduceMul, Nat.reduceSub, reduceCtorEq, Int.reduceBEq, Int.reduceBNe, Int.reduceLT, Int.reduceLE, Int.reduceAdd, Int.reduceToNat, F, List.mem_cons, List.not_mem_nil, or_false, forall_eq_or_imp, forall_eq, viewOkE, viewOkC] <;> try simp) (h2 : ∀ x ∈ args, viewOk σ H x := by simp only [go_sem, Nat.reduceLT, Nat.reduceLeDiff, Nat.reduceEqDiff, Nat.reduceAdd, Nat.reduceMul, Nat.reduceSub, reduceCtorEq, Int.reduceBEq, Int.reduceBNe, Int.reduceLT, Int.reduceLE, Int.reduceAdd, Int.reduceToNat, F, List.mem_cons, List.not_mem_nil, or_false, forall_eq_or_imp, forall_eq, viewOk, viewOkC, frzOk, frzOkC] <;> try simp) {args' : List VV} (ha : args.map (viewA σ H) = args' := by simp only [go_sem, Nat.reduceLT, Nat.reduceLeDiff, Nat.reduceEqDiff, Nat.reduceAdd, Nat.reduceMul, Nat.reduceSub, reduceCtorEq, Int.reduceBEq, Int.reduceBNe, Int.reduceLT, Int.reduceLE, Int.reduceAdd, Int.reduceToNat, F, frzA, frzC] <;> try rfl) {I : List Ent} (hI : (σ.map fun T => viewE σ H (H T)) = I := by simp only [go_sem, Nat.reduceLT, Nat.reduceLeDiff, Nat.reduceEqDiff, Nat.reduceAdd, Nat.reduceMul, Nat.reduceSub, reduceCtorEq, Int.reduceBEq, Int.reduceBNe, Int.reduceLT, Int.reduceLE, Int.reduceAdd, Int.reduceToNat, F] <;> try rfl)
    (c : SatO Try.prog f args' I v O) (hd : dd < N := by decide) (k : K ⟨updV dd (bkV σ nx v) tm, putO (bkE σ nx) σ nx O H, nx + (O.length - σ.length), N, none⟩) : CallK Try.prog f args ⟨tm, H, nx, N, none⟩ (some dd) K := callO σ hn h1 h2 ha hI c hd k
end
theorem wNl {X : Type} {tl : X → List (Nat × VV)} {hl : X → List (Nat × Ent)} {μ : X → Nat} {J : X → Prop} {B N : Nat} {x : X} {s : St} (h : NextL tl hl μ J B N x s) : NextL tl hl μ J B N x s := h
theorem wNo {P : Program} {ty : Ty} {rs : List ResultVar} {m : Nat} {v : VV} {O : List Ent} {s : St} (h : RetO P ty rs m v O s) : RetO P ty rs m v O s := h
theorem wNr {P : Program} {ty : Ty} {rs : List ResultVar} {v : VV} {l : List (TypeId × List (List PT))} {s : St} (h : RetOK P ty rs v l s) : RetOK P ty rs v l s := h
theorem wwA {a b : Prop} (x : a) (y : b) : a ∧ b := ⟨x, y⟩
theorem ww1 {p q : Prop} (h : q) (e : q → p := by first | exact fun h => wRg h | exact fun h => wDr h | exact fun h => VWP_block h | exact fun h => VWP_skip h | exact fun h => VWP_exit h | exact fun h => VWP_ret h) : p := e h
theorem ww3 {p q : Prop} (h : q) (e : p = q := by simp only [go_sem, Nat.reduceLT, Nat.reduceLeDiff, Nat.reduceEqDiff, Nat.reduceAdd, Nat.reduceMul, Nat.reduceSub, reduceCtorEq, F]; rfl) : p := e ▸ h
theorem ww3x {p q : Prop} (h : q) (e : p = q := by simp only [go_sem, Nat.reduceLT, Nat.reduceLeDiff, Nat.reduceEqDiff, Nat.reduceAdd, Nat.reduceMul, Nat.reduceSub, reduceCtorEq, Int.reduceBEq, Int.reduceBNe, Int.reduceLT, Int.reduceLE, Int.reduceAdd, Int.reduceToNat, F]; rfl) : p := e ▸ h
theorem ww4 {p q : Prop} (h : q) (e : p = q := by simp (disch := omega) only [decide_eq_true_eq, if_pos, if_neg, wrap_id, le_maxLen, and_true, true_and, if_true, ite_true]; rfl) : p := e ▸ h
theorem wwN {p q : Prop} (h : q) (e : q → p := by first | exact fun h => wNn h | exact fun h => wNo h | exact fun h => wNl h | exact fun h => wNr h) : p := e h
theorem wRo {rs : List ResultVar} {m : Nat} {vs : List VV} {v : VV} {O K2 : List Ent} {acc acc1 : List Out} {H H' : Heap} {tm : Nat → VV} {nx N : Nat} {lim : Option Nat} (ms : List (Nat × Nat × Nat)) (Ks : List Ent) (h0 : merges ms H = some H' := by rfl) (h1 : Ks.length = m := by rfl)
    (h2 : keepsL 0 Ks H' := by (simp only [keepsL]; repeat' first | exact trivial | refine And.intro ?_ ?_ | ((simp only [go_sem, Nat.reduceLT, Nat.reduceLeDiff, Nat.reduceEqDiff, Nat.reduceAdd, Nat.reduceMul, Nat.reduceSub, reduceCtorEq, F] <;> try rfl) <;> fail) | rfl)) (h3 : exEs m H' Ks [] = some (K2, acc1) := by ((simp only [go_sem, Nat.reduceLT, Nat.reduceLeDiff, Nat.reduceEqDiff, Nat.reduceAdd, Nat.reduceMul, Nat.reduceSub, reduceCtorEq, F, exEs, exOCs, exOC, Nat.le_refl] <;> try rfl) <;> fail))
    (h4 : vres ty ⟨tm, H, nx, N, lim⟩ rs = some vs := by ((simp only [go_sem, Nat.reduceLT, Nat.reduceLeDiff, Nat.reduceEqDiff, Nat.reduceAdd, Nat.reduceMul, Nat.reduceSub, reduceCtorEq, vres] <;> try rfl) <;> fail)) (h5 : exOV m H' (wrap vs) acc1 = some (v, acc) := by ((simp only [go_sem, Nat.reduceLT, Nat.reduceLeDiff, Nat.reduceEqDiff, Nat.reduceAdd, Nat.reduceMul, Nat.reduceSub, reduceCtorEq, F, wrap, exOV, exOAs, exOA, exOCs, exOC, Nat.le_refl] <;> try rfl) <;> fail)) (h6 : (acc.filterMap (·.1)).Nodup := by simp)
    (h7 : K2 ++ acc.map rootOf = O := by (simp [rootOf, F] <;> try rfl) <;> fail) : RetO Try.prog ty rs m v O ⟨tm, H, nx, N, lim⟩ := retO_mk ms h0 Ks h1 h2 h3 h4 h5 h6 h7
theorem wEo {f : FuncId} {fn : Func} {c : Code} {args : List VV} {I : List Ent} {v : VV} {O : List Ent} (hf : Try.prog.funcs[f]? = some fn) (rs : List ResultVar) (n m : Nat) (hk : keptL I O) (hb : ∀ E, PinLe E m → VWP Try.prog E c (RetQO Try.prog ty rs m v O) ⟨fun t => (args[t]?).getD .any, HpE I, m, n, none⟩)
    (h1 : (fn.name == "runtime.NumGoroutine") = false := by kernel_rfl) (h2 : fn.body = some c := by rfl) (h3 : fn.results.toList = rs := by rfl) (h4 : fn.ntmps = n := by rfl) (h5 : args.length ≤ n := by simp) (h6 : outV v = true := by rfl) (h7 : I.length = m := by rfl) : SatO Try.prog f args I v O := satO_of_body hT hf h1 h2 h3 h4 h5 h6 h7 hk hb
theorem wEp {f : FuncId} {fn : Func} {c : Code} {args : List VV} {v : VV} {l : List (TypeId × List (List PT))} (hf : Try.prog.funcs[f]? = some fn) (rs : List ResultVar) (n : Nat) (hb : ∀ E, PinLe E 0 → VWP Try.prog E c (RetQ Try.prog ty rs v l) ⟨fun t => (args[t]?).getD .any, fun _ => .dead, 0, n, none⟩)
    (hp : ∀ x ∈ l, PurRows x.2 := by simp) (h1 : (fn.name == "runtime.NumGoroutine") = false := by kernel_rfl) (h2 : fn.body = some c := by rfl) (h3 : fn.results.toList = rs := by rfl) (h4 : fn.ntmps = n := by rfl) (h5 : args.length ≤ n := by simp) (h6 : outV v = true := by rfl) : SatP Try.prog f args v l := satP_of_body hT hf h1 h2 h3 h4 h5 h6 hp hb
end Go.Proofs.Ytchkbgekmoileaa

/- The value-level engine, twenty-second part: what came in reads as a tree; a law that holds on values holds as its row says. -/
namespace Go.Proofs.Ytchkbgekmoileaa
open Go Go.RowKit
set_option linter.unusedVariables false
set_option linter.unusedSimpArgs false

/-- The elements of an array, as fields. -/
def arF (n s : Nat) (e : TypeId) : List (Nat × TypeId) := (List.range n).map fun i => (i * s, e)
mutual
/-- The cells of a value of a type, by the table. -/
def PTy (ty : Ty) : Nat → TypeId → List PT → Prop
  | 0, _, _ => False
  | f + 1, t, cells => match ty t with
    | some ⟨.it k, _, _, _⟩ => ∃ n, cells = [.int k n] ∧ k.min ≤ n ∧ n ≤ k.max
    | some ⟨.bo, _, _, _⟩ => ∃ b, cells = [.bool b]
    | some ⟨.ss, _, _, _⟩ => ∃ s, cells = [.str s] ∧ s.size ≤ maxLen
    | some ⟨.sl e, _, _, _⟩ => ∃ rows, cells = [.list e rows] ∧ rows.length ≤ maxLen ∧ ∀ r ∈ rows, PTy ty f e r
    | some ⟨.st fs, _, _, _⟩ => PTyF ty f fs cells
    | some ⟨.ar n e, _, _, _⟩ => PTyF ty f (arF n (sizeT ty e) e) cells
    | _ => False
def PTyF (ty : Ty) : Nat → List (Nat × TypeId) → List PT → Prop
  | _, [], cells => cells = []
  | f, x :: fs, cells => ∃ a b, cells = a ++ b ∧ PTy ty f x.2 a ∧ PTyF ty f fs b
end

section
variable {ty : Ty} {f : Nat} {t : TypeId} {cells : List PT} {a b : Nat} {z : List VV}
theorem PTy_it {k : IntKind} (h : ty t = some ⟨.it k, a, b, z⟩) : PTy ty (f + 1) t cells = ∃ n, cells = [.int k n] ∧ k.min ≤ n ∧ n ≤ k.max := by simp only [PTy, h]
theorem PTy_bo (h : ty t = some ⟨.bo, a, b, z⟩) : PTy ty (f + 1) t cells = ∃ b, cells = [.bool b] := by simp only [PTy, h]
theorem PTy_ss (h : ty t = some ⟨.ss, a, b, z⟩) : PTy ty (f + 1) t cells = ∃ s, cells = [.str s] ∧ s.size ≤ maxLen := by simp only [PTy, h]
theorem PTy_sl {e : TypeId} (h : ty t = some ⟨.sl e, a, b, z⟩) : PTy ty (f + 1) t cells = ∃ rows, cells = [.list e rows] ∧ rows.length ≤ maxLen ∧ ∀ r ∈ rows, PTy ty f e r := by simp only [PTy, h]
theorem PTy_st {fs : List (Nat × TypeId)} (h : ty t = some ⟨.st fs, a, b, z⟩) : PTy ty (f + 1) t cells = PTyF ty f fs cells := by simp only [PTy, h]
theorem PTy_ar {n e : Nat} (h : ty t = some ⟨.ar n e, a, b, z⟩) : PTy ty (f + 1) t cells = PTyF ty f (arF n (sizeT ty e) e) cells := by simp only [PTy, h]
theorem PTyF_nil : PTyF ty f [] cells = (cells = []) := by simp only [PTyF]
theorem PTyF_cons {x : Nat × TypeId} {fs : List (Nat × TypeId)} : PTyF ty f (x :: fs) cells = ∃ a b, cells = a ++ b ∧ PTy ty f x.2 a ∧ PTyF ty f fs b := by simp only [PTyF]
end

/-- Types that the engine reads: numbers, bools, strings, slices, structs of these, laid out in a row. -/
def contig (ty : Ty) : Nat → List (Nat × TypeId) → Nat → Bool
  | off, [], n => off == n
  | off, x :: fs, n => x.1 == off && (ty x.2).isSome && contig ty (off + sizeT ty x.2) fs n
def plainT (ty : Ty) : Nat → TypeId → Bool
  | 0, _ => false
  | f + 1, t => match ty t with
    | some ⟨.it _, n, _, _⟩ => n == 1
    | some ⟨.bo, n, _, _⟩ => n == 1
    | some ⟨.ss, n, _, _⟩ => n == 1
    | some ⟨.sl e, n, _, _⟩ => n == 1 && sizeT ty e != 0 && plainT ty f e
    | some ⟨.st fs, n, _, _⟩ => contig ty 0 fs n && fs.all fun x => plainT ty f x.2
    | some ⟨.ar m e, n, _, _⟩ => contig ty 0 (arF m (sizeT ty e) e) n && plainT ty f e
    | _ => false

section
variable {P : Program} {W : World} {ty : Ty} {H : Type} {enc : TypeId × Value → H} {sp : Nat → Bool} {held : Bool}

theorem rd_list {e : TypeId} {rows : List (List PT)} {a : Addr} {cap : Nat} (hcap : rows.length ≤ cap) (hmax : cap ≤ maxLen) (hsz : 0 < P.cellsOf e)
    (h : ∀ (i : Nat) (r : List PT), rows[i]? = some r → r.length = P.cellsOf e ∧ ∀ (j : Nat) (c : PT), r[j]? = some c → ∃ u, W.cell? ((a.add (i * P.cellsOf e)).add j) = some u ∧ Rd P (botEnv W) c u) :
    Rd P (botEnv W) (.list e rows) (.slice (some a) rows.length cap) := by
  have hex : ∀ x : Nat × Nat, ∃ f : Path → Value, ∀ (r : List PT) (c : PT), rows[x.1]? = some r → r[x.2]? = some c → ∃ u, W.cell? ((a.add (x.1 * P.cellsOf e)).add x.2) = some u ∧ fcell c (f []) u ∧
      ∀ e2 rows2, c = .list e2 rows2 → ∀ p e' rows', At p c = some (e', rows') → RdNode P (botEnv W) e' rows' (fun i j => f (p ++ [(i, j)])) (f p) := by
    intro x
    cases hr : rows[x.1]? with
    | none => exact ⟨fun _ => undef, fun r c h1 => by cases h1⟩
    | some r =>
      cases hc : r[x.2]? with
      | none => exact ⟨fun _ => undef, fun r' c h1 h2 => by cases h1; rw [hc] at h2; cases h2⟩
      | some c =>
        obtain ⟨u, hu, hrd⟩ := (h x.1 r hr).2 x.2 c hc
        by_cases hl : ∃ e2 rows2, c = .list e2 rows2
        · obtain ⟨e2, rows2, rfl⟩ := hl
          obtain ⟨fh, h1, h2⟩ := hrd
          refine ⟨fh, fun r' c' h3 h4 => ?_⟩
          cases h3
          rw [hc] at h4
          cases h4
          exact ⟨u, hu, h1.symm, fun _ _ _ => h2⟩
        · refine ⟨fun _ => undef, fun r' c' h3 h4 => ?_⟩
          cases h3
          rw [hc] at h4
          cases h4
          refine ⟨u, hu, ?_, fun e2 rows2 hh => absurd ⟨e2, rows2, hh⟩ hl⟩
          cases c <;> first | exact hrd | exact absurd ⟨_, _, rfl⟩ hl
  obtain ⟨F, hF⟩ := Classical.axiomOfChoice hex
  refine ⟨fun p => match p with | [] => .slice (some a) rows.length cap | x :: q => F x q, rfl, fun p e' rows' hat => ?_⟩
  cases p with
  | nil =>
    simp only [At, Option.some.injEq, Prod.mk.injEq] at hat
    obtain ⟨rfl, rfl⟩ := hat
    refine ⟨some a, cap, rfl, hcap, hmax, ?_⟩
    cases hrows : rows with
    | nil => exact .inl rfl
    | cons r0 rest =>
      rw [hrows] at h hF
      have h0 := (h 0 r0 rfl)
      have hspot : a.spot = none ∧ ∀ k, a.add k = ⟨a.block, a.off + k, none⟩ := by
        have hlt : 0 < r0.length := by rw [h0.1]; exact hsz
        obtain ⟨u, hu, _⟩ := h0.2 0 _ (List.getElem?_eq_getElem hlt)
        have hs := World.cell?_spot hu
        have : a.spot = none := by
          rw [Nat.zero_mul] at hs
          simpa [Addr.add] using hs
        refine ⟨this, fun k => ?_⟩
        cases a with
        | mk b o s =>
          simp only at this
          subst this
          exact add_off b o k
      refine .inr ⟨a.block, a.off, by cases a; simp_all, fun i r hr => ?_⟩
      obtain ⟨h1, h2⟩ := h i r hr
      refine ⟨h1, fun j c hc => ?_⟩
      obtain ⟨u, h3, h4, _⟩ := hF (i, j) r c hr hc
      have hadd : (a.add (i * P.cellsOf e)).add j = ⟨a.block, a.off + (i * P.cellsOf e + j), none⟩ := by
        rw [hspot.2, add_off, Nat.add_assoc]
      rw [hadd] at h3
      refine ⟨u, ⟨?_, fun h => h, h3⟩, h4⟩
      unfold World.cell? at h3
      split at h3
      · rename_i hh; exact (Array.getElem?_eq_some_iff.1 hh).1
      · cases h3
  | cons x q =>
    obtain ⟨i, j⟩ := x
    simp only [At] at hat
    cases hr : rows[i]? with
    | none => rw [hr] at hat; simp at hat
    | some r =>
      rw [hr] at hat
      simp only [Option.getD_some] at hat
      cases hc : r[j]? with
      | none => rw [hc] at hat; simp at hat
      | some c =>
        rw [hc] at hat
        simp only [Option.bind_some] at hat
        obtain ⟨u, h3, h4, h5⟩ := hF (i, j) r c hr hc
        cases c with
        | list e2 rows2 => exact h5 e2 rows2 rfl q e' rows' hat
        | _ => cases q <;> simp [At] at hat

def Reads (P : Program) (W : World) (ty : Ty) (n : Nat) (t : TypeId) (cs : List Value) : Prop :=
  ∃ cells : List PT, cells.length = cs.length ∧ cs.length = sizeT ty t ∧ PTy ty n t cells ∧ ∀ (j : Nat) (c : PT) (u : Value), cells[j]? = some c → cs[j]? = some u → Rd P (botEnv W) c u

theorem reads_one {n : Nat} {t : TypeId} {c : PT} {u : Value} (hs : sizeT ty t = 1) (hp : PTy ty n t [c]) (hr : Rd P (botEnv W) c u) : Reads P W ty n t [u] := by
  refine ⟨[c], rfl, by rw [hs]; rfl, hp, fun j c' u' hc hu => ?_⟩
  cases j with
  | zero => simp only [List.getElem?_cons_zero, Option.some.injEq] at hc hu; subst hc; subst hu; exact hr
  | succ j => simp at hc

theorem reads_fields {n : Nat} {cs : List Value} : ∀ (fs : List (Nat × TypeId)) (off : Nat), contig ty off fs cs.length = true → off ≤ cs.length → (∀ x ∈ fs, Reads P W ty n x.2 ((cs.drop x.1).take (sizeT ty x.2))) →
    ∃ cells : List PT, off + cells.length = cs.length ∧ PTyF ty n fs cells ∧ ∀ (j : Nat) (c : PT) (u : Value), cells[j]? = some c → cs[off + j]? = some u → Rd P (botEnv W) c u
  | [], off, hc, hle, _ => by
    simp only [contig, beq_iff_eq] at hc
    exact ⟨[], by simp [hc], by simp [PTyF], fun j c u h => by simp at h⟩
  | x :: fs, off, hc, hle, h => by
    simp only [contig, Bool.and_eq_true, beq_iff_eq] at hc
    obtain ⟨⟨h1, h2⟩, h3⟩ := hc
    obtain ⟨a, a1, a2, a3, a4⟩ := h x (List.mem_cons_self ..)
    have hle2 : off + sizeT ty x.2 ≤ cs.length := by
      simp only [List.length_take, List.length_drop, h1] at a2
      omega
    obtain ⟨b, b1, b2, b3⟩ := reads_fields fs (off + sizeT ty x.2) h3 hle2 fun y hy => h y (List.mem_cons_of_mem _ hy)
    refine ⟨a ++ b, by simp only [List.length_append]; omega, by simp only [PTyF]; exact ⟨a, b, rfl, a3, b2⟩, fun j c u hc hu => ?_⟩
    rw [List.getElem?_append] at hc
    split at hc
    · rename_i hj
      refine a4 j c u hc ?_
      rw [List.getElem?_take, if_pos (by omega), List.getElem?_drop, h1]
      exact hu
    · rename_i hj
      refine b3 (j - a.length) c u hc ?_
      rw [← hu]
      congr 1
      omega

theorem trod_read (hT : TyOK P ty) : ∀ (n : Nat) (t : TypeId) (fuel : Nat) (cs : List Value) (x : DataW H × List MemPlace), plainT ty n t = true → DataW.trod enc P W 0 sp held fuel t cs = some x → Reads P W ty n t cs
  | 0, _, _, _, _, hp, _ => by cases hp
  | n + 1, t, 0, cs, x, hp, h => by simp [DataW.trod] at h
  | n + 1, t, fuel + 1, cs, x, hp, h => by
    unfold plainT at hp
    split at hp
    · rename_i k n' b z ht
      have hu : P.underlying t = some (.int k) := (hT t _ ht).desc
      have hs : sizeT ty t = 1 := by simp only [sizeT, ht]; simpa using hp
      match cs, h with
      | [], h => simp [DataW.trod, hu] at h
      | v :: v2 :: rest, h => cases v <;> simp [DataW.trod, hu] at h
      | [v], h =>
        cases v <;> try (simp [DataW.trod, hu] at h; done)
        rename_i k' m
        simp only [DataW.trod, hu] at h
        split at h
        · rename_i hk
          obtain ⟨rfl, hwf⟩ := hk
          simp only [Lit.wf, Bool.and_eq_true, decide_eq_true_eq] at hwf
          exact reads_one (c := .int k' m) hs (by simp only [PTy, ht]; exact ⟨m, rfl, hwf⟩) rfl
        · cases h
    · rename_i n' b z ht
      have hu : P.underlying t = some .bool := (hT t _ ht).desc
      have hs : sizeT ty t = 1 := by simp only [sizeT, ht]; simpa using hp
      match cs, h with
      | [], h => simp [DataW.trod, hu] at h
      | v :: v2 :: rest, h => cases v <;> simp [DataW.trod, hu] at h
      | [v], h =>
        cases v <;> try (simp [DataW.trod, hu] at h; done)
        rename_i m
        exact reads_one (c := .bool m) hs (by simp only [PTy, ht]; exact ⟨m, rfl⟩) rfl
    · rename_i n' b z ht
      have hu : P.underlying t = some .string := (hT t _ ht).desc
      have hs : sizeT ty t = 1 := by simp only [sizeT, ht]; simpa using hp
      match cs, h with
      | [], h => simp [DataW.trod, hu] at h
      | v :: v2 :: rest, h => cases v <;> simp [DataW.trod, hu] at h
      | [v], h =>
        cases v <;> try (simp [DataW.trod, hu] at h; done)
        rename_i m
        simp only [DataW.trod, hu] at h
        split at h
        · rename_i hk
          exact reads_one (c := .str m) hs (by simp only [PTy, ht]; exact ⟨m, rfl, hk⟩) rfl
        · cases h
    · rename_i e n' b z ht
      have hu : P.underlying t = some (.slice e) := (hT t _ ht).desc
      simp only [Bool.and_eq_true, bne_iff_ne, ne_eq, beq_iff_eq] at hp
      obtain ⟨⟨hp1, hp2⟩, hp3⟩ := hp
      have hs : sizeT ty t = 1 := by simp only [sizeT, ht]; exact hp1
      obtain ⟨de, hde, hsz⟩ := sizeT_spec hT hp2
      have hce : P.cellsOf e = sizeT ty e := by rw [(hT e de hde).cells, hsz]
      match cs, h with
      | [], h => simp [DataW.trod, hu] at h
      | v :: v2 :: rest, h => cases v <;> simp [DataW.trod, hu] at h
      | [v], h =>
        cases v <;> try (simp [DataW.trod, hu] at h; done)
        rename_i A len cap
        cases A with
        | none =>
          cases len with
          | succ l => simp [DataW.trod, hu] at h
          | zero =>
            cases cap with
            | succ l => simp [DataW.trod, hu] at h
            | zero =>
              refine reads_one (c := .list e []) hs (by simp only [PTy, ht]; exact ⟨[], rfl, by simp, fun r hr => by simp at hr⟩) ?_
              refine ⟨fun _ => .slice none 0 0, rfl, fun p e' rows' hat => ?_⟩
              cases p with
              | nil =>
                simp only [At, Option.some.injEq, Prod.mk.injEq] at hat
                obtain ⟨rfl, rfl⟩ := hat
                exact ⟨none, 0, rfl, by simp, by simp [maxLen], .inl rfl⟩
              | cons x q => obtain ⟨i, j⟩ := x; simp [At] at hat
        | some a =>
          simp only [DataW.trod, hu] at h
          split at h
          · rename_i hk
            obtain ⟨_, hk1, hk2⟩ := hk
            cases hm : (List.range len).mapM fun i => (W.cells? 0 (a.add (i * P.cellsOf e)) (P.cellsOf e)).bind (DataW.trod enc P W 0 sp held fuel e) with
            | none => rw [hm] at h; simp at h
            | some elems =>
              have hel : ∀ i, ∃ r : List PT, i < len → r.length = P.cellsOf e ∧ PTy ty n e r ∧ ∀ (j : Nat) (c : PT), r[j]? = some c → ∃ u, W.cell? ((a.add (i * P.cellsOf e)).add j) = some u ∧ Rd P (botEnv W) c u := by
                intro i
                by_cases hi : i < len
                · have h1 := mapM_some_get hm i i (by simp [hi])
                  have hlen := mapM_some_length hm
                  have hlt : i < elems.length := by simpa [hlen] using hi
                  rw [List.getElem?_eq_getElem hlt] at h1
                  rw [Option.bind_eq_some_iff] at h1
                  obtain ⟨ci, h2, h3⟩ := h1
                  obtain ⟨cells, k1, k2, k3, k4⟩ := trod_read hT n e fuel ci _ hp3 h3
                  obtain ⟨_, m1, m2⟩ := World.cells?_some h2
                  refine ⟨cells, fun _ => ⟨by rw [k1, m1], k3, fun j c hc => ?_⟩⟩
                  have hj : j < ci.length := by rw [← k1]; exact (List.getElem?_eq_some_iff.1 hc).1
                  refine ⟨ci[j], ?_, k4 j c _ hc (List.getElem?_eq_getElem hj)⟩
                  rw [m2 j (by omega), List.getElem?_eq_getElem hj]
                · exact ⟨[], fun hh => absurd hh hi⟩
              obtain ⟨R, hR⟩ := Classical.axiomOfChoice hel
              have hRl : ((List.range len).map R).length = len := by simp
              have hRi : ∀ i r, ((List.range len).map R)[i]? = some r → i < len ∧ r = R i := fun i r hr => by
                have hi : i < len := by
                  have := (List.getElem?_eq_some_iff.1 hr).1
                  simpa using this
                rw [List.getElem?_map, List.getElem?_range hi] at hr
                simp only [Option.map_some, Option.some.injEq] at hr
                exact ⟨hi, hr.symm⟩
              have hrd := rd_list (P := P) (W := W) (e := e) (rows := (List.range len).map R) (a := a) (cap := cap) (by rw [hRl]; exact hk1) hk2 (by omega) (fun i r hr => by
                obtain ⟨hi, rfl⟩ := hRi i r hr
                exact ⟨(hR i hi).1, (hR i hi).2.2⟩)
              rw [hRl] at hrd
              refine reads_one (c := .list e ((List.range len).map R)) hs (by
                simp only [PTy, ht]
                refine ⟨_, rfl, by rw [hRl]; omega, fun r hr => ?_⟩
                obtain ⟨i, hi⟩ := List.getElem?_of_mem hr
                obtain ⟨hi2, rfl⟩ := hRi i r hi
                exact (hR i hi2).2.1) hrd
          · cases h
    · rename_i fs n' b z ht
      obtain ⟨F, hu, hF⟩ : ∃ F, P.underlying t = some (.struct F) ∧ F.toList.map (fun f => (f.offset, f.type)) = fs := (hT t _ ht).desc
      simp only [Bool.and_eq_true, List.all_eq_true] at hp
      obtain ⟨hp1, hp2⟩ := hp
      have hs : P.cellsOf t = n' := (hT t _ ht).cells
      have hs2 : sizeT ty t = n' := by simp only [sizeT, ht]
      have hx : ∃ y, (if cs.length = P.cellsOf t then (F.toList.mapM fun f => DataW.trod enc P W 0 sp held fuel f.type ((cs.drop f.offset).take (P.cellsOf f.type))).map fun xs => ((DataW.agg (xs.map (·.1)) : DataW H), xs.flatMap (·.2)) else none) = some y := by
        simp only [DataW.trod, hu] at h
        first
          | exact ⟨_, h⟩
          | (split at h <;> first | exact ⟨_, h⟩ | contradiction | (simp_all; done))
      obtain ⟨y, hx⟩ := hx
      split at hx
      · rename_i hlen
        cases hm : F.toList.mapM fun f => DataW.trod enc P W 0 sp held fuel f.type ((cs.drop f.offset).take (P.cellsOf f.type)) with
        | none => rw [hm] at hx; simp at hx
        | some xs =>
          have hall : ∀ z ∈ fs, Reads P W ty n z.2 ((cs.drop z.1).take (sizeT ty z.2)) := by
            intro z hz
            have hpz := hp2 z hz
            rw [← hF, List.mem_map] at hz
            obtain ⟨f, hf, rfl⟩ := hz
            obtain ⟨i, hi⟩ := List.getElem?_of_mem hf
            have h1 := mapM_some_get hm i f hi
            have hlt : i < xs.length := by rw [mapM_some_length hm]; exact (List.getElem?_eq_some_iff.1 hi).1
            rw [List.getElem?_eq_getElem hlt] at h1
            have hsz : P.cellsOf f.type = sizeT ty f.type := by
              cases hty : ty f.type with
              | none => cases n with
                | zero => cases hpz
                | succ n => simp only [plainT, hty] at hpz; cases hpz
              | some d => rw [(hT f.type d hty).cells]; simp only [sizeT, hty]
            rw [hsz] at h1
            exact trod_read hT n f.type fuel _ _ hpz h1
          obtain ⟨cells, c1, c2, c3⟩ := reads_fields (P := P) (W := W) (ty := ty) (n := n) (cs := cs) fs 0 (by rw [hlen, hs]; exact hp1) (by omega) hall
          refine ⟨cells, by omega, by rw [hlen, hs, hs2], by simp only [PTy, ht]; exact c2, fun j c u hc hu => ?_⟩
          exact c3 j c u hc (by rw [Nat.zero_add]; exact hu)
      · cases hx
    · rename_i m e n' b z ht
      have hu : P.underlying t = some (.array m e) := (hT t _ ht).desc
      simp only [Bool.and_eq_true] at hp
      obtain ⟨hp1, hp2⟩ := hp
      have hs : P.cellsOf t = n' := (hT t _ ht).cells
      have hs2 : sizeT ty t = n' := by simp only [sizeT, ht]
      have hsz : P.cellsOf e = sizeT ty e := by
        cases hty : ty e with
        | none => cases n with
          | zero => cases hp2
          | succ n => simp only [plainT, hty] at hp2; cases hp2
        | some d => rw [(hT e d hty).cells]; simp only [sizeT, hty]
      have hx : ∃ y, (if cs.length = P.cellsOf t then ((List.range m).mapM fun i => DataW.trod enc P W 0 sp held fuel e ((cs.drop (i * P.cellsOf e)).take (P.cellsOf e))).map fun xs => ((DataW.agg (xs.map (·.1)) : DataW H), xs.flatMap (·.2)) else none) = some y := by
        simp only [DataW.trod, hu] at h
        first
          | exact ⟨_, h⟩
          | (split at h <;> first | exact ⟨_, h⟩ | contradiction | (simp_all; done))
      obtain ⟨y, hx⟩ := hx
      split at hx
      · rename_i hlen
        cases hm : (List.range m).mapM fun i => DataW.trod enc P W 0 sp held fuel e ((cs.drop (i * P.cellsOf e)).take (P.cellsOf e)) with
        | none => rw [hm] at hx; simp at hx
        | some xs =>
          have hall : ∀ z ∈ arF m (sizeT ty e) e, Reads P W ty n z.2 ((cs.drop z.1).take (sizeT ty z.2)) := by
            intro z hz
            simp only [arF, List.mem_map, List.mem_range] at hz
            obtain ⟨i, hi, rfl⟩ := hz
            have h1 := mapM_some_get hm i i (by simp [hi])
            have hlt : i < xs.length := by rw [mapM_some_length hm]; simpa using hi
            rw [List.getElem?_eq_getElem hlt, hsz] at h1
            exact trod_read hT n e fuel _ _ hp2 h1
          obtain ⟨cells, c1, c2, c3⟩ := reads_fields (P := P) (W := W) (ty := ty) (n := n) (cs := cs) (arF m (sizeT ty e) e) 0 (by rw [hlen, hs]; exact hp1) (by omega) hall
          refine ⟨cells, by omega, by rw [hlen, hs, hs2], by simp only [PTy, ht]; exact c2, fun j c u hc hu => ?_⟩
          exact c3 j c u hc (by rw [Nat.zero_add]; exact hu)
      · cases hx
    · cases hp
end
end Go.Proofs.Ytchkbgekmoileaa

/- The value-level engine, twenty-third part: from a law on values to its row. -/
namespace Go.Proofs.Ytchkbgekmoileaa
open Go Go.RowKit Go.WideShapes Go.ChangeShapes
set_option linter.unusedVariables false
set_option linter.unusedSimpArgs false

def oneVV : List PT → VV
  | [c] => c.vv
  | _ => .any
/-- An argument, as it is handed over. -/
def argVV (ty : Ty) (t : TypeId) (cells : List PT) : VV :=
  match ty t with
  | some ⟨.st _, _, _, _⟩ => .agg (cells.map PT.vv)
  | some ⟨.ar _ _, _, _, _⟩ => .agg (cells.map PT.vv)
  | _ => oneVV cells

section
variable {P : Program} {W W' : World} {ty : Ty} {H : Type} {enc : TypeId × Value → H} {held : Bool} {sp : Nat → Bool}

theorem arg_read (hT : TyOK P ty) {n : Nat} {t : TypeId} {base : Nat} {v : Value} {d : DataW H} {ps : List MemPlace} (hp : plainT ty n t = true) (hv : Value.okWide P W .any base t v) (h : DataW.Trod enc P W 0 sp held t v d ps) :
    ∃ cells, PTy ty n t cells ∧ ARel P (botEnv W) (fun _ => .dead) Gh.nil (argVV ty t cells) v := by
  obtain ⟨fuel, h⟩ := h
  obtain ⟨cells, h1, h2, h3, h4⟩ := trod_read hT n t fuel _ _ hp h
  refine ⟨cells, h3, ?_⟩
  have hone : (∀ cs, v ≠ .agg cs) → sizeT ty t = 1 → oneVV cells = argVV ty t cells → ARel P (botEnv W) (fun _ => .dead) Gh.nil (argVV ty t cells) v := by
    intro hna hs he
    have hc : v.cells.toList = [v] := by cases v <;> first | rfl | exact absurd rfl (hna _)
    rw [hc] at h1 h4
    rw [← he]
    match cells, h1 with
    | [c], _ => exact arel_of_crel (rd_vv (h4 0 c v rfl rfl))
  cases n with
  | zero => cases hp
  | succ n =>
    unfold plainT at hp
    split at hp
    · rename_i k n' b z ht
      have hu : P.underlying t = some (.int k) := (hT t _ ht).desc
      refine hone (fun cs hh => ?_) (by simp only [sizeT, ht]; simpa using hp) (by simp only [argVV, ht])
      subst hh; simp [Value.okWide, hu, Cell.okWide, Cell.ok] at hv
    · rename_i n' b z ht
      have hu : P.underlying t = some .bool := (hT t _ ht).desc
      refine hone (fun cs hh => ?_) (by simp only [sizeT, ht]; simpa using hp) (by simp only [argVV, ht])
      subst hh; simp [Value.okWide, hu, Cell.okWide, Cell.ok] at hv
    · rename_i n' b z ht
      have hu : P.underlying t = some .string := (hT t _ ht).desc
      refine hone (fun cs hh => ?_) (by simp only [sizeT, ht]; simpa using hp) (by simp only [argVV, ht])
      subst hh; simp [Value.okWide, hu, Cell.okWide, Cell.ok] at hv
    · rename_i e n' b z ht
      have hu : P.underlying t = some (.slice e) := (hT t _ ht).desc
      simp only [Bool.and_eq_true, beq_iff_eq] at hp
      refine hone (fun cs hh => ?_) (by simp only [sizeT, ht]; exact hp.1.1) (by simp only [argVV, ht])
      subst hh; simp [Value.okWide, hu, Cell.okWide, Cell.ok] at hv
    · rename_i fs n' b z ht
      obtain ⟨F, hu, hF⟩ : ∃ F, P.underlying t = some (.struct F) ∧ F.toList.map (fun f => (f.offset, f.type)) = fs := (hT t _ ht).desc
      obtain ⟨cs, rfl, _⟩ : ∃ cs, v = .agg cs ∧ cs.size = P.cellsOf t ∧ Row.okWide P W .any base t cs := by simpa [Value.okWide, hu] using hv
      simp only [argVV, ht]
      refine ⟨cs.toList, by simp, ?_, fun j c u hc hu' => ?_⟩
      · have : cells.length = cs.toList.length := h1
        simpa using this.symm
      · simp only [List.getElem?_map, Option.map_eq_some_iff] at hc
        obtain ⟨c0, hc0, rfl⟩ := hc
        exact rd_vv (h4 j c0 u hc0 hu')
    · rename_i m e n' b z ht
      have hu : P.underlying t = some (.array m e) := (hT t _ ht).desc
      obtain ⟨cs, rfl, _⟩ : ∃ cs, v = .agg cs ∧ cs.size = P.cellsOf t ∧ Row.okWide P W .any base t cs := by simpa [Value.okWide, hu] using hv
      simp only [argVV, ht]
      refine ⟨cs.toList, by simp, ?_, fun j c u hc hu' => ?_⟩
      · have : cells.length = cs.toList.length := h1
        simpa using this.symm
      · simp only [List.getElem?_map, Option.map_eq_some_iff] at hc
        obtain ⟨c0, hc0, rfl⟩ := hc
        exact rd_vv (h4 j c0 u hc0 hu')
    · cases hp

theorem below_of (h : Frm (botEnv W) W') : Below W.heap.size W W' := ⟨h.os, h.tape, h.output, h.size, fun k hk => frm_bot h hk⟩

theorem stays_one {t : TypeId} (hl : laidOutB P = true) (hr : P.readableRec t = true) (hrow : t < P.types.size) {v : Value} {d : DataW H} {ps : List MemPlace} (h : DataW.Trod enc P W 0 (fun _ => true) true t v d ps) (hb : Below W.heap.size W W')
    (hlt : ∀ x ∈ ps, x.block < W.heap.size) (hs : ∀ x ∈ ps, sp x.block = true) : DataW.Trod enc P W' 0 sp true t v d ps :=
  Go.WideElems.Trod_stays hl hr hrow h (fun x hx => hb.same (hlt x hx)) hs

/-- The row's last step, where new blocks may have come and nothing below has turned. -/
theorem post_below {f : Func} {s : ChangeSpec} {apart fresh handsOn again : Bool} {args : Array Value} {v : Value} {ds gs : List (DataW H)} {before pa pv : List MemPlace}
    (hW : DataW.Whole enc P f.params.toList s.vars apart W args.toList ds gs before)
    (hres : ∀ (b : Nat) (sp : Nat → Bool) (hd : Bool), DataW.TrodAll enc P W' b sp hd f.resultTypes.toList (v.resultList f.resultTypes.size) (s.fn H (ds ++ gs)).results [])
    (hargs : ∀ sp : Nat → Bool, (∀ p ∈ before, sp p.block = true) → DataW.TrodAll enc P W' 0 sp true f.params.toList args.toList (s.fn H (ds ++ gs)).args pa)
    (hvars : ∀ sp : Nat → Bool, (∀ p ∈ before, sp p.block = true) → DataW.TrodVars enc P W' sp s.vars (s.fn H (ds ++ gs)).vars pv)
    (hps : before = pa ++ pv) (hb : Below W.heap.size W W')
    (hok : ∀ (j : Nat) (t : TypeId) (r : Value), f.resultTypes[j]? = some t → (v.resultList f.resultTypes.size)[j]? = some r → Value.okWide P W' .any 0 t r) :
    s.post enc P f apart fresh handsOn again W args v W' := by
  have hlt : ∀ p ∈ before, p.block < W.heap.size := fun p hp => hW.lt p hp
  have hold : ∀ p ∈ before, (fun b => decide (b < W.heap.size)) p.block = true := fun p hp => by simpa using hlt p hp
  refine ⟨ds, gs, before, [], pa, pv, hW, hres _ _ _, hargs _ hold, hvars _ hold, World.keptBut_mono (fun p hp => ⟨hp, by rw [hps, List.mem_append] at hp; exact Or.inr hp⟩) (hb.frame (· ∈ before)), fun _ => ?_⟩
  obtain ⟨_, _, _, _, _, hz, hn⟩ := hW
  refine ⟨hok, _, _, ([] ++ pa) ++ pv, ⟨[] ++ pa, pv, trodAll_append (hargs _ (fun _ _ => rfl)) (hres _ _ _), hvars _ (fun _ _ => rfl), rfl, fun b off hp => ?_, fun ha => ?_⟩, fun p hp _ => ?_⟩
  · have hin : MemPlace.cell b off ∈ before := by rw [hps]; simpa using hp
    rw [hb.frozen (hlt _ hin)]
    exact hz b off hin
  · have := hn ha
    rw [hps] at this
    simpa using this
  · rw [hps]
    simpa using hp
end
end Go.Proofs.Ytchkbgekmoileaa

/- The value-level engine, twenty-fourth part: loops whose state has tokens that change from round to round. -/
namespace Go.Proofs.Ytchkbgekmoileaa
open Go Go.RowKit
set_option linter.unusedVariables false
set_option linter.unusedSimpArgs false

section
variable {P : Program} {E : Env} {tm : Nat → VV} {H : Heap} {nx N : Nat}

/-- A round of a loop has gone well; the tokens that it knows lie below a bound of its own. -/
def NextB {X : Type} (tl : X → List (Nat × VV)) (hl : X → List (Nat × Ent)) (μ : X → Nat) (J : X → Prop) (B : X → Nat) (N : Nat) (x : X) (s' : St) : Prop :=
  ∃ ms H', merges ms s'.H = some H' ∧ ∃ x', J x' ∧ μ x' < μ x ∧ (∀ p ∈ tl x', s'.tm p.1 = p.2) ∧ (∀ p ∈ hl x', H' p.1 = p.2) ∧ B x' ≤ s'.nx ∧ s'.N = N ∧ s'.lim = none
theorem nextB {X : Type} {tl : X → List (Nat × VV)} {hl : X → List (Nat × Ent)} {μ : X → Nat} {J : X → Prop} {B : X → Nat} {x : X} (x' : X) (h1 : J x') (h2 : μ x' < μ x) (h3 : ∀ p ∈ tl x', tm p.1 = p.2) (h4 : ∀ p ∈ hl x', H p.1 = p.2) (h5 : B x' ≤ nx) :
    NextB tl hl μ J B N x ⟨tm, H, nx, N, none⟩ := ⟨[], _, rfl, x', h1, h2, h3, h4, h5, rfl, rfl⟩
theorem nextBM {X : Type} {tl : X → List (Nat × VV)} {hl : X → List (Nat × Ent)} {μ : X → Nat} {J : X → Prop} {B : X → Nat} {x : X} {H' : Heap} (ms : List (Nat × Nat × Nat)) (h0 : merges ms H = some H') (x' : X) (h1 : J x') (h2 : μ x' < μ x) (h3 : ∀ p ∈ tl x', tm p.1 = p.2) (h4 : ∀ p ∈ hl x', H' p.1 = p.2) (h5 : B x' ≤ nx) :
    NextB tl hl μ J B N x ⟨tm, H, nx, N, none⟩ := ⟨ms, H', h0, x', h1, h2, h3, h4, h5, rfl, rfl⟩
theorem VWP_loopB {X : Type} (tl : X → List (Nat × VV)) (hl : X → List (Nat × Ent)) (μ : X → Nat) (J : X → Prop) (B : X → Nat) (x0 : X) {c : Code} {Q : Exit → St → Prop} (hJ : J x0) (h1 : ∀ p ∈ tl x0, tm p.1 = p.2) (h2 : ∀ p ∈ hl x0, H p.1 = p.2) (hB : B x0 ≤ nx)
    (round : ∀ x nx, J x → B x ≤ nx → VWP P E c (thenQ (NextB tl hl μ J B N x) Q) ⟨tmL (tl x), hpL (hl x), nx, N, none⟩) :
    VWP P E (.loop c) Q ⟨tm, H, nx, N, none⟩ := by
  refine VWP_loop (fun m s => ∃ x, J x ∧ m = μ x ∧ (∀ p ∈ tl x, s.tm p.1 = p.2) ∧ (∀ p ∈ hl x, s.H p.1 = p.2) ∧ B x ≤ s.nx ∧ s.N = N ∧ s.lim = none) (μ x0) ⟨x0, hJ, rfl, h1, h2, hB, rfl, rfl⟩ ?_
  rintro m s ⟨x, k1, rfl, k2, k3, k4, k5, k6⟩
  have hw := wk_list k2 k3 (Nat.le_refl s.nx) k6
  rw [k5] at hw
  refine VWP_wk hw (VWP_post (fun e s he => ?_) (round x s.nx k1 k4))
  cases e with
  | normal =>
    obtain ⟨ms, H', j0, x', j1, j2, j3, j4, j5, j6, j7⟩ := he
    exact ⟨{ s with H := H' }, fun g a w hr => (rel_merges hr j0).imp fun g' h => h.1, μ x', j2, x', j1, rfl, j3, j4, j5, j6, j7⟩
  | _ => exact ⟨s, fun g a w hr => ⟨g, hr⟩, he⟩
end
end Go.Proofs.Ytchkbgekmoileaa

/- The value-level engine, twenty-fifth part: a slice that lies in a row of the call's own is taken out, and put back, between two steps. -/
namespace Go.Proofs.Ytchkbgekmoileaa
open Go Go.RowKit
set_option linter.unusedVariables false
set_option linter.unusedSimpArgs false

/-- The slice of the cell (i, j) of T as a token X of its own. -/
def splitH (H : Heap) (T i j X : Nat) : Option Heap :=
  match H T with
  | .root e rows => match rows[i]? with
    | some r => match r[j]? with
      | some (.list e' rows') => some (updH X (.root e' rows') (updH T (.root e (rows.set i (r.set j (.ref X rows'.length)))) H))
      | _ => none
    | _ => none
  | _ => none
def splits : List (Nat × Nat × Nat) → Nat → Heap → Option Heap
  | [], _, H => some H
  | (T, i, j) :: ms, nx, H => match splitH H T i j nx with
    | some H' => splits ms (nx + 1) H'
    | none => none

def Gh.split (g : Gh) (T i j X : Nat) : Gh :=
  { g with
    hd := fun Y p => if Y = X then g.hd T ((i, j) :: p) else g.hd Y p
    sn := fun Y => if Y = X then true else g.sn Y
    own := fun b => match g.own b with
      | some (Y, (a, c) :: p) => if Y = T ∧ a = i ∧ c = j then some (X, p) else some (Y, (a, c) :: p)
      | o => o }

section
variable {P : Program} {E : Env} {g g' : Gh} {H H' : Heap} {w w' : World}

theorem node_len {T : Nat} {p : Path} {e : TypeId} {rows : List (List PT)} (h : NodeOK P E H g w T p e rows) : cutv rows.length (g.hd T p) = g.hd T p ∧ (g.hd T p).oneCell' = true := by
  rcases h with ⟨k1, k2⟩ | ⟨b, cap, cur, k1, _⟩
  · rw [k1, k2]; exact ⟨rfl, rfl⟩
  · rw [k1]; exact ⟨rfl, rfl⟩

theorem hrel_split (h : HRel P E g H w) {T i j X : Nat} {e e' : TypeId} {rows rows' : List (List PT)} {r : List PT} (hT : H T = .root e rows) (hr : rows[i]? = some r) (hc : r[j]? = some (.list e' rows')) (hX : g.sn X = false) :
    HRel P E (g.split T i j X) (updH X (.root e' rows') (updH T (.root e (rows.set i (r.set j (.ref X rows'.length)))) H)) w ∧
      HLe g H (g.split T i j X) (updH X (.root e' rows') (updH T (.root e (rows.set i (r.set j (.ref X rows'.length)))) H)) := by
  have hj : j < r.length := (List.getElem?_eq_some_iff.1 hc).1
  have hlt : i < rows.length := (List.getElem?_eq_some_iff.1 hr).1
  have hsT : g.sn T = true := h.seen T (by simp [hT, Ent.live])
  have hne : T ≠ X := by rintro rfl; rw [hX] at hsT; cases hsT
  have hsee : ∀ Y, g.sn Y = true → Y ≠ X := fun Y hY => by rintro rfl; rw [hX] at hY; cases hY
  have hle : HLe g H (g.split T i j X) (updH X (.root e' rows') (updH T (.root e (rows.set i (r.set j (.ref X rows'.length)))) H)) := by
    refine ⟨fun Y hY => by simp [Gh.split, hY], fun Y e2 rows2 hs hY => ?_, fun Y hs hY => ?_, fun Y hs _ => by simp [Gh.split, hsee Y hs], fun Y _ _ => rfl⟩
    · rw [updH_ne _ _ (hsee Y hs)] at hY
      by_cases c1 : Y = T
      · subst c1
        rw [updH_same] at hY
        injection hY with e1 _
        subst e1
        exact ⟨_, hT⟩
      · rw [updH_ne _ _ c1] at hY; exact ⟨_, hY⟩
    · rw [updH_ne _ _ (hsee Y hs)] at hY
      by_cases c1 : Y = T
      · subst c1; simp [hT, Ent.live]
      · rwa [updH_ne _ _ c1] at hY
  have hat : ∀ p, At ((i, j) :: p) (.list e rows) = At p (.list e' rows') := fun p => by
    simp [At, hr, hc]
  have hnode : ∀ p e3 rows3, At p (.list e' rows') = some (e3, rows3) → NodeOK P E H g w T ((i, j) :: p) e3 rows3 := fun p e3 rows3 hp =>
    h.node T e rows hT _ e3 rows3 (by rw [hat]; exact hp)
  have hown : ∀ (Y : Nat) (p : Path) (b : Nat), ¬ (Y = T ∧ ∃ q, p = (i, j) :: q) → g.own b = some (Y, p) → (g.split T i j X).own b = some (Y, p) := fun Y p b hn hb => by
    simp only [Gh.split, hb]
    cases p with
    | nil => rfl
    | cons x q =>
      obtain ⟨a, c⟩ := x
      simp only
      rw [if_neg]
      rintro ⟨rfl, rfl, rfl⟩
      exact hn ⟨rfl, q, rfl⟩
  refine ⟨⟨h.frm, fun Y e2 rows2 hY p e3 rows3 hp => ?_, fun Y cs hY => ?_, fun Y hY => ?_⟩, hle⟩
  · by_cases c0 : Y = X
    · subst c0
      rw [updH_same] at hY
      injection hY with e1 e4
      subst e1
      subst e4
      have hk := hnode p e3 rows3 hp
      have := node_move (g' := g.split T i j Y) (Y := Y) (q := p) hle hk rows3.length (Nat.le_refl _) (by rw [(node_len hk).1]; simp [Gh.split]) (fun x => by simp [Gh.split]) (fun b hb => by simp [Gh.split, hb])
      rwa [List.take_length] at this
    · rw [updH_ne _ _ c0] at hY
      by_cases c1 : Y = T
      · subst c1
        rw [updH_same] at hY
        injection hY with e1 e4
        subst e1
        subst e4
        cases p with
        | nil =>
          simp only [At, Option.some.injEq, Prod.mk.injEq] at hp
          obtain ⟨rfl, rfl⟩ := hp
          rcases h.node Y e rows hT [] e rows rfl with ⟨_, k2⟩ | ⟨b, cap, cur, k1, k2, k3, k4, k5, k6, k7, k8⟩
          · subst k2; simp at hlt
          · refine .inr ⟨b, cap, cur, by simpa [Gh.split, hne] using k1, hown Y [] b (by rintro ⟨_, q, hq⟩; cases hq) k2, k3, k4, by simpa using k5, k6, k7, fun a ra hra => ?_⟩
            by_cases ha : a = i
            · subst ha
              rw [List.getElem?_set_self hlt] at hra
              injection hra with hra
              subst hra
              obtain ⟨m1, m2⟩ := k8 a r hr
              refine ⟨by simpa using m1, fun k c hk => ?_⟩
              by_cases hkj : k = j
              · subst hkj
                rw [List.getElem?_set_self hj] at hk
                injection hk with hk
                subst hk
                obtain ⟨u, m3, m4⟩ := m2 k _ hc
                have m4 : u = g.hd Y ([] ++ [(a, k)]) := m4
                obtain ⟨n1, n2⟩ := node_len (hnode [] e' rows' rfl)
                refine ⟨u, m3, by simp [Gh.split], by rw [m4]; exact n2, fun _ => ?_⟩
                rw [m4]
                simp only [Gh.split, if_true, List.nil_append]
                exact n1.symm
              · rw [List.getElem?_set_ne (Ne.symm hkj)] at hk
                obtain ⟨u, m3, m4⟩ := m2 k c hk
                refine ⟨u, m3, ?_⟩
                have : (g.split Y a j X).hd Y ([] ++ [(a, k)]) = g.hd Y ([] ++ [(a, k)]) := by simp [Gh.split, hne]
                rw [this]
                exact ocell_mono hle m4
            · rw [List.getElem?_set_ne (Ne.symm ha)] at hra
              obtain ⟨m1, m2⟩ := k8 a ra hra
              refine ⟨m1, fun k c hk => ?_⟩
              obtain ⟨u, m3, m4⟩ := m2 k c hk
              refine ⟨u, m3, ?_⟩
              have : (g.split Y i j X).hd Y ([] ++ [(a, k)]) = g.hd Y ([] ++ [(a, k)]) := by simp [Gh.split, hne]
              rw [this]
              exact ocell_mono hle m4
        | cons x q =>
          obtain ⟨a, b⟩ := x
          rw [At_put hr hj] at hp
          by_cases hab : a = i ∧ b = j
          · rw [if_pos hab] at hp
            cases q <;> simp [At] at hp
          · rw [if_neg hab] at hp
            refine node_mono hle (h.node Y e rows hT _ e3 rows3 hp) (fun p => by simp [Gh.split, hne]) (fun b' _ hb => hown Y _ b' ?_ hb) (fun _ _ _ => rfl)
            rintro ⟨_, q', hq'⟩
            injection hq' with h1 _
            injection h1 with h1 h2
            exact hab ⟨h1, h2⟩
      · rw [updH_ne _ _ c1] at hY
        exact node_mono hle (h.node Y e2 rows2 hY p e3 rows3 hp) (fun q => by simp [Gh.split, c0]) (fun b _ hb => hown Y p b (fun hh => c1 hh.1) hb) (fun _ _ _ => rfl)
  · have c0 : Y ≠ X := by rintro rfl; rw [updH_same] at hY; cases hY
    rw [updH_ne _ _ c0] at hY
    have c1 : Y ≠ T := by rintro rfl; rw [updH_same] at hY; cases hY
    rw [updH_ne _ _ c1] at hY
    refine box_mono hle (h.box Y cs hY) rfl (fun hh => by simp only [Gh.split, hh]) (fun _ _ hh => hh) (fun cur e he => ⟨cur, he, fun _ _ _ => rfl⟩)
  · by_cases c0 : Y = X
    · simp [Gh.split, c0]
    · rw [updH_ne _ _ c0] at hY
      by_cases c1 : Y = T
      · subst c1; simp [Gh.split, hsT]
      · rw [updH_ne _ _ c1] at hY
        simp [Gh.split, h.seen Y hY]

theorem rel_splits {a : Act} : ∀ (ms : List (Nat × Nat × Nat)) (g : Gh) (s : St) (H' : Heap), splits ms s.nx s.H = some H' → s.lim = none → Rel P E g s a w → ∃ g', Rel P E g' { s with H := H', nx := s.nx + ms.length } a w
  | [], g, s, H', hm, hl, h => by
    simp only [splits, Option.some.injEq] at hm
    subst hm
    exact ⟨g, h⟩
  | (T, i, j) :: ms, g, s, H', hm, hl, h => by
    simp only [splits] at hm
    split at hm
    · rename_i H1 h1
      unfold splitH at h1
      split at h1
      · rename_i e rows hT
        split at h1
        · rename_i r hr
          split at h1
          · rename_i e' rows' hc
            simp only [Option.some.injEq] at h1
            subst h1
            have hfr : ∀ Y, s.nx ≤ Y → g.sn Y = false := fun Y hY => h.fresh Y ⟨hY, by rw [hl]; trivial⟩
            obtain ⟨k1, k2⟩ := hrel_split h.heap hT hr hc (hfr s.nx (Nat.le_refl _))
            have h2 := rel_step (n' := s.nx + 1) h k2 k1 (fun Y hY => by
              have : s.nx + 1 ≤ Y := hY.1
              simp only [Gh.split]
              rw [if_neg (by omega)]
              exact hfr Y (by omega))
            obtain ⟨g2, h3⟩ := rel_splits ms _ { s with H := _, nx := s.nx + 1 } H' hm hl h2
            refine ⟨g2, ?_⟩
            have hn : s.nx + 1 + ms.length = s.nx + (ms.length + 1) := by omega
            simp only [List.length_cons]
            rw [← hn]
            exact h3
          · cases h1
        · cases h1
      · cases h1
    · cases hm

variable {tm : Nat → VV} {nx N : Nat} {c : Code} {Q : Exit → St → Prop}
/-- Slices of rows are taken out ahead of a step. -/
theorem VWP_split (ms : List (Nat × Nat × Nat)) (h0 : splits ms nx H = some H') (h : VWP P E c Q ⟨tm, H', nx + ms.length, N, none⟩) : VWP P E c Q ⟨tm, H, nx, N, none⟩ := fun g a w hr => by
  obtain ⟨g', h1⟩ := rel_splits ms g ⟨tm, H, nx, N, none⟩ H' h0 rfl hr
  exact h g' a w h1
/-- Slices are taken into the rows in which they lie ahead of a step. -/
theorem VWP_merge (ms : List (Nat × Nat × Nat)) (h0 : merges ms H = some H') (h : VWP P E c Q ⟨tm, H', nx, N, none⟩) : VWP P E c Q ⟨tm, H, nx, N, none⟩ := fun g a w hr => by
  obtain ⟨g', h1, _⟩ := rel_merges hr h0
  exact h g' a w h1
theorem VWP_split_at {id : Nat} {l : Array Oper} {b : Bool} (ms : List (Nat × Nat × Nat)) (h0 : splits ms nx H = some H') (h : VWP P E (.region id l b) Q ⟨tm, H', nx + ms.length, N, none⟩) : VWP P E (.region id l b) Q ⟨tm, H, nx, N, none⟩ := VWP_split ms h0 h
theorem VWP_merge_at {id : Nat} {l : Array Oper} {b : Bool} (ms : List (Nat × Nat × Nat)) (h0 : merges ms H = some H') (h : VWP P E (.region id l b) Q ⟨tm, H', nx, N, none⟩) : VWP P E (.region id l b) Q ⟨tm, H, nx, N, none⟩ := VWP_merge ms h0 h
theorem wSp {id : Nat} {l : Array Oper} {b : Bool} (ms : List (Nat × Nat × Nat)) (h : VWP P E (.region id l b) Q ⟨tm, H', nx + ms.length, N, none⟩) (h0 : splits ms nx H = some H' := by simp only [go_sem, Nat.reduceLT, Nat.reduceLeDiff, Nat.reduceEqDiff, Nat.reduceAdd, Nat.reduceMul, Nat.reduceSub, reduceCtorEq, F, splits, splitH, merges, mergeH, List.set_set, List.set_cons_succ, List.set_cons_zero, List.getElem?_set_self, List.getElem?_cons_succ, List.getElem?_cons_zero, Nat.le_refl]; rfl) : VWP P E (.region id l b) Q ⟨tm, H, nx, N, none⟩ := VWP_split ms h0 h
theorem wMg {id : Nat} {l : Array Oper} {b : Bool} (ms : List (Nat × Nat × Nat)) (h : VWP P E (.region id l b) Q ⟨tm, H', nx, N, none⟩) (h0 : merges ms H = some H' := by simp only [go_sem, Nat.reduceLT, Nat.reduceLeDiff, Nat.reduceEqDiff, Nat.reduceAdd, Nat.reduceMul, Nat.reduceSub, reduceCtorEq, F, splits, splitH, merges, mergeH, List.set_set, List.set_cons_succ, List.set_cons_zero, List.getElem?_set_self, List.getElem?_cons_succ, List.getElem?_cons_zero, Nat.le_refl]; rfl) : VWP P E (.region id l b) Q ⟨tm, H, nx, N, none⟩ := VWP_merge ms h0 h
theorem wSpx {id : Nat} {l : Array Oper} {b : Bool} (ms : List (Nat × Nat × Nat)) (h : VWP P E (.region id l b) Q ⟨tm, H', nx + ms.length, N, none⟩) (h0 : splits ms nx H = some H' := by simp only [go_sem, Nat.reduceLT, Nat.reduceLeDiff, Nat.reduceEqDiff, Nat.reduceAdd, Nat.reduceMul, Nat.reduceSub, reduceCtorEq, Int.reduceBEq, Int.reduceBNe, Int.reduceLT, Int.reduceLE, Int.reduceAdd, Int.reduceToNat, F, splits, splitH, merges, mergeH, List.set_set, List.set_cons_succ, List.set_cons_zero, List.getElem?_set_self, List.getElem?_cons_succ, List.getElem?_cons_zero, Nat.le_refl]; rfl) : VWP P E (.region id l b) Q ⟨tm, H, nx, N, none⟩ := VWP_split ms h0 h
theorem wMgx {id : Nat} {l : Array Oper} {b : Bool} (ms : List (Nat × Nat × Nat)) (h : VWP P E (.region id l b) Q ⟨tm, H', nx, N, none⟩) (h0 : merges ms H = some H' := by simp only [go_sem, Nat.reduceLT, Nat.reduceLeDiff, Nat.reduceEqDiff, Nat.reduceAdd, Nat.reduceMul, Nat.reduceSub, reduceCtorEq, Int.reduceBEq, Int.reduceBNe, Int.reduceLT, Int.reduceLE, Int.reduceAdd, Int.reduceToNat, F, splits, splitH, merges, mergeH, List.set_set, List.set_cons_succ, List.set_cons_zero, List.getElem?_set_self, List.getElem?_cons_succ, List.getElem?_cons_zero, Nat.le_refl]; rfl) : VWP P E (.region id l b) Q ⟨tm, H, nx, N, none⟩ := VWP_merge ms h0 h
end
end Go.Proofs.Ytchkbgekmoileaa
