/- The types of this program, as the engine reads them: a table, and that the program has it so. -/
import Derived.Test.YtdlhmofplehpgaaEngU
import Derived.Test.YtdlhmofplehpgaaProg
namespace Go.Proofs.Ytdlhmofplehpgaa
open Go Go.RowKit
set_option maxRecDepth 100000

def ty : Ty := fun t => match t with
  | 1 => some ⟨.sc, 1, 8, []⟩
  | 2 => some ⟨.it .i64, 1, 8, [.int .i64 0]⟩
  | 3 => some ⟨.it .i64, 1, 8, [.int .i64 0]⟩
  | 4 => some ⟨.bo, 1, 1, [.bool false]⟩
  | 5 => some ⟨.it .u8, 1, 1, [.int .u8 0]⟩
  | 6 => some ⟨.it .u8, 1, 1, [.int .u8 0]⟩
  | 7 => some ⟨.st [(0, 2), (1, 3), (2, 4), (3, 6)], 4, 24, [.int .i64 0, .int .i64 0, .bool false, .int .u8 0]⟩
  | 8 => some ⟨.st [(0, 2), (1, 3), (2, 4), (3, 6)], 4, 24, [.int .i64 0, .int .i64 0, .bool false, .int .u8 0]⟩
  | 9 => some ⟨.ss, 1, 16, [.str ByteArray.empty]⟩
  | 10 => some ⟨.ss, 1, 16, [.str ByteArray.empty]⟩
  | 11 => some ⟨.ss, 1, 16, [.str ByteArray.empty]⟩
  | 12 => some ⟨.it .u64, 1, 8, [.int .u64 0]⟩
  | 13 => some ⟨.st [(0, 9), (1, 12)], 2, 24, [.str ByteArray.empty, .int .u64 0]⟩
  | 14 => some ⟨.st [(0, 9), (1, 12)], 2, 24, [.str ByteArray.empty, .int .u64 0]⟩
  | 15 => some ⟨.sc, 1, 8, []⟩
  | 16 => some ⟨.sc, 1, 8, []⟩
  | 17 => some ⟨.sc, 1, 8, []⟩
  | 18 => some ⟨.st [(0, 17)], 1, 8, []⟩
  | 19 => some ⟨.st [(0, 17)], 1, 8, []⟩
  | 20 => some ⟨.sc, 1, 16, []⟩
  | 21 => some ⟨.it .i32, 1, 4, [.int .i32 0]⟩
  | 22 => some ⟨.sl 55, 1, 24, [.nl 55]⟩
  | 23 => some ⟨.sc, 1, 8, []⟩
  | 24 => some ⟨.sc, 1, 8, []⟩
  | 25 => some ⟨.sl 53, 1, 24, [.nl 53]⟩
  | 26 => some ⟨.sc, 1, 8, []⟩
  | 27 => some ⟨.sc, 1, 8, []⟩
  | 28 => some ⟨.sc, 1, 8, []⟩
  | 29 => some ⟨.sl 68, 1, 24, [.nl 68]⟩
  | 30 => some ⟨.st [(0, 3), (1, 3), (2, 29)], 3, 40, [.int .i64 0, .int .i64 0, .nl 68]⟩
  | 31 => some ⟨.st [(0, 3), (1, 3), (2, 29)], 3, 40, [.int .i64 0, .int .i64 0, .nl 68]⟩
  | 32 => some ⟨.sc, 1, 8, []⟩
  | 33 => some ⟨.sc, 1, 8, []⟩
  | 34 => some ⟨.sl 60, 1, 24, [.nl 60]⟩
  | 35 => some ⟨.st [(0, 3), (1, 3), (2, 34)], 3, 40, [.int .i64 0, .int .i64 0, .nl 60]⟩
  | 36 => some ⟨.st [(0, 3), (1, 3), (2, 34)], 3, 40, [.int .i64 0, .int .i64 0, .nl 60]⟩
  | 37 => some ⟨.sc, 1, 8, []⟩
  | 38 => some ⟨.sc, 1, 8, []⟩
  | 39 => some ⟨.sc, 1, 8, []⟩
  | 40 => some ⟨.sc, 1, 8, []⟩
  | 41 => some ⟨.sc, 1, 8, []⟩
  | 43 => some ⟨.sc, 1, 8, []⟩
  | 44 => some ⟨.sc, 1, 8, []⟩
  | 45 => some ⟨.sc, 1, 8, []⟩
  | 46 => some ⟨.sc, 1, 8, []⟩
  | 47 => some ⟨.sc, 1, 8, []⟩
  | 49 => some ⟨.sc, 1, 8, []⟩
  | 50 => some ⟨.sc, 1, 8, []⟩
  | 51 => some ⟨.sc, 1, 8, []⟩
  | 52 => some ⟨.st [(0, 3), (1, 3), (2, 3)], 3, 24, [.int .i64 0, .int .i64 0, .int .i64 0]⟩
  | 53 => some ⟨.st [(0, 3), (1, 3), (2, 3)], 3, 24, [.int .i64 0, .int .i64 0, .int .i64 0]⟩
  | 54 => some ⟨.sc, 1, 8, []⟩
  | 55 => some ⟨.st [(0, 3), (1, 3), (2, 3)], 3, 24, [.int .i64 0, .int .i64 0, .int .i64 0]⟩
  | 56 => some ⟨.sc, 1, 8, []⟩
  | 57 => some ⟨.sc, 1, 8, []⟩
  | 58 => some ⟨.sc, 1, 8, []⟩
  | 59 => some ⟨.st [(0, 3), (1, 3), (2, 3), (3, 3), (4, 4)], 5, 40, [.int .i64 0, .int .i64 0, .int .i64 0, .int .i64 0, .bool false]⟩
  | 60 => some ⟨.st [(0, 3), (1, 3), (2, 3), (3, 3), (4, 4)], 5, 40, [.int .i64 0, .int .i64 0, .int .i64 0, .int .i64 0, .bool false]⟩
  | 61 => some ⟨.sc, 1, 8, []⟩
  | 62 => some ⟨.sc, 1, 8, []⟩
  | 63 => some ⟨.sc, 1, 8, []⟩
  | 64 => some ⟨.sc, 1, 8, []⟩
  | 65 => some ⟨.sc, 1, 8, []⟩
  | 66 => some ⟨.sc, 1, 8, []⟩
  | 67 => some ⟨.sc, 1, 8, []⟩
  | 68 => some ⟨.st [(0, 3), (1, 3), (2, 3), (3, 3), (4, 4)], 5, 40, [.int .i64 0, .int .i64 0, .int .i64 0, .int .i64 0, .bool false]⟩
  | 69 => some ⟨.sc, 1, 8, []⟩
  | 70 => some ⟨.sc, 1, 8, []⟩
  | 71 => some ⟨.sc, 1, 8, []⟩
  | 72 => some ⟨.sc, 1, 8, []⟩
  | 73 => some ⟨.st [(0, 17), (1, 17), (2, 17), (3, 9)], 4, 40, []⟩
  | 74 => some ⟨.st [(0, 17), (1, 17), (2, 17), (3, 9)], 4, 40, []⟩
  | 75 => some ⟨.ar 0 16, 0, 0, []⟩
  | 76 => some ⟨.st [(0, 75)], 0, 0, []⟩
  | 77 => some ⟨.st [(0, 75)], 0, 0, []⟩
  | 78 => some ⟨.sc, 1, 8, []⟩
  | 79 => some ⟨.it .u32, 1, 4, [.int .u32 0]⟩
  | 80 => some ⟨.it .u8, 1, 1, [.int .u8 0]⟩
  | 81 => some ⟨.it .u8, 1, 1, [.int .u8 0]⟩
  | 82 => some ⟨.sc, 1, 8, []⟩
  | 83 => some ⟨.sc, 1, 8, []⟩
  | 84 => some ⟨.it .i32, 1, 4, [.int .i32 0]⟩
  | 85 => some ⟨.it .i32, 1, 4, [.int .i32 0]⟩
  | 86 => some ⟨.st [(0, 12), (1, 12), (2, 79), (3, 80), (4, 5), (5, 5), (6, 81), (7, 82), (8, 83), (9, 84), (10, 85)], 11, 48, []⟩
  | 87 => some ⟨.st [(0, 12), (1, 12), (2, 79), (3, 80), (4, 5), (5, 5), (6, 81), (7, 82), (8, 83), (9, 84), (10, 85)], 11, 48, []⟩
  | _ => none
@[go_sem] theorem ty_1 : ty 1 = some ⟨.sc, 1, 8, []⟩ := rfl
@[go_sem] theorem ty_2 : ty 2 = some ⟨.it .i64, 1, 8, [.int .i64 0]⟩ := rfl
@[go_sem] theorem ty_3 : ty 3 = some ⟨.it .i64, 1, 8, [.int .i64 0]⟩ := rfl
@[go_sem] theorem ty_4 : ty 4 = some ⟨.bo, 1, 1, [.bool false]⟩ := rfl
@[go_sem] theorem ty_5 : ty 5 = some ⟨.it .u8, 1, 1, [.int .u8 0]⟩ := rfl
@[go_sem] theorem ty_6 : ty 6 = some ⟨.it .u8, 1, 1, [.int .u8 0]⟩ := rfl
@[go_sem] theorem ty_7 : ty 7 = some ⟨.st [(0, 2), (1, 3), (2, 4), (3, 6)], 4, 24, [.int .i64 0, .int .i64 0, .bool false, .int .u8 0]⟩ := rfl
@[go_sem] theorem ty_8 : ty 8 = some ⟨.st [(0, 2), (1, 3), (2, 4), (3, 6)], 4, 24, [.int .i64 0, .int .i64 0, .bool false, .int .u8 0]⟩ := rfl
@[go_sem] theorem ty_9 : ty 9 = some ⟨.ss, 1, 16, [.str ByteArray.empty]⟩ := rfl
@[go_sem] theorem ty_10 : ty 10 = some ⟨.ss, 1, 16, [.str ByteArray.empty]⟩ := rfl
@[go_sem] theorem ty_11 : ty 11 = some ⟨.ss, 1, 16, [.str ByteArray.empty]⟩ := rfl
@[go_sem] theorem ty_12 : ty 12 = some ⟨.it .u64, 1, 8, [.int .u64 0]⟩ := rfl
@[go_sem] theorem ty_13 : ty 13 = some ⟨.st [(0, 9), (1, 12)], 2, 24, [.str ByteArray.empty, .int .u64 0]⟩ := rfl
@[go_sem] theorem ty_14 : ty 14 = some ⟨.st [(0, 9), (1, 12)], 2, 24, [.str ByteArray.empty, .int .u64 0]⟩ := rfl
@[go_sem] theorem ty_15 : ty 15 = some ⟨.sc, 1, 8, []⟩ := rfl
@[go_sem] theorem ty_16 : ty 16 = some ⟨.sc, 1, 8, []⟩ := rfl
@[go_sem] theorem ty_17 : ty 17 = some ⟨.sc, 1, 8, []⟩ := rfl
@[go_sem] theorem ty_18 : ty 18 = some ⟨.st [(0, 17)], 1, 8, []⟩ := rfl
@[go_sem] theorem ty_19 : ty 19 = some ⟨.st [(0, 17)], 1, 8, []⟩ := rfl
@[go_sem] theorem ty_20 : ty 20 = some ⟨.sc, 1, 16, []⟩ := rfl
@[go_sem] theorem ty_21 : ty 21 = some ⟨.it .i32, 1, 4, [.int .i32 0]⟩ := rfl
@[go_sem] theorem ty_22 : ty 22 = some ⟨.sl 55, 1, 24, [.nl 55]⟩ := rfl
@[go_sem] theorem ty_23 : ty 23 = some ⟨.sc, 1, 8, []⟩ := rfl
@[go_sem] theorem ty_24 : ty 24 = some ⟨.sc, 1, 8, []⟩ := rfl
@[go_sem] theorem ty_25 : ty 25 = some ⟨.sl 53, 1, 24, [.nl 53]⟩ := rfl
@[go_sem] theorem ty_26 : ty 26 = some ⟨.sc, 1, 8, []⟩ := rfl
@[go_sem] theorem ty_27 : ty 27 = some ⟨.sc, 1, 8, []⟩ := rfl
@[go_sem] theorem ty_28 : ty 28 = some ⟨.sc, 1, 8, []⟩ := rfl
@[go_sem] theorem ty_29 : ty 29 = some ⟨.sl 68, 1, 24, [.nl 68]⟩ := rfl
@[go_sem] theorem ty_30 : ty 30 = some ⟨.st [(0, 3), (1, 3), (2, 29)], 3, 40, [.int .i64 0, .int .i64 0, .nl 68]⟩ := rfl
@[go_sem] theorem ty_31 : ty 31 = some ⟨.st [(0, 3), (1, 3), (2, 29)], 3, 40, [.int .i64 0, .int .i64 0, .nl 68]⟩ := rfl
@[go_sem] theorem ty_32 : ty 32 = some ⟨.sc, 1, 8, []⟩ := rfl
@[go_sem] theorem ty_33 : ty 33 = some ⟨.sc, 1, 8, []⟩ := rfl
@[go_sem] theorem ty_34 : ty 34 = some ⟨.sl 60, 1, 24, [.nl 60]⟩ := rfl
@[go_sem] theorem ty_35 : ty 35 = some ⟨.st [(0, 3), (1, 3), (2, 34)], 3, 40, [.int .i64 0, .int .i64 0, .nl 60]⟩ := rfl
@[go_sem] theorem ty_36 : ty 36 = some ⟨.st [(0, 3), (1, 3), (2, 34)], 3, 40, [.int .i64 0, .int .i64 0, .nl 60]⟩ := rfl
@[go_sem] theorem ty_37 : ty 37 = some ⟨.sc, 1, 8, []⟩ := rfl
@[go_sem] theorem ty_38 : ty 38 = some ⟨.sc, 1, 8, []⟩ := rfl
@[go_sem] theorem ty_39 : ty 39 = some ⟨.sc, 1, 8, []⟩ := rfl
@[go_sem] theorem ty_40 : ty 40 = some ⟨.sc, 1, 8, []⟩ := rfl
@[go_sem] theorem ty_41 : ty 41 = some ⟨.sc, 1, 8, []⟩ := rfl
@[go_sem] theorem ty_43 : ty 43 = some ⟨.sc, 1, 8, []⟩ := rfl
@[go_sem] theorem ty_44 : ty 44 = some ⟨.sc, 1, 8, []⟩ := rfl
@[go_sem] theorem ty_45 : ty 45 = some ⟨.sc, 1, 8, []⟩ := rfl
@[go_sem] theorem ty_46 : ty 46 = some ⟨.sc, 1, 8, []⟩ := rfl
@[go_sem] theorem ty_47 : ty 47 = some ⟨.sc, 1, 8, []⟩ := rfl
@[go_sem] theorem ty_49 : ty 49 = some ⟨.sc, 1, 8, []⟩ := rfl
@[go_sem] theorem ty_50 : ty 50 = some ⟨.sc, 1, 8, []⟩ := rfl
@[go_sem] theorem ty_51 : ty 51 = some ⟨.sc, 1, 8, []⟩ := rfl
@[go_sem] theorem ty_52 : ty 52 = some ⟨.st [(0, 3), (1, 3), (2, 3)], 3, 24, [.int .i64 0, .int .i64 0, .int .i64 0]⟩ := rfl
@[go_sem] theorem ty_53 : ty 53 = some ⟨.st [(0, 3), (1, 3), (2, 3)], 3, 24, [.int .i64 0, .int .i64 0, .int .i64 0]⟩ := rfl
@[go_sem] theorem ty_54 : ty 54 = some ⟨.sc, 1, 8, []⟩ := rfl
@[go_sem] theorem ty_55 : ty 55 = some ⟨.st [(0, 3), (1, 3), (2, 3)], 3, 24, [.int .i64 0, .int .i64 0, .int .i64 0]⟩ := rfl
@[go_sem] theorem ty_56 : ty 56 = some ⟨.sc, 1, 8, []⟩ := rfl
@[go_sem] theorem ty_57 : ty 57 = some ⟨.sc, 1, 8, []⟩ := rfl
@[go_sem] theorem ty_58 : ty 58 = some ⟨.sc, 1, 8, []⟩ := rfl
@[go_sem] theorem ty_59 : ty 59 = some ⟨.st [(0, 3), (1, 3), (2, 3), (3, 3), (4, 4)], 5, 40, [.int .i64 0, .int .i64 0, .int .i64 0, .int .i64 0, .bool false]⟩ := rfl
@[go_sem] theorem ty_60 : ty 60 = some ⟨.st [(0, 3), (1, 3), (2, 3), (3, 3), (4, 4)], 5, 40, [.int .i64 0, .int .i64 0, .int .i64 0, .int .i64 0, .bool false]⟩ := rfl
@[go_sem] theorem ty_61 : ty 61 = some ⟨.sc, 1, 8, []⟩ := rfl
@[go_sem] theorem ty_62 : ty 62 = some ⟨.sc, 1, 8, []⟩ := rfl
@[go_sem] theorem ty_63 : ty 63 = some ⟨.sc, 1, 8, []⟩ := rfl
@[go_sem] theorem ty_64 : ty 64 = some ⟨.sc, 1, 8, []⟩ := rfl
@[go_sem] theorem ty_65 : ty 65 = some ⟨.sc, 1, 8, []⟩ := rfl
@[go_sem] theorem ty_66 : ty 66 = some ⟨.sc, 1, 8, []⟩ := rfl
@[go_sem] theorem ty_67 : ty 67 = some ⟨.sc, 1, 8, []⟩ := rfl
@[go_sem] theorem ty_68 : ty 68 = some ⟨.st [(0, 3), (1, 3), (2, 3), (3, 3), (4, 4)], 5, 40, [.int .i64 0, .int .i64 0, .int .i64 0, .int .i64 0, .bool false]⟩ := rfl
@[go_sem] theorem ty_69 : ty 69 = some ⟨.sc, 1, 8, []⟩ := rfl
@[go_sem] theorem ty_70 : ty 70 = some ⟨.sc, 1, 8, []⟩ := rfl
@[go_sem] theorem ty_71 : ty 71 = some ⟨.sc, 1, 8, []⟩ := rfl
@[go_sem] theorem ty_72 : ty 72 = some ⟨.sc, 1, 8, []⟩ := rfl
@[go_sem] theorem ty_73 : ty 73 = some ⟨.st [(0, 17), (1, 17), (2, 17), (3, 9)], 4, 40, []⟩ := rfl
@[go_sem] theorem ty_74 : ty 74 = some ⟨.st [(0, 17), (1, 17), (2, 17), (3, 9)], 4, 40, []⟩ := rfl
@[go_sem] theorem ty_75 : ty 75 = some ⟨.ar 0 16, 0, 0, []⟩ := rfl
@[go_sem] theorem ty_76 : ty 76 = some ⟨.st [(0, 75)], 0, 0, []⟩ := rfl
@[go_sem] theorem ty_77 : ty 77 = some ⟨.st [(0, 75)], 0, 0, []⟩ := rfl
@[go_sem] theorem ty_78 : ty 78 = some ⟨.sc, 1, 8, []⟩ := rfl
@[go_sem] theorem ty_79 : ty 79 = some ⟨.it .u32, 1, 4, [.int .u32 0]⟩ := rfl
@[go_sem] theorem ty_80 : ty 80 = some ⟨.it .u8, 1, 1, [.int .u8 0]⟩ := rfl
@[go_sem] theorem ty_81 : ty 81 = some ⟨.it .u8, 1, 1, [.int .u8 0]⟩ := rfl
@[go_sem] theorem ty_82 : ty 82 = some ⟨.sc, 1, 8, []⟩ := rfl
@[go_sem] theorem ty_83 : ty 83 = some ⟨.sc, 1, 8, []⟩ := rfl
@[go_sem] theorem ty_84 : ty 84 = some ⟨.it .i32, 1, 4, [.int .i32 0]⟩ := rfl
@[go_sem] theorem ty_85 : ty 85 = some ⟨.it .i32, 1, 4, [.int .i32 0]⟩ := rfl
@[go_sem] theorem ty_86 : ty 86 = some ⟨.st [(0, 12), (1, 12), (2, 79), (3, 80), (4, 5), (5, 5), (6, 81), (7, 82), (8, 83), (9, 84), (10, 85)], 11, 48, []⟩ := rfl
@[go_sem] theorem ty_87 : ty 87 = some ⟨.st [(0, 12), (1, 12), (2, 79), (3, 80), (4, 5), (5, 5), (6, 81), (7, 82), (8, 83), (9, 84), (10, 85)], 11, 48, []⟩ := rfl
theorem hT : TyOK Try.prog ty := by
  intro t d h
  unfold ty at h
  split at h
  · cases h; exact chkT_spec (by kernel_rfl)
  · cases h; exact chkT_spec (by kernel_rfl)
  · cases h; exact chkT_spec (by kernel_rfl)
  · cases h; exact chkT_spec (by kernel_rfl)
  · cases h; exact chkT_spec (by kernel_rfl)
  · cases h; exact chkT_spec (by kernel_rfl)
  · cases h; exact chkT_spec (by kernel_rfl)
  · cases h; exact chkT_spec (by kernel_rfl)
  · cases h; exact chkT_spec (by kernel_rfl)
  · cases h; exact chkT_spec (by kernel_rfl)
  · cases h; exact chkT_spec (by kernel_rfl)
  · cases h; exact chkT_spec (by kernel_rfl)
  · cases h; exact chkT_spec (by kernel_rfl)
  · cases h; exact chkT_spec (by kernel_rfl)
  · cases h; exact chkT_spec (by kernel_rfl)
  · cases h; exact chkT_spec (by kernel_rfl)
  · cases h; exact chkT_spec (by kernel_rfl)
  · cases h; exact chkT_spec (by kernel_rfl)
  · cases h; exact chkT_spec (by kernel_rfl)
  · cases h; exact chkT_spec (by kernel_rfl)
  · cases h; exact chkT_spec (by kernel_rfl)
  · cases h; exact chkT_spec (by kernel_rfl)
  · cases h; exact chkT_spec (by kernel_rfl)
  · cases h; exact chkT_spec (by kernel_rfl)
  · cases h; exact chkT_spec (by kernel_rfl)
  · cases h; exact chkT_spec (by kernel_rfl)
  · cases h; exact chkT_spec (by kernel_rfl)
  · cases h; exact chkT_spec (by kernel_rfl)
  · cases h; exact chkT_spec (by kernel_rfl)
  · cases h; exact chkT_spec (by kernel_rfl)
  · cases h; exact chkT_spec (by kernel_rfl)
  · cases h; exact chkT_spec (by kernel_rfl)
  · cases h; exact chkT_spec (by kernel_rfl)
  · cases h; exact chkT_spec (by kernel_rfl)
  · cases h; exact chkT_spec (by kernel_rfl)
  · cases h; exact chkT_spec (by kernel_rfl)
  · cases h; exact chkT_spec (by kernel_rfl)
  · cases h; exact chkT_spec (by kernel_rfl)
  · cases h; exact chkT_spec (by kernel_rfl)
  · cases h; exact chkT_spec (by kernel_rfl)
  · cases h; exact chkT_spec (by kernel_rfl)
  · cases h; exact chkT_spec (by kernel_rfl)
  · cases h; exact chkT_spec (by kernel_rfl)
  · cases h; exact chkT_spec (by kernel_rfl)
  · cases h; exact chkT_spec (by kernel_rfl)
  · cases h; exact chkT_spec (by kernel_rfl)
  · cases h; exact chkT_spec (by kernel_rfl)
  · cases h; exact chkT_spec (by kernel_rfl)
  · cases h; exact chkT_spec (by kernel_rfl)
  · cases h; exact chkT_spec (by kernel_rfl)
  · cases h; exact chkT_spec (by kernel_rfl)
  · cases h; exact chkT_spec (by kernel_rfl)
  · cases h; exact chkT_spec (by kernel_rfl)
  · cases h; exact chkT_spec (by kernel_rfl)
  · cases h; exact chkT_spec (by kernel_rfl)
  · cases h; exact chkT_spec (by kernel_rfl)
  · cases h; exact chkT_spec (by kernel_rfl)
  · cases h; exact chkT_spec (by kernel_rfl)
  · cases h; exact chkT_spec (by kernel_rfl)
  · cases h; exact chkT_spec (by kernel_rfl)
  · cases h; exact chkT_spec (by kernel_rfl)
  · cases h; exact chkT_spec (by kernel_rfl)
  · cases h; exact chkT_spec (by kernel_rfl)
  · cases h; exact chkT_spec (by kernel_rfl)
  · cases h; exact chkT_spec (by kernel_rfl)
  · cases h; exact chkT_spec (by kernel_rfl)
  · cases h; exact chkT_spec (by kernel_rfl)
  · cases h; exact chkT_spec (by kernel_rfl)
  · cases h; exact chkT_spec (by kernel_rfl)
  · cases h; exact chkT_spec (by kernel_rfl)
  · cases h; exact chkT_spec (by kernel_rfl)
  · cases h; exact chkT_spec (by kernel_rfl)
  · cases h; exact chkT_spec (by kernel_rfl)
  · cases h; exact chkT_spec (by kernel_rfl)
  · cases h; exact chkT_spec (by kernel_rfl)
  · cases h; exact chkT_spec (by kernel_rfl)
  · cases h; exact chkT_spec (by kernel_rfl)
  · cases h; exact chkT_spec (by kernel_rfl)
  · cases h; exact chkT_spec (by kernel_rfl)
  · cases h; exact chkT_spec (by kernel_rfl)
  · cases h; exact chkT_spec (by kernel_rfl)
  · cases h; exact chkT_spec (by kernel_rfl)
  · cases h; exact chkT_spec (by kernel_rfl)
  · cases h; exact chkT_spec (by kernel_rfl)
  · cases h; exact chkT_spec (by kernel_rfl)
  · cases h
theorem hM : Try.prog.follows .mixedOrders = true := by kernel_rfl
end Go.Proofs.Ytdlhmofplehpgaa
