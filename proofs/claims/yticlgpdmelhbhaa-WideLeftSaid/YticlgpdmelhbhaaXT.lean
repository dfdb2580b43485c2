/- The types' table of the seat, MADE BY PROGRAM (gen.py) out of its dump; and that it is right, by calculation. -/
import Derived.Test.YticlgpdmelhbhaaXL
import Derived.Test.YticlgpdmelhbhaaProg
namespace Go.Proofs
open Go.X
def Try.tlist : List (TypeId × TI) := [
  (1, ⟨.func, 1, .nilfn, false⟩),
  (2, ⟨(.int .i64), 1, .int .i64 0, true⟩),
  (3, ⟨(.int .i64), 1, .int .i64 0, true⟩),
  (4, ⟨.bool, 1, .bool false, false⟩),
  (5, ⟨(.int .u8), 1, .int .u8 0, true⟩),
  (6, ⟨(.int .u8), 1, .int .u8 0, true⟩),
  (7, ⟨(.struct [(0, 1, false), (1, 1, false), (2, 1, false), (3, 1, false)]), 4, .agg [.int .i64 0, .int .i64 0, .bool false, .int .u8 0], false⟩),
  (8, ⟨(.struct [(0, 1, false), (1, 1, false), (2, 1, false), (3, 1, false)]), 4, .agg [.int .i64 0, .int .i64 0, .bool false, .int .u8 0], false⟩),
  (12, ⟨(.int .u64), 1, .int .u64 0, true⟩),
  (15, ⟨.ptr, 1, .nilptr, false⟩),
  (16, ⟨.ptr, 1, .nilptr, false⟩),
  (17, ⟨.ptr, 1, .nilptr, false⟩),
  (18, ⟨(.struct [(0, 1, false)]), 1, .agg [.nilptr], false⟩),
  (19, ⟨(.struct [(0, 1, false)]), 1, .agg [.nilptr], false⟩),
  (20, ⟨.iface, 1, .nilif, false⟩),
  (21, ⟨(.int .i32), 1, .int .i32 0, true⟩),
  (22, ⟨(.int .u64), 1, .int .u64 0, true⟩),
  (23, ⟨(.array 8 1 false), 8, .arr .u64 8 fun _ => 0, true⟩),
  (24, ⟨(.struct [(0, 8, true)]), 8, .arr .u64 8 fun _ => 0, true⟩),
  (25, ⟨(.struct [(0, 8, true)]), 8, .arr .u64 8 fun _ => 0, true⟩),
  (27, ⟨.func, 1, .nilfn, false⟩),
  (28, ⟨.func, 1, .nilfn, false⟩),
  (29, ⟨.func, 1, .nilfn, false⟩),
  (31, ⟨.func, 1, .nilfn, false⟩),
  (32, ⟨.func, 1, .nilfn, false⟩),
  (33, ⟨.func, 1, .nilfn, false⟩),
  (35, ⟨.func, 1, .nilfn, false⟩),
  (36, ⟨.func, 1, .nilfn, false⟩),
  (37, ⟨.func, 1, .nilfn, false⟩),
  (38, ⟨.func, 1, .nilfn, false⟩),
  (39, ⟨.func, 1, .nilfn, false⟩),
  (40, ⟨.func, 1, .nilfn, false⟩),
  (41, ⟨.func, 1, .nilfn, false⟩),
  (42, ⟨.func, 1, .nilfn, false⟩),
  (43, ⟨.func, 1, .nilfn, false⟩),
  (44, ⟨.func, 1, .nilfn, false⟩),
  (45, ⟨.func, 1, .nilfn, false⟩),
  (46, ⟨.func, 1, .nilfn, false⟩),
  (47, ⟨(.array 8 1 false), 8, .arr .u64 8 fun _ => 0, true⟩),
  (48, ⟨.func, 1, .nilfn, false⟩),
  (50, ⟨.func, 1, .nilfn, false⟩),
  (51, ⟨.func, 1, .nilfn, false⟩),
  (52, ⟨(.struct []), 0, .agg [], true⟩),
  (53, ⟨(.struct []), 0, .agg [], true⟩),
  (54, ⟨.func, 1, .nilfn, false⟩),
  (55, ⟨.func, 1, .nilfn, false⟩),
  (56, ⟨(.slice 3 1 8 (.int .i64 0)), 1, .nilslice, false⟩),
  (57, ⟨.func, 1, .nilfn, false⟩),
  (58, ⟨.func, 1, .nilfn, false⟩),
  (59, ⟨.func, 1, .nilfn, false⟩),
  (60, ⟨.func, 1, .nilfn, false⟩),
  (62, ⟨.func, 1, .nilfn, false⟩),
  (63, ⟨.func, 1, .nilfn, false⟩),
  (64, ⟨.func, 1, .nilfn, false⟩),
  (65, ⟨.func, 1, .nilfn, false⟩),
  (66, ⟨.func, 1, .nilfn, false⟩),
  (67, ⟨.func, 1, .nilfn, false⟩),
  (68, ⟨(.int .u64), 1, .int .u64 0, true⟩),
  (69, ⟨.func, 1, .nilfn, false⟩),
  (70, ⟨.func, 1, .nilfn, false⟩),
  (71, ⟨.func, 1, .nilfn, false⟩),
  (72, ⟨.func, 1, .nilfn, false⟩),
  (73, ⟨.func, 1, .nilfn, false⟩),
  (74, ⟨.func, 1, .nilfn, false⟩),
  (75, ⟨.func, 1, .nilfn, false⟩),
  (76, ⟨.func, 1, .nilfn, false⟩),
  (79, ⟨(.array 0 1 false), 0, .agg [], false⟩),
  (80, ⟨(.struct [(0, 0, true)]), 0, .agg [], false⟩),
  (81, ⟨(.struct [(0, 0, true)]), 0, .agg [], false⟩),
  (82, ⟨.func, 1, .nilfn, false⟩),
  (83, ⟨(.int .u32), 1, .int .u32 0, true⟩),
  (84, ⟨(.int .u8), 1, .int .u8 0, true⟩),
  (85, ⟨(.int .u8), 1, .int .u8 0, true⟩),
  (86, ⟨.func, 1, .nilfn, false⟩),
  (87, ⟨.ptr, 1, .nilptr, false⟩),
  (88, ⟨(.int .i32), 1, .int .i32 0, true⟩),
  (89, ⟨(.int .i32), 1, .int .i32 0, true⟩),
  (90, ⟨(.struct [(0, 1, false), (1, 1, false), (2, 1, false), (3, 1, false), (4, 1, false), (5, 1, false), (6, 1, false), (7, 1, false), (8, 1, false), (9, 1, false), (10, 1, false)]), 11, .agg [.int .u64 0, .int .u64 0, .int .u32 0, .int .u8 0, .int .u8 0, .int .u8 0, .int .u8 0, .nilfn, .nilptr, .int .i32 0, .int .i32 0], false⟩),
  (91, ⟨(.struct [(0, 1, false), (1, 1, false), (2, 1, false), (3, 1, false), (4, 1, false), (5, 1, false), (6, 1, false), (7, 1, false), (8, 1, false), (9, 1, false), (10, 1, false)]), 11, .agg [.int .u64 0, .int .u64 0, .int .u32 0, .int .u8 0, .int .u8 0, .int .u8 0, .int .u8 0, .nilfn, .nilptr, .int .i32 0, .int .i32 0], false⟩)]
def Try.T : TT := ttOf Try.tlist
set_option maxRecDepth 100000 in
theorem Try.T_check : Try.tlist.all (fun p => tiCheck Try.prog p.1 p.2) = true := by kernel_rfl
theorem Try.T_ok : TOk Try.prog Try.T := ttOf_ok Try.T_check
theorem Try.T_1 : Try.T 1 = some ⟨.func, 1, .nilfn, false⟩ := rfl
theorem Try.T_2 : Try.T 2 = some ⟨(.int .i64), 1, .int .i64 0, true⟩ := rfl
theorem Try.T_3 : Try.T 3 = some ⟨(.int .i64), 1, .int .i64 0, true⟩ := rfl
theorem Try.T_4 : Try.T 4 = some ⟨.bool, 1, .bool false, false⟩ := rfl
theorem Try.T_5 : Try.T 5 = some ⟨(.int .u8), 1, .int .u8 0, true⟩ := rfl
theorem Try.T_6 : Try.T 6 = some ⟨(.int .u8), 1, .int .u8 0, true⟩ := rfl
theorem Try.T_7 : Try.T 7 = some ⟨(.struct [(0, 1, false), (1, 1, false), (2, 1, false), (3, 1, false)]), 4, .agg [.int .i64 0, .int .i64 0, .bool false, .int .u8 0], false⟩ := rfl
theorem Try.T_8 : Try.T 8 = some ⟨(.struct [(0, 1, false), (1, 1, false), (2, 1, false), (3, 1, false)]), 4, .agg [.int .i64 0, .int .i64 0, .bool false, .int .u8 0], false⟩ := rfl
theorem Try.T_12 : Try.T 12 = some ⟨(.int .u64), 1, .int .u64 0, true⟩ := rfl
theorem Try.T_15 : Try.T 15 = some ⟨.ptr, 1, .nilptr, false⟩ := rfl
theorem Try.T_16 : Try.T 16 = some ⟨.ptr, 1, .nilptr, false⟩ := rfl
theorem Try.T_17 : Try.T 17 = some ⟨.ptr, 1, .nilptr, false⟩ := rfl
theorem Try.T_18 : Try.T 18 = some ⟨(.struct [(0, 1, false)]), 1, .agg [.nilptr], false⟩ := rfl
theorem Try.T_19 : Try.T 19 = some ⟨(.struct [(0, 1, false)]), 1, .agg [.nilptr], false⟩ := rfl
theorem Try.T_20 : Try.T 20 = some ⟨.iface, 1, .nilif, false⟩ := rfl
theorem Try.T_21 : Try.T 21 = some ⟨(.int .i32), 1, .int .i32 0, true⟩ := rfl
theorem Try.T_22 : Try.T 22 = some ⟨(.int .u64), 1, .int .u64 0, true⟩ := rfl
theorem Try.T_23 : Try.T 23 = some ⟨(.array 8 1 false), 8, .arr .u64 8 fun _ => 0, true⟩ := rfl
theorem Try.T_24 : Try.T 24 = some ⟨(.struct [(0, 8, true)]), 8, .arr .u64 8 fun _ => 0, true⟩ := rfl
theorem Try.T_25 : Try.T 25 = some ⟨(.struct [(0, 8, true)]), 8, .arr .u64 8 fun _ => 0, true⟩ := rfl
theorem Try.T_27 : Try.T 27 = some ⟨.func, 1, .nilfn, false⟩ := rfl
theorem Try.T_28 : Try.T 28 = some ⟨.func, 1, .nilfn, false⟩ := rfl
theorem Try.T_29 : Try.T 29 = some ⟨.func, 1, .nilfn, false⟩ := rfl
theorem Try.T_31 : Try.T 31 = some ⟨.func, 1, .nilfn, false⟩ := rfl
theorem Try.T_32 : Try.T 32 = some ⟨.func, 1, .nilfn, false⟩ := rfl
theorem Try.T_33 : Try.T 33 = some ⟨.func, 1, .nilfn, false⟩ := rfl
theorem Try.T_35 : Try.T 35 = some ⟨.func, 1, .nilfn, false⟩ := rfl
theorem Try.T_36 : Try.T 36 = some ⟨.func, 1, .nilfn, false⟩ := rfl
theorem Try.T_37 : Try.T 37 = some ⟨.func, 1, .nilfn, false⟩ := rfl
theorem Try.T_38 : Try.T 38 = some ⟨.func, 1, .nilfn, false⟩ := rfl
theorem Try.T_39 : Try.T 39 = some ⟨.func, 1, .nilfn, false⟩ := rfl
theorem Try.T_40 : Try.T 40 = some ⟨.func, 1, .nilfn, false⟩ := rfl
theorem Try.T_41 : Try.T 41 = some ⟨.func, 1, .nilfn, false⟩ := rfl
theorem Try.T_42 : Try.T 42 = some ⟨.func, 1, .nilfn, false⟩ := rfl
theorem Try.T_43 : Try.T 43 = some ⟨.func, 1, .nilfn, false⟩ := rfl
theorem Try.T_44 : Try.T 44 = some ⟨.func, 1, .nilfn, false⟩ := rfl
theorem Try.T_45 : Try.T 45 = some ⟨.func, 1, .nilfn, false⟩ := rfl
theorem Try.T_46 : Try.T 46 = some ⟨.func, 1, .nilfn, false⟩ := rfl
theorem Try.T_47 : Try.T 47 = some ⟨(.array 8 1 false), 8, .arr .u64 8 fun _ => 0, true⟩ := rfl
theorem Try.T_48 : Try.T 48 = some ⟨.func, 1, .nilfn, false⟩ := rfl
theorem Try.T_50 : Try.T 50 = some ⟨.func, 1, .nilfn, false⟩ := rfl
theorem Try.T_51 : Try.T 51 = some ⟨.func, 1, .nilfn, false⟩ := rfl
theorem Try.T_52 : Try.T 52 = some ⟨(.struct []), 0, .agg [], true⟩ := rfl
theorem Try.T_53 : Try.T 53 = some ⟨(.struct []), 0, .agg [], true⟩ := rfl
theorem Try.T_54 : Try.T 54 = some ⟨.func, 1, .nilfn, false⟩ := rfl
theorem Try.T_55 : Try.T 55 = some ⟨.func, 1, .nilfn, false⟩ := rfl
theorem Try.T_56 : Try.T 56 = some ⟨(.slice 3 1 8 (.int .i64 0)), 1, .nilslice, false⟩ := rfl
theorem Try.T_57 : Try.T 57 = some ⟨.func, 1, .nilfn, false⟩ := rfl
theorem Try.T_58 : Try.T 58 = some ⟨.func, 1, .nilfn, false⟩ := rfl
theorem Try.T_59 : Try.T 59 = some ⟨.func, 1, .nilfn, false⟩ := rfl
theorem Try.T_60 : Try.T 60 = some ⟨.func, 1, .nilfn, false⟩ := rfl
theorem Try.T_62 : Try.T 62 = some ⟨.func, 1, .nilfn, false⟩ := rfl
theorem Try.T_63 : Try.T 63 = some ⟨.func, 1, .nilfn, false⟩ := rfl
theorem Try.T_64 : Try.T 64 = some ⟨.func, 1, .nilfn, false⟩ := rfl
theorem Try.T_65 : Try.T 65 = some ⟨.func, 1, .nilfn, false⟩ := rfl
theorem Try.T_66 : Try.T 66 = some ⟨.func, 1, .nilfn, false⟩ := rfl
theorem Try.T_67 : Try.T 67 = some ⟨.func, 1, .nilfn, false⟩ := rfl
theorem Try.T_68 : Try.T 68 = some ⟨(.int .u64), 1, .int .u64 0, true⟩ := rfl
theorem Try.T_69 : Try.T 69 = some ⟨.func, 1, .nilfn, false⟩ := rfl
theorem Try.T_70 : Try.T 70 = some ⟨.func, 1, .nilfn, false⟩ := rfl
theorem Try.T_71 : Try.T 71 = some ⟨.func, 1, .nilfn, false⟩ := rfl
theorem Try.T_72 : Try.T 72 = some ⟨.func, 1, .nilfn, false⟩ := rfl
theorem Try.T_73 : Try.T 73 = some ⟨.func, 1, .nilfn, false⟩ := rfl
theorem Try.T_74 : Try.T 74 = some ⟨.func, 1, .nilfn, false⟩ := rfl
theorem Try.T_75 : Try.T 75 = some ⟨.func, 1, .nilfn, false⟩ := rfl
theorem Try.T_76 : Try.T 76 = some ⟨.func, 1, .nilfn, false⟩ := rfl
theorem Try.T_79 : Try.T 79 = some ⟨(.array 0 1 false), 0, .agg [], false⟩ := rfl
theorem Try.T_80 : Try.T 80 = some ⟨(.struct [(0, 0, true)]), 0, .agg [], false⟩ := rfl
theorem Try.T_81 : Try.T 81 = some ⟨(.struct [(0, 0, true)]), 0, .agg [], false⟩ := rfl
theorem Try.T_82 : Try.T 82 = some ⟨.func, 1, .nilfn, false⟩ := rfl
theorem Try.T_83 : Try.T 83 = some ⟨(.int .u32), 1, .int .u32 0, true⟩ := rfl
theorem Try.T_84 : Try.T 84 = some ⟨(.int .u8), 1, .int .u8 0, true⟩ := rfl
theorem Try.T_85 : Try.T 85 = some ⟨(.int .u8), 1, .int .u8 0, true⟩ := rfl
theorem Try.T_86 : Try.T 86 = some ⟨.func, 1, .nilfn, false⟩ := rfl
theorem Try.T_87 : Try.T 87 = some ⟨.ptr, 1, .nilptr, false⟩ := rfl
theorem Try.T_88 : Try.T 88 = some ⟨(.int .i32), 1, .int .i32 0, true⟩ := rfl
theorem Try.T_89 : Try.T 89 = some ⟨(.int .i32), 1, .int .i32 0, true⟩ := rfl
theorem Try.T_90 : Try.T 90 = some ⟨(.struct [(0, 1, false), (1, 1, false), (2, 1, false), (3, 1, false), (4, 1, false), (5, 1, false), (6, 1, false), (7, 1, false), (8, 1, false), (9, 1, false), (10, 1, false)]), 11, .agg [.int .u64 0, .int .u64 0, .int .u32 0, .int .u8 0, .int .u8 0, .int .u8 0, .int .u8 0, .nilfn, .nilptr, .int .i32 0, .int .i32 0], false⟩ := rfl
theorem Try.T_91 : Try.T 91 = some ⟨(.struct [(0, 1, false), (1, 1, false), (2, 1, false), (3, 1, false), (4, 1, false), (5, 1, false), (6, 1, false), (7, 1, false), (8, 1, false), (9, 1, false), (10, 1, false)]), 11, .agg [.int .u64 0, .int .u64 0, .int .u32 0, .int .u8 0, .int .u8 0, .int .u8 0, .int .u8 0, .nilfn, .nilptr, .int .i32 0, .int .i32 0], false⟩ := rfl
end Go.Proofs
