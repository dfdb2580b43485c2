/- The types of the seat; package wide: sums, order, shifts, parts; and the arithmetic of numbers of eight limbs. -/
import Derived.Test.YtpojeehijepmhaaGreatGA
import Derived.Test.YtpojeehijepmhaaGreatProg
import Derived.Test.YtpojeehijepmhaaGreatGB
import Derived.Shelf.Strconv.Itoa0
import Derived.Shelf.Bits.Mul64

section
namespace Go.Proofs
open Go.X
def Tryz.tlist : List (TypeId × TI) := [
  (1, ⟨.func, 1, .nilfn, false⟩),
  (2, ⟨(.int .i64), 1, .int .i64 0, true⟩),
  (3, ⟨(.int .i64), 1, .int .i64 0, true⟩),
  (4, ⟨.bool, 1, .bool false, false⟩),
  (5, ⟨(.int .u8), 1, .int .u8 0, true⟩),
  (6, ⟨(.int .u8), 1, .int .u8 0, true⟩),
  (7, ⟨(.struct [(0, 1, false), (1, 1, false), (2, 1, false), (3, 1, false)]), 4, .agg [.int .i64 0, .int .i64 0, .bool false, .int .u8 0], false⟩),
  (8, ⟨(.struct [(0, 1, false), (1, 1, false), (2, 1, false), (3, 1, false)]), 4, .agg [.int .i64 0, .int .i64 0, .bool false, .int .u8 0], false⟩),
  (12, ⟨(.int .u64), 1, .int .u64 0, true⟩),
  (15, ⟨.ptr, 1, .nilptr, false⟩),
  (16, ⟨.ptr, 1, .nilptr, false⟩),
  (17, ⟨.ptr, 1, .nilptr, false⟩),
  (18, ⟨(.struct [(0, 1, false)]), 1, .agg [.nilptr], false⟩),
  (19, ⟨(.struct [(0, 1, false)]), 1, .agg [.nilptr], false⟩),
  (20, ⟨.iface, 1, .nilif, false⟩),
  (21, ⟨(.int .i32), 1, .int .i32 0, true⟩),
  (22, ⟨(.int .i64), 1, .int .i64 0, true⟩),
  (23, ⟨(.struct [(0, 1, false), (1, 1, false), (2, 1, false)]), 3, .agg [.int .i64 0, .int .i64 0, .int .i64 0], true⟩),
  (24, ⟨(.struct [(0, 1, false), (1, 1, false), (2, 1, false)]), 3, .agg [.int .i64 0, .int .i64 0, .int .i64 0], true⟩),
  (25, ⟨(.slice 24 3 24 (.agg [.int .i64 0, .int .i64 0, .int .i64 0])), 1, .nilslice, false⟩),
  (26, ⟨(.struct [(0, 1, false), (1, 1, false), (2, 3, true), (5, 1, false)]), 6, .agg [.int .i64 0, .int .i64 0, .int .i64 0, .int .i64 0, .int .i64 0, .nilslice], false⟩),
  (27, ⟨(.struct [(0, 1, false), (1, 1, false), (2, 3, true), (5, 1, false)]), 6, .agg [.int .i64 0, .int .i64 0, .int .i64 0, .int .i64 0, .int .i64 0, .nilslice], false⟩),
  (28, ⟨(.struct [(0, 1, false), (1, 1, false), (2, 1, false), (3, 1, false)]), 4, .agg [.int .i64 0, .int .i64 0, .int .i64 0, .int .i64 0], true⟩),
  (29, ⟨(.struct [(0, 1, false), (1, 1, false), (2, 1, false), (3, 1, false)]), 4, .agg [.int .i64 0, .int .i64 0, .int .i64 0, .int .i64 0], true⟩),
  (30, ⟨(.struct [(0, 3, true), (3, 4, true)]), 7, .agg [.int .i64 0, .int .i64 0, .int .i64 0, .int .i64 0, .int .i64 0, .int .i64 0, .int .i64 0], true⟩),
  (31, ⟨(.struct [(0, 3, true), (3, 4, true)]), 7, .agg [.int .i64 0, .int .i64 0, .int .i64 0, .int .i64 0, .int .i64 0, .int .i64 0, .int .i64 0], true⟩),
  (32, ⟨(.struct [(0, 6, true), (6, 7, true)]), 13, .agg [.int .i64 0, .int .i64 0, .int .i64 0, .int .i64 0, .int .i64 0, .nilslice, .int .i64 0, .int .i64 0, .int .i64 0, .int .i64 0, .int .i64 0, .int .i64 0, .int .i64 0], false⟩),
  (33, ⟨(.struct [(0, 6, true), (6, 7, true)]), 13, .agg [.int .i64 0, .int .i64 0, .int .i64 0, .int .i64 0, .int .i64 0, .nilslice, .int .i64 0, .int .i64 0, .int .i64 0, .int .i64 0, .int .i64 0, .int .i64 0, .int .i64 0], false⟩),
  (34, ⟨(.struct [(0, 1, false), (1, 13, true), (14, 1, false), (15, 3, true), (18, 3, true), (21, 1, false)]), 22, .agg [.int .i64 0, .int .i64 0, .int .i64 0, .int .i64 0, .int .i64 0, .int .i64 0, .nilslice, .int .i64 0, .int .i64 0, .int .i64 0, .int .i64 0, .int .i64 0, .int .i64 0, .int .i64 0, .int .i64 0, .int .i64 0, .int .i64 0, .int .i64 0, .int .i64 0, .int .i64 0, .int .i64 0, .int .i64 0], false⟩),
  (35, ⟨(.struct [(0, 1, false), (1, 13, true), (14, 1, false), (15, 3, true), (18, 3, true), (21, 1, false)]), 22, .agg [.int .i64 0, .int .i64 0, .int .i64 0, .int .i64 0, .int .i64 0, .int .i64 0, .nilslice, .int .i64 0, .int .i64 0, .int .i64 0, .int .i64 0, .int .i64 0, .int .i64 0, .int .i64 0, .int .i64 0, .int .i64 0, .int .i64 0, .int .i64 0, .int .i64 0, .int .i64 0, .int .i64 0, .int .i64 0], false⟩),
  (36, ⟨.func, 1, .nilfn, false⟩),
  (37, ⟨(.array 3 3 true), 9, .agg [.int .i64 0, .int .i64 0, .int .i64 0, .int .i64 0, .int .i64 0, .int .i64 0, .int .i64 0, .int .i64 0, .int .i64 0], true⟩),
  (38, ⟨(.struct [(0, 9, true)]), 9, .agg [.int .i64 0, .int .i64 0, .int .i64 0, .int .i64 0, .int .i64 0, .int .i64 0, .int .i64 0, .int .i64 0, .int .i64 0], true⟩),
  (39, ⟨(.struct [(0, 9, true)]), 9, .agg [.int .i64 0, .int .i64 0, .int .i64 0, .int .i64 0, .int .i64 0, .int .i64 0, .int .i64 0, .int .i64 0, .int .i64 0], true⟩),
  (40, ⟨(.struct [(0, 1, false), (1, 9, true), (10, 3, true), (13, 3, true)]), 16, .agg [.int .i64 0, .int .i64 0, .int .i64 0, .int .i64 0, .int .i64 0, .int .i64 0, .int .i64 0, .int .i64 0, .int .i64 0, .int .i64 0, .int .i64 0, .int .i64 0, .int .i64 0, .int .i64 0, .int .i64 0, .int .i64 0], true⟩),
  (41, ⟨(.struct [(0, 1, false), (1, 9, true), (10, 3, true), (13, 3, true)]), 16, .agg [.int .i64 0, .int .i64 0, .int .i64 0, .int .i64 0, .int .i64 0, .int .i64 0, .int .i64 0, .int .i64 0, .int .i64 0, .int .i64 0, .int .i64 0, .int .i64 0, .int .i64 0, .int .i64 0, .int .i64 0, .int .i64 0], true⟩),
  (42, ⟨(.int .i64), 1, .int .i64 0, true⟩),
  (44, ⟨.func, 1, .nilfn, false⟩),
  (45, ⟨.func, 1, .nilfn, false⟩),
  (46, ⟨.func, 1, .nilfn, false⟩),
  (47, ⟨(.slice 68 2 16 (.agg [.int .i64 0, .int .i64 0])), 1, .nilslice, false⟩),
  (49, ⟨.func, 1, .nilfn, false⟩),
  (50, ⟨.func, 1, .nilfn, false⟩),
  (51, ⟨.func, 1, .nilfn, false⟩),
  (52, ⟨(.struct [(0, 22, true)]), 22, .agg [.int .i64 0, .int .i64 0, .int .i64 0, .int .i64 0, .int .i64 0, .int .i64 0, .nilslice, .int .i64 0, .int .i64 0, .int .i64 0, .int .i64 0, .int .i64 0, .int .i64 0, .int .i64 0, .int .i64 0, .int .i64 0, .int .i64 0, .int .i64 0, .int .i64 0, .int .i64 0, .int .i64 0, .int .i64 0], false⟩),
  (53, ⟨(.struct [(0, 22, true)]), 22, .agg [.int .i64 0, .int .i64 0, .int .i64 0, .int .i64 0, .int .i64 0, .int .i64 0, .nilslice, .int .i64 0, .int .i64 0, .int .i64 0, .int .i64 0, .int .i64 0, .int .i64 0, .int .i64 0, .int .i64 0, .int .i64 0, .int .i64 0, .int .i64 0, .int .i64 0, .int .i64 0, .int .i64 0, .int .i64 0], false⟩),
  (54, ⟨(.struct [(0, 1, false), (1, 3, true)]), 4, .agg [.int .i64 0, .int .i64 0, .int .i64 0, .int .i64 0], true⟩),
  (55, ⟨(.struct [(0, 1, false), (1, 3, true)]), 4, .agg [.int .i64 0, .int .i64 0, .int .i64 0, .int .i64 0], true⟩),
  (57, ⟨.func, 1, .nilfn, false⟩),
  (58, ⟨.func, 1, .nilfn, false⟩),
  (60, ⟨.func, 1, .nilfn, false⟩),
  (61, ⟨.func, 1, .nilfn, false⟩),
  (62, ⟨.func, 1, .nilfn, false⟩),
  (63, ⟨.func, 1, .nilfn, false⟩),
  (64, ⟨.func, 1, .nilfn, false⟩),
  (65, ⟨.func, 1, .nilfn, false⟩),
  (66, ⟨.func, 1, .nilfn, false⟩),
  (67, ⟨(.struct [(0, 1, false), (1, 1, false)]), 2, .agg [.int .i64 0, .int .i64 0], true⟩),
  (68, ⟨(.struct [(0, 1, false), (1, 1, false)]), 2, .agg [.int .i64 0, .int .i64 0], true⟩),
  (70, ⟨.func, 1, .nilfn, false⟩),
  (72, ⟨.func, 1, .nilfn, false⟩),
  (73, ⟨(.int .u64), 1, .int .u64 0, true⟩),
  (74, ⟨(.array 8 1 false), 8, .arr .u64 8 fun _ => 0, true⟩),
  (75, ⟨(.struct [(0, 8, true)]), 8, .arr .u64 8 fun _ => 0, true⟩),
  (76, ⟨(.struct [(0, 8, true)]), 8, .arr .u64 8 fun _ => 0, true⟩),
  (77, ⟨.func, 1, .nilfn, false⟩),
  (78, ⟨.func, 1, .nilfn, false⟩),
  (79, ⟨.func, 1, .nilfn, false⟩),
  (81, ⟨.func, 1, .nilfn, false⟩),
  (82, ⟨.func, 1, .nilfn, false⟩),
  (83, ⟨.func, 1, .nilfn, false⟩),
  (84, ⟨.func, 1, .nilfn, false⟩),
  (85, ⟨.func, 1, .nilfn, false⟩),
  (86, ⟨.func, 1, .nilfn, false⟩),
  (87, ⟨.func, 1, .nilfn, false⟩),
  (88, ⟨.func, 1, .nilfn, false⟩),
  (89, ⟨.func, 1, .nilfn, false⟩),
  (90, ⟨.func, 1, .nilfn, false⟩),
  (91, ⟨.func, 1, .nilfn, false⟩),
  (92, ⟨.func, 1, .nilfn, false⟩),
  (93, ⟨.func, 1, .nilfn, false⟩),
  (95, ⟨.func, 1, .nilfn, false⟩),
  (96, ⟨.func, 1, .nilfn, false⟩),
  (97, ⟨.func, 1, .nilfn, false⟩),
  (98, ⟨.ptr, 1, .nilptr, false⟩),
  (99, ⟨(.array 3 1 false), 3, .agg [.nilptr, .nilptr, .nilptr], false⟩),
  (101, ⟨.func, 1, .nilfn, false⟩),
  (102, ⟨.func, 1, .nilfn, false⟩),
  (104, ⟨.func, 1, .nilfn, false⟩),
  (105, ⟨.func, 1, .nilfn, false⟩),
  (106, ⟨.func, 1, .nilfn, false⟩),
  (107, ⟨(.array 8 1 false), 8, .arr .u64 8 fun _ => 0, true⟩),
  (108, ⟨(.int .u64), 1, .int .u64 0, true⟩),
  (109, ⟨.func, 1, .nilfn, false⟩),
  (111, ⟨.func, 1, .nilfn, false⟩),
  (112, ⟨.func, 1, .nilfn, false⟩),
  (113, ⟨.func, 1, .nilfn, false⟩),
  (114, ⟨.func, 1, .nilfn, false⟩),
  (115, ⟨.func, 1, .nilfn, false⟩),
  (116, ⟨.func, 1, .nilfn, false⟩),
  (117, ⟨.func, 1, .nilfn, false⟩),
  (118, ⟨.func, 1, .nilfn, false⟩),
  (119, ⟨(.array 4 8 true), 32, .agg [(.arr .u64 8 fun _ => 0), (.arr .u64 8 fun _ => 0), (.arr .u64 8 fun _ => 0), (.arr .u64 8 fun _ => 0)], true⟩),
  (120, ⟨(.array 4 8 true), 32, .agg [(.arr .u64 8 fun _ => 0), (.arr .u64 8 fun _ => 0), (.arr .u64 8 fun _ => 0), (.arr .u64 8 fun _ => 0)], true⟩),
  (121, ⟨.func, 1, .nilfn, false⟩),
  (122, ⟨.func, 1, .nilfn, false⟩),
  (123, ⟨(.struct [(0, 1, false), (1, 1, false), (2, 1, false)]), 3, .agg [.int .i64 0, .int .i64 0, .int .i64 0], true⟩),
  (124, ⟨(.struct [(0, 1, false), (1, 1, false), (2, 1, false)]), 3, .agg [.int .i64 0, .int .i64 0, .int .i64 0], true⟩),
  (125, ⟨(.slice 124 3 24 (.agg [.int .i64 0, .int .i64 0, .int .i64 0])), 1, .nilslice, false⟩),
  (126, ⟨(.array 3 1 false), 3, .agg [.nilslice, .nilslice, .nilslice], false⟩),
  (127, ⟨(.array 3 3 true), 9, .agg [.nilslice, .nilslice, .nilslice, .nilslice, .nilslice, .nilslice, .nilslice, .nilslice, .nilslice], false⟩),
  (128, ⟨.func, 1, .nilfn, false⟩),
  (129, ⟨.func, 1, .nilfn, false⟩),
  (130, ⟨(.array 3 8 true), 24, .agg [(.arr .u64 8 fun _ => 0), (.arr .u64 8 fun _ => 0), (.arr .u64 8 fun _ => 0)], true⟩),
  (131, ⟨(.array 3 24 true), 72, .agg [(.arr .u64 8 fun _ => 0), (.arr .u64 8 fun _ => 0), (.arr .u64 8 fun _ => 0), (.arr .u64 8 fun _ => 0), (.arr .u64 8 fun _ => 0), (.arr .u64 8 fun _ => 0), (.arr .u64 8 fun _ => 0), (.arr .u64 8 fun _ => 0), (.arr .u64 8 fun _ => 0)], true⟩),
  (132, ⟨(.array 3 24 true), 72, .agg [(.arr .u64 8 fun _ => 0), (.arr .u64 8 fun _ => 0), (.arr .u64 8 fun _ => 0), (.arr .u64 8 fun _ => 0), (.arr .u64 8 fun _ => 0), (.arr .u64 8 fun _ => 0), (.arr .u64 8 fun _ => 0), (.arr .u64 8 fun _ => 0), (.arr .u64 8 fun _ => 0)], true⟩),
  (133, ⟨.func, 1, .nilfn, false⟩),
  (134, ⟨.func, 1, .nilfn, false⟩),
  (135, ⟨.func, 1, .nilfn, false⟩),
  (136, ⟨.func, 1, .nilfn, false⟩),
  (137, ⟨.func, 1, .nilfn, false⟩),
  (138, ⟨.func, 1, .nilfn, false⟩),
  (139, ⟨.func, 1, .nilfn, false⟩),
  (140, ⟨.func, 1, .nilfn, false⟩),
  (141, ⟨.func, 1, .nilfn, false⟩),
  (142, ⟨(.struct [(0, 1, false), (1, 1, false)]), 2, .agg [.nilfn, .nilfn], false⟩),
  (143, ⟨(.struct [(0, 1, false), (1, 1, false)]), 2, .agg [.nilfn, .nilfn], false⟩),
  (144, ⟨(.array 5 2 true), 10, .agg [.nilfn, .nilfn, .nilfn, .nilfn, .nilfn, .nilfn, .nilfn, .nilfn, .nilfn, .nilfn], false⟩),
  (145, ⟨.func, 1, .nilfn, false⟩),
  (146, ⟨(.slice 148 3 24 (.agg [.int .i64 0, .int .i64 0, .int .i64 0])), 1, .nilslice, false⟩),
  (147, ⟨(.struct [(0, 1, false), (1, 1, false), (2, 1, false)]), 3, .agg [.int .i64 0, .int .i64 0, .int .i64 0], true⟩),
  (148, ⟨(.struct [(0, 1, false), (1, 1, false), (2, 1, false)]), 3, .agg [.int .i64 0, .int .i64 0, .int .i64 0], true⟩),
  (150, ⟨.func, 1, .nilfn, false⟩),
  (152, ⟨.func, 1, .nilfn, false⟩),
  (153, ⟨.func, 1, .nilfn, false⟩),
  (154, ⟨.func, 1, .nilfn, false⟩),
  (155, ⟨(.slice 76 8 64 (.arr .u64 8 fun _ => 0)), 1, .nilslice, false⟩),
  (156, ⟨.func, 1, .nilfn, false⟩),
  (157, ⟨.func, 1, .nilfn, false⟩),
  (158, ⟨.func, 1, .nilfn, false⟩),
  (160, ⟨.func, 1, .nilfn, false⟩),
  (161, ⟨.func, 1, .nilfn, false⟩),
  (162, ⟨(.struct []), 0, .agg [], true⟩),
  (163, ⟨(.struct []), 0, .agg [], true⟩),
  (164, ⟨.func, 1, .nilfn, false⟩),
  (165, ⟨.func, 1, .nilfn, false⟩),
  (166, ⟨.func, 1, .nilfn, false⟩),
  (167, ⟨.func, 1, .nilfn, false⟩),
  (168, ⟨.func, 1, .nilfn, false⟩),
  (170, ⟨.func, 1, .nilfn, false⟩),
  (171, ⟨.func, 1, .nilfn, false⟩),
  (172, ⟨(.struct []), 0, .agg [], true⟩),
  (173, ⟨.func, 1, .nilfn, false⟩),
  (174, ⟨(.slice 3 1 8 (.int .i64 0)), 1, .nilslice, false⟩),
  (175, ⟨.func, 1, .nilfn, false⟩),
  (176, ⟨.func, 1, .nilfn, false⟩),
  (177, ⟨.func, 1, .nilfn, false⟩),
  (178, ⟨.func, 1, .nilfn, false⟩),
  (179, ⟨.func, 1, .nilfn, false⟩),
  (180, ⟨.func, 1, .nilfn, false⟩),
  (181, ⟨.func, 1, .nilfn, false⟩),
  (182, ⟨.func, 1, .nilfn, false⟩),
  (183, ⟨.func, 1, .nilfn, false⟩),
  (184, ⟨.func, 1, .nilfn, false⟩),
  (185, ⟨.func, 1, .nilfn, false⟩),
  (186, ⟨.func, 1, .nilfn, false⟩),
  (187, ⟨.func, 1, .nilfn, false⟩),
  (189, ⟨.func, 1, .nilfn, false⟩),
  (190, ⟨.func, 1, .nilfn, false⟩),
  (191, ⟨.func, 1, .nilfn, false⟩),
  (192, ⟨.func, 1, .nilfn, false⟩),
  (193, ⟨(.array 4 3 true), 12, .agg [.int .i64 0, .int .i64 0, .int .i64 0, .int .i64 0, .int .i64 0, .int .i64 0, .int .i64 0, .int .i64 0, .int .i64 0, .int .i64 0, .int .i64 0, .int .i64 0], true⟩),
  (194, ⟨(.array 4 12 true), 48, .agg [.int .i64 0, .int .i64 0, .int .i64 0, .int .i64 0, .int .i64 0, .int .i64 0, .int .i64 0, .int .i64 0, .int .i64 0, .int .i64 0, .int .i64 0, .int .i64 0, .int .i64 0, .int .i64 0, .int .i64 0, .int .i64 0, .int .i64 0, .int .i64 0, .int .i64 0, .int .i64 0, .int .i64 0, .int .i64 0, .int .i64 0, .int .i64 0, .int .i64 0, .int .i64 0, .int .i64 0, .int .i64 0, .int .i64 0, .int .i64 0, .int .i64 0, .int .i64 0, .int .i64 0, .int .i64 0, .int .i64 0, .int .i64 0, .int .i64 0, .int .i64 0, .int .i64 0, .int .i64 0, .int .i64 0, .int .i64 0, .int .i64 0, .int .i64 0, .int .i64 0, .int .i64 0, .int .i64 0, .int .i64 0], true⟩),
  (195, ⟨.func, 1, .nilfn, false⟩),
  (196, ⟨.func, 1, .nilfn, false⟩),
  (197, ⟨.func, 1, .nilfn, false⟩),
  (198, ⟨(.array 3 1 false), 3, .agg [.int .i64 0, .int .i64 0, .int .i64 0], true⟩),
  (199, ⟨(.struct [(0, 1, false)]), 1, .agg [.nilslice], false⟩),
  (200, ⟨(.struct [(0, 1, false)]), 1, .agg [.nilslice], false⟩),
  (201, ⟨.func, 1, .nilfn, false⟩),
  (202, ⟨.func, 1, .nilfn, false⟩),
  (203, ⟨.func, 1, .nilfn, false⟩),
  (204, ⟨(.struct [(0, 8, true), (8, 8, true), (16, 8, true)]), 24, .agg [(.arr .u64 8 fun _ => 0), (.arr .u64 8 fun _ => 0), (.arr .u64 8 fun _ => 0)], true⟩),
  (205, ⟨(.struct [(0, 8, true), (8, 8, true), (16, 8, true)]), 24, .agg [(.arr .u64 8 fun _ => 0), (.arr .u64 8 fun _ => 0), (.arr .u64 8 fun _ => 0)], true⟩),
  (206, ⟨.func, 1, .nilfn, false⟩),
  (207, ⟨.func, 1, .nilfn, false⟩),
  (208, ⟨.func, 1, .nilfn, false⟩),
  (209, ⟨.ptr, 1, .nilptr, false⟩),
  (210, ⟨.func, 1, .nilfn, false⟩),
  (211, ⟨.func, 1, .nilfn, false⟩),
  (212, ⟨(.struct []), 0, .agg [], true⟩),
  (214, ⟨.func, 1, .nilfn, false⟩),
  (215, ⟨.func, 1, .nilfn, false⟩),
  (216, ⟨.func, 1, .nilfn, false⟩),
  (217, ⟨.func, 1, .nilfn, false⟩),
  (218, ⟨.func, 1, .nilfn, false⟩),
  (219, ⟨.func, 1, .nilfn, false⟩),
  (220, ⟨.func, 1, .nilfn, false⟩),
  (223, ⟨(.array 0 1 false), 0, .agg [], false⟩),
  (224, ⟨(.struct [(0, 0, true)]), 0, .agg [], false⟩),
  (225, ⟨(.struct [(0, 0, true)]), 0, .agg [], false⟩),
  (226, ⟨.func, 1, .nilfn, false⟩),
  (227, ⟨(.int .u32), 1, .int .u32 0, true⟩),
  (228, ⟨(.int .u8), 1, .int .u8 0, true⟩),
  (229, ⟨(.int .u8), 1, .int .u8 0, true⟩),
  (230, ⟨.func, 1, .nilfn, false⟩),
  (231, ⟨.ptr, 1, .nilptr, false⟩),
  (232, ⟨(.int .i32), 1, .int .i32 0, true⟩),
  (233, ⟨(.int .i32), 1, .int .i32 0, true⟩),
  (234, ⟨(.struct [(0, 1, false), (1, 1, false), (2, 1, false), (3, 1, false), (4, 1, false), (5, 1, false), (6, 1, false), (7, 1, false), (8, 1, false), (9, 1, false), (10, 1, false)]), 11, .agg [.int .u64 0, .int .u64 0, .int .u32 0, .int .u8 0, .int .u8 0, .int .u8 0, .int .u8 0, .nilfn, .nilptr, .int .i32 0, .int .i32 0], false⟩),
  (235, ⟨(.struct [(0, 1, false), (1, 1, false), (2, 1, false), (3, 1, false), (4, 1, false), (5, 1, false), (6, 1, false), (7, 1, false), (8, 1, false), (9, 1, false), (10, 1, false)]), 11, .agg [.int .u64 0, .int .u64 0, .int .u32 0, .int .u8 0, .int .u8 0, .int .u8 0, .int .u8 0, .nilfn, .nilptr, .int .i32 0, .int .i32 0], false⟩)]
def Tryz.T : TT := ttOf Tryz.tlist
set_option maxRecDepth 100000 in
theorem Tryz.T_check : Tryz.tlist.all (fun p => tiCheck Tryz.prog p.1 p.2) = true := by kernel_rfl
theorem Tryz.T_ok : TOk Tryz.prog Tryz.T := ttOf_ok Tryz.T_check
theorem Tryz.T_1 : Tryz.T 1 = some ⟨.func, 1, .nilfn, false⟩ := rfl
theorem Tryz.T_2 : Tryz.T 2 = some ⟨(.int .i64), 1, .int .i64 0, true⟩ := rfl
theorem Tryz.T_3 : Tryz.T 3 = some ⟨(.int .i64), 1, .int .i64 0, true⟩ := rfl
theorem Tryz.T_4 : Tryz.T 4 = some ⟨.bool, 1, .bool false, false⟩ := rfl
theorem Tryz.T_5 : Tryz.T 5 = some ⟨(.int .u8), 1, .int .u8 0, true⟩ := rfl
theorem Tryz.T_6 : Tryz.T 6 = some ⟨(.int .u8), 1, .int .u8 0, true⟩ := rfl
theorem Tryz.T_7 : Tryz.T 7 = some ⟨(.struct [(0, 1, false), (1, 1, false), (2, 1, false), (3, 1, false)]), 4, .agg [.int .i64 0, .int .i64 0, .bool false, .int .u8 0], false⟩ := rfl
theorem Tryz.T_8 : Tryz.T 8 = some ⟨(.struct [(0, 1, false), (1, 1, false), (2, 1, false), (3, 1, false)]), 4, .agg [.int .i64 0, .int .i64 0, .bool false, .int .u8 0], false⟩ := rfl
theorem Tryz.T_12 : Tryz.T 12 = some ⟨(.int .u64), 1, .int .u64 0, true⟩ := rfl
theorem Tryz.T_15 : Tryz.T 15 = some ⟨.ptr, 1, .nilptr, false⟩ := rfl
theorem Tryz.T_16 : Tryz.T 16 = some ⟨.ptr, 1, .nilptr, false⟩ := rfl
theorem Tryz.T_17 : Tryz.T 17 = some ⟨.ptr, 1, .nilptr, false⟩ := rfl
theorem Tryz.T_18 : Tryz.T 18 = some ⟨(.struct [(0, 1, false)]), 1, .agg [.nilptr], false⟩ := rfl
theorem Tryz.T_19 : Tryz.T 19 = some ⟨(.struct [(0, 1, false)]), 1, .agg [.nilptr], false⟩ := rfl
theorem Tryz.T_20 : Tryz.T 20 = some ⟨.iface, 1, .nilif, false⟩ := rfl
theorem Tryz.T_21 : Tryz.T 21 = some ⟨(.int .i32), 1, .int .i32 0, true⟩ := rfl
theorem Tryz.T_22 : Tryz.T 22 = some ⟨(.int .i64), 1, .int .i64 0, true⟩ := rfl
theorem Tryz.T_23 : Tryz.T 23 = some ⟨(.struct [(0, 1, false), (1, 1, false), (2, 1, false)]), 3, .agg [.int .i64 0, .int .i64 0, .int .i64 0], true⟩ := rfl
theorem Tryz.T_24 : Tryz.T 24 = some ⟨(.struct [(0, 1, false), (1, 1, false), (2, 1, false)]), 3, .agg [.int .i64 0, .int .i64 0, .int .i64 0], true⟩ := rfl
theorem Tryz.T_25 : Tryz.T 25 = some ⟨(.slice 24 3 24 (.agg [.int .i64 0, .int .i64 0, .int .i64 0])), 1, .nilslice, false⟩ := rfl
theorem Tryz.T_26 : Tryz.T 26 = some ⟨(.struct [(0, 1, false), (1, 1, false), (2, 3, true), (5, 1, false)]), 6, .agg [.int .i64 0, .int .i64 0, .int .i64 0, .int .i64 0, .int .i64 0, .nilslice], false⟩ := rfl
theorem Tryz.T_27 : Tryz.T 27 = some ⟨(.struct [(0, 1, false), (1, 1, false), (2, 3, true), (5, 1, false)]), 6, .agg [.int .i64 0, .int .i64 0, .int .i64 0, .int .i64 0, .int .i64 0, .nilslice], false⟩ := rfl
theorem Tryz.T_28 : Tryz.T 28 = some ⟨(.struct [(0, 1, false), (1, 1, false), (2, 1, false), (3, 1, false)]), 4, .agg [.int .i64 0, .int .i64 0, .int .i64 0, .int .i64 0], true⟩ := rfl
theorem Tryz.T_29 : Tryz.T 29 = some ⟨(.struct [(0, 1, false), (1, 1, false), (2, 1, false), (3, 1, false)]), 4, .agg [.int .i64 0, .int .i64 0, .int .i64 0, .int .i64 0], true⟩ := rfl
theorem Tryz.T_30 : Tryz.T 30 = some ⟨(.struct [(0, 3, true), (3, 4, true)]), 7, .agg [.int .i64 0, .int .i64 0, .int .i64 0, .int .i64 0, .int .i64 0, .int .i64 0, .int .i64 0], true⟩ := rfl
theorem Tryz.T_31 : Tryz.T 31 = some ⟨(.struct [(0, 3, true), (3, 4, true)]), 7, .agg [.int .i64 0, .int .i64 0, .int .i64 0, .int .i64 0, .int .i64 0, .int .i64 0, .int .i64 0], true⟩ := rfl
theorem Tryz.T_32 : Tryz.T 32 = some ⟨(.struct [(0, 6, true), (6, 7, true)]), 13, .agg [.int .i64 0, .int .i64 0, .int .i64 0, .int .i64 0, .int .i64 0, .nilslice, .int .i64 0, .int .i64 0, .int .i64 0, .int .i64 0, .int .i64 0, .int .i64 0, .int .i64 0], false⟩ := rfl
theorem Tryz.T_33 : Tryz.T 33 = some ⟨(.struct [(0, 6, true), (6, 7, true)]), 13, .agg [.int .i64 0, .int .i64 0, .int .i64 0, .int .i64 0, .int .i64 0, .nilslice, .int .i64 0, .int .i64 0, .int .i64 0, .int .i64 0, .int .i64 0, .int .i64 0, .int .i64 0], false⟩ := rfl
theorem Tryz.T_34 : Tryz.T 34 = some ⟨(.struct [(0, 1, false), (1, 13, true), (14, 1, false), (15, 3, true), (18, 3, true), (21, 1, false)]), 22, .agg [.int .i64 0, .int .i64 0, .int .i64 0, .int .i64 0, .int .i64 0, .int .i64 0, .nilslice, .int .i64 0, .int .i64 0, .int .i64 0, .int .i64 0, .int .i64 0, .int .i64 0, .int .i64 0, .int .i64 0, .int .i64 0, .int .i64 0, .int .i64 0, .int .i64 0, .int .i64 0, .int .i64 0, .int .i64 0], false⟩ := rfl
theorem Tryz.T_35 : Tryz.T 35 = some ⟨(.struct [(0, 1, false), (1, 13, true), (14, 1, false), (15, 3, true), (18, 3, true), (21, 1, false)]), 22, .agg [.int .i64 0, .int .i64 0, .int .i64 0, .int .i64 0, .int .i64 0, .int .i64 0, .nilslice, .int .i64 0, .int .i64 0, .int .i64 0, .int .i64 0, .int .i64 0, .int .i64 0, .int .i64 0, .int .i64 0, .int .i64 0, .int .i64 0, .int .i64 0, .int .i64 0, .int .i64 0, .int .i64 0, .int .i64 0], false⟩ := rfl
theorem Tryz.T_36 : Tryz.T 36 = some ⟨.func, 1, .nilfn, false⟩ := rfl
theorem Tryz.T_37 : Tryz.T 37 = some ⟨(.array 3 3 true), 9, .agg [.int .i64 0, .int .i64 0, .int .i64 0, .int .i64 0, .int .i64 0, .int .i64 0, .int .i64 0, .int .i64 0, .int .i64 0], true⟩ := rfl
theorem Tryz.T_38 : Tryz.T 38 = some ⟨(.struct [(0, 9, true)]), 9, .agg [.int .i64 0, .int .i64 0, .int .i64 0, .int .i64 0, .int .i64 0, .int .i64 0, .int .i64 0, .int .i64 0, .int .i64 0], true⟩ := rfl
theorem Tryz.T_39 : Tryz.T 39 = some ⟨(.struct [(0, 9, true)]), 9, .agg [.int .i64 0, .int .i64 0, .int .i64 0, .int .i64 0, .int .i64 0, .int .i64 0, .int .i64 0, .int .i64 0, .int .i64 0], true⟩ := rfl
theorem Tryz.T_40 : Tryz.T 40 = some ⟨(.struct [(0, 1, false), (1, 9, true), (10, 3, true), (13, 3, true)]), 16, .agg [.int .i64 0, .int .i64 0, .int .i64 0, .int .i64 0, .int .i64 0, .int .i64 0, .int .i64 0, .int .i64 0, .int .i64 0, .int .i64 0, .int .i64 0, .int .i64 0, .int .i64 0, .int .i64 0, .int .i64 0, .int .i64 0], true⟩ := rfl
theorem Tryz.T_41 : Tryz.T 41 = some ⟨(.struct [(0, 1, false), (1, 9, true), (10, 3, true), (13, 3, true)]), 16, .agg [.int .i64 0, .int .i64 0, .int .i64 0, .int .i64 0, .int .i64 0, .int .i64 0, .int .i64 0, .int .i64 0, .int .i64 0, .int .i64 0, .int .i64 0, .int .i64 0, .int .i64 0, .int .i64 0, .int .i64 0, .int .i64 0], true⟩ := rfl
theorem Tryz.T_42 : Tryz.T 42 = some ⟨(.int .i64), 1, .int .i64 0, true⟩ := rfl
theorem Tryz.T_44 : Tryz.T 44 = some ⟨.func, 1, .nilfn, false⟩ := rfl
theorem Tryz.T_45 : Tryz.T 45 = some ⟨.func, 1, .nilfn, false⟩ := rfl
theorem Tryz.T_46 : Tryz.T 46 = some ⟨.func, 1, .nilfn, false⟩ := rfl
theorem Tryz.T_47 : Tryz.T 47 = some ⟨(.slice 68 2 16 (.agg [.int .i64 0, .int .i64 0])), 1, .nilslice, false⟩ := rfl
theorem Tryz.T_49 : Tryz.T 49 = some ⟨.func, 1, .nilfn, false⟩ := rfl
theorem Tryz.T_50 : Tryz.T 50 = some ⟨.func, 1, .nilfn, false⟩ := rfl
theorem Tryz.T_51 : Tryz.T 51 = some ⟨.func, 1, .nilfn, false⟩ := rfl
theorem Tryz.T_52 : Tryz.T 52 = some ⟨(.struct [(0, 22, true)]), 22, .agg [.int .i64 0, .int .i64 0, .int .i64 0, .int .i64 0, .int .i64 0, .int .i64 0, .nilslice, .int .i64 0, .int .i64 0, .int .i64 0, .int .i64 0, .int .i64 0, .int .i64 0, .int .i64 0, .int .i64 0, .int .i64 0, .int .i64 0, .int .i64 0, .int .i64 0, .int .i64 0, .int .i64 0, .int .i64 0], false⟩ := rfl
theorem Tryz.T_53 : Tryz.T 53 = some ⟨(.struct [(0, 22, true)]), 22, .agg [.int .i64 0, .int .i64 0, .int .i64 0, .int .i64 0, .int .i64 0, .int .i64 0, .nilslice, .int .i64 0, .int .i64 0, .int .i64 0, .int .i64 0, .int .i64 0, .int .i64 0, .int .i64 0, .int .i64 0, .int .i64 0, .int .i64 0, .int .i64 0, .int .i64 0, .int .i64 0, .int .i64 0, .int .i64 0], false⟩ := rfl
theorem Tryz.T_54 : Tryz.T 54 = some ⟨(.struct [(0, 1, false), (1, 3, true)]), 4, .agg [.int .i64 0, .int .i64 0, .int .i64 0, .int .i64 0], true⟩ := rfl
theorem Tryz.T_55 : Tryz.T 55 = some ⟨(.struct [(0, 1, false), (1, 3, true)]), 4, .agg [.int .i64 0, .int .i64 0, .int .i64 0, .int .i64 0], true⟩ := rfl
theorem Tryz.T_57 : Tryz.T 57 = some ⟨.func, 1, .nilfn, false⟩ := rfl
theorem Tryz.T_58 : Tryz.T 58 = some ⟨.func, 1, .nilfn, false⟩ := rfl
theorem Tryz.T_60 : Tryz.T 60 = some ⟨.func, 1, .nilfn, false⟩ := rfl
theorem Tryz.T_61 : Tryz.T 61 = some ⟨.func, 1, .nilfn, false⟩ := rfl
theorem Tryz.T_62 : Tryz.T 62 = some ⟨.func, 1, .nilfn, false⟩ := rfl
theorem Tryz.T_63 : Tryz.T 63 = some ⟨.func, 1, .nilfn, false⟩ := rfl
theorem Tryz.T_64 : Tryz.T 64 = some ⟨.func, 1, .nilfn, false⟩ := rfl
theorem Tryz.T_65 : Tryz.T 65 = some ⟨.func, 1, .nilfn, false⟩ := rfl
theorem Tryz.T_66 : Tryz.T 66 = some ⟨.func, 1, .nilfn, false⟩ := rfl
theorem Tryz.T_67 : Tryz.T 67 = some ⟨(.struct [(0, 1, false), (1, 1, false)]), 2, .agg [.int .i64 0, .int .i64 0], true⟩ := rfl
theorem Tryz.T_68 : Tryz.T 68 = some ⟨(.struct [(0, 1, false), (1, 1, false)]), 2, .agg [.int .i64 0, .int .i64 0], true⟩ := rfl
theorem Tryz.T_70 : Tryz.T 70 = some ⟨.func, 1, .nilfn, false⟩ := rfl
theorem Tryz.T_72 : Tryz.T 72 = some ⟨.func, 1, .nilfn, false⟩ := rfl
theorem Tryz.T_73 : Tryz.T 73 = some ⟨(.int .u64), 1, .int .u64 0, true⟩ := rfl
theorem Tryz.T_74 : Tryz.T 74 = some ⟨(.array 8 1 false), 8, .arr .u64 8 fun _ => 0, true⟩ := rfl
theorem Tryz.T_75 : Tryz.T 75 = some ⟨(.struct [(0, 8, true)]), 8, .arr .u64 8 fun _ => 0, true⟩ := rfl
theorem Tryz.T_76 : Tryz.T 76 = some ⟨(.struct [(0, 8, true)]), 8, .arr .u64 8 fun _ => 0, true⟩ := rfl
theorem Tryz.T_77 : Tryz.T 77 = some ⟨.func, 1, .nilfn, false⟩ := rfl
theorem Tryz.T_78 : Tryz.T 78 = some ⟨.func, 1, .nilfn, false⟩ := rfl
theorem Tryz.T_79 : Tryz.T 79 = some ⟨.func, 1, .nilfn, false⟩ := rfl
theorem Tryz.T_81 : Tryz.T 81 = some ⟨.func, 1, .nilfn, false⟩ := rfl
theorem Tryz.T_82 : Tryz.T 82 = some ⟨.func, 1, .nilfn, false⟩ := rfl
theorem Tryz.T_83 : Tryz.T 83 = some ⟨.func, 1, .nilfn, false⟩ := rfl
theorem Tryz.T_84 : Tryz.T 84 = some ⟨.func, 1, .nilfn, false⟩ := rfl
theorem Tryz.T_85 : Tryz.T 85 = some ⟨.func, 1, .nilfn, false⟩ := rfl
theorem Tryz.T_86 : Tryz.T 86 = some ⟨.func, 1, .nilfn, false⟩ := rfl
theorem Tryz.T_87 : Tryz.T 87 = some ⟨.func, 1, .nilfn, false⟩ := rfl
theorem Tryz.T_88 : Tryz.T 88 = some ⟨.func, 1, .nilfn, false⟩ := rfl
theorem Tryz.T_89 : Tryz.T 89 = some ⟨.func, 1, .nilfn, false⟩ := rfl
theorem Tryz.T_90 : Tryz.T 90 = some ⟨.func, 1, .nilfn, false⟩ := rfl
theorem Tryz.T_91 : Tryz.T 91 = some ⟨.func, 1, .nilfn, false⟩ := rfl
theorem Tryz.T_92 : Tryz.T 92 = some ⟨.func, 1, .nilfn, false⟩ := rfl
theorem Tryz.T_93 : Tryz.T 93 = some ⟨.func, 1, .nilfn, false⟩ := rfl
theorem Tryz.T_95 : Tryz.T 95 = some ⟨.func, 1, .nilfn, false⟩ := rfl
theorem Tryz.T_96 : Tryz.T 96 = some ⟨.func, 1, .nilfn, false⟩ := rfl
theorem Tryz.T_97 : Tryz.T 97 = some ⟨.func, 1, .nilfn, false⟩ := rfl
theorem Tryz.T_98 : Tryz.T 98 = some ⟨.ptr, 1, .nilptr, false⟩ := rfl
theorem Tryz.T_99 : Tryz.T 99 = some ⟨(.array 3 1 false), 3, .agg [.nilptr, .nilptr, .nilptr], false⟩ := rfl
theorem Tryz.T_101 : Tryz.T 101 = some ⟨.func, 1, .nilfn, false⟩ := rfl
theorem Tryz.T_102 : Tryz.T 102 = some ⟨.func, 1, .nilfn, false⟩ := rfl
theorem Tryz.T_104 : Tryz.T 104 = some ⟨.func, 1, .nilfn, false⟩ := rfl
theorem Tryz.T_105 : Tryz.T 105 = some ⟨.func, 1, .nilfn, false⟩ := rfl
theorem Tryz.T_106 : Tryz.T 106 = some ⟨.func, 1, .nilfn, false⟩ := rfl
theorem Tryz.T_107 : Tryz.T 107 = some ⟨(.array 8 1 false), 8, .arr .u64 8 fun _ => 0, true⟩ := rfl
theorem Tryz.T_108 : Tryz.T 108 = some ⟨(.int .u64), 1, .int .u64 0, true⟩ := rfl
theorem Tryz.T_109 : Tryz.T 109 = some ⟨.func, 1, .nilfn, false⟩ := rfl
theorem Tryz.T_111 : Tryz.T 111 = some ⟨.func, 1, .nilfn, false⟩ := rfl
theorem Tryz.T_112 : Tryz.T 112 = some ⟨.func, 1, .nilfn, false⟩ := rfl
theorem Tryz.T_113 : Tryz.T 113 = some ⟨.func, 1, .nilfn, false⟩ := rfl
theorem Tryz.T_114 : Tryz.T 114 = some ⟨.func, 1, .nilfn, false⟩ := rfl
theorem Tryz.T_115 : Tryz.T 115 = some ⟨.func, 1, .nilfn, false⟩ := rfl
theorem Tryz.T_116 : Tryz.T 116 = some ⟨.func, 1, .nilfn, false⟩ := rfl
theorem Tryz.T_117 : Tryz.T 117 = some ⟨.func, 1, .nilfn, false⟩ := rfl
theorem Tryz.T_118 : Tryz.T 118 = some ⟨.func, 1, .nilfn, false⟩ := rfl
theorem Tryz.T_119 : Tryz.T 119 = some ⟨(.array 4 8 true), 32, .agg [(.arr .u64 8 fun _ => 0), (.arr .u64 8 fun _ => 0), (.arr .u64 8 fun _ => 0), (.arr .u64 8 fun _ => 0)], true⟩ := rfl
theorem Tryz.T_120 : Tryz.T 120 = some ⟨(.array 4 8 true), 32, .agg [(.arr .u64 8 fun _ => 0), (.arr .u64 8 fun _ => 0), (.arr .u64 8 fun _ => 0), (.arr .u64 8 fun _ => 0)], true⟩ := rfl
theorem Tryz.T_121 : Tryz.T 121 = some ⟨.func, 1, .nilfn, false⟩ := rfl
theorem Tryz.T_122 : Tryz.T 122 = some ⟨.func, 1, .nilfn, false⟩ := rfl
theorem Tryz.T_123 : Tryz.T 123 = some ⟨(.struct [(0, 1, false), (1, 1, false), (2, 1, false)]), 3, .agg [.int .i64 0, .int .i64 0, .int .i64 0], true⟩ := rfl
theorem Tryz.T_124 : Tryz.T 124 = some ⟨(.struct [(0, 1, false), (1, 1, false), (2, 1, false)]), 3, .agg [.int .i64 0, .int .i64 0, .int .i64 0], true⟩ := rfl
theorem Tryz.T_125 : Tryz.T 125 = some ⟨(.slice 124 3 24 (.agg [.int .i64 0, .int .i64 0, .int .i64 0])), 1, .nilslice, false⟩ := rfl
theorem Tryz.T_126 : Tryz.T 126 = some ⟨(.array 3 1 false), 3, .agg [.nilslice, .nilslice, .nilslice], false⟩ := rfl
theorem Tryz.T_127 : Tryz.T 127 = some ⟨(.array 3 3 true), 9, .agg [.nilslice, .nilslice, .nilslice, .nilslice, .nilslice, .nilslice, .nilslice, .nilslice, .nilslice], false⟩ := rfl
theorem Tryz.T_128 : Tryz.T 128 = some ⟨.func, 1, .nilfn, false⟩ := rfl
theorem Tryz.T_129 : Tryz.T 129 = some ⟨.func, 1, .nilfn, false⟩ := rfl
theorem Tryz.T_130 : Tryz.T 130 = some ⟨(.array 3 8 true), 24, .agg [(.arr .u64 8 fun _ => 0), (.arr .u64 8 fun _ => 0), (.arr .u64 8 fun _ => 0)], true⟩ := rfl
theorem Tryz.T_131 : Tryz.T 131 = some ⟨(.array 3 24 true), 72, .agg [(.arr .u64 8 fun _ => 0), (.arr .u64 8 fun _ => 0), (.arr .u64 8 fun _ => 0), (.arr .u64 8 fun _ => 0), (.arr .u64 8 fun _ => 0), (.arr .u64 8 fun _ => 0), (.arr .u64 8 fun _ => 0), (.arr .u64 8 fun _ => 0), (.arr .u64 8 fun _ => 0)], true⟩ := rfl
theorem Tryz.T_132 : Tryz.T 132 = some ⟨(.array 3 24 true), 72, .agg [(.arr .u64 8 fun _ => 0), (.arr .u64 8 fun _ => 0), (.arr .u64 8 fun _ => 0), (.arr .u64 8 fun _ => 0), (.arr .u64 8 fun _ => 0), (.arr .u64 8 fun _ => 0), (.arr .u64 8 fun _ => 0), (.arr .u64 8 fun _ => 0), (.arr .u64 8 fun _ => 0)], true⟩ := rfl
theorem Tryz.T_133 : Tryz.T 133 = some ⟨.func, 1, .nilfn, false⟩ := rfl
theorem Tryz.T_134 : Tryz.T 134 = some ⟨.func, 1, .nilfn, false⟩ := rfl
theorem Tryz.T_135 : Tryz.T 135 = some ⟨.func, 1, .nilfn, false⟩ := rfl
theorem Tryz.T_136 : Tryz.T 136 = some ⟨.func, 1, .nilfn, false⟩ := rfl
theorem Tryz.T_137 : Tryz.T 137 = some ⟨.func, 1, .nilfn, false⟩ := rfl
theorem Tryz.T_138 : Tryz.T 138 = some ⟨.func, 1, .nilfn, false⟩ := rfl
theorem Tryz.T_139 : Tryz.T 139 = some ⟨.func, 1, .nilfn, false⟩ := rfl
theorem Tryz.T_140 : Tryz.T 140 = some ⟨.func, 1, .nilfn, false⟩ := rfl
theorem Tryz.T_141 : Tryz.T 141 = some ⟨.func, 1, .nilfn, false⟩ := rfl
theorem Tryz.T_142 : Tryz.T 142 = some ⟨(.struct [(0, 1, false), (1, 1, false)]), 2, .agg [.nilfn, .nilfn], false⟩ := rfl
theorem Tryz.T_143 : Tryz.T 143 = some ⟨(.struct [(0, 1, false), (1, 1, false)]), 2, .agg [.nilfn, .nilfn], false⟩ := rfl
theorem Tryz.T_144 : Tryz.T 144 = some ⟨(.array 5 2 true), 10, .agg [.nilfn, .nilfn, .nilfn, .nilfn, .nilfn, .nilfn, .nilfn, .nilfn, .nilfn, .nilfn], false⟩ := rfl
theorem Tryz.T_145 : Tryz.T 145 = some ⟨.func, 1, .nilfn, false⟩ := rfl
theorem Tryz.T_146 : Tryz.T 146 = some ⟨(.slice 148 3 24 (.agg [.int .i64 0, .int .i64 0, .int .i64 0])), 1, .nilslice, false⟩ := rfl
theorem Tryz.T_147 : Tryz.T 147 = some ⟨(.struct [(0, 1, false), (1, 1, false), (2, 1, false)]), 3, .agg [.int .i64 0, .int .i64 0, .int .i64 0], true⟩ := rfl
theorem Tryz.T_148 : Tryz.T 148 = some ⟨(.struct [(0, 1, false), (1, 1, false), (2, 1, false)]), 3, .agg [.int .i64 0, .int .i64 0, .int .i64 0], true⟩ := rfl
theorem Tryz.T_150 : Tryz.T 150 = some ⟨.func, 1, .nilfn, false⟩ := rfl
theorem Tryz.T_152 : Tryz.T 152 = some ⟨.func, 1, .nilfn, false⟩ := rfl
theorem Tryz.T_153 : Tryz.T 153 = some ⟨.func, 1, .nilfn, false⟩ := rfl
theorem Tryz.T_154 : Tryz.T 154 = some ⟨.func, 1, .nilfn, false⟩ := rfl
theorem Tryz.T_155 : Tryz.T 155 = some ⟨(.slice 76 8 64 (.arr .u64 8 fun _ => 0)), 1, .nilslice, false⟩ := rfl
theorem Tryz.T_156 : Tryz.T 156 = some ⟨.func, 1, .nilfn, false⟩ := rfl
theorem Tryz.T_157 : Tryz.T 157 = some ⟨.func, 1, .nilfn, false⟩ := rfl
theorem Tryz.T_158 : Tryz.T 158 = some ⟨.func, 1, .nilfn, false⟩ := rfl
theorem Tryz.T_160 : Tryz.T 160 = some ⟨.func, 1, .nilfn, false⟩ := rfl
theorem Tryz.T_161 : Tryz.T 161 = some ⟨.func, 1, .nilfn, false⟩ := rfl
theorem Tryz.T_162 : Tryz.T 162 = some ⟨(.struct []), 0, .agg [], true⟩ := rfl
theorem Tryz.T_163 : Tryz.T 163 = some ⟨(.struct []), 0, .agg [], true⟩ := rfl
theorem Tryz.T_164 : Tryz.T 164 = some ⟨.func, 1, .nilfn, false⟩ := rfl
theorem Tryz.T_165 : Tryz.T 165 = some ⟨.func, 1, .nilfn, false⟩ := rfl
theorem Tryz.T_166 : Tryz.T 166 = some ⟨.func, 1, .nilfn, false⟩ := rfl
theorem Tryz.T_167 : Tryz.T 167 = some ⟨.func, 1, .nilfn, false⟩ := rfl
theorem Tryz.T_168 : Tryz.T 168 = some ⟨.func, 1, .nilfn, false⟩ := rfl
theorem Tryz.T_170 : Tryz.T 170 = some ⟨.func, 1, .nilfn, false⟩ := rfl
theorem Tryz.T_171 : Tryz.T 171 = some ⟨.func, 1, .nilfn, false⟩ := rfl
theorem Tryz.T_172 : Tryz.T 172 = some ⟨(.struct []), 0, .agg [], true⟩ := rfl
theorem Tryz.T_173 : Tryz.T 173 = some ⟨.func, 1, .nilfn, false⟩ := rfl
theorem Tryz.T_174 : Tryz.T 174 = some ⟨(.slice 3 1 8 (.int .i64 0)), 1, .nilslice, false⟩ := rfl
theorem Tryz.T_175 : Tryz.T 175 = some ⟨.func, 1, .nilfn, false⟩ := rfl
theorem Tryz.T_176 : Tryz.T 176 = some ⟨.func, 1, .nilfn, false⟩ := rfl
theorem Tryz.T_177 : Tryz.T 177 = some ⟨.func, 1, .nilfn, false⟩ := rfl
theorem Tryz.T_178 : Tryz.T 178 = some ⟨.func, 1, .nilfn, false⟩ := rfl
theorem Tryz.T_179 : Tryz.T 179 = some ⟨.func, 1, .nilfn, false⟩ := rfl
theorem Tryz.T_180 : Tryz.T 180 = some ⟨.func, 1, .nilfn, false⟩ := rfl
theorem Tryz.T_181 : Tryz.T 181 = some ⟨.func, 1, .nilfn, false⟩ := rfl
theorem Tryz.T_182 : Tryz.T 182 = some ⟨.func, 1, .nilfn, false⟩ := rfl
theorem Tryz.T_183 : Tryz.T 183 = some ⟨.func, 1, .nilfn, false⟩ := rfl
theorem Tryz.T_184 : Tryz.T 184 = some ⟨.func, 1, .nilfn, false⟩ := rfl
theorem Tryz.T_185 : Tryz.T 185 = some ⟨.func, 1, .nilfn, false⟩ := rfl
theorem Tryz.T_186 : Tryz.T 186 = some ⟨.func, 1, .nilfn, false⟩ := rfl
theorem Tryz.T_187 : Tryz.T 187 = some ⟨.func, 1, .nilfn, false⟩ := rfl
theorem Tryz.T_189 : Tryz.T 189 = some ⟨.func, 1, .nilfn, false⟩ := rfl
theorem Tryz.T_190 : Tryz.T 190 = some ⟨.func, 1, .nilfn, false⟩ := rfl
theorem Tryz.T_191 : Tryz.T 191 = some ⟨.func, 1, .nilfn, false⟩ := rfl
theorem Tryz.T_192 : Tryz.T 192 = some ⟨.func, 1, .nilfn, false⟩ := rfl
theorem Tryz.T_193 : Tryz.T 193 = some ⟨(.array 4 3 true), 12, .agg [.int .i64 0, .int .i64 0, .int .i64 0, .int .i64 0, .int .i64 0, .int .i64 0, .int .i64 0, .int .i64 0, .int .i64 0, .int .i64 0, .int .i64 0, .int .i64 0], true⟩ := rfl
theorem Tryz.T_194 : Tryz.T 194 = some ⟨(.array 4 12 true), 48, .agg [.int .i64 0, .int .i64 0, .int .i64 0, .int .i64 0, .int .i64 0, .int .i64 0, .int .i64 0, .int .i64 0, .int .i64 0, .int .i64 0, .int .i64 0, .int .i64 0, .int .i64 0, .int .i64 0, .int .i64 0, .int .i64 0, .int .i64 0, .int .i64 0, .int .i64 0, .int .i64 0, .int .i64 0, .int .i64 0, .int .i64 0, .int .i64 0, .int .i64 0, .int .i64 0, .int .i64 0, .int .i64 0, .int .i64 0, .int .i64 0, .int .i64 0, .int .i64 0, .int .i64 0, .int .i64 0, .int .i64 0, .int .i64 0, .int .i64 0, .int .i64 0, .int .i64 0, .int .i64 0, .int .i64 0, .int .i64 0, .int .i64 0, .int .i64 0, .int .i64 0, .int .i64 0, .int .i64 0, .int .i64 0], true⟩ := rfl
theorem Tryz.T_195 : Tryz.T 195 = some ⟨.func, 1, .nilfn, false⟩ := rfl
theorem Tryz.T_196 : Tryz.T 196 = some ⟨.func, 1, .nilfn, false⟩ := rfl
theorem Tryz.T_197 : Tryz.T 197 = some ⟨.func, 1, .nilfn, false⟩ := rfl
theorem Tryz.T_198 : Tryz.T 198 = some ⟨(.array 3 1 false), 3, .agg [.int .i64 0, .int .i64 0, .int .i64 0], true⟩ := rfl
theorem Tryz.T_199 : Tryz.T 199 = some ⟨(.struct [(0, 1, false)]), 1, .agg [.nilslice], false⟩ := rfl
theorem Tryz.T_200 : Tryz.T 200 = some ⟨(.struct [(0, 1, false)]), 1, .agg [.nilslice], false⟩ := rfl
theorem Tryz.T_201 : Tryz.T 201 = some ⟨.func, 1, .nilfn, false⟩ := rfl
theorem Tryz.T_202 : Tryz.T 202 = some ⟨.func, 1, .nilfn, false⟩ := rfl
theorem Tryz.T_203 : Tryz.T 203 = some ⟨.func, 1, .nilfn, false⟩ := rfl
theorem Tryz.T_204 : Tryz.T 204 = some ⟨(.struct [(0, 8, true), (8, 8, true), (16, 8, true)]), 24, .agg [(.arr .u64 8 fun _ => 0), (.arr .u64 8 fun _ => 0), (.arr .u64 8 fun _ => 0)], true⟩ := rfl
theorem Tryz.T_205 : Tryz.T 205 = some ⟨(.struct [(0, 8, true), (8, 8, true), (16, 8, true)]), 24, .agg [(.arr .u64 8 fun _ => 0), (.arr .u64 8 fun _ => 0), (.arr .u64 8 fun _ => 0)], true⟩ := rfl
theorem Tryz.T_206 : Tryz.T 206 = some ⟨.func, 1, .nilfn, false⟩ := rfl
theorem Tryz.T_207 : Tryz.T 207 = some ⟨.func, 1, .nilfn, false⟩ := rfl
theorem Tryz.T_208 : Tryz.T 208 = some ⟨.func, 1, .nilfn, false⟩ := rfl
theorem Tryz.T_209 : Tryz.T 209 = some ⟨.ptr, 1, .nilptr, false⟩ := rfl
theorem Tryz.T_210 : Tryz.T 210 = some ⟨.func, 1, .nilfn, false⟩ := rfl
theorem Tryz.T_211 : Tryz.T 211 = some ⟨.func, 1, .nilfn, false⟩ := rfl
theorem Tryz.T_212 : Tryz.T 212 = some ⟨(.struct []), 0, .agg [], true⟩ := rfl
theorem Tryz.T_214 : Tryz.T 214 = some ⟨.func, 1, .nilfn, false⟩ := rfl
theorem Tryz.T_215 : Tryz.T 215 = some ⟨.func, 1, .nilfn, false⟩ := rfl
theorem Tryz.T_216 : Tryz.T 216 = some ⟨.func, 1, .nilfn, false⟩ := rfl
theorem Tryz.T_217 : Tryz.T 217 = some ⟨.func, 1, .nilfn, false⟩ := rfl
theorem Tryz.T_218 : Tryz.T 218 = some ⟨.func, 1, .nilfn, false⟩ := rfl
theorem Tryz.T_219 : Tryz.T 219 = some ⟨.func, 1, .nilfn, false⟩ := rfl
theorem Tryz.T_220 : Tryz.T 220 = some ⟨.func, 1, .nilfn, false⟩ := rfl
theorem Tryz.T_223 : Tryz.T 223 = some ⟨(.array 0 1 false), 0, .agg [], false⟩ := rfl
theorem Tryz.T_224 : Tryz.T 224 = some ⟨(.struct [(0, 0, true)]), 0, .agg [], false⟩ := rfl
theorem Tryz.T_225 : Tryz.T 225 = some ⟨(.struct [(0, 0, true)]), 0, .agg [], false⟩ := rfl
theorem Tryz.T_226 : Tryz.T 226 = some ⟨.func, 1, .nilfn, false⟩ := rfl
theorem Tryz.T_227 : Tryz.T 227 = some ⟨(.int .u32), 1, .int .u32 0, true⟩ := rfl
theorem Tryz.T_228 : Tryz.T 228 = some ⟨(.int .u8), 1, .int .u8 0, true⟩ := rfl
theorem Tryz.T_229 : Tryz.T 229 = some ⟨(.int .u8), 1, .int .u8 0, true⟩ := rfl
theorem Tryz.T_230 : Tryz.T 230 = some ⟨.func, 1, .nilfn, false⟩ := rfl
theorem Tryz.T_231 : Tryz.T 231 = some ⟨.ptr, 1, .nilptr, false⟩ := rfl
theorem Tryz.T_232 : Tryz.T 232 = some ⟨(.int .i32), 1, .int .i32 0, true⟩ := rfl
theorem Tryz.T_233 : Tryz.T 233 = some ⟨(.int .i32), 1, .int .i32 0, true⟩ := rfl
theorem Tryz.T_234 : Tryz.T 234 = some ⟨(.struct [(0, 1, false), (1, 1, false), (2, 1, false), (3, 1, false), (4, 1, false), (5, 1, false), (6, 1, false), (7, 1, false), (8, 1, false), (9, 1, false), (10, 1, false)]), 11, .agg [.int .u64 0, .int .u64 0, .int .u32 0, .int .u8 0, .int .u8 0, .int .u8 0, .int .u8 0, .nilfn, .nilptr, .int .i32 0, .int .i32 0], false⟩ := rfl
theorem Tryz.T_235 : Tryz.T 235 = some ⟨(.struct [(0, 1, false), (1, 1, false), (2, 1, false), (3, 1, false), (4, 1, false), (5, 1, false), (6, 1, false), (7, 1, false), (8, 1, false), (9, 1, false), (10, 1, false)]), 11, .agg [.int .u64 0, .int .u64 0, .int .u32 0, .int .u8 0, .int .u8 0, .int .u8 0, .int .u8 0, .nilfn, .nilptr, .int .i32 0, .int .i32 0], false⟩ := rfl
end Go.Proofs
end

section
namespace Go.X
open Go.Proofs
theorem mixed : Tryz.prog.follows .mixedOrders = true := by kernel_rfl
theorem drawS : DrawSound Tryz.prog chkD := draw_sound mixed
theorem Add64_ok : SumOk Tryz.prog 129 (pureS add64S) := add64_ok Tryz.func129 (by kernel_rfl) (by kernel_rfl) (by kernel_rfl) (by kernel_rfl)
end Go.X
end

section
namespace Go.X
open Go.Proofs
attribute [simp] Tryz.T_73 Tryz.T_3 Tryz.T_107 Tryz.T_74 Tryz.T_76 Tryz.T_4 Tryz.T_2
def adderS : Sum := fun args _ nxt => match args with
  | [.int .u64 c] => .val (.fn 180 [.ptr nxt 0]) [] [⟨[.int .u64 c], 73⟩]
  | _ => .fail
theorem adder_ok : SumOk Tryz.prog 135 adderS := by
  refine sum_mem (L := fun _ => none) (n := 1) (S := stOf []) drawS Tryz.T_ok (stOf_ok (by simp)) Tryz.func135 rfl (by kernel_rfl) (by kernel_rfl) ?_
  intro args env nxt h
  unfold adderS at h ⊢
  split at h
  · rename_i c
    refine ⟨[.int .u64 c], [], [], ⟨rfl, rfl, by simp, by simp, by simp, by simp⟩, ?_⟩
    simp [Tryz.f135]
    exact ⟨[0], none, ⟨by simp [upOf, glB, glob, AV.ren, renL], by simp, by simp, by simp, by simp, by simp, by simp, by simp, by simp⟩⟩
  · simp at h
end Go.X
end

section
namespace Go.X
open Go.Proofs
def adder1S : Sum := fun args env _ => match args with
  | [.int .u64 a, .int .u64 b, .ptr p 0] => match env p with
    | some ⟨[.int .u64 c], _⟩ => if 0 ≤ a ∧ 0 ≤ b ∧ 0 ≤ c ∧ c ≤ 1 then .val (.int .u64 ((a + b + c) % 18446744073709551616)) [(p, [.int .u64 ((a + b + c) / 18446744073709551616)])] [] else .fail
    | _ => .fail
  | _ => .fail
theorem adder1_ok : SumOk Tryz.prog 180 adder1S := by
  refine sum_mem (L := fun _ => none) (n := 1) (S := stOf [(129, pureS add64S)]) drawS Tryz.T_ok (stOf_ok (by simp [Add64_ok])) Tryz.func180 rfl (by kernel_rfl) (by kernel_rfl) ?_
  intro args env nxt h
  unfold adder1S at h ⊢
  split at h
  · rename_i a b p
    split at h
    · rename_i c t henv
      split at h
      · rename_i hc
        refine ⟨[.int .u64 a, .int .u64 b, .ptr 0 0], [p], [⟨[.int .u64 c], t⟩], ⟨by simp [renL, AV.ren], rfl, by simp, by simp, by simp [henv, renL, AV.ren], by simp⟩, ?_⟩
        simp [Tryz.f180, add64S, hc]
        exact ⟨[], some 0, ⟨by simp [upOf, AV.ren, renL], by simp, by simp, by simp, by simp, by simp, by simp, by simp, by simp⟩⟩
      · simp at h
    · simp at h
  · simp at h
end Go.X
end

section
namespace Go.X
open Go.Proofs
def R8 (f : Nat → Int) : Prop := ∀ i, i < 8 → 0 ≤ f i ∧ f i < 18446744073709551616
noncomputable instance (f : Nat → Int) : Decidable (R8 f) := Classical.propDecidable _
theorem eqv_arr {k : IntKind} {n : Nat} {f g : Nat → Int} (h : ∀ i, i < n → f i = g i) : Eqv (.arr k n f) (.arr k n g) := by
  intro ρ
  simp only [conc, arrCells]
  congr 2
  apply List.map_congr_left
  intro i hi
  rw [h i (by simpa using hi)]
theorem eight {i : Nat} (h : i < 8) : i = 0 ∨ i = 1 ∨ i = 2 ∨ i = 3 ∨ i = 4 ∨ i = 5 ∨ i = 6 ∨ i = 7 := by omega
def cyF (f g : Nat → Int) (c : Int) : Nat → Int
  | 0 => c
  | i + 1 => (f i + g i + cyF f g c i) / 18446744073709551616
def plusF (f g : Nat → Int) (c : Int) (i : Nat) : Int := (f i + g i + cyF f g c i) % 18446744073709551616
theorem cy_bound {f g : Nat → Int} {c : Int} (hf : R8 f) (hg : R8 g) (h0 : 0 ≤ c) (h1 : c ≤ 1) : ∀ i, i ≤ 8 → 0 ≤ cyF f g c i ∧ cyF f g c i ≤ 1
  | 0, _ => ⟨h0, h1⟩
  | i + 1, hi => by
    have := cy_bound hf hg h0 h1 i (by omega)
    have := hf i (by omega)
    have := hg i (by omega)
    simp only [cyF]
    omega
noncomputable def plusS : List AV → PR
  | [.arr .u64 8 f, .arr .u64 8 g, .int .u64 c] => if R8 f ∧ R8 g ∧ 0 ≤ c ∧ c ≤ 1 then .val (.arr .u64 8 (plusF f g c)) else .fail
  | _ => .fail
@[simp] theorem plusS_val {f : Nat → Int} {g : Nat → Int} {c : Int} (h : R8 f ∧ R8 g ∧ 0 ≤ c ∧ c ≤ 1) : plusS [.arr .u64 8 f, .arr .u64 8 g, .int .u64 c] = .val (.arr .u64 8 (plusF f g c)) := if_pos h
set_option maxHeartbeats 2000000 in
theorem plus_ok : SumOk Tryz.prog 75 (pureS plusS) := by
  refine sum_fn (L := fun i => if i = 5 then some (.flo 8 0) else none) (n := 9) (S := stOf [(135, adderS), (180, adder1S)]) drawS Tryz.T_ok (stOf_ok (by simp [adder_ok, adder1_ok])) Tryz.func75 rfl (by kernel_rfl) (by kernel_rfl) ?_
    (by intro args v h; unfold plusS at h; split at h <;> (try split at h) <;> simp at h)
  intro args v h
  unfold plusS at h
  split at h
  · rename_i f g c
    split at h
    · rename_i hc
      obtain ⟨hf, hg, h0, h1⟩ := hc
      cases h
      refine ⟨by simp, by simp, by simp, ?_⟩
      have f0 := hf 0 (by omega); have f1 := hf 1 (by omega); have f2 := hf 2 (by omega); have f3 := hf 3 (by omega)
      have f4 := hf 4 (by omega); have f5 := hf 5 (by omega); have f6 := hf 6 (by omega); have f7 := hf 7 (by omega)
      have g0 := hg 0 (by omega); have g1 := hg 1 (by omega); have g2 := hg 2 (by omega); have g3 := hg 3 (by omega)
      have g4 := hg 4 (by omega); have g5 := hg 5 (by omega); have g6 := hg 6 (by omega); have g7 := hg 7 (by omega)
      have cb := fun i hi => cy_bound hf hg h0 h1 i hi
      have c1 := cb 1 (by omega); have c2 := cb 2 (by omega); have c3 := cb 3 (by omega); have c4 := cb 4 (by omega)
      have c5 := cb 5 (by omega); have c6 := cb 6 (by omega); have c7 := cb 7 (by omega)
      simp only [cyF] at c1 c2 c3 c4 c5 c6 c7
      simp [Tryz.f75, adderS, adder1S, upd, f0, f1, f2, f3, f4, f5, f6, f7, g0, g1, g2, g3, g4, g5, g6, g7, h0, h1, c1, c2, c3, c4, c5, c6, c7]
      refine eqv_arr fun i hi => ?_
      rcases eight hi with rfl | rfl | rfl | rfl | rfl | rfl | rfl | rfl <;> simp [upd, plusF, cyF]
    · simp at h
  · simp at h
end Go.X
end

section
namespace Go.X
open Go.Proofs
theorem R8_plus (f g : Nat → Int) (c : Int) : R8 (plusF f g c) := fun i _ => by unfold plusF; omega
theorem R8_zero : R8 fun _ => 0 := fun i _ => ⟨by simp, by simp⟩
def negF (f : Nat → Int) : Bool := decide (9223372036854775808 ≤ f 7)
theorem shr63 {a : Int} (h0 : 0 ≤ a) (h1 : a < 18446744073709551616) : (shrA .u64 a 63 == 1) = decide (9223372036854775808 ≤ a) := by
  have e : shrA .u64 a 63 = a / 9223372036854775808 := by
    simp only [shrA, IntKind.bits]
    rw [Int.fdiv_eq_ediv_of_nonneg _ (by decide)]
    rfl
  rw [e, Bool.eq_iff_iff]
  simp only [beq_iff_eq, decide_eq_true_eq]
  omega
noncomputable def negS : List AV → PR
  | [.arr .u64 8 f] => if R8 f then .val (.bool (negF f)) else .fail
  | _ => .fail
@[simp] theorem negS_val {f : Nat → Int} (h : R8 f) : negS [.arr .u64 8 f] = .val (.bool (negF f)) := if_pos h
theorem negative_ok : SumOk Tryz.prog 74 (pureS negS) := by
  refine sum_fn (L := fun _ => none) (n := 1) (S := stOf []) drawS Tryz.T_ok (stOf_ok (by simp)) Tryz.func74 rfl (by kernel_rfl) (by kernel_rfl) ?_
    (by intro args v h; unfold negS at h; split at h <;> (try split at h) <;> simp at h)
  intro args v h
  unfold negS at h
  split at h
  · rename_i f
    split at h
    · rename_i hf
      cases h
      refine ⟨by simp, by simp, by simp, ?_⟩
      have f7 := hf 7 (by omega)
      simp [Tryz.f74, shr63 f7.1 f7.2]
      exact Eqv.refl _
    · simp at h
  · simp at h
def notF (f : Nat → Int) (i : Nat) : Int := 18446744073709551615 - f i
theorem R8_not {f : Nat → Int} (h : R8 f) : R8 (notF f) := fun i hi => by have := h i hi; unfold notF; omega
theorem xor_max {a : Int} (h0 : 0 ≤ a) (h1 : a < 18446744073709551616) : bitsA .xor .u64 18446744073709551615 a = 18446744073709551615 - a := by
  obtain ⟨n, rfl⟩ := Int.eq_ofNat_of_zero_le h0
  have hn : n < 2 ^ 64 := by omega
  have e : (BitVec.ofInt 64 18446744073709551615 ^^^ BitVec.ofInt 64 (n : Int)) = ~~~ (BitVec.ofNat 64 n) := by
    rw [BitVec.ofInt_natCast, show BitVec.ofInt 64 18446744073709551615 = BitVec.allOnes 64 from by decide, BitVec.allOnes_xor]
  have e2 : (~~~ (BitVec.ofNat 64 n)).toNat = 18446744073709551615 - n := by
    rw [BitVec.toNat_not, BitVec.toNat_ofNat, Nat.mod_eq_of_lt hn]
  show IntKind.u64.wrap ((BitVec.ofInt 64 18446744073709551615 ^^^ BitVec.ofInt 64 (n : Int)).toNat : Int) = _
  rw [e, e2, wrap_u64_mod]
  omega
noncomputable def notS : List AV → PR
  | [.arr .u64 8 f] => if R8 f then .val (.arr .u64 8 (notF f)) else .fail
  | _ => .fail
@[simp] theorem notS_val {f : Nat → Int} (h : R8 f) : notS [.arr .u64 8 f] = .val (.arr .u64 8 (notF f)) := if_pos h
theorem u64_max : IntKind.u64.max = 18446744073709551615 := by decide
theorem not_ok : SumOk Tryz.prog 76 (pureS notS) := by
  refine sum_fn (L := fun _ => none) (n := 9) (S := stOf []) drawS Tryz.T_ok (stOf_ok (by simp)) Tryz.func76 rfl (by kernel_rfl) (by kernel_rfl) ?_
    (by intro args v h; unfold notS at h; split at h <;> (try split at h) <;> simp at h)
  intro args v h
  unfold notS at h
  split at h
  · rename_i f
    split at h
    · rename_i hf
      cases h
      refine ⟨by simp, by simp, by simp, ?_⟩
      have f0 := hf 0 (by omega); have f1 := hf 1 (by omega); have f2 := hf 2 (by omega); have f3 := hf 3 (by omega)
      have f4 := hf 4 (by omega); have f5 := hf 5 (by omega); have f6 := hf 6 (by omega); have f7 := hf 7 (by omega)
      simp [Tryz.f76, upd, IntKind.signed, u64_max, xor_max f0.1 f0.2, xor_max f1.1 f1.2, xor_max f2.1 f2.2, xor_max f3.1 f3.2, xor_max f4.1 f4.2, xor_max f5.1 f5.2, xor_max f6.1 f6.2, xor_max f7.1 f7.2]
      refine eqv_arr fun i hi => ?_
      rcases eight hi with rfl | rfl | rfl | rfl | rfl | rfl | rfl | rfl <;> simp [upd, notF]
    · simp at h
  · simp at h
def minusF (f : Nat → Int) : Nat → Int := plusF (notF f) (fun _ => 0) 1
noncomputable def minusS : List AV → PR
  | [.arr .u64 8 f] => if R8 f then .val (.arr .u64 8 (minusF f)) else .fail
  | _ => .fail
@[simp] theorem minusS_val {f : Nat → Int} (h : R8 f) : minusS [.arr .u64 8 f] = .val (.arr .u64 8 (minusF f)) := if_pos h
theorem minus_ok : SumOk Tryz.prog 134 (pureS minusS) := by
  refine sum_fn (L := fun _ => none) (n := 1) (S := stOf [(76, pureS notS), (75, pureS plusS)]) drawS Tryz.T_ok (stOf_ok (by simp [not_ok, plus_ok])) Tryz.func134 rfl (by kernel_rfl) (by kernel_rfl) ?_
    (by intro args v h; unfold minusS at h; split at h <;> (try split at h) <;> simp at h)
  intro args v h
  unfold minusS at h
  split at h
  · rename_i f
    split at h
    · rename_i hf
      cases h
      refine ⟨by simp, by simp, by simp, ?_⟩
      simp [Tryz.f134, hf, R8_not hf, R8_zero]
      exact Eqv.refl _
    · simp at h
  · simp at h
def sizeF (f : Nat → Int) : Nat → Int := if negF f = true then minusF f else f
theorem R8_minus (f : Nat → Int) : R8 (minusF f) := R8_plus _ _ _
theorem R8_size {f : Nat → Int} (h : R8 f) : R8 (sizeF f) := by
  unfold sizeF
  split
  · exact R8_minus f
  · exact h
noncomputable def sizeS : List AV → PR
  | [.arr .u64 8 f] => if R8 f then .val (.arr .u64 8 (sizeF f)) else .fail
  | _ => .fail
@[simp] theorem sizeS_val {f : Nat → Int} (h : R8 f) : sizeS [.arr .u64 8 f] = .val (.arr .u64 8 (sizeF f)) := if_pos h
theorem size_ok : SumOk Tryz.prog 73 (pureS sizeS) := by
  refine sum_fn (L := fun _ => none) (n := 1) (S := stOf [(74, pureS negS), (134, pureS minusS)]) drawS Tryz.T_ok (stOf_ok (by simp [negative_ok, minus_ok])) Tryz.func73 rfl (by kernel_rfl) (by kernel_rfl) ?_
    (by intro args v h; unfold sizeS at h; split at h <;> (try split at h) <;> simp at h)
  intro args v h
  unfold sizeS at h
  split at h
  · rename_i f
    split at h
    · rename_i hf
      cases h
      refine ⟨by simp, by simp, by simp, ?_⟩
      by_cases hn : negF f = true
      · simp [Tryz.f73, hf, hn, sizeF]
        exact Eqv.refl _
      · simp [Tryz.f73, hf, hn, sizeF]
        exact Eqv.refl _
    · simp at h
  · simp at h
end Go.X
end

section
namespace Go.X
open Go.Proofs
theorem sum_calls {P : Program} {f : FuncId} {fn : Func} (hf : P.funcs[f]? = some fn) (hn : (fn.name == "runtime.NumGoroutine") = false) (hb : fn.body.isSome = true) {g : List AV → PR}
    (hv : ∀ args v, g args = .val v → okv v = true ∧ refs v = [] ∧ ∀ (ρ : Nat → Nat) (w : World), Calls P f (args.map (conc ρ)).toArray w fun e w' => e = .returned (conc ρ v) ∧ w' = w)
    (hp : ∀ args v, g args ≠ .pan v) : SumOk P f (pureS g) := by
  intro args D ρ0 w0 ρ mem env nxt w henv hnf hso hrf hfr hi
  refine .inr ⟨callFunc_enter hf hn hb _, ?_⟩
  unfold pureS at hnf ⊢
  cases hg : g args with
  | fail => rw [hg] at hnf; exact absurd rfl hnf
  | pan v => exact absurd hg (hp args v)
  | val v =>
    obtain ⟨h1, h2, h3⟩ := hv args v hg
    refine (h3 ρ w).mono fun e w' he => ?_
    obtain ⟨rfl, rfl⟩ := he
    refine ⟨ρ, conc ρ v, rfl, .inr ⟨rfl, h1, by rw [h2]; simp⟩, ?_, ?_, ?_⟩
    · rintro rfl; simp [okv, solid] at h1
    · rw [memNew_nil, memUp_nil]; exact hi
    · rw [memNew_nil, memUp_nil]; exact Later.refl _ _
def rLen : Shelf.Ren := ⟨fun _ => 179, fun t => if t = 3 then 3 else if t = 4 then 4 else if t = 5 then 5 else if t = 9 then 9 else if t = 46 then 108 else 73, fun x => x⟩
theorem laysLen : Lays.n129 Tryz.prog rLen where
  mixed := mixed
  f129 := by kernel_rfl
  t3 := by kernel_rfl
  a3 := fun _ => by kernel_rfl
  z3 := fun _ => by kernel_rfl
  v3 := fun _ => by kernel_rfl
  t4 := by kernel_rfl
  a4 := fun _ => by kernel_rfl
  z4 := fun _ => by kernel_rfl
  v4 := fun _ => by kernel_rfl
  t5 := by kernel_rfl
  a5 := fun _ => by kernel_rfl
  z5 := fun _ => by kernel_rfl
  v5 := fun _ => by kernel_rfl
  t9 := by kernel_rfl
  a9 := fun _ => by kernel_rfl
  z9 := fun _ => by kernel_rfl
  v9 := fun _ => by kernel_rfl
  t46 := by kernel_rfl
  a46 := fun _ => by kernel_rfl
  z46 := fun _ => by kernel_rfl
  v46 := fun _ => by kernel_rfl
  t53 := by kernel_rfl
  a53 := fun _ => by kernel_rfl
  z53 := fun _ => by kernel_rfl
  v53 := fun _ => by kernel_rfl
theorem bitLenAux_eq : ∀ (k n : Nat), n < 2 ^ k → Lib.bitLenAux k n = bitLen n
  | 0, n, h => by
    have : n = 0 := by omega
    subst this; simp [Lib.bitLenAux, bitLen]
  | k + 1, n, h => by
    unfold Lib.bitLenAux
    by_cases h0 : n = 0
    · subst h0; simp [bitLen]
    · rw [if_neg h0, bitLenAux_eq k (n / 2) (by omega)]
      by_cases h1 : n / 2 ^ 1 = 0
      · have : n = 1 := by omega
        subst this; decide
      · have := bitLen_shift n 1 h1
        rw [this]
theorem bitLen_lib {x : Int} (h0 : 0 ≤ x) (h1 : x < 18446744073709551616) : Lib.bitLen x.toNat = bitLen x.toNat := bitLenAux_eq 64 _ (by omega)
def len64S : List AV → PR
  | [.int .u64 x] => if 0 ≤ x ∧ x < 18446744073709551616 then .val (.int .i64 (bitLen x.toNat)) else .fail
  | _ => .fail
@[simp] theorem len64S_val {x : Int} (h : 0 ≤ x ∧ x < 18446744073709551616) : len64S [.int .u64 x] = .val (.int .i64 (bitLen x.toNat)) := if_pos h
theorem len64_ok : SumOk Tryz.prog 179 (pureS len64S) := by
  refine sum_calls Tryz.func179 (by kernel_rfl) (by kernel_rfl) ?_ (by intro args v h; unfold len64S at h; split at h <;> (try split at h) <;> simp at h)
  intro args v h
  unfold len64S at h
  split at h
  · split at h
    · cases h
      rename_i x hx
      exact ⟨by simp, by simp, fun ρ w => by
        have := Any.bits_Len64 laysLen x w hx.1 (by omega)
        rw [bitLen_lib hx.1 hx.2] at this
        exact this⟩
    · simp at h
  · simp at h
theorem bind_ite {c : Prop} [Decidable c] {a b : Out} {f : St → Out} : (if c then a else b).bind f = if c then a.bind f else b.bind f := by split <;> rfl
theorem unblock_ite {c : Prop} [Decidable c] {a b : Out} {id : Nat} : unblock id (if c then a else b) = if c then unblock id a else unblock id b := by split <;> rfl
theorem good_ite {c : Prop} [Decidable c] {a b : Out} {Q : Ex → St → Prop} : Good (if c then a else b) Q ↔ (c → Good a Q) ∧ (¬ c → Good b Q) := by
  split <;> rename_i h <;> simp [h]
@[simp] theorem eqv_int {k : IntKind} {a b : Int} : Eqv (.int k a) (.int k b) ↔ a = b := by
  constructor
  · intro h; have := h id; simpa [conc] using this
  · rintro rfl; exact Eqv.refl _
@[simp] theorem eqv_bool {a b : Bool} : Eqv (.bool a) (.bool b) ↔ a = b := by
  constructor
  · intro h; have := h id; simpa [conc] using this
  · rintro rfl; exact Eqv.refl _
theorem eqv_tup2 {a b c d : AV} (h : Eqv a c) (k : Eqv b d) : Eqv (.tup [a, b]) (.tup [c, d]) := by
  intro ρ; simp only [conc, concT, h ρ, k ρ]
theorem eqv_tup3 {a b c d e f : AV} (h : Eqv a d) (k : Eqv b e) (l : Eqv c f) : Eqv (.tup [a, b, c]) (.tup [d, e, f]) := by
  intro ρ; simp only [conc, concT, h ρ, k ρ, l ρ]
end Go.X
end

section
namespace Go.X
def K5 : Int := 6703903964971298549787012499102923063739682910296196688861780721860882015036773488400937149083451713845015929093243025426876941405973284973216824503042048
def uval (f : Nat → Int) : Int := f 0 + 18446744073709551616 * (f 1 + 18446744073709551616 * (f 2 + 18446744073709551616 * (f 3 + 18446744073709551616 * (f 4 + 18446744073709551616 * (f 5 + 18446744073709551616 * (f 6 + 18446744073709551616 * f 7))))))
def sval (f : Nat → Int) : Int := if negF f = true then uval f - 2 * K5 else uval f
def limb (z : Int) : Nat → Int
  | 0 => z % 18446744073709551616
  | i + 1 => limb (z / 18446744073709551616) i
abbrev W (z : Int) : AV := .arr .u64 8 (limb z)
def InW (z : Int) : Prop := -K5 ≤ z ∧ z < K5
instance (z : Int) : Decidable (InW z) := inferInstanceAs (Decidable (_ ∧ _))
theorem K5_pos : 0 < K5 := by unfold K5; omega
theorem limb_range : ∀ (i : Nat) (z : Int), 0 ≤ limb z i ∧ limb z i < 18446744073709551616
  | 0, z => by simp only [limb]; omega
  | i + 1, z => limb_range i _
theorem R8_limb (z : Int) : R8 (limb z) := fun i _ => limb_range i z
theorem uval_bound {f : Nat → Int} (h : R8 f) : 0 ≤ uval f ∧ uval f < 2 * K5 ∧ (negF f = true ↔ K5 ≤ uval f) := by
  have f0 := h 0 (by omega); have f1 := h 1 (by omega); have f2 := h 2 (by omega); have f3 := h 3 (by omega)
  have f4 := h 4 (by omega); have f5 := h 5 (by omega); have f6 := h 6 (by omega); have f7 := h 7 (by omega)
  simp only [uval, K5, negF, decide_eq_true_eq]
  refine ⟨by omega, by omega, by omega, by omega⟩
theorem sval_bound {f : Nat → Int} (h : R8 f) : InW (sval f) ∧ (negF f = true ↔ sval f < 0) := by
  obtain ⟨h1, h2, h3⟩ := uval_bound h
  have hK := K5_pos
  unfold InW sval
  by_cases hn : negF f = true
  · have := h3.1 hn
    simp only [hn, if_true, true_iff]
    refine ⟨⟨?_, ?_⟩, ?_⟩ <;> omega
  · have : ¬ K5 ≤ uval f := fun e => hn (h3.2 e)
    simp only [hn, Bool.false_eq_true, if_false]
    refine ⟨⟨?_, ?_⟩, ?_⟩
    · omega
    · omega
    · constructor
      · intro e; exact absurd e (by simp)
      · intro e; omega
theorem plus_val {f g : Nat → Int} {c : Int} : uval (plusF f g c) + 2 * K5 * cyF f g c 8 = uval f + uval g + c := by
  have e : ∀ i, plusF f g c i + 18446744073709551616 * cyF f g c (i + 1) = f i + g i + cyF f g c i := by
    intro i
    simp only [plusF, cyF]
    omega
  have e0 := e 0; have e1 := e 1; have e2 := e 2; have e3 := e 3; have e4 := e 4; have e5 := e 5; have e6 := e 6; have e7 := e 7
  simp only [Nat.reduceAdd] at e0 e1 e2 e3 e4 e5 e6 e7
  have ec : cyF f g c 0 = c := rfl
  rw [ec] at e0
  simp only [uval, K5]
  generalize cyF f g c 1 = c1 at *; generalize cyF f g c 2 = c2 at *; generalize cyF f g c 3 = c3 at *; generalize cyF f g c 4 = c4 at *
  generalize cyF f g c 5 = c5 at *; generalize cyF f g c 6 = c6 at *; generalize cyF f g c 7 = c7 at *; generalize cyF f g c 8 = c8 at *
  omega
theorem limb_uval {f : Nat → Int} (h : R8 f) : ∀ i, i < 8 → limb (uval f) i = f i := by
  have f0 := h 0 (by omega); have f1 := h 1 (by omega); have f2 := h 2 (by omega); have f3 := h 3 (by omega)
  have f4 := h 4 (by omega); have f5 := h 5 (by omega); have f6 := h 6 (by omega); have f7 := h 7 (by omega)
  have m : ∀ a b : Int, 0 ≤ a → a < 18446744073709551616 → (a + 18446744073709551616 * b) % 18446744073709551616 = a ∧ (a + 18446744073709551616 * b) / 18446744073709551616 = b := fun a b _ _ => by omega
  intro i hi
  have f7' : f 7 % 18446744073709551616 = f 7 := by omega
  rcases eight hi with rfl | rfl | rfl | rfl | rfl | rfl | rfl | rfl <;> simp only [limb, uval, m _ _ f0.1 f0.2, m _ _ f1.1 f1.2, m _ _ f2.1 f2.2, m _ _ f3.1 f3.2, m _ _ f4.1 f4.2, m _ _ f5.1 f5.2, m _ _ f6.1 f6.2, f7']
theorem limb_shift (z k : Int) : ∀ i, i < 8 → limb (z + 2 * K5 * k) i = limb z i := by
  have m : ∀ a b : Int, (a + 18446744073709551616 * b) % 18446744073709551616 = a % 18446744073709551616 ∧ (a + 18446744073709551616 * b) / 18446744073709551616 = a / 18446744073709551616 + b := fun a b => by omega
  have e : z + 2 * K5 * k = z + 18446744073709551616 * (18446744073709551616 * (18446744073709551616 * (18446744073709551616 * (18446744073709551616 * (18446744073709551616 * (18446744073709551616 * (18446744073709551616 * k))))))) := by unfold K5; omega
  intro i hi
  rw [e]
  rcases eight hi with rfl | rfl | rfl | rfl | rfl | rfl | rfl | rfl <;> simp only [limb, m]
theorem limb_of {f : Nat → Int} (h : R8 f) {z k : Int} (hz : uval f = z + 2 * K5 * k) : ∀ i, i < 8 → f i = limb z i := by
  intro i hi
  rw [← limb_uval h i hi, hz, limb_shift z k i hi]
theorem uval_limb (z : Int) : uval (limb z) = z % (2 * K5) := by
  have h := uval_bound (R8_limb z)
  have e : ∃ q, z = uval (limb z) + 2 * K5 * q := by
    refine ⟨z / 18446744073709551616 / 18446744073709551616 / 18446744073709551616 / 18446744073709551616 / 18446744073709551616 / 18446744073709551616 / 18446744073709551616 / 18446744073709551616, ?_⟩
    have m : ∀ a : Int, a = a % 18446744073709551616 + 18446744073709551616 * (a / 18446744073709551616) := fun a => by omega
    simp only [uval, limb, K5]
    generalize h1 : z / 18446744073709551616 = z1
    generalize h2 : z1 / 18446744073709551616 = z2
    generalize h3 : z2 / 18446744073709551616 = z3
    generalize h4 : z3 / 18446744073709551616 = z4
    generalize h5 : z4 / 18446744073709551616 = z5
    generalize h6 : z5 / 18446744073709551616 = z6
    generalize h7 : z6 / 18446744073709551616 = z7
    generalize h8 : z7 / 18446744073709551616 = z8
    omega
  obtain ⟨q, hq⟩ := e
  generalize uval (limb z) = u at *
  subst hq
  rw [Int.add_mul_emod_self_left, Int.emod_eq_of_lt h.1 h.2.1]
theorem sval_limb {z : Int} (h : InW z) : sval (limb z) = z := by
  have hb := uval_bound (R8_limb z)
  rw [uval_limb] at hb
  unfold sval
  rw [uval_limb]
  obtain ⟨h1, h2⟩ := h
  have hK := K5_pos
  have e : z % (2 * K5) = if 0 ≤ z then z else z + 2 * K5 := by
    split
    · exact Int.emod_eq_of_lt (by omega) (by omega)
    · rw [← Int.add_emod_right, Int.emod_eq_of_lt (by omega) (by omega)]
  rw [e] at hb ⊢
  by_cases hz : 0 ≤ z
  · simp only [hz, if_true] at hb ⊢
    rw [if_neg]
    intro hn
    have := hb.2.2.1 hn
    omega
  · simp only [hz, if_false] at hb ⊢
    rw [if_pos]
    · omega
    · exact hb.2.2.2 (by omega)
theorem sval_uval (f : Nat → Int) : ∃ k, uval f = sval f + 2 * K5 * k := by
  unfold sval
  split
  · exact ⟨1, by omega⟩
  · exact ⟨0, by omega⟩
theorem limb_sval {f : Nat → Int} (h : R8 f) : ∀ i, i < 8 → f i = limb (sval f) i := by
  obtain ⟨k, hk⟩ := sval_uval f
  exact limb_of h hk
theorem eqvW {f : Nat → Int} (h : R8 f) {z : Int} (hz : ∃ k, uval f = z + 2 * K5 * k) : Eqv (.arr .u64 8 f) (W z) := by
  obtain ⟨k, hk⟩ := hz
  exact eqv_arr (limb_of h hk)
theorem eqvW_self {f : Nat → Int} (h : R8 f) : Eqv (.arr .u64 8 f) (W (sval f)) := eqvW h (sval_uval f)
theorem not_val {f : Nat → Int} : uval (notF f) = 2 * K5 - 1 - uval f := by
  simp only [uval, notF, K5]
  omega
theorem zero_val : uval (fun _ => 0) = 0 := by simp [uval]
theorem minus_val {f : Nat → Int} (h : R8 f) : uval (minusF f) = if uval f = 0 then 0 else 2 * K5 - uval f := by
  have h1 := plus_val (f := notF f) (g := fun _ => 0) (c := 1)
  rw [not_val, zero_val] at h1
  have hb := uval_bound (R8_minus f)
  have hf := uval_bound h
  have hc := cy_bound (R8_not h) R8_zero (by decide : (0 : Int) ≤ 1) (by decide) 8 (by omega)
  have e : uval (minusF f) = uval (plusF (notF f) (fun _ => 0) 1) := rfl
  rw [e] at hb ⊢
  generalize cyF (notF f) (fun _ => 0) 1 8 = c8 at *
  have h8 : c8 = 0 ∨ c8 = 1 := by omega
  split <;> rcases h8 with rfl | rfl <;> omega
theorem size_val {f : Nat → Int} (h : R8 f) : uval (sizeF f) = if sval f < 0 then - sval f else sval f := by
  have hb := uval_bound h
  have hs := sval_bound h
  unfold sizeF
  by_cases hn : negF f = true
  · rw [if_pos hn, minus_val h, if_pos (hs.2.1 hn)]
    have := hb.2.2.1 hn
    have hK := K5_pos
    rw [if_neg (by omega)]
    unfold sval
    rw [if_pos hn]
    omega
  · have hn' : ¬ sval f < 0 := fun e => hn (hs.2.2 e)
    rw [if_neg hn, if_neg hn']
    unfold sval
    rw [if_neg hn]
theorem sval_zero : sval (fun _ => 0) = 0 := by decide
theorem limb_zero_all : ∀ i, i < 8 → limb 0 i = 0 := by decide
attribute [irreducible] K5 sval uval
end Go.X
end

section
namespace Go.X
open Go.Proofs
def cmpI (a b : Int) : Int := if a < b then -1 else if a = b then 0 else 1
theorem neg_sval {f : Nat → Int} (h : R8 f) : negF f = decide (sval f < 0) := by
  have := (sval_bound h).2
  rw [Bool.eq_iff_iff]; simpa using this
theorem uval_sval {f : Nat → Int} (h : R8 f) : uval f = if sval f < 0 then sval f + 2 * K5 else sval f := by
  have := (sval_bound h).2
  unfold sval at this ⊢
  by_cases hn : negF f = true
  · simp only [hn, if_true, true_iff] at this ⊢
    rw [if_pos this]; omega
  · simp only [hn, if_false, false_iff, Bool.false_eq_true] at this ⊢
    rw [if_neg this]
noncomputable def aboveS : List AV → PR
  | [.arr .u64 8 f, .arr .u64 8 g] => if R8 f ∧ R8 g then .val (.int .i64 (cmpI (uval f) (uval g))) else .fail
  | _ => .fail
@[simp] theorem aboveS_val {f : Nat → Int} {g : Nat → Int} (h : R8 f ∧ R8 g) : aboveS [.arr .u64 8 f, .arr .u64 8 g] = .val (.int .i64 (cmpI (uval f) (uval g))) := if_pos h
set_option maxHeartbeats 1000000 in
theorem above_ok : SumOk Tryz.prog 132 (pureS aboveS) := by
  refine sum_fn (L := fun _ => none) (n := 9) (S := stOf []) drawS Tryz.T_ok (stOf_ok (by simp)) Tryz.func132 rfl (by kernel_rfl) (by kernel_rfl) ?_
    (by intro args v h; unfold aboveS at h; split at h <;> (try split at h) <;> simp at h)
  intro args v h
  unfold aboveS at h
  split at h
  · rename_i f g
    split at h
    · rename_i hc
      obtain ⟨hf, hg⟩ := hc
      cases h
      refine ⟨by simp, by simp, by simp, ?_⟩
      have f0 := hf 0 (by omega); have f1 := hf 1 (by omega); have f2 := hf 2 (by omega); have f3 := hf 3 (by omega)
      have f4 := hf 4 (by omega); have f5 := hf 5 (by omega); have f6 := hf 6 (by omega); have f7 := hf 7 (by omega)
      have g0 := hg 0 (by omega); have g1 := hg 1 (by omega); have g2 := hg 2 (by omega); have g3 := hg 3 (by omega)
      have g4 := hg 4 (by omega); have g5 := hg 5 (by omega); have g6 := hg 6 (by omega); have g7 := hg 7 (by omega)
      have e : ∀ z, z = cmpI (uval f) (uval g) ↔ (uval f < uval g ∧ z = -1) ∨ (uval f = uval g ∧ z = 0) ∨ (uval g < uval f ∧ z = 1) := by
        intro z
        unfold cmpI
        split
        · omega
        · split <;> omega
      simp [Tryz.f132, bind_ite, unblock_ite, good_ite, e]
      simp only [uval]
      refine ⟨?_, ?_⟩ <;> intros <;> (try refine ⟨?_, ?_⟩) <;> intros <;> omega
    · simp at h
  · simp at h
end Go.X
end

section
namespace Go.X
open Go.Proofs
def blen (z : Int) : Int := (bitLen z.toNat : Int)
theorem blen_zero : blen 0 = 0 := by decide
theorem blen_horner {a b : Int} (h0 : 0 ≤ a) (h1 : a < 18446744073709551616) (hb : 0 < b) : blen (a + 18446744073709551616 * b) = 64 + blen b := by
  unfold blen
  have e : (a + 18446744073709551616 * b).toNat / 2 ^ 64 = b.toNat := by omega
  rw [bitLen_shift _ 64 (by rw [e]; omega), e]
  omega
theorem blen_64 {a : Int} (h0 : 0 ≤ a) (h1 : a < 18446744073709551616) : 0 ≤ blen a ∧ blen a ≤ 64 := by
  unfold blen bitLen
  split
  · omega
  · rename_i hz
    have := (Nat.log2_lt hz).2 (show a.toNat < 2 ^ 64 by omega)
    omega
noncomputable def lengthS : List AV → PR
  | [.arr .u64 8 f] => if R8 f then .val (.int .i64 (blen (uval f))) else .fail
  | _ => .fail
@[simp] theorem lengthS_val {f : Nat → Int} (h : R8 f) : lengthS [.arr .u64 8 f] = .val (.int .i64 (blen (uval f))) := if_pos h
set_option maxHeartbeats 1000000 in
theorem length_ok : SumOk Tryz.prog 130 (pureS lengthS) := by
  refine sum_fn (L := fun _ => none) (n := 9) (S := stOf [(179, pureS len64S)]) drawS Tryz.T_ok (stOf_ok (by simp [len64_ok])) Tryz.func130 rfl (by kernel_rfl) (by kernel_rfl) ?_
    (by intro args v h; unfold lengthS at h; split at h <;> (try split at h) <;> simp at h)
  intro args v h
  unfold lengthS at h
  split at h
  · rename_i f
    split at h
    · rename_i hf
      cases h
      refine ⟨by simp, by simp, by simp, ?_⟩
      have f0 := hf 0 (by omega); have f1 := hf 1 (by omega); have f2 := hf 2 (by omega); have f3 := hf 3 (by omega)
      have f4 := hf 4 (by omega); have f5 := hf 5 (by omega); have f6 := hf 6 (by omega); have f7 := hf 7 (by omega)
      have l0 := blen_64 f0.1 f0.2; have l1 := blen_64 f1.1 f1.2; have l2 := blen_64 f2.1 f2.2; have l3 := blen_64 f3.1 f3.2
      have l4 := blen_64 f4.1 f4.2; have l5 := blen_64 f5.1 f5.2; have l6 := blen_64 f6.1 f6.2; have l7 := blen_64 f7.1 f7.2
      simp [Tryz.f130, bind_ite, unblock_ite, good_ite, f0, f1, f2, f3, f4, f5, f6, f7]
      simp only [← blen.eq_1, IntKind.wrap_i64, uval]
      refine ⟨fun e7 => ⟨fun e6 => ⟨fun e5 => ⟨fun e4 => ⟨fun e3 => ⟨fun e2 => ⟨fun e1 => ⟨?_, ?_⟩, ?_⟩, ?_⟩, ?_⟩, ?_⟩, ?_⟩, ?_⟩, ?_⟩
      · intro e0
        simp only [e7, e6, e5, e4, e3, e2, e1, e0, Int.mul_zero, Int.add_zero, blen_zero]
      · intro hz
        simp only [e7, e6, e5, e4, e3, e2, e1, Int.mul_zero, Int.add_zero]
        omega
      · intro hz
        simp only [e7, e6, e5, e4, e3, e2, Int.mul_zero, Int.add_zero]
        rw [blen_horner f0.1 f0.2 (by omega)]
        omega
      · intro hz
        simp only [e7, e6, e5, e4, e3, Int.mul_zero, Int.add_zero]
        rw [blen_horner f0.1 f0.2 (by omega), blen_horner f1.1 f1.2 (by omega)]
        omega
      · intro hz
        simp only [e7, e6, e5, e4, Int.mul_zero, Int.add_zero]
        rw [blen_horner f0.1 f0.2 (by omega), blen_horner f1.1 f1.2 (by omega), blen_horner f2.1 f2.2 (by omega)]
        omega
      · intro hz
        simp only [e7, e6, e5, Int.mul_zero, Int.add_zero]
        rw [blen_horner f0.1 f0.2 (by omega), blen_horner f1.1 f1.2 (by omega), blen_horner f2.1 f2.2 (by omega), blen_horner f3.1 f3.2 (by omega)]
        omega
      · intro hz
        simp only [e7, e6, Int.mul_zero, Int.add_zero]
        rw [blen_horner f0.1 f0.2 (by omega), blen_horner f1.1 f1.2 (by omega), blen_horner f2.1 f2.2 (by omega), blen_horner f3.1 f3.2 (by omega), blen_horner f4.1 f4.2 (by omega)]
        omega
      · intro hz
        simp only [e7, Int.mul_zero, Int.add_zero]
        rw [blen_horner f0.1 f0.2 (by omega), blen_horner f1.1 f1.2 (by omega), blen_horner f2.1 f2.2 (by omega), blen_horner f3.1 f3.2 (by omega), blen_horner f4.1 f4.2 (by omega), blen_horner f5.1 f5.2 (by omega)]
        omega
      · intro hz
        rw [blen_horner f0.1 f0.2 (by omega), blen_horner f1.1 f1.2 (by omega), blen_horner f2.1 f2.2 (by omega), blen_horner f3.1 f3.2 (by omega), blen_horner f4.1 f4.2 (by omega), blen_horner f5.1 f5.2 (by omega), blen_horner f6.1 f6.2 (by omega)]
        omega
    · simp at h
  · simp at h
noncomputable def bitsS : List AV → PR
  | [.arr .u64 8 f] => if R8 f then .val (.int .i64 (blen (if sval f < 0 then - sval f else sval f))) else .fail
  | _ => .fail
@[simp] theorem bitsS_val {f : Nat → Int} (h : R8 f) : bitsS [.arr .u64 8 f] = .val (.int .i64 (blen (if sval f < 0 then - sval f else sval f))) := if_pos h
theorem bits_ok : SumOk Tryz.prog 81 (pureS bitsS) := by
  refine sum_fn (L := fun _ => none) (n := 1) (S := stOf [(130, pureS lengthS), (73, pureS sizeS)]) drawS Tryz.T_ok (stOf_ok (by simp [length_ok, size_ok])) Tryz.func81 rfl (by kernel_rfl) (by kernel_rfl) ?_
    (by intro args v h; unfold bitsS at h; split at h <;> (try split at h) <;> simp at h)
  intro args v h
  unfold bitsS at h
  split at h
  · rename_i f
    split at h
    · rename_i hf
      cases h
      refine ⟨by simp, by simp, by simp, ?_⟩
      simp [Tryz.f81, hf, R8_size hf, size_val hf]
    · simp at h
  · simp at h
end Go.X
end

section
namespace Go.X
theorem sval_range {f : Nat → Int} (h : R8 f) : -K5 ≤ sval f ∧ sval f < K5 := (sval_bound h).1
theorem plus_sval {f g : Nat → Int} {c : Int} (hf : R8 f) (hg : R8 g) (h0 : 0 ≤ c) (h1 : c ≤ 1) :
    (sval (plusF f g c) = sval f + sval g + c ∨ sval (plusF f g c) = sval f + sval g + c + 2 * K5 ∨ sval (plusF f g c) = sval f + sval g + c - 2 * K5) := by
  have e := plus_val (f := f) (g := g) (c := c)
  have hs := R8_plus f g c
  have b1 := cy_bound hf hg h0 h1 8 (by omega)
  have bf := uval_sval hf
  have bg := uval_sval hg
  have bs := uval_sval hs
  have rf := sval_range hf; have rg := sval_range hg; have rs := sval_range hs
  generalize cyF f g c 8 = k at *
  generalize sval (plusF f g c) = s at *
  generalize uval (plusF f g c) = us at *
  generalize sval f = x at *
  generalize sval g = y at *
  have hk : k = 0 ∨ k = 1 := by omega
  have hK := K5_pos
  split at bf <;> split at bg <;> split at bs <;> rcases hk with rfl | rfl <;> omega
theorem not_sval {f : Nat → Int} (hf : R8 f) : sval (notF f) = -1 - sval f := by
  have e := not_val (f := f)
  have bf := uval_sval hf
  have bs := uval_sval (R8_not hf)
  have rf := sval_range hf; have rs := sval_range (R8_not hf)
  split at bf <;> split at bs <;> omega
theorem minus_sval {f : Nat → Int} (hf : R8 f) : sval (minusF f) = if sval f = -K5 then -K5 else - sval f := by
  have e := plus_sval (R8_not hf) R8_zero (by decide : (0 : Int) ≤ 1) (by decide)
  have rm := sval_range (R8_minus f)
  have rf := sval_range hf
  have hz := sval_zero
  have hK := K5_pos
  rw [not_sval hf, hz] at e
  have e2 : sval (minusF f) = sval (plusF (notF f) (fun _ => 0) 1) := rfl
  rw [e2] at rm ⊢
  split <;> omega
theorem sval_zero_iff {f : Nat → Int} (hf : R8 f) : (∀ i, i < 8 → f i = 0) ↔ sval f = 0 := by
  constructor
  · intro h
    have : sval f = sval (fun _ => 0) := by
      simp [sval, negF, uval, h]
    rw [this]; exact sval_zero
  · intro h i hi
    have := limb_sval hf i hi
    rw [h] at this
    rw [this]
    exact limb_zero_all i hi
theorem eqArr_iff {f g : Nat → Int} (hf : R8 f) (hg : R8 g) : eqArr 8 f g = decide (sval f = sval g) := by
  rw [Bool.eq_iff_iff]
  simp only [eqArr, List.all_eq_true, List.mem_range, beq_iff_eq, decide_eq_true_eq]
  constructor
  · intro h
    have e : uval f = uval g := by simp [uval, h]
    have n : negF f = negF g := by simp [negF, h]
    simp [sval, e, n]
  · intro h i hi
    rw [limb_sval hf i hi, limb_sval hg i hi, h]
theorem limb_small {n : Int} (h1 : -9223372036854775808 ≤ n) (h2 : n < 9223372036854775808) : ∀ i, limb n (i + 1) = if n < 0 then 18446744073709551615 else 0 := by
  have z : ∀ i, limb 0 i = 0 := by
    intro i; induction i with
    | zero => decide
    | succ i ih => simpa [limb] using ih
  have m : ∀ i, limb (-1) i = 18446744073709551615 := by
    intro i; induction i with
    | zero => decide
    | succ i ih => simpa [limb] using ih
  intro i
  simp only [limb]
  split
  · rw [show n / 18446744073709551616 = -1 by omega]; exact m i
  · rw [show n / 18446744073709551616 = 0 by omega]; exact z i
end Go.X
end

section
namespace Go.X
open Go.Proofs
attribute [simp] Tryz.T_163
attribute [local irreducible] Good
theorem wrap_i64_u64 {n : Int} : IntKind.i64.wrap (n % 18446744073709551616) = IntKind.i64.wrap n := by simp only [IntKind.wrap_i64]; omega
def ofS : List AV → PR
  | [.int .i64 n] => if -9223372036854775808 ≤ n ∧ n < 9223372036854775808 then .val (W n) else .fail
  | _ => .fail
@[simp] theorem ofS_val {n : Int} (h : -9223372036854775808 ≤ n ∧ n < 9223372036854775808) : ofS [.int .i64 n] = .val (W n) := if_pos h
theorem of_ok : SumOk Tryz.prog 35 (pureS ofS) := by
  refine sum_fn (L := fun _ => none) (n := 9) (S := stOf []) drawS Tryz.T_ok (stOf_ok (by simp)) Tryz.func35 rfl (by kernel_rfl) (by kernel_rfl) ?_
    (by intro args v h; unfold ofS at h; split at h <;> (try split at h) <;> simp at h)
  intro args v h
  unfold ofS at h
  split at h
  · rename_i n
    split at h
    · rename_i hn
      cases h
      refine ⟨by simp, by simp, by simp, ?_⟩
      have e : shrA .i64 n 63 = if n < 0 then -1 else 0 := by
        simp only [shrA, IntKind.bits]
        rw [Int.fdiv_eq_ediv_of_nonneg _ (by decide)]
        show n / 9223372036854775808 = _
        split <;> omega
      have s := limb_small hn.1 hn.2
      simp [Tryz.f35, e, wrap_u64_mod]
      refine eqv_arr fun i hi => ?_
      rcases eight hi with rfl | rfl | rfl | rfl | rfl | rfl | rfl | rfl
      · simp [upd, limb]
      all_goals (simp [upd, s]; split <;> simp)
    · simp at h
  · simp at h
def InI (z : Int) : Prop := -9223372036854775808 ≤ z ∧ z < 9223372036854775808
instance (z : Int) : Decidable (InI z) := inferInstanceAs (Decidable (_ ∧ _))
theorem InI.w {z : Int} (h : InI z) : InW z := by unfold InW K5; unfold InI at h; omega
noncomputable def intS : List AV → PR
  | [.arr .u64 8 f] => if R8 f then .val (.tup [.int .i64 (if InI (sval f) then sval f else 0), .bool (decide (InI (sval f)))]) else .fail
  | _ => .fail
@[simp] theorem intS_val {f : Nat → Int} (h : R8 f) : intS [.arr .u64 8 f] = .val (.tup [.int .i64 (if InI (sval f) then sval f else 0), .bool (decide (InI (sval f)))]) := if_pos h
theorem int_ok : SumOk Tryz.prog 136 (pureS intS) := by
  refine sum_fn (L := fun _ => none) (n := 1) (S := stOf [(35, pureS ofS)]) drawS Tryz.T_ok (stOf_ok (by simp [of_ok])) Tryz.func136 rfl (by kernel_rfl) (by kernel_rfl) ?_
    (by intro args v h; unfold intS at h; split at h <;> (try split at h) <;> simp at h)
  intro args v h
  unfold intS at h
  split at h
  · rename_i f
    split at h
    · rename_i hf
      cases h
      refine ⟨by simp, by simp, by simp, ?_⟩
      have f0 := hf 0 (by omega)
      have hb : -9223372036854775808 ≤ IntKind.i64.wrap (f 0) ∧ IntKind.i64.wrap (f 0) < 9223372036854775808 := by simp only [IntKind.wrap_i64]; omega
      have hz : sval (limb (IntKind.i64.wrap (f 0))) = IntKind.i64.wrap (f 0) := sval_limb (InI.w hb)
      have e0 : f 0 = sval f % 18446744073709551616 := limb_sval hf 0 (by omega)
      have ho : ofS [.int .i64 (IntKind.i64.wrap (f 0))] = .val (W (IntKind.i64.wrap (f 0))) := by simp [ofS, hb]
      have hq := eqArr_iff (R8_limb (IntKind.i64.wrap (f 0))) hf
      rw [hz] at hq
      by_cases hc : IntKind.i64.wrap (f 0) = sval f
      · have hi : InI (sval f) := by rw [← hc]; exact hb
        have hq : eqArr 8 (limb (IntKind.i64.wrap (f 0))) f = true := by simpa [hc] using hq
        simp [Tryz.f136, ho, hq, hi]
        rw [hc]; exact Eqv.refl _
      · have hi : ¬ InI (sval f) := by
          intro hi
          apply hc
          unfold InI at hi
          rw [e0, wrap_i64_u64, wrap_i64_in hi.1 hi.2]
        have hq : eqArr 8 (limb (IntKind.i64.wrap (f 0))) f = false := by simpa [hc] using hq
        simp [Tryz.f136, ho, hq, hi]
        exact Eqv.refl _
    · simp at h
  · simp at h
def sgnI (z : Int) : Int := if z < 0 then -1 else if z = 0 then 0 else 1
noncomputable def signS : List AV → PR
  | [.arr .u64 8 f] => if R8 f then .val (.int .i64 (sgnI (sval f))) else .fail
  | _ => .fail
@[simp] theorem signS_val {f : Nat → Int} (h : R8 f) : signS [.arr .u64 8 f] = .val (.int .i64 (sgnI (sval f))) := if_pos h
theorem sign_ok : SumOk Tryz.prog 70 (pureS signS) := by
  refine sum_fn (L := fun _ => none) (n := 1) (S := stOf [(74, pureS negS)]) drawS Tryz.T_ok (stOf_ok (by simp [negative_ok])) Tryz.func70 rfl (by kernel_rfl) (by kernel_rfl) ?_
    (by intro args v h; unfold signS at h; split at h <;> (try split at h) <;> simp at h)
  intro args v h
  unfold signS at h
  split at h
  · rename_i f
    split at h
    · rename_i hf
      cases h
      refine ⟨by simp, by simp, by simp, ?_⟩
      by_cases hn : sval f < 0
      · simp [Tryz.f70, hf, neg_sval hf, hn, sgnI]
      · by_cases hz : sval f = 0
        · simp [Tryz.f70, hf, neg_sval hf, hz, sgnI, eqArr_iff hf R8_zero, sval_zero]
        · simp [Tryz.f70, hf, neg_sval hf, hn, hz, sgnI, eqArr_iff hf R8_zero, sval_zero]
    · simp at h
  · simp at h
end Go.X
end

section
namespace Go.X
open Go.Proofs
attribute [local irreducible] Good
noncomputable def cmpS : List AV → PR
  | [.arr .u64 8 f, .arr .u64 8 g] => if R8 f ∧ R8 g then .val (.int .i64 (cmpI (sval f) (sval g))) else .fail
  | _ => .fail
@[simp] theorem cmpS_val {f : Nat → Int} {g : Nat → Int} (h : R8 f ∧ R8 g) : cmpS [.arr .u64 8 f, .arr .u64 8 g] = .val (.int .i64 (cmpI (sval f) (sval g))) := if_pos h
theorem cmp_ok : SumOk Tryz.prog 139 (pureS cmpS) := by
  refine sum_fn (L := fun _ => none) (n := 1) (S := stOf [(74, pureS negS), (132, pureS aboveS)]) drawS Tryz.T_ok (stOf_ok (by simp [negative_ok, above_ok])) Tryz.func139 rfl (by kernel_rfl) (by kernel_rfl) ?_
    (by intro args v h; unfold cmpS at h; split at h <;> (try split at h) <;> simp at h)
  intro args v h
  unfold cmpS at h
  split at h
  · rename_i f g
    split at h
    · rename_i hc
      obtain ⟨hf, hg⟩ := hc
      cases h
      refine ⟨by simp, by simp, by simp, ?_⟩
      have uf := uval_sval hf; have ug := uval_sval hg
      have rf := sval_range hf; have rg := sval_range hg
      have hK := K5_pos
      by_cases h1 : sval f < 0
      · by_cases h2 : sval g < 0
        · simp [Tryz.f139, hf, hg, neg_sval hf, neg_sval hg, h1, h2]
          rw [if_pos h1] at uf; rw [if_pos h2] at ug
          unfold cmpI; rw [uf, ug]; (repeat' split) <;> omega
        · simp [Tryz.f139, hf, hg, neg_sval hf, neg_sval hg, h1, h2]
          unfold cmpI; (repeat' split) <;> omega
      · by_cases h2 : sval g < 0
        · simp [Tryz.f139, hf, hg, neg_sval hf, neg_sval hg, h1, h2]
          unfold cmpI; (repeat' split) <;> omega
        · simp [Tryz.f139, hf, hg, neg_sval hf, neg_sval hg, h1, h2]
          rw [if_neg h1] at uf; rw [if_neg h2] at ug
          rw [uf, ug]
    · simp at h
  · simp at h
end Go.X
end

section
namespace Go.X
open Go.Proofs
attribute [local irreducible] Good
noncomputable def fitV (z : Int) : AV := .tup [W (if InW z then z else 0), .bool (decide (InW z))]
theorem eqvW_of {f : Nat → Int} (h : R8 f) {z : Int} (hz : sval f = z) : Eqv (.arr .u64 8 f) (W z) := by subst hz; exact eqvW_self h
theorem eqvW_zero : Eqv (.arr .u64 8 fun _ => 0) (W 0) := eqvW_of R8_zero sval_zero
noncomputable def addS : List AV → PR
  | [.arr .u64 8 f, .arr .u64 8 g] => if R8 f ∧ R8 g then .val (fitV (sval f + sval g)) else .fail
  | _ => .fail
@[simp] theorem addS_val {f : Nat → Int} {g : Nat → Int} (h : R8 f ∧ R8 g) : addS [.arr .u64 8 f, .arr .u64 8 g] = .val (fitV (sval f + sval g)) := if_pos h
set_option maxHeartbeats 1000000 in
theorem add_ok : SumOk Tryz.prog 78 (pureS addS) := by
  refine sum_fn (L := fun _ => none) (n := 1) (S := stOf [(74, pureS negS), (75, pureS plusS)]) drawS Tryz.T_ok (stOf_ok (by simp [negative_ok, plus_ok])) Tryz.func78 rfl (by kernel_rfl) (by kernel_rfl) ?_
    (by intro args v h; unfold addS at h; split at h <;> (try split at h) <;> simp at h)
  intro args v h
  unfold addS at h
  split at h
  · rename_i f g
    split at h
    · rename_i hc
      obtain ⟨hf, hg⟩ := hc
      cases h
      refine ⟨by simp, by simp [fitV], by simp [fitV], ?_⟩
      have hs := R8_plus f g 0
      have e := plus_sval hf hg (by decide : (0 : Int) ≤ 0) (by decide)
      have rf := sval_range hf; have rg := sval_range hg; have rs := sval_range hs
      have hK := K5_pos
      by_cases h1 : sval f < 0 <;> by_cases h2 : sval g < 0 <;> by_cases h3 : sval (plusF f g 0) < 0 <;>
        simp [Tryz.f78, hf, hg, hs, neg_sval hf, neg_sval hg, neg_sval hs, h1, h2, h3, fitV] <;>
        first
          | (have hi : InW (sval f + sval g) := by unfold InW; omega
             simp only [hi, if_true, decide_true]
             exact eqv_tup2 (eqvW_of hs (by omega)) (Eqv.refl _))
          | (have hi : ¬ InW (sval f + sval g) := by unfold InW; omega
             simp only [hi, if_false, decide_false]
             exact eqv_tup2 eqvW_zero (Eqv.refl _))
    · simp at h
  · simp at h
end Go.X
end

section
namespace Go.X
open Go.Proofs
attribute [simp] Tryz.T_163
attribute [local irreducible] Good
noncomputable def subS : List AV → PR
  | [.arr .u64 8 f, .arr .u64 8 g] => if R8 f ∧ R8 g then .val (fitV (sval f - sval g)) else .fail
  | _ => .fail
@[simp] theorem subS_val {f : Nat → Int} {g : Nat → Int} (h : R8 f ∧ R8 g) : subS [.arr .u64 8 f, .arr .u64 8 g] = .val (fitV (sval f - sval g)) := if_pos h
set_option maxHeartbeats 1000000 in
theorem sub_ok : SumOk Tryz.prog 191 (pureS subS) := by
  refine sum_fn (L := fun i => if i = 1 then some (.quiet 7) else none) (n := 1) (S := stOf [(74, pureS negS), (75, pureS plusS), (76, pureS notS)]) drawS Tryz.T_ok (stOf_ok (by simp [negative_ok, plus_ok, not_ok])) Tryz.func191 rfl (by kernel_rfl) (by kernel_rfl) ?_
    (by intro args v h; unfold subS at h; split at h <;> (try split at h) <;> simp at h)
  intro args v h
  unfold subS at h
  split at h
  · rename_i f g
    split at h
    · rename_i hc
      obtain ⟨hf, hg⟩ := hc
      cases h
      refine ⟨by simp, by simp [fitV], by simp [fitV], ?_⟩
      have hn := R8_not hg
      have hs := R8_plus f (notF g) 1
      have e := plus_sval hf hn (by decide : (0 : Int) ≤ 1) (by decide)
      rw [not_sval hg] at e
      have rf := sval_range hf; have rg := sval_range hg; have rs := sval_range hs
      have hK := K5_pos
      by_cases h1 : sval f < 0 <;> by_cases h2 : sval g < 0 <;> by_cases h3 : sval (plusF f (notF g) 1) < 0 <;>
        simp [Tryz.f191, hf, hg, hs, hn, neg_sval hf, neg_sval hg, neg_sval hs, h1, h2, h3, fitV] <;>
        first
          | (have hi : InW (sval f - sval g) := by unfold InW; omega
             simp only [hi, if_true, decide_true]
             exact eqv_tup2 (eqvW_of hs (by omega)) (Eqv.refl _))
          | (have hi : ¬ InW (sval f - sval g) := by unfold InW; omega
             simp only [hi, if_false, decide_false]
             exact eqv_tup2 eqvW_zero (Eqv.refl _))
    · simp at h
  · simp at h
noncomputable def negateS : List AV → PR
  | [.arr .u64 8 f] => if R8 f then .val (fitV (- sval f)) else .fail
  | _ => .fail
@[simp] theorem negateS_val {f : Nat → Int} (h : R8 f) : negateS [.arr .u64 8 f] = .val (fitV (- sval f)) := if_pos h
theorem negate_ok : SumOk Tryz.prog 176 (pureS negateS) := by
  refine sum_fn (L := fun _ => none) (n := 1) (S := stOf [(191, pureS subS)]) drawS Tryz.T_ok (stOf_ok (by simp [sub_ok])) Tryz.func176 rfl (by kernel_rfl) (by kernel_rfl) ?_
    (by intro args v h; unfold negateS at h; split at h <;> (try split at h) <;> simp at h)
  intro args v h
  unfold negateS at h
  split at h
  · rename_i f
    split at h
    · rename_i hf
      cases h
      refine ⟨by simp, by simp [fitV], by simp [fitV], ?_⟩
      simp [Tryz.f176, hf, R8_zero, sval_zero, fitV]
      exact Eqv.refl _
    · simp at h
  · simp at h
noncomputable def signedS : List AV → PR
  | [.arr .u64 8 f, .bool b] => if R8 f then (if InW (if b = true then - uval f else uval f) then .val (W (if b = true then - uval f else uval f)) else .pan (.iface 163 (.agg []))) else .fail
  | _ => .fail
theorem signedS_eq {f : Nat → Int} {b : Bool} (h : R8 f) : signedS [.arr .u64 8 f, .bool b] = if InW (if b = true then - uval f else uval f) then .val (W (if b = true then - uval f else uval f)) else .pan (.iface 163 (.agg [])) := if_pos h
theorem signed_case {f : Nat → Int} (h : R8 f) {b : Bool} : ∀ g, g = (if b = true then minusF f else f) →
    (R8 g ∧ (InW (if b = true then - uval f else uval f) ↔ ¬ (sval g ≠ 0 ∧ (decide (sval g < 0) ≠ b))) ∧ (InW (if b = true then - uval f else uval f) → sval g = (if b = true then - uval f else uval f))) := by
  rintro g rfl
  have hu := uval_sval h
  have hm := minus_sval h
  have r := sval_range h
  have hK := K5_pos
  unfold InW
  cases b
  · simp only [Bool.false_eq_true, if_false]
    refine ⟨h, ?_, ?_⟩ <;> (split at hu) <;> simp <;> omega
  · simp only [if_true]
    rw [hm]
    refine ⟨R8_minus f, ?_, ?_⟩ <;> (split at hu) <;> (split) <;> simp <;> omega
theorem signed_ok : SumOk Tryz.prog 77 (pureS signedS) := by
  have key : ∀ (f : Nat → Int) (b : Bool), R8 f → Good (exec Tryz.T (stOf [(74, pureS negS), (134, pureS minusS)]) (fun _ => none) 1 (Tryz.f77.body.getD .skip) (initS [.arr .u64 8 f, .bool b] Tryz.f77.ntmps []))
      (Ends Tryz.T Tryz.f77.results.toList (fun u _ => InW (if b = true then - uval f else uval f) ∧ Eqv u (W (if b = true then - uval f else uval f))) fun u _ => ¬ InW (if b = true then - uval f else uval f) ∧ u = .iface 163 (.agg [])) := by
    intro f b hf
    obtain ⟨hg, h1, h2⟩ := signed_case hf (b := b) _ rfl
    cases b
    · simp only [Bool.false_eq_true, if_false] at hg h1 h2
      by_cases hz : sval f = 0
      · have hi : InW (uval f) := h1.2 (by simp [hz])
        simp [Tryz.f77, eqArr_iff hf R8_zero, sval_zero, hz, hi]
        exact eqvW_of hf (h2 hi)
      · by_cases hn : sval f < 0
        · have hi : ¬ InW (uval f) := fun e => h1.1 e (by simp [hz, hn])
          simp [Tryz.f77, hf, eqArr_iff hf R8_zero, sval_zero, hz, neg_sval hf, hn, hi]
        · have hi : InW (uval f) := h1.2 (by simp [hn])
          simp [Tryz.f77, hf, eqArr_iff hf R8_zero, sval_zero, hz, neg_sval hf, hn, hi]
          exact eqvW_of hf (h2 hi)
    · simp only [if_true] at hg h1 h2
      by_cases hz : sval (minusF f) = 0
      · have hi : InW (- uval f) := h1.2 (by simp [hz])
        simp [Tryz.f77, hf, eqArr_iff hg R8_zero, sval_zero, hz, hi]
        exact eqvW_of hg (h2 hi)
      · by_cases hn : sval (minusF f) < 0
        · have hi : InW (- uval f) := h1.2 (by simp [hn])
          simp [Tryz.f77, hf, hg, eqArr_iff hg R8_zero, sval_zero, hz, neg_sval hg, hn, hi]
          exact eqvW_of hg (h2 hi)
        · have hi : ¬ InW (- uval f) := fun e => h1.1 e (by simp [hz, hn])
          simp [Tryz.f77, hf, hg, eqArr_iff hg R8_zero, sval_zero, hz, neg_sval hg, hn, hi]
  refine sum_fn (L := fun _ => none) (n := 1) (S := stOf [(74, pureS negS), (134, pureS minusS)]) drawS Tryz.T_ok (stOf_ok (by simp [negative_ok, minus_ok])) Tryz.func77 rfl (by kernel_rfl) (by kernel_rfl) ?_ ?_
  · intro args v h
    unfold signedS at h
    split at h
    · rename_i f b
      by_cases hf : R8 f
      · rw [if_pos hf] at h
        by_cases hi : InW (if b = true then - uval f else uval f)
        · rw [if_pos hi] at h
          injection h with h
          subst h
          refine ⟨by simp, by simp, by simp, (key f b hf).mono ?_⟩
          intro x s hx
          cases x <;> simp only [Ends_norm, Ends_ret, Ends_pan, Ends_exit, hi, true_and, not_true, false_and, and_false] at hx ⊢ <;> exact hx
        · rw [if_neg hi] at h; simp at h
      · rw [if_neg hf] at h; simp at h
    · simp at h
  · intro args v h
    unfold signedS at h
    split at h
    · rename_i f b
      by_cases hf : R8 f
      · rw [if_pos hf] at h
        by_cases hi : InW (if b = true then - uval f else uval f)
        · rw [if_pos hi] at h; simp at h
        · rw [if_neg hi] at h
          injection h with h
          subst h
          refine ⟨by simp, by simp, by simp, (key f b hf).mono ?_⟩
          intro x s hx
          cases x with
          | pan v => exact ⟨hx.1, hx.2.2 ▸ Eqv.refl _⟩
          | norm => obtain ⟨_, _, _, h1, _⟩ := hx; exact (hi h1).elim
          | ret => obtain ⟨_, _, _, h1, _⟩ := hx; exact (hi h1).elim
          | exit i => exact hx
      · rw [if_neg hf] at h; simp at h
    · simp at h
end Go.X
end

section
namespace Go.X
theorem or_add {a b : Int} (k : Nat) (c : Int) (h0 : 0 ≤ a) (h1 : a < 2 ^ k) (hc : 0 ≤ c) (hb : b = 2 ^ k * c) (h2 : a + b < 18446744073709551616) : bitsA .or .u64 a b = a + b := by
  obtain ⟨x, rfl⟩ := Int.eq_ofNat_of_zero_le h0
  obtain ⟨y, rfl⟩ := Int.eq_ofNat_of_zero_le hc
  have hx : x < 2 ^ k := by
    have : ((2 : Int) ^ k) = ((2 ^ k : Nat) : Int) := by simp
    rw [this] at h1; exact_mod_cast h1
  have hb' : b = ((2 ^ k * y : Nat) : Int) := by rw [hb]; simp
  subst hb'
  have h3 : x + 2 ^ k * y < 2 ^ 64 := by
    have : ((x : Int) + ((2 ^ k * y : Nat) : Int)) = ((x + 2 ^ k * y : Nat) : Int) := by simp
    omega
  show IntKind.u64.wrap ((BitVec.ofInt 64 (x : Int) ||| BitVec.ofInt 64 ((2 ^ k * y : Nat) : Int)).toNat : Int) = _
  rw [BitVec.ofInt_natCast, BitVec.ofInt_natCast, BitVec.toNat_or, BitVec.toNat_ofNat, BitVec.toNat_ofNat, Nat.mod_eq_of_lt (by omega), Nat.mod_eq_of_lt (by omega)]
  have e : x ||| 2 ^ k * y = x + 2 ^ k * y := by
    rw [Nat.or_comm, ← Nat.two_pow_add_eq_or_of_lt hx, Nat.add_comm]
  rw [e, wrap_u64_mod]
  omega
theorem limb_eq : ∀ (i : Nat) (z : Int), limb z i = z / 18446744073709551616 ^ i % 18446744073709551616
  | 0, z => by simp [limb]
  | i + 1, z => by
    simp only [limb]
    rw [limb_eq i, Int.pow_succ, Int.mul_comm, Int.ediv_ediv_of_nonneg (by decide)]
theorem limb_up (z : Int) (q i : Nat) : limb (z / 18446744073709551616 ^ q) i = limb z (q + i) := by
  rw [limb_eq, limb_eq, Int.pow_add, Int.ediv_ediv_of_nonneg (Int.pow_nonneg (by decide))]
theorem limb_right (z : Int) (i : Nat) {r : Nat} (h0 : 0 < r) (h1 : r < 64) : limb (z / 2 ^ r) i = limb z i / 2 ^ r + 2 ^ (64 - r) * (limb z (i + 1) % 2 ^ r) := by
  have hp : (0 : Int) < 2 ^ r := Int.pow_pos (by decide)
  have e64 : (18446744073709551616 : Int) = 2 ^ r * 2 ^ (64 - r) := by
    rw [← Int.pow_add, show r + (64 - r) = 64 from by omega]; rfl
  have hq : (0 : Int) < 2 ^ (64 - r) := Int.pow_pos (by decide)
  rw [limb_eq, limb_eq, limb_eq, Int.pow_succ, ← Int.ediv_ediv_of_nonneg (Int.pow_nonneg (by decide))]
  rw [Int.ediv_ediv_of_nonneg (Int.le_of_lt hp), Int.mul_comm (2 ^ r), ← Int.ediv_ediv_of_nonneg (Int.pow_nonneg (by decide))]
  generalize z / 18446744073709551616 ^ i = y
  generalize (2 : Int) ^ r = a at *
  generalize (2 : Int) ^ (64 - r) = b at *
  rw [e64]
  have h1 : y % (a * b) = y - a * b * (y / (a * b)) := by rw [Int.emod_def]
  have h2 : y / a % (a * b) = y / a - a * b * (y / a / (a * b)) := by rw [Int.emod_def]
  have h3 : y / (a * b) % a = y / (a * b) - a * (y / (a * b) / a) := by rw [Int.emod_def]
  have h4 : y / a / (a * b) = y / (a * b) / a := by
    rw [Int.ediv_ediv_of_nonneg (Int.le_of_lt hp), Int.ediv_ediv_of_nonneg (Int.le_of_lt (Int.mul_pos hp hq)), Int.mul_comm a (a * b)]
  have h5 : (y - a * b * (y / (a * b))) / a = y / a - b * (y / (a * b)) := by
    have : y - a * b * (y / (a * b)) = y + a * (-(b * (y / (a * b)))) := by grind
    rw [this, Int.add_mul_ediv_left _ _ (by omega)]
    omega
  rw [Int.emod_emod_of_dvd _ (Int.dvd_mul_right a b), h1, h2, h3, h4, h5]
  grind
theorem limb_high {z : Int} (h : InW z) : ∀ i, 8 ≤ i → limb z i = if z < 0 then 18446744073709551615 else 0 := by
  intro i hi
  have : limb z i = limb (z / 18446744073709551616 ^ 8) (i - 8) := by rw [limb_up, show 8 + (i - 8) = i from by omega]
  rw [this]
  obtain ⟨h1, h2⟩ := h
  have hk : K5 ≤ 18446744073709551616 ^ 8 := by unfold K5; decide
  have hp : (0 : Int) < 18446744073709551616 ^ 8 := by decide
  by_cases hz : z < 0
  · rw [if_pos hz, show z / 18446744073709551616 ^ 8 = -1 from by rw [Int.ediv_eq_iff_of_pos hp]; omega]
    have m := limb_small (n := -1) (by decide) (by decide)
    cases i - 8 with
    | zero => decide
    | succ j => rw [m]; decide
  · rw [if_neg hz, show z / 18446744073709551616 ^ 8 = 0 from Int.ediv_eq_zero_of_lt (by omega) (by omega)]
    have m := limb_small (n := 0) (by decide) (by decide)
    cases i - 8 with
    | zero => decide
    | succ j => rw [m]; decide
def halfF (f : Nat → Int) (i : Nat) : Int := f i / 2 + (if i < 7 then f (i + 1) % 2 * 9223372036854775808 else 0)
theorem R8_half {f : Nat → Int} (h : R8 f) : R8 (halfF f) := by
  intro i hi
  have := h i hi
  unfold halfF
  split
  · have := h (i + 1) (by omega); omega
  · omega
theorem half_val {f : Nat → Int} (h : R8 f) : uval (halfF f) = uval f / 2 := by
  have f0 := h 0 (by omega); have f1 := h 1 (by omega); have f2 := h 2 (by omega); have f3 := h 3 (by omega)
  have f4 := h 4 (by omega); have f5 := h 5 (by omega); have f6 := h 6 (by omega); have f7 := h 7 (by omega)
  simp only [uval, halfF]
  simp only [show ((0:Nat) < 7) = True from by decide, show ((1:Nat) < 7) = True from by decide, show ((2:Nat) < 7) = True from by decide, show ((3:Nat) < 7) = True from by decide, show ((4:Nat) < 7) = True from by decide, show ((5:Nat) < 7) = True from by decide, show ((6:Nat) < 7) = True from by decide, show ((7:Nat) < 7) = False from by decide, if_true, if_false]
  have hs : ∀ a t : Int, (a + 18446744073709551616 * t) / 2 = (a / 2 + t % 2 * 9223372036854775808) + 18446744073709551616 * (t / 2) := fun a t => by omega
  have hm : ∀ a t : Int, (a + 18446744073709551616 * t) % 2 = a % 2 := fun a t => by omega
  simp only [hs, hm, Int.add_zero]
theorem or_half {a b : Int} (ha : 0 ≤ a) (ha1 : a < 18446744073709551616) (_ : 0 ≤ b) : bitsA .or .u64 (shrA .u64 a 1) (shlA .u64 b 63) = a / 2 + b % 2 * 9223372036854775808 := by
  have e1 : shrA .u64 a 1 = a / 2 := by
    simp only [shrA, IntKind.bits]
    rw [Int.fdiv_eq_ediv_of_nonneg _ (by decide)]; rfl
  have e2 : shlA .u64 b 63 = b % 2 * 9223372036854775808 := by
    simp only [shlA, IntKind.bits, wrap_u64_mod]
    show b * 9223372036854775808 % 18446744073709551616 = _
    omega
  rw [e1, e2]
  exact or_add 63 (b % 2) (by omega) (by show a / 2 < 9223372036854775808; omega) (by omega) (by show _ = 9223372036854775808 * _; omega) (by omega)
end Go.X
end

section
namespace Go.X
open Go.Proofs
attribute [local irreducible] Good
attribute [simp] Tryz.T_171
noncomputable def halfS : List AV → PR
  | [.arr .u64 8 f] => if R8 f then .val (.arr .u64 8 (halfF f)) else .fail
  | _ => .fail
theorem half_ok : SumOk Tryz.prog 133 (pureS halfS) := by
  refine sum_fn (L := fun i => if i = 6 then some (.quiet 10) else none) (n := 9) (S := stOf []) drawS Tryz.T_ok (stOf_ok (by simp)) Tryz.func133 rfl (by kernel_rfl) (by kernel_rfl) ?_
    (by intro args v h; unfold halfS at h; split at h <;> (try split at h) <;> simp at h)
  intro args v h
  unfold halfS at h
  split at h
  · rename_i f
    split at h
    · rename_i hf
      cases h
      refine ⟨by simp, by simp, by simp, ?_⟩
      have o : ∀ i j, i < 8 → j < 8 → bitsA .or .u64 (shrA .u64 (f i) 1) (shlA .u64 (f j) 63) = f i / 2 + f j % 2 * 9223372036854775808 := fun i j hi hj => or_half (hf i hi).1 (hf i hi).2 (hf j hj).1
      have s : ∀ i, i < 8 → shrA .u64 (f i) 1 = f i / 2 := fun i _ => by
        simp only [shrA, IntKind.bits]
        rw [Int.fdiv_eq_ediv_of_nonneg _ (by decide)]; rfl
      simp [Tryz.f133, upd]
      refine eqv_arr fun i hi => ?_
      rcases eight hi with rfl | rfl | rfl | rfl | rfl | rfl | rfl | rfl <;> first | (simp [upd, halfF, o]; done) | (simp [upd, halfF, s]; done)
    · simp at h
  · simp at h
@[simp] theorem halfS_val {f : Nat → Int} (h : R8 f) : halfS [.arr .u64 8 f] = .val (.arr .u64 8 (halfF f)) := if_pos h
def fillI (z : Int) : Int := if z < 0 then 18446744073709551615 else 0
noncomputable def shr1S : Sum := fun args env _ => match args with
  | [.int .i64 k, .ptr p 0, .ptr e 0] => match env p, env e with
    | some ⟨[.arr .u64 8 f], _⟩, some ⟨[.int .u64 c], _⟩ => if R8 f ∧ 0 ≤ k ∧ p ≠ e ∧ c = fillI (sval f) then .val (.int .u64 (limb (sval f) k.toNat)) [] [] else .fail
    | _, _ => .fail
  | _ => .fail
theorem limb_at {f : Nat → Int} (hf : R8 f) {k : Nat} : limb (sval f) k = if k < 8 then f k else fillI (sval f) := by
  split
  · rename_i h; exact (limb_sval hf k h).symm
  · exact limb_high (sval_bound hf).1 k (by omega)
theorem two_blk {m : List Blk} {a b : Blk} {n : Nat} {keep : List Nat} (h : n = 2) (hk : keep = []) (ha : refsL a.items = []) (hb : refsL b.items = []) (hm : m = [a, b]) : ∀ q, (q < n ∨ q ∈ keep) → ∀ c ∈ refsL (m.getD q default).items, c < n ∨ c ∈ keep := by
  subst h hk hm
  intro q hq c hc
  have : q = 0 ∨ q = 1 := by simp at hq; omega
  rcases this with rfl | rfl <;> simp [ha, hb] at hc
theorem shr1_ok : SumOk Tryz.prog 137 shr1S := by
  refine sum_mem (L := fun _ => none) (n := 1) (S := stOf []) drawS Tryz.T_ok (stOf_ok (by simp)) Tryz.func137 rfl (by kernel_rfl) (by kernel_rfl) ?_
  intro args env nxt h
  unfold shr1S at h ⊢
  split at h
  · rename_i k p e
    split at h
    · rename_i f t c t' hp he
      split at h
      · rename_i hc
        obtain ⟨hf, h0, hne, hcc⟩ := hc
        subst hcc
        refine ⟨[.int .i64 k, .ptr 0 0, .ptr 1 0], [p, e], [⟨[.arr .u64 8 f], t⟩, ⟨[.int .u64 (fillI (sval f))], t'⟩], ⟨by simp [renL, AV.ren], rfl, by simp [hne], by simp, ?_, ?_⟩, ?_⟩
        · intro i hi
          have : i = 0 ∨ i = 1 := by simp at hi; omega
          rcases this with rfl | rfl <;> simp [hp, he, renL, AV.ren]
        · intro i hi
          have : i = 0 ∨ i = 1 := by simp at hi; omega
          rcases this with rfl | rfl <;> simp
        · have e1 : limb (sval f) k.toNat = if k.toNat < 8 then f k.toNat else fillI (sval f) := limb_at hf
          by_cases hk : k < 8
          · have hk' : k.toNat < 8 := by omega
            simp [Tryz.f137, hk, h0, hf, hne]
            exact ⟨[], none, ⟨by simp [upOf, AV.ren, e1, hk'], by simp, by simp, by simp, by simp, by simp, by simp, two_blk rfl rfl rfl rfl rfl, by simp⟩⟩
          · have hk' : ¬ k.toNat < 8 := by omega
            simp [Tryz.f137, hk, h0, hf, hne]
            exact ⟨[], none, ⟨by simp [upOf, AV.ren, e1, hk'], by simp, by simp, by simp, by simp, by simp, by simp, two_blk rfl rfl rfl rfl rfl, by simp⟩⟩
      · simp at h
    · simp at h
  · simp at h
theorem or_shift {x y : Int} (hx : 0 ≤ x) (hx1 : x < 18446744073709551616) {r : Nat} (h0 : 0 < r) (h1 : r < 64) : bitsA .or .u64 (shrA .u64 x r) (shlA .u64 y (64 - r)) = x / 2 ^ r + 2 ^ (64 - r) * (y % 2 ^ r) := by
  have hp : (0 : Int) < 2 ^ r := Int.pow_pos (by decide)
  have hq : (0 : Int) < 2 ^ (64 - r) := Int.pow_pos (by decide)
  have e64 : (18446744073709551616 : Int) = 2 ^ r * 2 ^ (64 - r) := by
    rw [← Int.pow_add, show r + (64 - r) = 64 from by omega]; rfl
  have e1 : shrA .u64 x r = x / 2 ^ r := by
    simp only [shrA, IntKind.bits]
    rw [show min r 64 = r from by omega, Int.fdiv_eq_ediv_of_nonneg _ (Int.le_of_lt hp)]
  have e2 : shlA .u64 y (64 - r) = 2 ^ (64 - r) * (y % 2 ^ r) := by
    simp only [shlA, IntKind.bits, wrap_u64_mod]
    rw [show min (64 - r) 64 = 64 - r from by omega, e64, Int.mul_comm y, Int.mul_comm (2 ^ r), Int.mul_emod_mul_of_pos _ _ hq]
  have b1 : x / 2 ^ r < 2 ^ (64 - r) := by
    apply Int.ediv_lt_of_lt_mul hp
    rw [Int.mul_comm, ← e64]; exact hx1
  have b2 : y % 2 ^ r < 2 ^ r := Int.emod_lt_of_pos _ hp
  have b3 : 0 ≤ y % 2 ^ r := Int.emod_nonneg _ (by omega)
  have b4 : 0 ≤ x / 2 ^ r := Int.ediv_nonneg hx (by omega)
  rw [e1, e2]
  refine or_add (64 - r) (y % 2 ^ r) b4 b1 b3 rfl ?_
  have : 2 ^ (64 - r) * (y % 2 ^ r) ≤ 2 ^ (64 - r) * (2 ^ r - 1) := Int.mul_le_mul_of_nonneg_left (by omega) (Int.le_of_lt hq)
  have e3 : (2 : Int) ^ (64 - r) * (2 ^ r - 1) = 18446744073709551616 - 2 ^ (64 - r) := by rw [e64]; grind
  omega
theorem div_pow (z : Int) (q r : Nat) : z / 18446744073709551616 ^ q / 2 ^ r = z / 2 ^ (64 * q + r) := by
  rw [Int.ediv_ediv_of_nonneg (Int.pow_nonneg (by decide)), Int.pow_add, Int.pow_mul]
  rfl
theorem div_InW {z : Int} (h : InW z) (n : Nat) : InW (z / 2 ^ n) := by
  have hp : (0 : Int) < 2 ^ n := Int.pow_pos (by decide)
  obtain ⟨h1, h2⟩ := h
  have hK := K5_pos
  constructor
  · rw [Int.le_ediv_iff_mul_le hp]
    have : -K5 * 2 ^ n ≤ -K5 * 1 := Int.mul_le_mul_of_nonpos_left (by omega) (by omega)
    omega
  · by_cases hz : z < 0
    · have := Int.ediv_neg_of_neg_of_pos hz hp
      omega
    · have : z / 2 ^ n ≤ z := Int.ediv_le_self _ (by omega)
      omega
@[simp] theorem shr1S_app {k : Int} {p e : Nat} {env : Nat → Option Blk} {nxt : Nat} : shr1S [.int .i64 k, .ptr p 0, .ptr e 0] env nxt = match env p, env e with
    | some ⟨[.arr .u64 8 f], _⟩, some ⟨[.int .u64 c], _⟩ => if R8 f ∧ 0 ≤ k ∧ p ≠ e ∧ c = fillI (sval f) then .val (.int .u64 (limb (sval f) k.toNat)) [] [] else .fail
    | _, _ => .fail := rfl
noncomputable def shrS : List AV → PR
  | [.arr .u64 8 f, .int .i64 n] => if R8 f ∧ n < 9223372036854775808 then .val (W (sval f / 2 ^ (min n 511).toNat)) else .fail
  | _ => .fail
@[simp] theorem shrS_val {f : Nat → Int} {n : Int} (h : R8 f ∧ n < 9223372036854775808) : shrS [.arr .u64 8 f, .int .i64 n] = .val (W (sval f / 2 ^ (min n 511).toNat)) := if_pos h
theorem shr_fill {f : Nat → Int} (hf : R8 f) : IntKind.u64.wrap (shrA .i64 (IntKind.i64.wrap (f 7)) 63) = fillI (sval f) := by
  unfold fillI
  have h7 := hf 7 (by omega)
  have e : shrA .i64 (IntKind.i64.wrap (f 7)) 63 = IntKind.i64.wrap (f 7) / 9223372036854775808 := by
    simp only [shrA, IntKind.bits]
    rw [Int.fdiv_eq_ediv_of_nonneg _ (by decide)]; rfl
  have hn := neg_sval hf
  unfold negF at hn
  rw [e, wrap_u64_mod, IntKind.wrap_i64]
  by_cases hs : sval f < 0
  · rw [if_pos hs]
    have : 9223372036854775808 ≤ f 7 := by simpa [hs] using hn
    omega
  · rw [if_neg hs]
    have : ¬ 9223372036854775808 ≤ f 7 := by simpa [hs] using hn
    omega
end Go.X
end

section
namespace Go.X
open Go.Proofs
attribute [local irreducible] Good
def shrF (z : Int) (q r : Nat) (i : Nat) : Int := if 0 < r then limb z (i + q) / 2 ^ r + 2 ^ (64 - r) * (limb z (i + q + 1) % 2 ^ r) else limb z (i + q)
theorem shrF_limb {z : Int} {q r : Nat} (hr : r < 64) (i : Nat) : shrF z q r i = limb (z / 18446744073709551616 ^ q / 2 ^ r) i := by
  unfold shrF
  split
  · rename_i h
    rw [limb_right _ _ h hr, limb_up, limb_up, Nat.add_comm q i, show q + (i + 1) = i + q + 1 from by omega]
  · rename_i h
    have : r = 0 := by omega
    subst this
    rw [Int.pow_zero, Int.ediv_one, limb_up, Nat.add_comm q i]
set_option maxHeartbeats 4000000 in
theorem shr_loop {f : Nat → Int} (hf : R8 f) {q r : Nat} (hq : q < 8) (hr : r < 64) {m : Int} (hm : m = 64 * (q : Int) + r) {Q : Ex → St → Prop}
    (hQ : ∀ (ts : List AV) (g : Nat → Int), (∀ j, j < 8 → g j = shrF (sval f) q r j) → Fits [some (.arr .u64 8 f), some (.int .i64 m), some (.ptr 0 0), none, some (.ptr 1 0), some (.ptr 2 0), some (.fn 137 [.ptr 0 0, .ptr 2 0]), some (.ptr 3 0), none, none, none, none, none, none, none, none, none, none, none, none, none, none, none, none, none, none, none, none, none, none, none, none, none, none, none, none, none, none, none, none, none, none, none, none, none, none, none, none, none, none, none, none, none, none, none, none] ts →
      Q (.exit 0) ⟨ts, [⟨[.arr .u64 8 f], 76⟩, ⟨[.arr .u64 8 fun _ => 0], 76⟩, ⟨[.int .u64 (fillI (sval f))], 73⟩, ⟨[.arr .u64 8 g], 107⟩], []⟩)
    {c : Code} (hc : c = (match Tryz.f80.body with | some (.seq _ (.seq _ (.seq _ (.seq _ (.seq _ (.seq _ (.seq (.seq _ (.block _ (.loop c))) _))))))) => c | _ => .skip)) {ts : List AV} 
    (h0 : Fits [some (.arr .u64 8 f), some (.int .i64 m), some (.ptr 0 0), none, some (.ptr 1 0), some (.ptr 2 0), some (.fn 137 [.ptr 0 0, .ptr 2 0]), some (.ptr 3 0), none, none, none, none, none, none, none, none, none, none, none, none, none, none, some (.int .i64 0), none, none, none, none, none, none, none, none, none, none, none, none, none, none, none, none, none, none, none, none, none, none, none, none, none, none, none, none, none, none, none, none, none] ts) :
    Good (loopA (exec Tryz.T (stOf [(137, shr1S)]) (fun i => if i = 14 then some (.quiet 13) else none) 9 c) 9 ⟨ts, [⟨[.arr .u64 8 f], 76⟩, ⟨[.arr .u64 8 fun _ => 0], 76⟩, ⟨[.int .u64 (fillI (sval f))], 73⟩, ⟨[.arr .u64 8 fun _ => 0], 107⟩], []⟩) Q := by
  subst hc
  refine loop_rule (fun k s => ∃ i : Nat, i + k = 8 ∧ ∃ g : Nat → Int, (∀ j, j < i → g j = shrF (sval f) q r j) ∧ Fits [some (.arr .u64 8 f), some (.int .i64 m), some (.ptr 0 0), none, some (.ptr 1 0), some (.ptr 2 0), some (.fn 137 [.ptr 0 0, .ptr 2 0]), some (.ptr 3 0), none, none, none, none, none, none, none, none, none, none, none, none, none, none, some (.int .i64 i), none, none, none, none, none, none, none, none, none, none, none, none, none, none, none, none, none, none, none, none, none, none, none, none, none, none, none, none, none, none, none, none, none] s.ts ∧
    s.m = [⟨[.arr .u64 8 f], 76⟩, ⟨[.arr .u64 8 fun _ => 0], 76⟩, ⟨[.int .u64 (fillI (sval f))], 73⟩, ⟨[.arr .u64 8 g], 107⟩] ∧ s.df = []) ?_ 9 8 _ (by omega) ⟨0, rfl, fun _ => 0, fun j hj => absurd hj (by omega), h0, rfl, rfl⟩
  rintro k ⟨ts, mm, df⟩ ⟨i, hik, g, hg, hfit, hm', hd⟩
  simp only at hfit hm' hd
  subst hm' hd
  obtain ⟨l, rfl⟩ := fits_of hfit 0
  have td : m.tdiv 64 = q := by rw [Int.tdiv_eq_ediv_of_nonneg (by omega)]; omega
  have tm : m.tmod 64 = r := by rw [Int.tmod_eq_emod_of_nonneg (by omega)]; omega
  by_cases hi : i < 8
  · have hi1 : (i : Int) < 8 := by omega
    have hi2 : (0 : Int) ≤ i := by omega
    have w0 : IntKind.i64.wrap (q : Int) = q := wrap_i64_in (by omega) (by omega)
    have w1 : IntKind.i64.wrap ((i : Int) + q) = i + q := wrap_i64_in (by omega) (by omega)
    have w2 : IntKind.i64.wrap ((i : Int) + q + 1) = i + q + 1 := wrap_i64_in (by omega) (by omega)
    have w3 : IntKind.i64.wrap ((i : Int) + 1) = i + 1 := wrap_i64_in (by omega) (by omega)
    have g1 : (0 : Int) ≤ i + q := by omega
    have g2 : (0 : Int) ≤ i + q + 1 := by omega
    have n1 : ((i : Int) + q).toNat = i + q := by omega
    have n2 : ((i : Int) + q + 1).toNat = i + q + 1 := by omega
    have wt : IntKind.i64.wrap (64 - (r : Int)) = 64 - r := wrap_i64_in (by omega) (by omega)
    have gt : (64 - (r : Int)).toNat = 64 - r := by omega
    have ht : ¬ (64 - (r : Int)) < 0 := by omega
    have hrn : ¬ (r : Int) < 0 := by omega
    by_cases hr0 : 0 < r
    · have hr1 : (0 : Int) < r := by omega
      have ho := or_shift (limb_range (i + q) (sval f)).1 (limb_range (i + q) (sval f)).2 (y := limb (sval f) (i + q + 1)) hr0 hr
      simp [Tryz.f80, hi1, hi2, td, tm, w0, w1, w2, w3, g1, g2, n1, n2, wt, gt, ht, hrn, hf, hr0, hi, upd]
      refine ⟨k - 1, by omega, i + 1, by omega, fun j hj => ?_, by omega⟩
      by_cases hj' : j = i
      · subst hj'
        rw [if_pos rfl, ho]
        unfold shrF
        rw [if_pos hr0]
      · rw [if_neg hj', if_neg hj', hg j (by omega)]
    · have hr0 : r = 0 := by omega
      subst hr0
      have e0 : ∀ x : Int, shrA .u64 x 0 = x := fun x => by simp [shrA]
      simp [Tryz.f80, hi1, hi2, td, tm, w0, w1, w3, g1, n1, hf, hi, upd, e0]
      refine ⟨k - 1, by omega, i + 1, by omega, fun j hj => ?_, by omega⟩
      by_cases hj' : j = i
      · subst hj'
        rw [if_pos rfl]
        unfold shrF
        rw [if_neg (by omega)]
      · rw [if_neg hj', hg j (by omega)]
  · have hi1 : ¬ (i : Int) < 8 := by omega
    simp [Tryz.f80, hi1]
    refine hQ _ g (fun j hj => hg j (by omega)) ?_
    simp
theorem shr_ok : SumOk Tryz.prog 80 (pureS shrS) := by
  refine sum_fn (L := fun i => if i = 14 then some (.quiet 13) else none) (n := 9) (S := stOf [(137, shr1S)]) drawS Tryz.T_ok (stOf_ok (by simp [shr1_ok])) Tryz.func80 rfl (by kernel_rfl) (by kernel_rfl) ?_
    (by intro args v h; unfold shrS at h; split at h <;> (try split at h) <;> simp at h)
  intro args v h
  unfold shrS at h
  split at h
  · rename_i f n
    split at h
    · rename_i hc
      obtain ⟨hf, hn⟩ := hc
      cases h
      refine ⟨by simp, by simp, by simp, ?_⟩
      by_cases hneg : n < 0
      · simp [Tryz.f80, hneg]
        rw [show (min n 511).toNat = 0 from by omega]
        simp only [Int.pow_zero, Int.ediv_one]
        exact eqvW_self hf
      · obtain ⟨m, hm⟩ : ∃ m : Int, m = min n 511 := ⟨_, rfl⟩
        obtain ⟨q, r, hq, hr, hqr⟩ : ∃ q r : Nat, q < 8 ∧ r < 64 ∧ m = 64 * (q : Int) + r := ⟨(m / 64).toNat, (m % 64).toNat, by omega, by omega, by omega⟩
        have fill := shr_fill hf
        have fin : ∀ g : Nat → Int, (∀ j, j < 8 → g j = shrF (sval f) q r j) → Eqv (.arr .u64 8 g) (W (sval f / 2 ^ (min n 511).toNat)) := by
          intro g hg
          rw [show sval f / 2 ^ (min n 511).toNat = sval f / 18446744073709551616 ^ q / 2 ^ r from by rw [div_pow]; congr 2; omega]
          exact eqv_arr fun j hj => by rw [hg j hj, shrF_limb hr]
        by_cases hb : 511 < n
        · have hm' : m = 511 := by omega
          simp [-loopA_succ, Tryz.f80, hneg, hb, fill]
          simp only [good_bind, good_unblock]
          refine shr_loop hf hq hr (m := 511) (by omega) (fun ts g hg hfit => ?_) rfl ?_
          · obtain ⟨l, rfl⟩ := fits_of hfit 0
            simp
            exact fin g hg
          · simp
        · have hm' : m = n := by omega
          subst hm'
          simp [-loopA_succ, Tryz.f80, hneg, hb, fill]
          simp only [good_bind, good_unblock]
          refine shr_loop hf hq hr hqr (fun ts g hg hfit => ?_) rfl ?_
          · obtain ⟨l, rfl⟩ := fits_of hfit 0
            simp
            exact fin g hg
          · simp
    · simp at h
  · simp at h
end Go.X
end

section
namespace Go.X
open Go.Proofs
attribute [local irreducible] Good
def rMul : Shelf.Ren := ⟨fun _ => 128, fun t => if t = 46 then 108 else 73, fun x => x⟩
theorem laysMul : Lays.n264 Tryz.prog rMul where
  mixed := mixed
  f264 := by kernel_rfl
  t46 := by kernel_rfl
  a46 := fun _ => by kernel_rfl
  z46 := fun _ => by kernel_rfl
  v46 := fun _ => by kernel_rfl
  t53 := by kernel_rfl
  a53 := fun _ => by kernel_rfl
  z53 := fun _ => by kernel_rfl
  v53 := fun _ => by kernel_rfl
def mul64S : List AV → PR
  | [.int .u64 x, .int .u64 y] => if 0 ≤ x ∧ x < 18446744073709551616 ∧ 0 ≤ y ∧ y < 18446744073709551616 then .val (.tup [.int .u64 (x * y / 18446744073709551616), .int .u64 (x * y % 18446744073709551616)]) else .fail
  | _ => .fail
@[simp] theorem mul64S_val {x y : Int} (h : 0 ≤ x ∧ x < 18446744073709551616 ∧ 0 ≤ y ∧ y < 18446744073709551616) : mul64S [.int .u64 x, .int .u64 y] = .val (.tup [.int .u64 (x * y / 18446744073709551616), .int .u64 (x * y % 18446744073709551616)]) := if_pos h
theorem mul64_ok : SumOk Tryz.prog 128 (pureS mul64S) := by
  refine sum_calls Tryz.func128 (by kernel_rfl) (by kernel_rfl) ?_ (by intro args v h; unfold mul64S at h; split at h <;> (try split at h) <;> simp at h)
  intro args v h
  unfold mul64S at h
  split at h
  · split at h
    · cases h
      rename_i x y hx
      obtain ⟨a, rfl⟩ := Int.eq_ofNat_of_zero_le hx.1
      obtain ⟨b, rfl⟩ := Int.eq_ofNat_of_zero_le hx.2.2.1
      refine ⟨by simp [okv, solid, solidL], by simp, fun ρ w => ?_⟩
      have := Any.bits_Mul64 laysMul a b (by omega) (by omega) w
      simp only [Int.natCast_ediv, Int.natCast_emod, Int.natCast_mul] at this
      exact this
    · simp at h
  · simp at h
def leftF (f : Nat → Int) (q r : Nat) (i : Nat) : Int := if i < q then 0 else if 0 < r ∧ q < i then f (i - q) * 2 ^ r % 18446744073709551616 + f (i - q - 1) / 2 ^ (64 - r) else f (i - q) * 2 ^ r % 18446744073709551616
theorem or_left {x y : Int} (hx : 0 ≤ x) (hx1 : x < 18446744073709551616) {r : Nat} (h0 : 0 < r) (h1 : r < 64) : bitsA .or .u64 (shlA .u64 y r) (shrA .u64 x (64 - r)) = y * 2 ^ r % 18446744073709551616 + x / 2 ^ (64 - r) := by
  have hp : (0 : Int) < 2 ^ r := Int.pow_pos (by decide)
  have hq : (0 : Int) < 2 ^ (64 - r) := Int.pow_pos (by decide)
  have e64 : (18446744073709551616 : Int) = 2 ^ r * 2 ^ (64 - r) := by
    rw [← Int.pow_add, show r + (64 - r) = 64 from by omega]; rfl
  have e1 : shrA .u64 x (64 - r) = x / 2 ^ (64 - r) := by
    simp only [shrA, IntKind.bits]
    rw [show min (64 - r) 64 = 64 - r from by omega, Int.fdiv_eq_ediv_of_nonneg _ (Int.le_of_lt hq)]
  have e2 : shlA .u64 y r = y * 2 ^ r % 18446744073709551616 := by
    simp only [shlA, IntKind.bits, wrap_u64_mod]
    rw [show min r 64 = r from by omega]
  have e3 : y * 2 ^ r % 18446744073709551616 = 2 ^ r * (y % 2 ^ (64 - r)) := by
    rw [e64, Int.mul_comm y, Int.mul_emod_mul_of_pos _ _ hp]
  have b1 : x / 2 ^ (64 - r) < 2 ^ r := by
    apply Int.ediv_lt_of_lt_mul hq
    rw [← e64]; exact hx1
  have b2 : y % 2 ^ (64 - r) < 2 ^ (64 - r) := Int.emod_lt_of_pos _ hq
  have b3 : 0 ≤ y % 2 ^ (64 - r) := Int.emod_nonneg _ (by omega)
  have b4 : 0 ≤ x / 2 ^ (64 - r) := Int.ediv_nonneg hx (by omega)
  have hc : ∀ a b : Int, bitsA .or .u64 a b = bitsA .or .u64 b a := fun a b => by
    show IntKind.u64.wrap _ = IntKind.u64.wrap _
    rw [BitVec.or_comm]
  rw [e1, e2, e3, hc, or_add r (y % 2 ^ (64 - r)) b4 b1 b3 rfl, Int.add_comm]
  have : 2 ^ r * (y % 2 ^ (64 - r)) ≤ 2 ^ r * (2 ^ (64 - r) - 1) := Int.mul_le_mul_of_nonneg_left (by omega) (Int.le_of_lt hp)
  have e5 : (2 : Int) ^ r * (2 ^ (64 - r) - 1) = 18446744073709551616 - 2 ^ r := by rw [e64]; grind
  omega
end Go.X
end

section
namespace Go.X
theorem limb_mul0 (z : Int) (r : Nat) : limb (z * 2 ^ r) 0 = limb z 0 * 2 ^ r % 18446744073709551616 := by
  simp only [limb]
  conv => rhs; rw [Int.mul_emod, Int.emod_emod, ← Int.mul_emod]
theorem limb_mulS (z : Int) {r : Nat} (hr : r < 64) (i : Nat) : limb (z * 2 ^ r) (i + 1) = limb z (i + 1) * 2 ^ r % 18446744073709551616 + limb z i / 2 ^ (64 - r) := by
  have hp : (0 : Int) < 2 ^ r := Int.pow_pos (by decide)
  have hq : (0 : Int) < 2 ^ (64 - r) := Int.pow_pos (by decide)
  have e64 : (18446744073709551616 : Int) = 2 ^ r * 2 ^ (64 - r) := by
    rw [← Int.pow_add, show r + (64 - r) = 64 from by omega]; rfl
  have hB : (0 : Int) ≤ 18446744073709551616 ^ i := Int.pow_nonneg (by decide)
  have e1 : z * 2 ^ r / 18446744073709551616 ^ (i + 1) = z / 18446744073709551616 ^ i / 2 ^ (64 - r) := by
    rw [Int.pow_succ, e64, Int.ediv_ediv_of_nonneg (by rw [← e64]; exact hB), ← e64, show (18446744073709551616 : Int) ^ i * 18446744073709551616 = 2 ^ r * (18446744073709551616 ^ i * 2 ^ (64 - r)) from by rw [e64]; grind, Int.mul_comm z]
    exact Int.mul_ediv_mul_of_pos _ _ hp
  rw [limb_eq, limb_eq, limb_eq, e1, Int.pow_succ, ← Int.ediv_ediv_of_nonneg hB]
  generalize z / 18446744073709551616 ^ i = y
  generalize (2 : Int) ^ r = a at *
  generalize (2 : Int) ^ (64 - r) = b at *
  rw [e64]
  have hab : 0 < a * b := Int.mul_pos hp hq
  obtain ⟨u, hu⟩ : ∃ u, u = y / (a * b) := ⟨_, rfl⟩
  obtain ⟨v, hv⟩ : ∃ v, v = y % (a * b) := ⟨_, rfl⟩
  have hy : y = v + b * (a * u) := by
    have := Int.emod_add_mul_ediv y (a * b)
    rw [← hu, ← hv] at this
    rw [← this]; grind
  have hv0 : 0 ≤ v := by rw [hv]; exact Int.emod_nonneg _ (by omega)
  have hv1 : v < a * b := by rw [hv]; exact Int.emod_lt_of_pos _ hab
  rw [← hu, ← hv]
  have h1 : y / b = v / b + a * u := by
    rw [hy, Int.add_mul_ediv_left _ _ (by omega)]
  have h2 : u % (a * b) * a % (a * b) = a * (u % b) := by
    rw [Int.mul_emod, Int.emod_emod, ← Int.mul_emod, Int.mul_comm u, Int.mul_emod_mul_of_pos _ _ hp]
  have h3 : 0 ≤ u % b := Int.emod_nonneg _ (by omega)
  have h4 : u % b < b := Int.emod_lt_of_pos _ hq
  have h5 : 0 ≤ v / b := Int.ediv_nonneg hv0 (by omega)
  have h6 : v / b < a := Int.ediv_lt_of_lt_mul hq hv1
  have h7 : y / b = (a * (u % b) + v / b) + a * b * (u / b) := by
    have := Int.emod_add_mul_ediv u b
    rw [h1]
    conv => lhs; rw [← this]
    grind
  have h8 : a * (u % b) ≤ a * (b - 1) := Int.mul_le_mul_of_nonneg_left (by omega) (by omega)
  have h9 : a * (b - 1) = a * b - a := by grind
  have h10 : 0 ≤ a * (u % b) := Int.mul_nonneg (by omega) h3
  rw [h2, h7, Int.add_mul_emod_self_left, Int.emod_eq_of_lt (by omega) (by omega)]
theorem limb_mulB (z : Int) (q i : Nat) : limb (z * 18446744073709551616 ^ q) i = if i < q then 0 else limb z (i - q) := by
  induction q generalizing i with
  | zero => simp
  | succ q ih =>
    rw [Int.pow_succ, ← Int.mul_assoc]
    cases i with
    | zero => simp [limb]
    | succ i =>
      simp only [limb]
      rw [Int.mul_ediv_cancel _ (by decide), ih]
      by_cases h : i < q
      · rw [if_pos h, if_pos (by omega)]
      · rw [if_neg h, if_neg (by omega), show i + 1 - (q + 1) = i - q from by omega]
theorem leftF_limb {f : Nat → Int} (hf : R8 f) {q r : Nat} (hr : r < 64) {i : Nat} (hi : i < 8) : leftF f q r i = limb (uval f * 2 ^ (64 * q + r)) i := by
  have e : uval f * 2 ^ (64 * q + r) = uval f * 2 ^ r * 18446744073709551616 ^ q := by
    rw [Int.pow_add, Int.pow_mul, Int.mul_assoc, Int.mul_comm ((2 ^ 64 : Int) ^ q)]; rfl
  have g := limb_uval hf
  unfold leftF
  rw [e, limb_mulB]
  by_cases h : i < q
  · rw [if_pos h, if_pos h]
  · rw [if_neg h, if_neg h]
    obtain ⟨j, hj⟩ : ∃ j, j = i - q := ⟨_, rfl⟩
    rw [← hj]
    cases j with
    | zero => rw [if_neg (by omega), limb_mul0, g 0 (by omega)]
    | succ j =>
      rw [limb_mulS _ hr, g (j + 1) (by omega), g j (by omega)]
      by_cases h0 : 0 < r
      · rw [if_pos ⟨h0, by omega⟩]; rfl
      · have : r = 0 := by omega
        subst this
        have f1 := hf j (by omega)
        rw [if_neg (by omega), show f j / 2 ^ (64 - 0) = 0 from Int.ediv_eq_zero_of_lt f1.1 f1.2, Int.add_zero]
end Go.X
end

section
namespace Go.X
open Go.Proofs
attribute [local irreducible] Good
noncomputable def leftS : List AV → PR
  | [.arr .u64 8 f, .int .i64 n] => if R8 f ∧ 0 ≤ n ∧ n < 512 then .val (W (uval f * 2 ^ n.toNat)) else .fail
  | _ => .fail
@[simp] theorem leftS_val {f : Nat → Int} {n : Int} (h : R8 f ∧ 0 ≤ n ∧ n < 512) : leftS [.arr .u64 8 f, .int .i64 n] = .val (W (uval f * 2 ^ n.toNat)) := if_pos h
set_option maxHeartbeats 4000000 in
theorem left_loop {f : Nat → Int} (hf : R8 f) {q r : Nat} (hq : q < 8) (hr : r < 64) {n : Int} (hn : n = 64 * (q : Int) + r) {Q : Ex → St → Prop}
    (hQ : ∀ (ts : List AV) (g : Nat → Int), (∀ j, j < 8 → g j = leftF f q r j) → Fits [some (.arr .u64 8 f), some (.int .i64 n), some (.ptr 0 0), none, some (.ptr 1 0), some (.ptr 2 0), none, none, none, none, none, none, none, none, none, none, none, none, none, none, none, none, none, none, none, none, none, none, none, none, none, none, none, none, none, none, none, none, none, none, none, none, none, none, none, none, none, none, none, none] ts → Q (.exit 0) ⟨ts, [⟨[.arr .u64 8 f], 107⟩, ⟨[.arr .u64 8 fun _ => 0], 107⟩, ⟨[.arr .u64 8 g], 107⟩], []⟩)
    {c : Code} (hc : c = (match Tryz.f131.body with | some (.seq _ (.seq _ (.seq (.seq _ (.block _ (.loop c))) _))) => c | _ => .skip)) {ts : List AV}
    (h0 : Fits [some (.arr .u64 8 f), some (.int .i64 n), some (.ptr 0 0), none, some (.ptr 1 0), some (.ptr 2 0), some (.int .i64 q), none, none, none, none, none, none, none, none, none, none, none, none, none, none, none, none, none, none, none, none, none, none, none, none, none, none, none, none, none, none, none, none, none, none, none, none, none, none, none, none, none, none, none] ts) :
    Good (loopA (exec Tryz.T (stOf []) (fun i => if i = 7 then some (.quiet 16) else none) 9 c) 9 ⟨ts, [⟨[.arr .u64 8 f], 107⟩, ⟨[.arr .u64 8 fun _ => 0], 107⟩, ⟨[.arr .u64 8 fun _ => 0], 107⟩], []⟩) Q := by
  subst hc
  refine loop_rule (fun k s => ∃ i : Nat, i + k = 8 ∧ q ≤ i ∧ ∃ g : Nat → Int, (∀ j, j < i → g j = leftF f q r j) ∧ (∀ j, i ≤ j → g j = 0) ∧ Fits [some (.arr .u64 8 f), some (.int .i64 n), some (.ptr 0 0), none, some (.ptr 1 0), some (.ptr 2 0), some (.int .i64 i), none, none, none, none, none, none, none, none, none, none, none, none, none, none, none, none, none, none, none, none, none, none, none, none, none, none, none, none, none, none, none, none, none, none, none, none, none, none, none, none, none, none, none] s.ts ∧ s.m = [⟨[.arr .u64 8 f], 107⟩, ⟨[.arr .u64 8 fun _ => 0], 107⟩, ⟨[.arr .u64 8 g], 107⟩] ∧ s.df = []) ?_ 9 (8 - q) _ (by omega)
    ⟨q, by omega, by omega, fun _ => 0, fun j hj => by simp [leftF, hj], fun _ _ => rfl, h0, rfl, rfl⟩
  rintro k ⟨ts, mm, df⟩ ⟨i, hik, hqi, g, hg, hg0, hfit, hm', hd⟩
  simp only at hfit hm' hd
  subst hm' hd
  obtain ⟨l, rfl⟩ := fits_of hfit 0
  have td : n.tdiv 64 = q := by rw [Int.tdiv_eq_ediv_of_nonneg (by omega)]; omega
  have tm : n.tmod 64 = r := by rw [Int.tmod_eq_emod_of_nonneg (by omega)]; omega
  by_cases hi : i < 8
  · have hi1 : (i : Int) < 8 := by omega
    have hi2 : (0 : Int) ≤ i := by omega
    have w0 : IntKind.i64.wrap (q : Int) = q := wrap_i64_in (by omega) (by omega)
    have w1 : IntKind.i64.wrap ((i : Int) - q) = i - q := wrap_i64_in (by omega) (by omega)
    have w3 : IntKind.i64.wrap ((i : Int) + 1) = i + 1 := wrap_i64_in (by omega) (by omega)
    have g1 : (0 : Int) ≤ i - q := by omega
    have g2 : (i : Int) - q < 8 := by omega
    have n1 : ((i : Int) - q).toNat = i - q := by omega
    have hrn : ¬ (r : Int) < 0 := by omega
    have g0 := hg0 i (by omega)
    have m8 : i - q < 8 := by omega
    have m9 : i - q - 1 < 8 := by omega
    by_cases hr0 : 0 < r ∧ q < i
    · obtain ⟨hr0, hqi'⟩ := hr0
      have hr1 : (0 : Int) < r := by omega
      have wt : IntKind.i64.wrap (64 - (r : Int)) = 64 - r := wrap_i64_in (by omega) (by omega)
      have gt : (64 - (r : Int)).toNat = 64 - r := by omega
      have ht : ¬ (64 - (r : Int)) < 0 := by omega
      have w2 : IntKind.i64.wrap ((i : Int) - q - 1) = i - q - 1 := wrap_i64_in (by omega) (by omega)
      have g3 : (0 : Int) ≤ i - q - 1 := by omega
      have g4 : (i : Int) - q - 1 < 8 := by omega
      have n2 : ((i : Int) - q - 1).toNat = i - q - 1 := by omega
      have c1 : (q : Int) < i := by omega
      have c2 : (1 : Int) ≤ i - q := by omega
      have ff := hf (i - q - 1) (by omega)
      have ho := or_left ff.1 ff.2 (y := f (i - q)) hr0 hr
      simp [Tryz.f131, hi1, hi2, td, tm, w0, w1, w2, w3, g2, g4, n1, n2, wt, gt, ht, hrn, hr0, hi, upd, c1, hqi, m8, m9, c2]
      refine ⟨k - 1, by omega, i + 1, by omega, by omega, _, fun j hj => ?_, fun j hj => ?_, by omega, rfl⟩
      · by_cases hj' : j = i
        · subst hj'
          simp only [upd, if_true, ho, leftF]
          rw [if_neg (by omega), if_pos ⟨hr0, hqi'⟩]
        · simp only [upd, hj', if_false]
          exact hg j (by omega)
      · have hj' : ¬ j = i := by omega
        simp only [upd, hj', if_false]
        exact hg0 j (by omega)
    · have sh : shlA .u64 (f (i - q)) r = f (i - q) * 2 ^ r % 18446744073709551616 := by
        simp only [shlA, IntKind.bits, wrap_u64_mod]
        rw [show min r 64 = r from by omega]
      have last : ∃ k', k' < k ∧ ∃ i_1, i_1 + k' = 8 ∧ q ≤ i_1 ∧ ∃ g_1 : Nat → Int, (∀ j, j < i_1 → g_1 j = leftF f q r j) ∧ (∀ j, i_1 ≤ j → g_1 j = 0) ∧ (i : Int) + 1 = i_1 ∧ upd g i (shlA .u64 (f (i - q)) r) = g_1 := by
        refine ⟨k - 1, by omega, i + 1, by omega, by omega, _, fun j hj => ?_, fun j hj => ?_, by omega, rfl⟩
        · by_cases hj' : j = i
          · subst hj'
            simp only [upd, if_true, sh, leftF]
            rw [if_neg (by omega), if_neg hr0]
          · simp only [upd, hj', if_false]
            exact hg j (by omega)
        · have hj' : ¬ j = i := by omega
          simp only [upd, hj', if_false]
          exact hg0 j (by omega)
      by_cases hr1 : 0 < r
      · have hr2 : (0 : Int) < r := by omega
        have hqe : ¬ q < i := fun e => hr0 ⟨hr1, e⟩
        have c1 : ¬ (q : Int) < i := by omega
        simp [Tryz.f131, hi1, hi2, td, tm, w0, w1, w3, g2, n1, hrn, hr1, hi, hqi, m8, c1]
        exact last
      · have hr2 : ¬ (0 : Int) < r := by omega
        simp [Tryz.f131, hi1, hi2, td, tm, w0, w1, w3, g2, n1, hrn, hr1, hi, hqi, m8]
        exact last
  · have hi1 : ¬ (i : Int) < 8 := by omega
    simp [Tryz.f131, hi1]
    refine hQ _ g (fun j hj => hg j (by omega)) ?_
    simp
theorem left_ok : SumOk Tryz.prog 131 (pureS leftS) := by
  refine sum_fn (L := fun i => if i = 7 then some (.quiet 16) else none) (n := 9) (S := stOf []) drawS Tryz.T_ok (stOf_ok (by simp)) Tryz.func131 rfl (by kernel_rfl) (by kernel_rfl) ?_
    (by intro args v h; unfold leftS at h; split at h <;> (try split at h) <;> simp at h)
  intro args v h
  unfold leftS at h
  split at h
  · rename_i f n
    split at h
    · rename_i hc
      obtain ⟨hf, hn, hn'⟩ := hc
      cases h
      refine ⟨by simp, by simp, by simp, ?_⟩
      obtain ⟨q, r, hq, hr, hqr⟩ : ∃ q r : Nat, q < 8 ∧ r < 64 ∧ n = 64 * (q : Int) + r := ⟨(n / 64).toNat, (n % 64).toNat, by omega, by omega, by omega⟩
      have td : n.tdiv 64 = q := by rw [Int.tdiv_eq_ediv_of_nonneg (by omega)]; omega
      have w0 : IntKind.i64.wrap (q : Int) = q := wrap_i64_in (by omega) (by omega)
      simp [-loopA_succ, Tryz.f131, td, w0]
      simp only [good_bind, good_unblock]
      refine left_loop hf hq hr hqr (fun ts g hg hfit => ?_) rfl ?_
      · obtain ⟨l, rfl⟩ := fits_of hfit 0
        simp
        rw [show n.toNat = 64 * q + r from by omega]
        exact eqv_arr fun j hj => by rw [hg j hj, leftF_limb hf hr hj]
      · simp
    · simp at h
  · simp at h
end Go.X
end

section
namespace Go.X
theorem uval_upd {f : Nat → Int} {i : Nat} (hi : i < 8) (v : Int) : uval (upd f i v) = uval f + (v - f i) * 18446744073709551616 ^ i := by
  rcases eight hi with rfl | rfl | rfl | rfl | rfl | rfl | rfl | rfl <;> simp [uval, upd] <;> omega
def setF (f : Nat → Int) (j : Nat) : Nat → Int := upd f (j / 64) (bitsA .or .u64 (f (j / 64)) (shlA .u64 1 (j % 64)))
theorem set_limb {f : Nat → Int} (hf : R8 f) {j : Nat} (hj : j < 512) {c : Int} (hc : uval f = c * 2 ^ (j + 1)) : bitsA .or .u64 (f (j / 64)) (shlA .u64 1 (j % 64)) = f (j / 64) + 2 ^ (j % 64) ∧ f (j / 64) + 2 ^ (j % 64) < 18446744073709551616 := by
  obtain ⟨q, hq⟩ : ∃ q, q = j / 64 := ⟨_, rfl⟩
  obtain ⟨r, hr⟩ : ∃ r, r = j % 64 := ⟨_, rfl⟩
  rw [← hq, ← hr]
  have hq8 : q < 8 := by omega
  have hr64 : r < 64 := by omega
  have hf1 := hf q hq8
  have hl := limb_uval hf q hq8
  have hp : (0 : Int) < 2 ^ (r + 1) := Int.pow_pos (by decide)
  have hp0 : (0 : Int) < 2 ^ r := Int.pow_pos (by decide)
  have e2 : (2 : Int) ^ (r + 1) = 2 * 2 ^ r := by rw [Int.pow_succ]; omega
  have e64 : (18446744073709551616 : Int) = 2 ^ (r + 1) * 2 ^ (63 - r) := by
    rw [← Int.pow_add, show r + 1 + (63 - r) = 64 from by omega]; rfl
  have hm : f q = 2 ^ (r + 1) * (c % 2 ^ (63 - r)) := by
    rw [← hl, limb_eq, hc, show j + 1 = (r + 1) + 64 * q from by omega, Int.pow_add, Int.pow_mul, ← Int.mul_assoc]
    have : ((2 : Int) ^ 64) ^ q = 18446744073709551616 ^ q := rfl
    rw [this, Int.mul_ediv_cancel _ (Int.ne_of_gt (Int.pow_pos (by decide))), e64, Int.mul_comm c, Int.mul_emod_mul_of_pos _ _ hp]
  have hc0 : 0 ≤ c % 2 ^ (63 - r) := Int.emod_nonneg _ (Int.ne_of_gt (Int.pow_pos (by decide)))
  have hc1 : c % 2 ^ (63 - r) < 2 ^ (63 - r) := Int.emod_lt_of_pos _ (Int.pow_pos (by decide))
  have hle : 2 ^ (r + 1) * (c % 2 ^ (63 - r)) ≤ 2 ^ (r + 1) * (2 ^ (63 - r) - 1) := Int.mul_le_mul_of_nonneg_left (by omega) (Int.le_of_lt hp)
  have he : (2 : Int) ^ (r + 1) * (2 ^ (63 - r) - 1) = 18446744073709551616 - 2 ^ (r + 1) := by rw [e64]; grind
  have hs : shlA .u64 1 r = 2 ^ r := by
    simp only [shlA, IntKind.bits, wrap_u64_mod]
    rw [show min r 64 = r from by omega, Int.one_mul]
    have hpp : (0 : Int) < 2 ^ (63 - r) := Int.pow_pos (by decide)
    have : (2 : Int) ^ (r + 1) * 1 ≤ 2 ^ (r + 1) * 2 ^ (63 - r) := Int.mul_le_mul_of_nonneg_left (by omega) (Int.le_of_lt hp)
    rw [← e64] at this
    exact Int.emod_eq_of_lt (by omega) (by omega)
  have hcm : ∀ a b : Int, bitsA .or .u64 a b = bitsA .or .u64 b a := fun a b => by
    show IntKind.u64.wrap _ = IntKind.u64.wrap _
    rw [BitVec.or_comm]
  rw [hs, hcm, or_add (r + 1) (c % 2 ^ (63 - r)) (by omega) (by omega) hc0 hm (by omega)]
  omega
theorem set_val {f : Nat → Int} (hf : R8 f) {j : Nat} (hj : j < 512) {c : Int} (hc : uval f = c * 2 ^ (j + 1)) : R8 (setF f j) ∧ uval (setF f j) = uval f + 2 ^ j := by
  obtain ⟨h1, h2⟩ := set_limb hf hj hc
  have hp0 : (0 : Int) < 2 ^ (j % 64) := Int.pow_pos (by decide)
  constructor
  · intro i hi
    unfold setF upd
    split
    · rename_i e
      have := hf (j / 64) (by omega)
      rw [h1]; omega
    · exact hf i hi
  · unfold setF
    rw [uval_upd (by omega), h1]
    have : ((2 : Int) ^ 64) ^ (j / 64) = 18446744073709551616 ^ (j / 64) := rfl
    rw [show f (j / 64) + 2 ^ (j % 64) - f (j / 64) = 2 ^ (j % 64) from by omega, ← this, ← Int.pow_mul, ← Int.pow_add, show j % 64 + 64 * (j / 64) = j from by omega]
theorem less_val {f g : Nat → Int} (hf : R8 f) (hg : R8 g) (h : uval g ≤ uval f) : uval (plusF f (notF g) 1) = uval f - uval g := by
  have e := plus_val (f := f) (g := notF g) (c := 1)
  rw [not_val] at e
  have b1 := cy_bound hf (R8_not hg) (by decide : (0 : Int) ≤ 1) (by decide) 8 (by omega)
  have u1 := uval_bound hf
  have u2 := uval_bound hg
  have u3 := uval_bound (R8_plus f (notF g) 1)
  generalize cyF f (notF g) 1 8 = k at *
  generalize uval (plusF f (notF g) 1) = u at *
  generalize uval f = x at *
  generalize uval g = y at *
  have hk : k = 0 ∨ k = 1 := by omega
  have := K5_pos
  rcases hk with rfl | rfl <;> omega
end Go.X
end

section
namespace Go.X
open Go.Proofs
attribute [local irreducible] Good
structure Div (a b q r s : Nat → Int) (k : Nat) : Prop where
  hq : R8 q
  hr : R8 r
  hs : R8 s
  small : uval r < uval b * 2 ^ k
  sum : uval q * uval b + uval r = uval a
  bits : ∃ c, uval q = c * 2 ^ k
  step : ∀ j, k = j + 1 → uval s = uval b * 2 ^ j
theorem Div.take {a b q r s : Nat → Int} {j : Nat} (h : Div a b q r s (j + 1)) (hj : j < 512) (hge : uval s ≤ uval r) : Div a b (setF q j) (plusF r (notF s) 1) (halfF s) j := by
  obtain ⟨c, hc⟩ := h.bits
  obtain ⟨s1, s2⟩ := set_val h.hq hj hc
  have e := less_val h.hr h.hs hge
  have hs := h.step j rfl
  have hsum := h.sum
  have hsmall := h.small
  refine ⟨s1, R8_plus _ _ _, R8_half h.hs, ?_, ?_, ⟨2 * c + 1, ?_⟩, fun i hi => ?_⟩
  · rw [e, hs]
    rw [Int.pow_succ] at hsmall
    have : uval b * (2 ^ j * 2) = uval b * 2 ^ j + uval b * 2 ^ j := by grind
    omega
  · rw [s2, e, hs, Int.add_mul]
    have : (2 : Int) ^ j * uval b = uval b * 2 ^ j := Int.mul_comm _ _
    omega
  · rw [s2, hc, Int.pow_succ]; grind
  · subst hi
    rw [half_val h.hs, hs, Int.pow_succ, ← Int.mul_assoc, Int.mul_ediv_cancel _ (by decide)]
theorem Div.pass {a b q r s : Nat → Int} {j : Nat} (h : Div a b q r s (j + 1)) (hlt : uval r < uval s) : Div a b q r (halfF s) j := by
  obtain ⟨c, hc⟩ := h.bits
  have hs := h.step j rfl
  refine ⟨h.hq, h.hr, R8_half h.hs, by rw [← hs]; exact hlt, h.sum, ⟨c * 2, ?_⟩, fun i hi => ?_⟩
  · rw [hc, Int.pow_succ]; grind
  · subst hi
    rw [half_val h.hs, hs, Int.pow_succ, ← Int.mul_assoc, Int.mul_ediv_cancel _ (by decide)]
theorem app0 {α : Type} {o l : List α} {t : α} : (o ++ t :: l)[o.length]? = some t := by simp
theorem app1 {α : Type} {o l : List α} {t u : α} : (o ++ t :: u :: l)[o.length + 1]? = some u := by
  rw [List.getElem?_append_right (by omega), show o.length + 1 - o.length = 1 from by omega]; rfl
theorem mod0 {α : Type} {l : List α} {t : α} {f : α → α} : ∀ {o : List α}, (o ++ t :: l).modify o.length f = o ++ f t :: l
  | [] => rfl
  | a :: o => by simp only [List.cons_append, List.length_cons, List.modify_succ_cons]; rw [mod0]
theorem mod1 {α : Type} {l : List α} {t u : α} {f : α → α} : ∀ {o : List α}, (o ++ t :: u :: l).modify (o.length + 1) f = o ++ t :: f u :: l
  | [] => rfl
  | a :: o => by simp only [List.cons_append, List.length_cons, List.modify_succ_cons]; rw [mod1]
set_option maxHeartbeats 4000000 in
theorem parts_loop {a b : Nat → Int} {s0 : Nat → Int} {k0 : Nat} (hk0 : k0 ≤ 512) (hd0 : Div a b (fun _ => 0) a s0 k0) {Q : Ex → St → Prop}
    (hQ : ∀ (ts : List AV) (q r s : Nat → Int) (old : List Blk), Div a b q r s 0 → Fits [some (.arr .u64 8 a), some (.arr .u64 8 b), some (.ptr 0 0), some (.ptr 1 0), some (.ptr 2 0), some (.ptr 3 0), none, none, none, none, none, none, none, none, none, none, none, none, none, none, none, none, none, none, none, none, none, none, none, none, none, none, none, none, none, none, none, none, none, none, none, none, none, none, none, none, none] ts → Q (.exit 0) ⟨ts, ⟨[.arr .u64 8 a], 107⟩ :: ⟨[.arr .u64 8 b], 107⟩ :: ⟨[.arr .u64 8 q], 107⟩ :: ⟨[.arr .u64 8 r], 107⟩ :: (old ++ [⟨[.arr .u64 8 s], 107⟩]), []⟩)
    {c : Code} (hc : c = (match Tryz.f72.body with | some (.seq _ (.seq _ (.seq _ (.seq _ (.seq (.seq _ (.block _ (.loop c))) _))))) => c | _ => .skip)) {ts : List AV}
    (h0 : Fits [some (.arr .u64 8 a), some (.arr .u64 8 b), some (.ptr 0 0), some (.ptr 1 0), some (.ptr 2 0), some (.ptr 3 0), some (.int .i64 ((k0 : Int) - 1)), some (.ptr 4 0), none, none, none, none, none, none, none, none, none, none, none, none, none, none, none, none, none, none, none, none, none, none, none, none, none, none, none, none, none, none, none, none, none, none, none, none, none, none, none] ts) :
    Good (loopA (exec Tryz.T (stOf [(130, pureS lengthS), (131, pureS leftS), (132, pureS aboveS), (75, pureS plusS), (76, pureS notS), (133, pureS halfS)]) (fun i => if i = 3 then some (.orders [[0, 1, 2, 3], [1, 0, 2, 3], [0, 2, 1, 3]]) else if i = 9 then some (.quiet 4) else if i = 10 then some (.quiet 9) else if i = 14 then some (.orders [[0, 1, 2, 3], [1, 0, 2, 3], [0, 2, 1, 3]]) else none) 514 c) 514 ⟨ts, [⟨[.arr .u64 8 a], 107⟩, ⟨[.arr .u64 8 b], 107⟩, ⟨[.arr .u64 8 fun _ => 0], 107⟩, ⟨[.arr .u64 8 a], 107⟩, ⟨[.arr .u64 8 s0], 107⟩], []⟩) Q := by
  subst hc
  refine loop_rule (fun k s => k ≤ 512 ∧ ∃ (q r t : Nat → Int) (old : List Blk), Div a b q r t k ∧ Fits [some (.arr .u64 8 a), some (.arr .u64 8 b), some (.ptr 0 0), some (.ptr 1 0), some (.ptr 2 0), some (.ptr 3 0), some (.int .i64 ((k : Int) - 1)), some (.ptr (old.length + 4) 0), none, none, none, none, none, none, none, none, none, none, none, none, none, none, none, none, none, none, none, none, none, none, none, none, none, none, none, none, none, none, none, none, none, none, none, none, none, none, none] s.ts ∧ s.m = ⟨[.arr .u64 8 a], 107⟩ :: ⟨[.arr .u64 8 b], 107⟩ :: ⟨[.arr .u64 8 q], 107⟩ :: ⟨[.arr .u64 8 r], 107⟩ :: (old ++ [⟨[.arr .u64 8 t], 107⟩]) ∧ s.df = []) ?_ 514 k0 _ (by omega)
    ⟨hk0, fun _ => 0, a, s0, [], hd0, h0, rfl, rfl⟩
  rintro k ⟨ts, mm, df⟩ ⟨hk, q, r, t, old, hdiv, hfit, hm', hd⟩
  simp only at hfit hm' hd
  subst hm' hd
  obtain ⟨l, rfl⟩ := fits_of hfit 0
  cases k with
  | zero =>
    simp [-loopA_succ, Tryz.f72]
    refine hQ _ q r t old hdiv ?_
    simp
  | succ j =>
    obtain ⟨p, hp⟩ : ∃ p, p = j / 64 := ⟨_, rfl⟩
    obtain ⟨o, ho⟩ : ∃ o, o = j % 64 := ⟨_, rfl⟩
    have td : (j : Int).tdiv 64 = p := by rw [Int.tdiv_eq_ediv_of_nonneg (by omega)]; omega
    have tm : (j : Int).tmod 64 = o := by rw [Int.tmod_eq_emod_of_nonneg (by omega)]; omega
    have w0 : IntKind.i64.wrap (p : Int) = p := wrap_i64_in (by omega) (by omega)
    have w1 : IntKind.i64.wrap ((j : Int) - 1) = j - 1 := wrap_i64_in (by omega) (by omega)
    have hp8 : p < 8 := by omega
    have hp1 : (p : Int) < 8 := by omega
    have hon : ¬ (o : Int) < 0 := by omega
    have hset : upd q p (bitsA .or .u64 (q p) (shlA .u64 1 o)) = setF q j := by rw [hp, ho]; rfl
    have hq := hdiv.hq
    have hr := hdiv.hr
    have hs := hdiv.hs
    have hns := R8_not hs
    by_cases hge : uval t ≤ uval r
    · have hcmp : 0 ≤ cmpI (uval r) (uval t) := by unfold cmpI; split <;> (try split) <;> omega
      have hnext := hdiv.take (by omega) hge
      simp [-loopA_succ, Tryz.f72, td, tm, w0, w1, hp8, hp1, hon, hr, hs, hns, hcmp, mod0, mod1]
      exact ⟨j, by omega, by omega, setF q j, plusF r (notF t) 1, halfF t, hnext, old ++ [⟨[.arr .u64 8 (halfF t)], 107⟩], ⟨rfl, by simp⟩, hset, rfl, by simp⟩
    · have hcmp : ¬ 0 ≤ cmpI (uval r) (uval t) := by unfold cmpI; split <;> (try split) <;> omega
      have hnext := hdiv.pass (by omega)
      simp [-loopA_succ, Tryz.f72, w1, hr, hs, hcmp, mod0, mod1]
      exact ⟨j, by omega, by omega, q, r, halfF t, hnext, old ++ [⟨[.arr .u64 8 (halfF t)], 107⟩], ⟨rfl, by simp⟩, rfl, rfl, by simp⟩
end Go.X
end

section
namespace Go.X
open Go.Proofs
attribute [local irreducible] Good
theorem blen_lt {z : Int} (h : 0 ≤ z) : z < 2 ^ (blen z).toNat := by
  obtain ⟨n, rfl⟩ := Int.eq_ofNat_of_zero_le h
  have := (bitLen_spec n).1
  unfold blen
  simp only [Int.toNat_natCast]
  exact_mod_cast this
theorem blen_ge {z : Int} (h : 0 < z) : 0 < blen z ∧ 2 ^ ((blen z).toNat - 1) ≤ z := by
  obtain ⟨n, rfl⟩ := Int.eq_ofNat_of_zero_le (Int.le_of_lt h)
  have hn : n ≠ 0 := by omega
  have := (bitLen_spec n).2 hn
  unfold blen
  simp only [Int.toNat_natCast]
  refine ⟨?_, by exact_mod_cast this⟩
  unfold bitLen
  rw [if_neg hn]; omega
theorem K5_pow : 2 * K5 = 2 ^ 512 := by
  rw [show 512 = 64 * 8 from rfl, Int.pow_mul]
  unfold K5
  rfl
theorem blen_le_pow {z : Int} (n : Nat) (h : z < 2 ^ n) : blen z ≤ n := by
  unfold blen bitLen
  split
  · omega
  · rename_i hz
    have : z.toNat < 2 ^ n := by
      have h2 : (z.toNat : Int) < ((2 ^ n : Nat) : Int) := by
        have e : ((2 ^ n : Nat) : Int) = 2 ^ n := by simp
        rw [e]
        by_cases h0 : 0 ≤ z
        · rw [Int.toNat_of_nonneg h0]; exact h
        · have : (0 : Int) < 2 ^ n := Int.pow_pos (by decide)
          omega
      exact Int.ofNat_lt.1 h2
    have := (Nat.log2_lt hz).2 this
    omega
theorem blen_le {z : Int} (h : z < 2 * K5) : blen z ≤ 512 := by
  rw [K5_pow] at h
  exact blen_le_pow 512 h
theorem blen_nonneg (z : Int) : 0 ≤ blen z := by unfold blen; omega
theorem pow_le {a b : Nat} (h : a ≤ b) : (2 : Int) ^ a ≤ 2 ^ b := by
  have := Nat.pow_le_pow_right (show 0 < 2 from by decide) h
  exact_mod_cast this
noncomputable def partsS : List AV → PR
  | [.arr .u64 8 f, .arr .u64 8 g] => if R8 f ∧ R8 g ∧ 0 < uval g then .val (.tup [W (uval f / uval g), W (uval f % uval g)]) else .fail
  | _ => .fail
@[simp] theorem partsS_val {f g : Nat → Int} (h : R8 f ∧ R8 g ∧ 0 < uval g) : partsS [.arr .u64 8 f, .arr .u64 8 g] = .val (.tup [W (uval f / uval g), W (uval f % uval g)]) := if_pos h
theorem eqvU {f : Nat → Int} (h : R8 f) {z : Int} (hz : uval f = z) : Eqv (.arr .u64 8 f) (W z) := eqvW h ⟨0, by omega⟩
theorem parts_ok : SumOk Tryz.prog 72 (pureS partsS) := by
  refine sum_fn (L := (fun i => if i = 3 then some (.orders [[0, 1, 2, 3], [1, 0, 2, 3], [0, 2, 1, 3]]) else if i = 9 then some (.quiet 4) else if i = 10 then some (.quiet 9) else if i = 14 then some (.orders [[0, 1, 2, 3], [1, 0, 2, 3], [0, 2, 1, 3]]) else none)) (n := 514) (S := (stOf [(130, pureS lengthS), (131, pureS leftS), (132, pureS aboveS), (75, pureS plusS), (76, pureS notS), (133, pureS halfS)])) drawS Tryz.T_ok (stOf_ok (by simp [length_ok, left_ok, above_ok, plus_ok, not_ok, half_ok])) Tryz.func72 rfl (by kernel_rfl) (by kernel_rfl) ?_
    (by intro args v h; unfold partsS at h; split at h <;> (try split at h) <;> simp at h)
  intro args v h
  unfold partsS at h
  split at h
  · rename_i f g
    split at h
    · rename_i hc
      obtain ⟨hf, hg, hpos⟩ := hc
      cases h
      refine ⟨by simp, by simp, by simp, ?_⟩
      have uf := uval_bound hf
      have ug := uval_bound hg
      have lf := blen_le uf.2.1; have lg := blen_le ug.2.1
      have mf := blen_nonneg (uval f); have mg := blen_nonneg (uval g)
      have bf := blen_lt uf.1
      have bg := blen_ge hpos
      have bg1 := blen_lt ug.1
      have w0 : IntKind.i64.wrap (blen (uval f) - blen (uval g)) = blen (uval f) - blen (uval g) := wrap_i64_in (by omega) (by omega)
      by_cases hn : blen (uval f) - blen (uval g) < 0
      · -- the size is less
        have hlt : uval f < uval g := by
          have := pow_le (a := (blen (uval f)).toNat) (b := (blen (uval g)).toNat - 1) (by omega)
          omega
        simp [-loopA_succ, Tryz.f72, hf, hg, w0, hn]
        rw [Int.ediv_eq_zero_of_lt uf.1 hlt, Int.emod_eq_of_lt uf.1 hlt]
        exact eqv_tup2 (eqvW_of R8_zero sval_zero) (eqvU hf rfl)
      · obtain ⟨n, hnn⟩ : ∃ n : Nat, blen (uval f) - blen (uval g) = n := ⟨(blen (uval f) - blen (uval g)).toNat, by omega⟩
        have hn5 : n < 512 := by omega
        have hn6 : (n : Int) < 512 := by omega
        have hp : (0 : Int) < 2 ^ n := Int.pow_pos (by decide)
        have h1 : uval g * 2 ^ n < 2 * K5 := by
          have e : uval g * 2 ^ n < 2 ^ (blen (uval g)).toNat * 2 ^ n := Int.mul_lt_mul_of_pos_right bg1 hp
          rw [← Int.pow_add] at e
          have := pow_le (a := (blen (uval g)).toNat + n) (b := 512) (by omega)
          rw [K5_pow]; omega
        have h2 : uval f < uval g * 2 ^ (n + 1) := by
          have e : 2 ^ ((blen (uval g)).toNat - 1) * 2 ^ (n + 1) ≤ uval g * 2 ^ (n + 1) := Int.mul_le_mul_of_nonneg_right bg.2 (Int.le_of_lt (Int.pow_pos (by decide)))
          rw [← Int.pow_add, show (blen (uval g)).toNat - 1 + (n + 1) = (blen (uval f)).toNat from by omega] at e
          omega
        have hs : uval (limb (uval g * 2 ^ n)) = uval g * 2 ^ n := by
          rw [uval_limb, Int.emod_eq_of_lt (Int.mul_nonneg ug.1 (Int.le_of_lt hp)) h1]
        have hstep : ∀ j, n + 1 = j + 1 → uval (limb (uval g * 2 ^ n)) = uval g * 2 ^ j := by
          intro j hj
          rw [hs, show j = n from by omega]
        have hd0 : Div f g (fun _ => 0) f (limb (uval g * 2 ^ n)) (n + 1) := ⟨R8_zero, hf, R8_limb _, h2, by rw [zero_val]; omega, ⟨0, by rw [zero_val]; omega⟩, hstep⟩
        rw [hnn] at w0 hn
        have hn' : ¬ (n : Int) < 0 := hn
        simp [-loopA_succ, Tryz.f72, hf, hg, w0, hnn, hn', hn6]
        simp only [good_bind, good_unblock]
        refine parts_loop (k0 := n + 1) (by omega) hd0 (fun ts q r s old hdiv hfit => ?_) rfl ?_
        · obtain ⟨l, rfl⟩ := fits_of hfit 0
          have hsm := hdiv.small
          have hsum := hdiv.sum
          rw [Int.pow_zero, Int.mul_one] at hsm
          have hr0 := (uval_bound hdiv.hr).1
          have e1 : uval f / uval g = uval q := by
            rw [← hsum, Int.add_comm, Int.add_mul_ediv_right _ _ (by omega), Int.ediv_eq_zero_of_lt hr0 hsm]; omega
          have e2 : uval f % uval g = uval r := by
            rw [← hsum, Int.add_comm, Int.add_mul_emod_self_right, Int.emod_eq_of_lt hr0 hsm]
          simp
          rw [e1, e2]
          exact eqv_tup2 (eqvU hdiv.hq rfl) (eqvU hdiv.hr rfl)
        · simp
    · simp at h
  · simp at h
end Go.X
end

section
namespace Go.X
def quoI (a b : Int) : Int := if 0 < b then a / b else (-a) / (-b)
def remI (a b : Int) : Int := a - quoI a b * b
theorem quoI_of {a b q r : Int} (h : a = q * b + r) (hr : (0 ≤ r ∧ r < b) ∨ (b < r ∧ r ≤ 0)) : quoI a b = q ∧ remI a b = r := by
  have hq : quoI a b = q := by
    unfold quoI
    rcases hr with hr | hr
    · rw [if_pos (by omega), h, Int.add_comm, Int.add_mul_ediv_right _ _ (by omega), Int.ediv_eq_zero_of_lt hr.1 hr.2]; omega
    · rw [if_neg (by omega), h, show -(q * b + r) = -r + q * -b from by rw [Int.mul_neg]; omega, Int.add_mul_ediv_right _ _ (by omega), Int.ediv_eq_zero_of_lt (by omega) (by omega)]; omega
  refine ⟨hq, ?_⟩
  unfold remI
  rw [hq, h]; omega
theorem quoI_spec (a : Int) {b : Int} (hb : b ≠ 0) : a = quoI a b * b + remI a b ∧ ((0 < b ∧ 0 ≤ remI a b ∧ remI a b < b) ∨ (b < 0 ∧ b < remI a b ∧ remI a b ≤ 0)) := by
  refine ⟨by unfold remI; omega, ?_⟩
  unfold remI quoI
  by_cases h : 0 < b
  · rw [if_pos h]
    have h1 := Int.emod_nonneg a hb
    have h2 := Int.emod_lt_of_pos a h
    have h3 := Int.mul_ediv_add_emod a b
    rw [Int.mul_comm] at h3
    exact .inl ⟨h, by omega, by omega⟩
  · rw [if_neg h]
    have h1 := Int.emod_nonneg (-a) (b := -b) (by omega)
    have h2 := Int.emod_lt_of_pos (-a) (b := -b) (by omega)
    have h3 := Int.mul_ediv_add_emod (-a) (-b)
    rw [Int.mul_comm, Int.mul_neg] at h3
    exact .inr ⟨by omega, by omega, by omega⟩
theorem quoI_parts {a b A B q r : Int} (hA : A = if a < 0 then -a else a) (hB : B = if b < 0 then -b else b) (hb : b ≠ 0) (hq : q = A / B) (hr : r = A % B) :
    0 ≤ q ∧ q ≤ A ∧ 0 ≤ r ∧ r < B ∧ (if (a < 0 ↔ b < 0) then quoI a b = q ∧ remI a b = (if b < 0 then -r else r)
      else if r = 0 then quoI a b = -q ∧ remI a b = 0 else quoI a b = -(q + 1) ∧ remI a b = if b < 0 then -(B - r) else B - r) := by
  have hBp : 0 < B := by rw [hB]; split <;> omega
  have hAp : 0 ≤ A := by rw [hA]; split <;> omega
  have h1 := Int.emod_nonneg A (show B ≠ 0 by omega)
  have h2 := Int.emod_lt_of_pos A hBp
  have h3 := Int.mul_ediv_add_emod A B
  have h4 := Int.ediv_nonneg hAp (Int.le_of_lt hBp)
  have h5 : A / B ≤ A := Int.ediv_le_self B hAp
  rw [← hq] at h3 h4 h5; rw [← hr] at h1 h2 h3
  refine ⟨h4, h5, h1, h2, ?_⟩
  rw [Int.mul_comm] at h3
  by_cases ha : a < 0 <;> by_cases hb' : b < 0 <;> simp only [ha, hb', if_true, if_false] at hA hB ⊢ <;> (try simp only [iff_true, iff_false, not_true, if_false])
  · exact quoI_of (by rw [hB, Int.mul_neg] at h3; omega) (.inr (by omega))
  · by_cases hz : r = 0
    · rw [if_pos hz]; exact quoI_of (by rw [Int.neg_mul, ← hB]; omega) (.inl (by omega))
    · rw [if_neg hz]; exact quoI_of (by rw [Int.neg_mul, Int.add_mul, ← hB]; omega) (.inl (by omega))
  · by_cases hz : r = 0
    · rw [if_pos hz]; exact quoI_of (by rw [hB, Int.mul_neg] at h3; rw [Int.neg_mul]; omega) (.inr (by omega))
    · rw [if_neg hz]; exact quoI_of (by rw [hB, Int.mul_neg] at h3; rw [Int.neg_mul, Int.add_mul]; omega) (.inr (by omega))
  · exact quoI_of (by rw [← hB]; omega) (.inl (by omega))
end Go.X
end

section
namespace Go.X
open Go.Proofs
attribute [local irreducible] Good
theorem plus_uval {f g : Nat → Int} {c : Int} : R8 (plusF f g c) ∧ uval (plusF f g c) = (uval f + uval g + c) % (2 * K5) := by
  have h := plus_val (f := f) (g := g) (c := c)
  have hs := R8_plus f g c
  have b := uval_bound hs
  refine ⟨hs, ?_⟩
  rw [← h, Int.mul_comm (2 * K5), Int.add_mul_emod_self_right, Int.emod_eq_of_lt b.1 b.2.1]
noncomputable def quoV (a b : Int) : AV := if b ≠ 0 ∧ InW (quoI a b) then .tup [W (quoI a b), W (remI a b), .bool true] else .tup [W 0, W 0, .bool false]
noncomputable def divS : List AV → PR
  | [.arr .u64 8 f, .arr .u64 8 g] => if R8 f ∧ R8 g then .val (quoV (sval f) (sval g)) else .fail
  | _ => .fail
@[simp] theorem divS_val {f : Nat → Int} {g : Nat → Int} (h : R8 f ∧ R8 g) : divS [.arr .u64 8 f, .arr .u64 8 g] = .val (quoV (sval f) (sval g)) := if_pos h
def divO : List (List Nat) := [[0,1,2,3,4,5,6,7,8,9,10],[0,1,2,4,3,5,6,7,8,9,10],[0,1,2,4,5,3,6,7,8,9,10],[0,1,2,4,5,6,3,7,8,9,10],[0,1,3,2,4,5,6,7,8,9,10],[0,1,3,4,2,5,6,7,8,9,10],[0,1,3,4,5,2,6,7,8,9,10],[0,1,4,2,3,5,6,7,8,9,10],[0,1,4,2,5,3,6,7,8,9,10],[0,1,4,2,5,6,3,7,8,9,10],[0,1,4,3,2,5,6,7,8,9,10],[0,1,4,3,5,2,6,7,8,9,10],[0,1,4,5,2,3,6,7,8,9,10],[0,1,4,5,2,6,3,7,8,9,10],[0,1,4,5,3,2,6,7,8,9,10],[0,3,1,2,4,5,6,7,8,9,10],[0,3,1,4,2,5,6,7,8,9,10],[0,3,1,4,5,2,6,7,8,9,10],[0,3,4,1,2,5,6,7,8,9,10],[0,3,4,1,5,2,6,7,8,9,10],[0,3,4,5,1,2,6,7,8,9,10],[0,4,1,2,3,5,6,7,8,9,10],[0,4,1,2,5,3,6,7,8,9,10],[0,4,1,2,5,6,3,7,8,9,10],[0,4,1,3,2,5,6,7,8,9,10],[0,4,1,3,5,2,6,7,8,9,10],[0,4,1,5,2,3,6,7,8,9,10],[0,4,1,5,2,6,3,7,8,9,10],[0,4,1,5,3,2,6,7,8,9,10],[0,4,3,1,2,5,6,7,8,9,10],[0,4,3,1,5,2,6,7,8,9,10],[0,4,3,5,1,2,6,7,8,9,10],[0,4,5,1,2,3,6,7,8,9,10],[0,4,5,1,2,6,3,7,8,9,10],[0,4,5,1,3,2,6,7,8,9,10],[0,4,5,3,1,2,6,7,8,9,10],[1,0,2,3,4,5,6,7,8,9,10],[1,0,2,4,3,5,6,7,8,9,10],[1,0,2,4,5,3,6,7,8,9,10],[1,0,2,4,5,6,3,7,8,9,10],[1,0,3,2,4,5,6,7,8,9,10],[1,0,3,4,2,5,6,7,8,9,10],[1,0,3,4,5,2,6,7,8,9,10],[1,0,4,2,3,5,6,7,8,9,10],[1,0,4,2,5,3,6,7,8,9,10],[1,0,4,2,5,6,3,7,8,9,10],[1,0,4,3,2,5,6,7,8,9,10],[1,0,4,3,5,2,6,7,8,9,10],[1,0,4,5,2,3,6,7,8,9,10],[1,0,4,5,2,6,3,7,8,9,10],[1,0,4,5,3,2,6,7,8,9,10],[1,3,0,2,4,5,6,7,8,9,10],[1,3,0,4,2,5,6,7,8,9,10],[1,3,0,4,5,2,6,7,8,9,10],[1,3,4,0,2,5,6,7,8,9,10],[1,3,4,0,5,2,6,7,8,9,10],[1,3,4,5,0,2,6,7,8,9,10],[1,4,0,2,3,5,6,7,8,9,10],[1,4,0,2,5,3,6,7,8,9,10],[1,4,0,2,5,6,3,7,8,9,10],[1,4,0,3,2,5,6,7,8,9,10],[1,4,0,3,5,2,6,7,8,9,10],[1,4,0,5,2,3,6,7,8,9,10],[1,4,0,5,2,6,3,7,8,9,10],[1,4,0,5,3,2,6,7,8,9,10],[1,4,3,0,2,5,6,7,8,9,10],[1,4,3,0,5,2,6,7,8,9,10],[1,4,3,5,0,2,6,7,8,9,10],[1,4,5,0,2,3,6,7,8,9,10],[1,4,5,0,2,6,3,7,8,9,10],[1,4,5,0,3,2,6,7,8,9,10],[1,4,5,3,0,2,6,7,8,9,10],[3,0,1,2,4,5,6,7,8,9,10],[3,0,1,4,2,5,6,7,8,9,10],[3,0,1,4,5,2,6,7,8,9,10],[3,0,4,1,2,5,6,7,8,9,10],[3,0,4,1,5,2,6,7,8,9,10],[3,0,4,5,1,2,6,7,8,9,10],[3,1,0,2,4,5,6,7,8,9,10],[3,1,0,4,2,5,6,7,8,9,10],[3,1,0,4,5,2,6,7,8,9,10],[3,1,4,0,2,5,6,7,8,9,10],[3,1,4,0,5,2,6,7,8,9,10],[3,1,4,5,0,2,6,7,8,9,10],[3,4,0,1,2,5,6,7,8,9,10],[3,4,0,1,5,2,6,7,8,9,10],[3,4,0,5,1,2,6,7,8,9,10],[3,4,1,0,2,5,6,7,8,9,10],[3,4,1,0,5,2,6,7,8,9,10],[3,4,1,5,0,2,6,7,8,9,10],[3,4,5,0,1,2,6,7,8,9,10],[3,4,5,1,0,2,6,7,8,9,10],[4,0,1,2,3,5,6,7,8,9,10],[4,0,1,2,5,3,6,7,8,9,10],[4,0,1,2,5,6,3,7,8,9,10],[4,0,1,3,2,5,6,7,8,9,10],[4,0,1,3,5,2,6,7,8,9,10],[4,0,1,5,2,3,6,7,8,9,10],[4,0,1,5,2,6,3,7,8,9,10],[4,0,1,5,3,2,6,7,8,9,10],[4,0,3,1,2,5,6,7,8,9,10],[4,0,3,1,5,2,6,7,8,9,10],[4,0,3,5,1,2,6,7,8,9,10],[4,0,5,1,2,3,6,7,8,9,10],[4,0,5,1,2,6,3,7,8,9,10],[4,0,5,1,3,2,6,7,8,9,10],[4,0,5,3,1,2,6,7,8,9,10],[4,1,0,2,3,5,6,7,8,9,10],[4,1,0,2,5,3,6,7,8,9,10],[4,1,0,2,5,6,3,7,8,9,10],[4,1,0,3,2,5,6,7,8,9,10],[4,1,0,3,5,2,6,7,8,9,10],[4,1,0,5,2,3,6,7,8,9,10],[4,1,0,5,2,6,3,7,8,9,10],[4,1,0,5,3,2,6,7,8,9,10],[4,1,3,0,2,5,6,7,8,9,10],[4,1,3,0,5,2,6,7,8,9,10],[4,1,3,5,0,2,6,7,8,9,10],[4,1,5,0,2,3,6,7,8,9,10],[4,1,5,0,2,6,3,7,8,9,10],[4,1,5,0,3,2,6,7,8,9,10],[4,1,5,3,0,2,6,7,8,9,10],[4,3,0,1,2,5,6,7,8,9,10],[4,3,0,1,5,2,6,7,8,9,10],[4,3,0,5,1,2,6,7,8,9,10],[4,3,1,0,2,5,6,7,8,9,10],[4,3,1,0,5,2,6,7,8,9,10],[4,3,1,5,0,2,6,7,8,9,10],[4,3,5,0,1,2,6,7,8,9,10],[4,3,5,1,0,2,6,7,8,9,10],[4,5,0,1,2,3,6,7,8,9,10],[4,5,0,1,2,6,3,7,8,9,10],[4,5,0,1,3,2,6,7,8,9,10],[4,5,0,3,1,2,6,7,8,9,10],[4,5,1,0,2,3,6,7,8,9,10],[4,5,1,0,2,6,3,7,8,9,10],[4,5,1,0,3,2,6,7,8,9,10],[4,5,1,3,0,2,6,7,8,9,10],[4,5,3,0,1,2,6,7,8,9,10],[4,5,3,1,0,2,6,7,8,9,10]]
theorem eqArr_limb {z : Int} (h0 : 0 ≤ z) (h1 : z < 2 * K5) : eqArr 8 (limb z) (fun _ => 0) = decide (z = 0) := by
  rw [eqArr_iff (R8_limb z) R8_zero, sval_zero, Bool.eq_iff_iff]
  simp only [decide_eq_true_eq]
  have e := uval_limb z
  rw [Int.emod_eq_of_lt h0 h1] at e
  have u := uval_sval (R8_limb z)
  have r := sval_range (R8_limb z)
  rw [e] at u
  have hK := K5_pos
  split at u <;> omega
def divL (i : Nat) : Option DM := if i = 4 then some (.eager 12 9) else if i = 8 then some (.quiet 6) else if i = 9 then some (.orders divO) else none
theorem div_draws : drawsOk chkD divL (Tryz.f37.body.getD .skip) = true := by kernel_rfl
end Go.X
end
