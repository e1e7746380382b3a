/- The types' facts for the walks. -/
import Derived.Test.YtpffahmmklpifaaGreatData
import Derived.Test.YtpffahmmklpifaaGreatProg
namespace Go.Proofs.YtpffahmmklpifaaGreat.Abs
open Go.Proofs Go.RowKit
set_option linter.unusedVariables false
set_option linter.unusedSimpArgs false
def TT : Tbl := ⟨[(2, (false, 1)), (3, (false, 1)), (4, (false, 1)), (5, (false, 1)), (6, (false, 1)), (7, (true, 4)), (8, (true, 4)), (9, (false, 1)), (10, (false, 1)), (11, (false, 1)), (12, (false, 1)), (13, (true, 2)), (14, (true, 2)), (15, (false, 1)), (16, (false, 1)), (17, (false, 1)), (18, (true, 1)), (19, (true, 1)), (21, (false, 1)), (22, (false, 1)), (23, (false, 1)), (24, (false, 1)), (25, (true, 3)), (26, (true, 3)), (27, (true, 7)), (28, (true, 7)), (31, (false, 1)), (32, (false, 1)), (33, (false, 1)), (34, (true, 3)), (35, (true, 7)), (36, (true, 7)), (40, (false, 1)), (41, (true, 3)), (42, (true, 3)), (45, (false, 1)), (47, (true, 3)), (56, (false, 1)), (63, (false, 1)), (64, (true, 2)), (65, (true, 2)), (79, (false, 1)), (80, (true, 5)), (81, (true, 5)), (83, (false, 1)), (86, (true, 2)), (87, (true, 2)), (98, (false, 1)), (99, (true, 5)), (100, (true, 5)), (111, (false, 1)), (115, (false, 1)), (118, (true, 3)), (119, (true, 3)), (128, (true, 8)), (129, (true, 8)), (131, (true, 3)), (132, (true, 3)), (134, (true, 8)), (135, (true, 8)), (138, (false, 1)), (140, (true, 2)), (141, (true, 2)), (142, (true, 4)), (143, (true, 4)), (150, (true, 3)), (151, (true, 3)), (156, (false, 1)), (172, (false, 1)), (173, (true, 6)), (174, (true, 6)), (177, (true, 3)), (178, (true, 3)), (183, (false, 1)), (187, (true, 4)), (200, (true, 4)), (203, (false, 1)), (212, (false, 1)), (220, (false, 1)), (224, (true, 2)), (243, (false, 1)), (247, (false, 1)), (295, (false, 1))], [(7, [(0, 1), (1, 1), (2, 1), (3, 1)]), (8, [(0, 1), (1, 1), (2, 1), (3, 1)]), (13, [(0, 1), (1, 1)]), (14, [(0, 1), (1, 1)]), (18, [(0, 1)]), (19, [(0, 1)]), (25, [(0, 1), (1, 1), (2, 1)]), (26, [(0, 1), (1, 1), (2, 1)]), (27, [(0, 1), (1, 1), (2, 1), (3, 3), (6, 1)]), (28, [(0, 1), (1, 1), (2, 1), (3, 3), (6, 1)]), (34, [(0, 1), (1, 1), (2, 1)]), (35, [(0, 1), (1, 1), (2, 1), (3, 3), (6, 1)]), (36, [(0, 1), (1, 1), (2, 1), (3, 3), (6, 1)]), (41, [(0, 1), (1, 1), (2, 1)]), (42, [(0, 1), (1, 1), (2, 1)]), (47, [(0, 1), (1, 1), (2, 1)]), (64, [(0, 1), (1, 1)]), (65, [(0, 1), (1, 1)]), (80, [(0, 1), (1, 1), (2, 1), (3, 1), (4, 1)]), (81, [(0, 1), (1, 1), (2, 1), (3, 1), (4, 1)]), (86, [(0, 1), (1, 1)]), (87, [(0, 1), (1, 1)]), (99, [(0, 1), (1, 1), (2, 1), (3, 1), (4, 1)]), (100, [(0, 1), (1, 1), (2, 1), (3, 1), (4, 1)]), (118, [(0, 1), (1, 1), (2, 1)]), (119, [(0, 1), (1, 1), (2, 1)]), (128, [(0, 5), (5, 1), (6, 1), (7, 1)]), (129, [(0, 5), (5, 1), (6, 1), (7, 1)]), (131, [(0, 1), (1, 1), (2, 1)]), (132, [(0, 1), (1, 1), (2, 1)]), (134, [(0, 5), (5, 1), (6, 1), (7, 1)]), (135, [(0, 5), (5, 1), (6, 1), (7, 1)]), (140, [(0, 1), (1, 1)]), (141, [(0, 1), (1, 1)]), (142, [(0, 2), (2, 2)]), (143, [(0, 2), (2, 2)]), (150, [(0, 1), (1, 1), (2, 1)]), (151, [(0, 1), (1, 1), (2, 1)]), (173, [(0, 1), (1, 1), (2, 4)]), (174, [(0, 1), (1, 1), (2, 4)]), (177, [(0, 1), (1, 1), (2, 1)]), (178, [(0, 1), (1, 1), (2, 1)]), (187, [(0, 1), (1, 2), (3, 1)]), (200, [(0, 2), (2, 2)]), (224, [(0, 1), (1, 1)])], [(22, (129, 8)), (23, (42, 3)), (24, (132, 3)), (31, (135, 8)), (32, (47, 3)), (33, (151, 3)), (40, (100, 5)), (45, (81, 5)), (56, (3, 1)), (63, (174, 6)), (79, (141, 2)), (83, (87, 2)), (98, (224, 2)), (111, (178, 3)), (115, (119, 3)), (138, (200, 4)), (172, (5, 1)), (183, (187, 4)), (220, (143, 4)), (295, (79, 1))], [(2, .int .i64), (3, .int .i64), (4, .bool), (5, .int .u8), (6, .int .u8), (9, .string), (10, .string), (11, .string), (12, .int .u64), (21, .int .i32), (156, .int .u64), (203, .int .i64), (212, .int .u32), (243, .int .u64)]⟩
theorem TT_ok : TT.Ok Tryz.prog := Tbl.ok (by kernel_rfl)
theorem ze2 : zeroA Tryz.prog 2 = some [.c (.int .i64 0)] := by kernel_rfl
theorem ze3 : zeroA Tryz.prog 3 = some [.c (.int .i64 0)] := by kernel_rfl
theorem ze4 : zeroA Tryz.prog 4 = some [.c (.bool false)] := by kernel_rfl
theorem ze5 : zeroA Tryz.prog 5 = some [.c (.int .u8 0)] := by kernel_rfl
theorem ze6 : zeroA Tryz.prog 6 = some [.c (.int .u8 0)] := by kernel_rfl
theorem ze7 : zeroA Tryz.prog 7 = some [.c (.int .i64 0), .c (.int .i64 0), .c (.bool false), .c (.int .u8 0)] := by kernel_rfl
theorem bld7 : bldk Tryz.prog 7 = some ([.int .i64 0, .int .i64 0, .bool false, .int .u8 0], [(0, 1), (1, 1), (2, 1), (3, 1)]) := by kernel_rfl
theorem ze8 : zeroA Tryz.prog 8 = some [.c (.int .i64 0), .c (.int .i64 0), .c (.bool false), .c (.int .u8 0)] := by kernel_rfl
theorem bld8 : bldk Tryz.prog 8 = some ([.int .i64 0, .int .i64 0, .bool false, .int .u8 0], [(0, 1), (1, 1), (2, 1), (3, 1)]) := by kernel_rfl
theorem ze9 : zeroA Tryz.prog 9 = some [.c (.string ⟨#[]⟩)] := by kernel_rfl
theorem kds9 : Tryz.prog.underlying 9 = some .string := by kernel_rfl
theorem ze10 : zeroA Tryz.prog 10 = some [.c (.string ⟨#[]⟩)] := by kernel_rfl
theorem kds10 : Tryz.prog.underlying 10 = some .string := by kernel_rfl
theorem ze11 : zeroA Tryz.prog 11 = some [.c (.string ⟨#[]⟩)] := by kernel_rfl
theorem kds11 : Tryz.prog.underlying 11 = some .string := by kernel_rfl
theorem ze12 : zeroA Tryz.prog 12 = some [.c (.int .u64 0)] := by kernel_rfl
theorem ze13 : zeroA Tryz.prog 13 = some [.c (.string ⟨#[]⟩), .c (.int .u64 0)] := by kernel_rfl
theorem bld13 : bldk Tryz.prog 13 = some ([.string ⟨#[]⟩, .int .u64 0], [(0, 1), (1, 1)]) := by kernel_rfl
theorem ze14 : zeroA Tryz.prog 14 = some [.c (.string ⟨#[]⟩), .c (.int .u64 0)] := by kernel_rfl
theorem bld14 : bldk Tryz.prog 14 = some ([.string ⟨#[]⟩, .int .u64 0], [(0, 1), (1, 1)]) := by kernel_rfl
theorem ze15 : zeroA Tryz.prog 15 = some [.c (.pointer none)] := by kernel_rfl
theorem ze16 : zeroA Tryz.prog 16 = some [.c (.pointer none)] := by kernel_rfl
theorem ze17 : zeroA Tryz.prog 17 = some [.c (.pointer none)] := by kernel_rfl
theorem ze18 : zeroA Tryz.prog 18 = some [.c (.pointer none)] := by kernel_rfl
theorem bld18 : bldk Tryz.prog 18 = some ([.pointer none], [(0, 1)]) := by kernel_rfl
theorem ze19 : zeroA Tryz.prog 19 = some [.c (.pointer none)] := by kernel_rfl
theorem bld19 : bldk Tryz.prog 19 = some ([.pointer none], [(0, 1)]) := by kernel_rfl
theorem ze21 : zeroA Tryz.prog 21 = some [.c (.int .i32 0)] := by kernel_rfl
theorem ze22 : zeroA Tryz.prog 22 = some [.c (.slice none 0 0)] := by kernel_rfl
theorem rwk22 : rwk Tryz.prog 22 = some (129, 8, 88, [.int .i64 0, .int .i64 0, .int .i64 0, .string ⟨#[]⟩, .slice none 0 0, .int .i64 0, .int .i64 0, .bool false]) := by kernel_rfl
theorem ze23 : zeroA Tryz.prog 23 = some [.c (.slice none 0 0)] := by kernel_rfl
theorem rwk23 : rwk Tryz.prog 23 = some (42, 3, 24, [.int .i64 0, .int .i64 0, .int .i64 0]) := by kernel_rfl
theorem ze24 : zeroA Tryz.prog 24 = some [.c (.slice none 0 0)] := by kernel_rfl
theorem rwk24 : rwk Tryz.prog 24 = some (132, 3, 40, [.int .i64 0, .slice none 0 0, .int .i64 0]) := by kernel_rfl
theorem ze25 : zeroA Tryz.prog 25 = some [.c (.int .i64 0), .c (.int .i64 0), .c (.string ⟨#[]⟩)] := by kernel_rfl
theorem bld25 : bldk Tryz.prog 25 = some ([.int .i64 0, .int .i64 0, .string ⟨#[]⟩], [(0, 1), (1, 1), (2, 1)]) := by kernel_rfl
theorem ze26 : zeroA Tryz.prog 26 = some [.c (.int .i64 0), .c (.int .i64 0), .c (.string ⟨#[]⟩)] := by kernel_rfl
theorem bld26 : bldk Tryz.prog 26 = some ([.int .i64 0, .int .i64 0, .string ⟨#[]⟩], [(0, 1), (1, 1), (2, 1)]) := by kernel_rfl
theorem ze27 : zeroA Tryz.prog 27 = some [.c (.slice none 0 0), .c (.slice none 0 0), .c (.slice none 0 0), .c (.int .i64 0), .c (.int .i64 0), .c (.string ⟨#[]⟩), .c (.int .i64 0)] := by kernel_rfl
theorem bld27 : bldk Tryz.prog 27 = some ([.slice none 0 0, .slice none 0 0, .slice none 0 0, .int .i64 0, .int .i64 0, .string ⟨#[]⟩, .int .i64 0], [(0, 1), (1, 1), (2, 1), (3, 3), (6, 1)]) := by kernel_rfl
theorem ze28 : zeroA Tryz.prog 28 = some [.c (.slice none 0 0), .c (.slice none 0 0), .c (.slice none 0 0), .c (.int .i64 0), .c (.int .i64 0), .c (.string ⟨#[]⟩), .c (.int .i64 0)] := by kernel_rfl
theorem bld28 : bldk Tryz.prog 28 = some ([.slice none 0 0, .slice none 0 0, .slice none 0 0, .int .i64 0, .int .i64 0, .string ⟨#[]⟩, .int .i64 0], [(0, 1), (1, 1), (2, 1), (3, 3), (6, 1)]) := by kernel_rfl
theorem ze31 : zeroA Tryz.prog 31 = some [.c (.slice none 0 0)] := by kernel_rfl
theorem rwk31 : rwk Tryz.prog 31 = some (135, 8, 88, [.int .i64 0, .int .i64 0, .int .i64 0, .string ⟨#[]⟩, .slice none 0 0, .int .i64 0, .int .i64 0, .bool false]) := by kernel_rfl
theorem ze32 : zeroA Tryz.prog 32 = some [.c (.slice none 0 0)] := by kernel_rfl
theorem rwk32 : rwk Tryz.prog 32 = some (47, 3, 24, [.int .i64 0, .int .i64 0, .int .i64 0]) := by kernel_rfl
theorem ze33 : zeroA Tryz.prog 33 = some [.c (.slice none 0 0)] := by kernel_rfl
theorem rwk33 : rwk Tryz.prog 33 = some (151, 3, 40, [.int .i64 0, .slice none 0 0, .int .i64 0]) := by kernel_rfl
theorem ze34 : zeroA Tryz.prog 34 = some [.c (.int .i64 0), .c (.int .i64 0), .c (.string ⟨#[]⟩)] := by kernel_rfl
theorem bld34 : bldk Tryz.prog 34 = some ([.int .i64 0, .int .i64 0, .string ⟨#[]⟩], [(0, 1), (1, 1), (2, 1)]) := by kernel_rfl
theorem flk34 : flatK Tryz.prog 4 34 = some [.int .i64, .int .i64, .string] ∧ True := ⟨by kernel_rfl, trivial⟩
theorem ze35 : zeroA Tryz.prog 35 = some [.c (.slice none 0 0), .c (.slice none 0 0), .c (.slice none 0 0), .c (.int .i64 0), .c (.int .i64 0), .c (.string ⟨#[]⟩), .c (.int .i64 0)] := by kernel_rfl
theorem bld35 : bldk Tryz.prog 35 = some ([.slice none 0 0, .slice none 0 0, .slice none 0 0, .int .i64 0, .int .i64 0, .string ⟨#[]⟩, .int .i64 0], [(0, 1), (1, 1), (2, 1), (3, 3), (6, 1)]) := by kernel_rfl
theorem ze36 : zeroA Tryz.prog 36 = some [.c (.slice none 0 0), .c (.slice none 0 0), .c (.slice none 0 0), .c (.int .i64 0), .c (.int .i64 0), .c (.string ⟨#[]⟩), .c (.int .i64 0)] := by kernel_rfl
theorem bld36 : bldk Tryz.prog 36 = some ([.slice none 0 0, .slice none 0 0, .slice none 0 0, .int .i64 0, .int .i64 0, .string ⟨#[]⟩, .int .i64 0], [(0, 1), (1, 1), (2, 1), (3, 3), (6, 1)]) := by kernel_rfl
theorem ze40 : zeroA Tryz.prog 40 = some [.c (.slice none 0 0)] := by kernel_rfl
theorem rwk40 : rwk Tryz.prog 40 = some (100, 5, 64, [.int .i64 0, .int .i64 0, .int .i64 0, .string ⟨#[]⟩, .slice none 0 0]) := by kernel_rfl
theorem ze41 : zeroA Tryz.prog 41 = some [.c (.int .i64 0), .c (.int .i64 0), .c (.int .i64 0)] := by kernel_rfl
theorem bld41 : bldk Tryz.prog 41 = some ([.int .i64 0, .int .i64 0, .int .i64 0], [(0, 1), (1, 1), (2, 1)]) := by kernel_rfl
theorem ze42 : zeroA Tryz.prog 42 = some [.c (.int .i64 0), .c (.int .i64 0), .c (.int .i64 0)] := by kernel_rfl
theorem bld42 : bldk Tryz.prog 42 = some ([.int .i64 0, .int .i64 0, .int .i64 0], [(0, 1), (1, 1), (2, 1)]) := by kernel_rfl
theorem ze45 : zeroA Tryz.prog 45 = some [.c (.slice none 0 0)] := by kernel_rfl
theorem rwk45 : rwk Tryz.prog 45 = some (81, 5, 64, [.int .i64 0, .int .i64 0, .int .i64 0, .string ⟨#[]⟩, .slice none 0 0]) := by kernel_rfl
theorem slk45 : slk Tryz.prog 45 = some (81, 5) := TT_ok.sl _ _ rfl
theorem ze47 : zeroA Tryz.prog 47 = some [.c (.int .i64 0), .c (.int .i64 0), .c (.int .i64 0)] := by kernel_rfl
theorem bld47 : bldk Tryz.prog 47 = some ([.int .i64 0, .int .i64 0, .int .i64 0], [(0, 1), (1, 1), (2, 1)]) := by kernel_rfl
theorem flk47 : flatK Tryz.prog 4 47 = some [.int .i64, .int .i64, .int .i64] ∧ True := ⟨by kernel_rfl, trivial⟩
theorem ze56 : zeroA Tryz.prog 56 = some [.c (.slice none 0 0)] := by kernel_rfl
theorem rwk56 : rwk Tryz.prog 56 = some (3, 1, 8, [.int .i64 0]) := by kernel_rfl
theorem slk56 : slk Tryz.prog 56 = some (3, 1) := TT_ok.sl _ _ rfl
theorem ze63 : zeroA Tryz.prog 63 = some [.c (.slice none 0 0)] := by kernel_rfl
theorem rwk63 : rwk Tryz.prog 63 = some (174, 6, 56, [.int .i64 0, .string ⟨#[]⟩, .int .i64 0, .int .i64 0, .int .i64 0, .int .i64 0]) := by kernel_rfl
theorem slk63 : slk Tryz.prog 63 = some (174, 6) := TT_ok.sl _ _ rfl
theorem ze64 : zeroA Tryz.prog 64 = some [.c (.slice none 0 0), .c (.slice none 0 0)] := by kernel_rfl
theorem bld64 : bldk Tryz.prog 64 = some ([.slice none 0 0, .slice none 0 0], [(0, 1), (1, 1)]) := by kernel_rfl
theorem ze65 : zeroA Tryz.prog 65 = some [.c (.slice none 0 0), .c (.slice none 0 0)] := by kernel_rfl
theorem bld65 : bldk Tryz.prog 65 = some ([.slice none 0 0, .slice none 0 0], [(0, 1), (1, 1)]) := by kernel_rfl
theorem ze79 : zeroA Tryz.prog 79 = some [.c (.slice none 0 0)] := by kernel_rfl
theorem rwk79 : rwk Tryz.prog 79 = some (141, 2, 16, [.int .i64 0, .int .i64 0]) := by kernel_rfl
theorem slk79 : slk Tryz.prog 79 = some (141, 2) := TT_ok.sl _ _ rfl
theorem ze80 : zeroA Tryz.prog 80 = some [.c (.int .i64 0), .c (.int .i64 0), .c (.int .i64 0), .c (.string ⟨#[]⟩), .c (.slice none 0 0)] := by kernel_rfl
theorem bld80 : bldk Tryz.prog 80 = some ([.int .i64 0, .int .i64 0, .int .i64 0, .string ⟨#[]⟩, .slice none 0 0], [(0, 1), (1, 1), (2, 1), (3, 1), (4, 1)]) := by kernel_rfl
theorem ldk81 : ldk Tryz.prog 81 = some (true, 5) := TT_ok.ld _ _ rfl
theorem ze81 : zeroA Tryz.prog 81 = some [.c (.int .i64 0), .c (.int .i64 0), .c (.int .i64 0), .c (.string ⟨#[]⟩), .c (.slice none 0 0)] := by kernel_rfl
theorem bld81 : bldk Tryz.prog 81 = some ([.int .i64 0, .int .i64 0, .int .i64 0, .string ⟨#[]⟩, .slice none 0 0], [(0, 1), (1, 1), (2, 1), (3, 1), (4, 1)]) := by kernel_rfl
theorem ze83 : zeroA Tryz.prog 83 = some [.c (.slice none 0 0)] := by kernel_rfl
theorem rwk83 : rwk Tryz.prog 83 = some (87, 2, 16, [.int .i64 0, .int .i64 0]) := by kernel_rfl
theorem ze86 : zeroA Tryz.prog 86 = some [.c (.int .i64 0), .c (.int .i64 0)] := by kernel_rfl
theorem bld86 : bldk Tryz.prog 86 = some ([.int .i64 0, .int .i64 0], [(0, 1), (1, 1)]) := by kernel_rfl
theorem ze87 : zeroA Tryz.prog 87 = some [.c (.int .i64 0), .c (.int .i64 0)] := by kernel_rfl
theorem bld87 : bldk Tryz.prog 87 = some ([.int .i64 0, .int .i64 0], [(0, 1), (1, 1)]) := by kernel_rfl
theorem flk87 : flatK Tryz.prog 4 87 = some [.int .i64, .int .i64] ∧ True := ⟨by kernel_rfl, trivial⟩
theorem ze98 : zeroA Tryz.prog 98 = some [.c (.slice none 0 0)] := by kernel_rfl
theorem rwk98 : rwk Tryz.prog 98 = some (224, 2, 16, [.int .i64 0, .int .i64 0]) := by kernel_rfl
theorem ze99 : zeroA Tryz.prog 99 = some [.c (.int .i64 0), .c (.int .i64 0), .c (.int .i64 0), .c (.string ⟨#[]⟩), .c (.slice none 0 0)] := by kernel_rfl
theorem bld99 : bldk Tryz.prog 99 = some ([.int .i64 0, .int .i64 0, .int .i64 0, .string ⟨#[]⟩, .slice none 0 0], [(0, 1), (1, 1), (2, 1), (3, 1), (4, 1)]) := by kernel_rfl
theorem ze100 : zeroA Tryz.prog 100 = some [.c (.int .i64 0), .c (.int .i64 0), .c (.int .i64 0), .c (.string ⟨#[]⟩), .c (.slice none 0 0)] := by kernel_rfl
theorem bld100 : bldk Tryz.prog 100 = some ([.int .i64 0, .int .i64 0, .int .i64 0, .string ⟨#[]⟩, .slice none 0 0], [(0, 1), (1, 1), (2, 1), (3, 1), (4, 1)]) := by kernel_rfl
theorem ze111 : zeroA Tryz.prog 111 = some [.c (.slice none 0 0)] := by kernel_rfl
theorem rwk111 : rwk Tryz.prog 111 = some (178, 3, 24, [.int .i64 0, .int .i64 0, .int .i64 0]) := by kernel_rfl
theorem ze115 : zeroA Tryz.prog 115 = some [.c (.slice none 0 0)] := by kernel_rfl
theorem rwk115 : rwk Tryz.prog 115 = some (119, 3, 24, [.int .i64 0, .int .i64 0, .int .i64 0]) := by kernel_rfl
theorem ze118 : zeroA Tryz.prog 118 = some [.c (.int .i64 0), .c (.int .i64 0), .c (.int .i64 0)] := by kernel_rfl
theorem bld118 : bldk Tryz.prog 118 = some ([.int .i64 0, .int .i64 0, .int .i64 0], [(0, 1), (1, 1), (2, 1)]) := by kernel_rfl
theorem ze119 : zeroA Tryz.prog 119 = some [.c (.int .i64 0), .c (.int .i64 0), .c (.int .i64 0)] := by kernel_rfl
theorem bld119 : bldk Tryz.prog 119 = some ([.int .i64 0, .int .i64 0, .int .i64 0], [(0, 1), (1, 1), (2, 1)]) := by kernel_rfl
theorem flk119 : flatK Tryz.prog 4 119 = some [.int .i64, .int .i64, .int .i64] ∧ True := ⟨by kernel_rfl, trivial⟩
theorem ze128 : zeroA Tryz.prog 128 = some [.c (.int .i64 0), .c (.int .i64 0), .c (.int .i64 0), .c (.string ⟨#[]⟩), .c (.slice none 0 0), .c (.int .i64 0), .c (.int .i64 0), .c (.bool false)] := by kernel_rfl
theorem bld128 : bldk Tryz.prog 128 = some ([.int .i64 0, .int .i64 0, .int .i64 0, .string ⟨#[]⟩, .slice none 0 0, .int .i64 0, .int .i64 0, .bool false], [(0, 5), (5, 1), (6, 1), (7, 1)]) := by kernel_rfl
theorem ze129 : zeroA Tryz.prog 129 = some [.c (.int .i64 0), .c (.int .i64 0), .c (.int .i64 0), .c (.string ⟨#[]⟩), .c (.slice none 0 0), .c (.int .i64 0), .c (.int .i64 0), .c (.bool false)] := by kernel_rfl
theorem bld129 : bldk Tryz.prog 129 = some ([.int .i64 0, .int .i64 0, .int .i64 0, .string ⟨#[]⟩, .slice none 0 0, .int .i64 0, .int .i64 0, .bool false], [(0, 5), (5, 1), (6, 1), (7, 1)]) := by kernel_rfl
theorem ze131 : zeroA Tryz.prog 131 = some [.c (.int .i64 0), .c (.slice none 0 0), .c (.int .i64 0)] := by kernel_rfl
theorem bld131 : bldk Tryz.prog 131 = some ([.int .i64 0, .slice none 0 0, .int .i64 0], [(0, 1), (1, 1), (2, 1)]) := by kernel_rfl
theorem ze132 : zeroA Tryz.prog 132 = some [.c (.int .i64 0), .c (.slice none 0 0), .c (.int .i64 0)] := by kernel_rfl
theorem bld132 : bldk Tryz.prog 132 = some ([.int .i64 0, .slice none 0 0, .int .i64 0], [(0, 1), (1, 1), (2, 1)]) := by kernel_rfl
theorem ze134 : zeroA Tryz.prog 134 = some [.c (.int .i64 0), .c (.int .i64 0), .c (.int .i64 0), .c (.string ⟨#[]⟩), .c (.slice none 0 0), .c (.int .i64 0), .c (.int .i64 0), .c (.bool false)] := by kernel_rfl
theorem bld134 : bldk Tryz.prog 134 = some ([.int .i64 0, .int .i64 0, .int .i64 0, .string ⟨#[]⟩, .slice none 0 0, .int .i64 0, .int .i64 0, .bool false], [(0, 5), (5, 1), (6, 1), (7, 1)]) := by kernel_rfl
theorem ze135 : zeroA Tryz.prog 135 = some [.c (.int .i64 0), .c (.int .i64 0), .c (.int .i64 0), .c (.string ⟨#[]⟩), .c (.slice none 0 0), .c (.int .i64 0), .c (.int .i64 0), .c (.bool false)] := by kernel_rfl
theorem bld135 : bldk Tryz.prog 135 = some ([.int .i64 0, .int .i64 0, .int .i64 0, .string ⟨#[]⟩, .slice none 0 0, .int .i64 0, .int .i64 0, .bool false], [(0, 5), (5, 1), (6, 1), (7, 1)]) := by kernel_rfl
theorem ze138 : zeroA Tryz.prog 138 = some [.c (.slice none 0 0)] := by kernel_rfl
theorem rwk138 : rwk Tryz.prog 138 = some (200, 4, 32, [.int .i64 0, .int .i64 0, .int .i64 0, .int .i64 0]) := by kernel_rfl
theorem ze140 : zeroA Tryz.prog 140 = some [.c (.int .i64 0), .c (.int .i64 0)] := by kernel_rfl
theorem bld140 : bldk Tryz.prog 140 = some ([.int .i64 0, .int .i64 0], [(0, 1), (1, 1)]) := by kernel_rfl
theorem ze141 : zeroA Tryz.prog 141 = some [.c (.int .i64 0), .c (.int .i64 0)] := by kernel_rfl
theorem bld141 : bldk Tryz.prog 141 = some ([.int .i64 0, .int .i64 0], [(0, 1), (1, 1)]) := by kernel_rfl
theorem flk141 : flatK Tryz.prog 4 141 = some [.int .i64, .int .i64] ∧ True := ⟨by kernel_rfl, trivial⟩
theorem ze142 : zeroA Tryz.prog 142 = some [.c (.int .i64 0), .c (.int .i64 0), .c (.int .i64 0), .c (.int .i64 0)] := by kernel_rfl
theorem bld142 : bldk Tryz.prog 142 = some ([.int .i64 0, .int .i64 0, .int .i64 0, .int .i64 0], [(0, 2), (2, 2)]) := by kernel_rfl
theorem ze143 : zeroA Tryz.prog 143 = some [.c (.int .i64 0), .c (.int .i64 0), .c (.int .i64 0), .c (.int .i64 0)] := by kernel_rfl
theorem bld143 : bldk Tryz.prog 143 = some ([.int .i64 0, .int .i64 0, .int .i64 0, .int .i64 0], [(0, 2), (2, 2)]) := by kernel_rfl
theorem flk143 : flatK Tryz.prog 4 143 = some [.int .i64, .int .i64, .int .i64, .int .i64] ∧ True := ⟨by kernel_rfl, trivial⟩
theorem ze150 : zeroA Tryz.prog 150 = some [.c (.int .i64 0), .c (.slice none 0 0), .c (.int .i64 0)] := by kernel_rfl
theorem bld150 : bldk Tryz.prog 150 = some ([.int .i64 0, .slice none 0 0, .int .i64 0], [(0, 1), (1, 1), (2, 1)]) := by kernel_rfl
theorem ze151 : zeroA Tryz.prog 151 = some [.c (.int .i64 0), .c (.slice none 0 0), .c (.int .i64 0)] := by kernel_rfl
theorem bld151 : bldk Tryz.prog 151 = some ([.int .i64 0, .slice none 0 0, .int .i64 0], [(0, 1), (1, 1), (2, 1)]) := by kernel_rfl
theorem ze156 : zeroA Tryz.prog 156 = some [.c (.int .u64 0)] := by kernel_rfl
theorem ze172 : zeroA Tryz.prog 172 = some [.c (.slice none 0 0)] := by kernel_rfl
theorem rwk172 : rwk Tryz.prog 172 = some (5, 1, 1, [.int .u8 0]) := by kernel_rfl
theorem ze173 : zeroA Tryz.prog 173 = some [.c (.int .i64 0), .c (.string ⟨#[]⟩), .c (.int .i64 0), .c (.int .i64 0), .c (.int .i64 0), .c (.int .i64 0)] := by kernel_rfl
theorem bld173 : bldk Tryz.prog 173 = some ([.int .i64 0, .string ⟨#[]⟩, .int .i64 0, .int .i64 0, .int .i64 0, .int .i64 0], [(0, 1), (1, 1), (2, 4)]) := by kernel_rfl
theorem ze174 : zeroA Tryz.prog 174 = some [.c (.int .i64 0), .c (.string ⟨#[]⟩), .c (.int .i64 0), .c (.int .i64 0), .c (.int .i64 0), .c (.int .i64 0)] := by kernel_rfl
theorem bld174 : bldk Tryz.prog 174 = some ([.int .i64 0, .string ⟨#[]⟩, .int .i64 0, .int .i64 0, .int .i64 0, .int .i64 0], [(0, 1), (1, 1), (2, 4)]) := by kernel_rfl
theorem flk174 : flatK Tryz.prog 4 174 = some [.int .i64, .string, .int .i64, .int .i64, .int .i64, .int .i64] ∧ True := ⟨by kernel_rfl, trivial⟩
theorem ze177 : zeroA Tryz.prog 177 = some [.c (.int .i64 0), .c (.int .i64 0), .c (.int .i64 0)] := by kernel_rfl
theorem bld177 : bldk Tryz.prog 177 = some ([.int .i64 0, .int .i64 0, .int .i64 0], [(0, 1), (1, 1), (2, 1)]) := by kernel_rfl
theorem ze178 : zeroA Tryz.prog 178 = some [.c (.int .i64 0), .c (.int .i64 0), .c (.int .i64 0)] := by kernel_rfl
theorem bld178 : bldk Tryz.prog 178 = some ([.int .i64 0, .int .i64 0, .int .i64 0], [(0, 1), (1, 1), (2, 1)]) := by kernel_rfl
theorem flk178 : flatK Tryz.prog 4 178 = some [.int .i64, .int .i64, .int .i64] ∧ True := ⟨by kernel_rfl, trivial⟩
theorem ze183 : zeroA Tryz.prog 183 = some [.c (.slice none 0 0)] := by kernel_rfl
theorem rwk183 : rwk Tryz.prog 183 = some (187, 4, 32, [.int .i64 0, .int .i64 0, .int .i64 0, .int .i64 0]) := by kernel_rfl
theorem slk183 : slk Tryz.prog 183 = some (187, 4) := TT_ok.sl _ _ rfl
theorem ze187 : zeroA Tryz.prog 187 = some [.c (.int .i64 0), .c (.int .i64 0), .c (.int .i64 0), .c (.int .i64 0)] := by kernel_rfl
theorem bld187 : bldk Tryz.prog 187 = some ([.int .i64 0, .int .i64 0, .int .i64 0, .int .i64 0], [(0, 1), (1, 2), (3, 1)]) := by kernel_rfl
theorem flk187 : flatK Tryz.prog 4 187 = some [.int .i64, .int .i64, .int .i64, .int .i64] ∧ True := ⟨by kernel_rfl, trivial⟩
theorem ze200 : zeroA Tryz.prog 200 = some [.c (.int .i64 0), .c (.int .i64 0), .c (.int .i64 0), .c (.int .i64 0)] := by kernel_rfl
theorem bld200 : bldk Tryz.prog 200 = some ([.int .i64 0, .int .i64 0, .int .i64 0, .int .i64 0], [(0, 2), (2, 2)]) := by kernel_rfl
theorem flk200 : flatK Tryz.prog 4 200 = some [.int .i64, .int .i64, .int .i64, .int .i64] ∧ True := ⟨by kernel_rfl, trivial⟩
theorem ze203 : zeroA Tryz.prog 203 = some [.c (.int .i64 0)] := by kernel_rfl
theorem ze212 : zeroA Tryz.prog 212 = some [.c (.int .u32 0)] := by kernel_rfl
theorem ze220 : zeroA Tryz.prog 220 = some [.c (.slice none 0 0)] := by kernel_rfl
theorem rwk220 : rwk Tryz.prog 220 = some (143, 4, 32, [.int .i64 0, .int .i64 0, .int .i64 0, .int .i64 0]) := by kernel_rfl
theorem ze224 : zeroA Tryz.prog 224 = some [.c (.int .i64 0), .c (.int .i64 0)] := by kernel_rfl
theorem bld224 : bldk Tryz.prog 224 = some ([.int .i64 0, .int .i64 0], [(0, 1), (1, 1)]) := by kernel_rfl
theorem ze243 : zeroA Tryz.prog 243 = some [.c (.int .u64 0)] := by kernel_rfl
theorem ze247 : zeroA Tryz.prog 247 = some [.c (.pointer none)] := by kernel_rfl
theorem ze295 : zeroA Tryz.prog 295 = some [.c (.slice none 0 0)] := by kernel_rfl
theorem rwk295 : rwk Tryz.prog 295 = some (79, 1, 24, [.slice none 0 0]) := by kernel_rfl
end Go.Proofs.YtpffahmmklpifaaGreat.Abs
