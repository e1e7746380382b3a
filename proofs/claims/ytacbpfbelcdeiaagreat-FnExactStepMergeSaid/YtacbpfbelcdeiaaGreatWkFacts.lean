/- The types' facts for the walks. -/
import Derived.Test.YtacbpfbelcdeiaaGreatData
import Derived.Test.YtacbpfbelcdeiaaGreatProg
namespace Go.Proofs.YtacbpfbelcdeiaaGreat.Abs
open Go.Proofs Go.RowKit
set_option linter.unusedVariables false
set_option linter.unusedSimpArgs false
def TT : Tbl := ⟨[(2, (false, 1)), (3, (false, 1)), (4, (false, 1)), (5, (false, 1)), (6, (false, 1)), (7, (true, 4)), (8, (true, 4)), (9, (false, 1)), (10, (false, 1)), (11, (false, 1)), (12, (false, 1)), (13, (true, 2)), (14, (true, 2)), (15, (false, 1)), (16, (false, 1)), (17, (false, 1)), (18, (true, 1)), (19, (true, 1)), (21, (false, 1)), (22, (false, 1)), (23, (true, 3)), (24, (true, 3)), (27, (false, 1)), (28, (false, 1)), (29, (false, 1)), (30, (true, 3)), (31, (true, 7)), (32, (true, 7)), (42, (false, 1)), (43, (false, 1)), (44, (true, 7)), (45, (true, 7)), (62, (false, 1)), (63, (true, 5)), (64, (true, 5)), (67, (false, 1)), (68, (true, 5)), (69, (true, 5)), (76, (true, 11)), (77, (true, 11)), (80, (true, 11)), (81, (true, 11)), (86, (false, 1)), (89, (false, 1)), (96, (true, 3)), (97, (true, 3)), (99, (true, 3)), (110, (false, 1)), (113, (false, 1)), (116, (true, 8)), (117, (true, 8)), (121, (true, 8)), (136, (true, 3)), (143, (false, 1)), (145, (true, 3)), (152, (true, 2)), (155, (true, 2)), (162, (false, 1)), (163, (false, 1)), (166, (true, 2)), (174, (false, 1)), (177, (true, 4)), (181, (true, 4))], [(7, [(0, 1), (1, 1), (2, 1), (3, 1)]), (8, [(0, 1), (1, 1), (2, 1), (3, 1)]), (13, [(0, 1), (1, 1)]), (14, [(0, 1), (1, 1)]), (18, [(0, 1)]), (19, [(0, 1)]), (23, [(0, 1), (1, 1), (2, 1)]), (24, [(0, 1), (1, 1), (2, 1)]), (30, [(0, 1), (1, 1), (2, 1)]), (31, [(0, 1), (1, 1), (2, 1), (3, 3), (6, 1)]), (32, [(0, 1), (1, 1), (2, 1), (3, 3), (6, 1)]), (44, [(0, 1), (1, 1), (2, 1), (3, 3), (6, 1)]), (45, [(0, 1), (1, 1), (2, 1), (3, 3), (6, 1)]), (63, [(0, 1), (1, 1), (2, 1), (3, 1), (4, 1)]), (64, [(0, 1), (1, 1), (2, 1), (3, 1), (4, 1)]), (68, [(0, 1), (1, 1), (2, 1), (3, 1), (4, 1)]), (69, [(0, 1), (1, 1), (2, 1), (3, 1), (4, 1)]), (76, [(0, 1), (1, 5), (6, 1), (7, 1), (8, 1), (9, 1), (10, 1)]), (77, [(0, 1), (1, 5), (6, 1), (7, 1), (8, 1), (9, 1), (10, 1)]), (80, [(0, 1), (1, 5), (6, 1), (7, 1), (8, 1), (9, 1), (10, 1)]), (81, [(0, 1), (1, 5), (6, 1), (7, 1), (8, 1), (9, 1), (10, 1)]), (96, [(0, 1), (1, 1), (2, 1)]), (97, [(0, 1), (1, 1), (2, 1)]), (99, [(0, 1), (1, 1), (2, 1)]), (116, [(0, 5), (5, 1), (6, 1), (7, 1)]), (117, [(0, 5), (5, 1), (6, 1), (7, 1)]), (121, [(0, 5), (5, 1), (6, 1), (7, 1)]), (136, [(0, 1), (1, 1), (2, 1)]), (145, [(0, 1), (1, 1), (2, 1)]), (152, [(0, 1), (1, 1)]), (155, [(0, 1), (1, 1)]), (166, [(0, 1), (1, 1)]), (177, [(0, 2), (2, 2)]), (181, [(0, 2), (2, 2)])], [(22, (99, 3)), (27, (121, 8)), (28, (97, 3)), (29, (136, 3)), (42, (117, 8)), (43, (145, 3)), (62, (155, 2)), (67, (152, 2)), (86, (77, 11)), (89, (81, 11)), (110, (5, 1)), (113, (69, 5)), (143, (64, 5)), (162, (3, 1)), (163, (166, 2)), (174, (177, 4))], [(2, .int .i64), (3, .int .i64), (4, .bool), (5, .int .u8), (6, .int .u8), (9, .string), (10, .string), (11, .string), (12, .int .u64), (21, .int .i32)]⟩
theorem TT_ok : TT.Ok Tryz.prog := Tbl.ok (by kernel_rfl)
theorem ze2 : zeroA Tryz.prog 2 = some [.c (.int .i64 0)] := by kernel_rfl
theorem ze3 : zeroA Tryz.prog 3 = some [.c (.int .i64 0)] := by kernel_rfl
theorem ze4 : zeroA Tryz.prog 4 = some [.c (.bool false)] := by kernel_rfl
theorem ldk5 : ldk Tryz.prog 5 = some (false, 1) := TT_ok.ld _ _ rfl
theorem ze5 : zeroA Tryz.prog 5 = some [.c (.int .u8 0)] := by kernel_rfl
theorem ze6 : zeroA Tryz.prog 6 = some [.c (.int .u8 0)] := by kernel_rfl
theorem ze7 : zeroA Tryz.prog 7 = some [.c (.int .i64 0), .c (.int .i64 0), .c (.bool false), .c (.int .u8 0)] := by kernel_rfl
theorem bld7 : bldk Tryz.prog 7 = some ([.int .i64 0, .int .i64 0, .bool false, .int .u8 0], [(0, 1), (1, 1), (2, 1), (3, 1)]) := by kernel_rfl
theorem ze8 : zeroA Tryz.prog 8 = some [.c (.int .i64 0), .c (.int .i64 0), .c (.bool false), .c (.int .u8 0)] := by kernel_rfl
theorem bld8 : bldk Tryz.prog 8 = some ([.int .i64 0, .int .i64 0, .bool false, .int .u8 0], [(0, 1), (1, 1), (2, 1), (3, 1)]) := by kernel_rfl
theorem ze9 : zeroA Tryz.prog 9 = some [.c (.string ⟨#[]⟩)] := by kernel_rfl
theorem kds9 : Tryz.prog.underlying 9 = some .string := by kernel_rfl
theorem ze10 : zeroA Tryz.prog 10 = some [.c (.string ⟨#[]⟩)] := by kernel_rfl
theorem kds10 : Tryz.prog.underlying 10 = some .string := by kernel_rfl
theorem ze11 : zeroA Tryz.prog 11 = some [.c (.string ⟨#[]⟩)] := by kernel_rfl
theorem kds11 : Tryz.prog.underlying 11 = some .string := by kernel_rfl
theorem ze12 : zeroA Tryz.prog 12 = some [.c (.int .u64 0)] := by kernel_rfl
theorem ze13 : zeroA Tryz.prog 13 = some [.c (.string ⟨#[]⟩), .c (.int .u64 0)] := by kernel_rfl
theorem bld13 : bldk Tryz.prog 13 = some ([.string ⟨#[]⟩, .int .u64 0], [(0, 1), (1, 1)]) := by kernel_rfl
theorem ze14 : zeroA Tryz.prog 14 = some [.c (.string ⟨#[]⟩), .c (.int .u64 0)] := by kernel_rfl
theorem bld14 : bldk Tryz.prog 14 = some ([.string ⟨#[]⟩, .int .u64 0], [(0, 1), (1, 1)]) := by kernel_rfl
theorem ze15 : zeroA Tryz.prog 15 = some [.c (.pointer none)] := by kernel_rfl
theorem ze16 : zeroA Tryz.prog 16 = some [.c (.pointer none)] := by kernel_rfl
theorem ze17 : zeroA Tryz.prog 17 = some [.c (.pointer none)] := by kernel_rfl
theorem ze18 : zeroA Tryz.prog 18 = some [.c (.pointer none)] := by kernel_rfl
theorem bld18 : bldk Tryz.prog 18 = some ([.pointer none], [(0, 1)]) := by kernel_rfl
theorem ze19 : zeroA Tryz.prog 19 = some [.c (.pointer none)] := by kernel_rfl
theorem bld19 : bldk Tryz.prog 19 = some ([.pointer none], [(0, 1)]) := by kernel_rfl
theorem ze21 : zeroA Tryz.prog 21 = some [.c (.int .i32 0)] := by kernel_rfl
theorem ze22 : zeroA Tryz.prog 22 = some [.c (.slice none 0 0)] := by kernel_rfl
theorem rwk22 : rwk Tryz.prog 22 = some (99, 3, 24, [.int .i64 0, .int .i64 0, .int .i64 0]) := by kernel_rfl
theorem ze23 : zeroA Tryz.prog 23 = some [.c (.int .i64 0), .c (.int .i64 0), .c (.string ⟨#[]⟩)] := by kernel_rfl
theorem bld23 : bldk Tryz.prog 23 = some ([.int .i64 0, .int .i64 0, .string ⟨#[]⟩], [(0, 1), (1, 1), (2, 1)]) := by kernel_rfl
theorem ze24 : zeroA Tryz.prog 24 = some [.c (.int .i64 0), .c (.int .i64 0), .c (.string ⟨#[]⟩)] := by kernel_rfl
theorem bld24 : bldk Tryz.prog 24 = some ([.int .i64 0, .int .i64 0, .string ⟨#[]⟩], [(0, 1), (1, 1), (2, 1)]) := by kernel_rfl
theorem ze27 : zeroA Tryz.prog 27 = some [.c (.slice none 0 0)] := by kernel_rfl
theorem rwk27 : rwk Tryz.prog 27 = some (121, 8, 88, [.int .i64 0, .int .i64 0, .int .i64 0, .string ⟨#[]⟩, .slice none 0 0, .int .i64 0, .int .i64 0, .bool false]) := by kernel_rfl
theorem slk27 : slk Tryz.prog 27 = some (121, 8) := TT_ok.sl _ _ rfl
theorem ze28 : zeroA Tryz.prog 28 = some [.c (.slice none 0 0)] := by kernel_rfl
theorem rwk28 : rwk Tryz.prog 28 = some (97, 3, 24, [.int .i64 0, .int .i64 0, .int .i64 0]) := by kernel_rfl
theorem ze29 : zeroA Tryz.prog 29 = some [.c (.slice none 0 0)] := by kernel_rfl
theorem rwk29 : rwk Tryz.prog 29 = some (136, 3, 40, [.int .i64 0, .slice none 0 0, .int .i64 0]) := by kernel_rfl
theorem ze30 : zeroA Tryz.prog 30 = some [.c (.int .i64 0), .c (.int .i64 0), .c (.string ⟨#[]⟩)] := by kernel_rfl
theorem bld30 : bldk Tryz.prog 30 = some ([.int .i64 0, .int .i64 0, .string ⟨#[]⟩], [(0, 1), (1, 1), (2, 1)]) := by kernel_rfl
theorem flk30 : flatK Tryz.prog 4 30 = some [.int .i64, .int .i64, .string] ∧ True := ⟨by kernel_rfl, trivial⟩
theorem ze31 : zeroA Tryz.prog 31 = some [.c (.slice none 0 0), .c (.slice none 0 0), .c (.slice none 0 0), .c (.int .i64 0), .c (.int .i64 0), .c (.string ⟨#[]⟩), .c (.int .i64 0)] := by kernel_rfl
theorem bld31 : bldk Tryz.prog 31 = some ([.slice none 0 0, .slice none 0 0, .slice none 0 0, .int .i64 0, .int .i64 0, .string ⟨#[]⟩, .int .i64 0], [(0, 1), (1, 1), (2, 1), (3, 3), (6, 1)]) := by kernel_rfl
theorem ze32 : zeroA Tryz.prog 32 = some [.c (.slice none 0 0), .c (.slice none 0 0), .c (.slice none 0 0), .c (.int .i64 0), .c (.int .i64 0), .c (.string ⟨#[]⟩), .c (.int .i64 0)] := by kernel_rfl
theorem bld32 : bldk Tryz.prog 32 = some ([.slice none 0 0, .slice none 0 0, .slice none 0 0, .int .i64 0, .int .i64 0, .string ⟨#[]⟩, .int .i64 0], [(0, 1), (1, 1), (2, 1), (3, 3), (6, 1)]) := by kernel_rfl
theorem ze42 : zeroA Tryz.prog 42 = some [.c (.slice none 0 0)] := by kernel_rfl
theorem rwk42 : rwk Tryz.prog 42 = some (117, 8, 88, [.int .i64 0, .int .i64 0, .int .i64 0, .string ⟨#[]⟩, .slice none 0 0, .int .i64 0, .int .i64 0, .bool false]) := by kernel_rfl
theorem ze43 : zeroA Tryz.prog 43 = some [.c (.slice none 0 0)] := by kernel_rfl
theorem rwk43 : rwk Tryz.prog 43 = some (145, 3, 40, [.int .i64 0, .slice none 0 0, .int .i64 0]) := by kernel_rfl
theorem ze44 : zeroA Tryz.prog 44 = some [.c (.slice none 0 0), .c (.slice none 0 0), .c (.slice none 0 0), .c (.int .i64 0), .c (.int .i64 0), .c (.string ⟨#[]⟩), .c (.int .i64 0)] := by kernel_rfl
theorem bld44 : bldk Tryz.prog 44 = some ([.slice none 0 0, .slice none 0 0, .slice none 0 0, .int .i64 0, .int .i64 0, .string ⟨#[]⟩, .int .i64 0], [(0, 1), (1, 1), (2, 1), (3, 3), (6, 1)]) := by kernel_rfl
theorem ze45 : zeroA Tryz.prog 45 = some [.c (.slice none 0 0), .c (.slice none 0 0), .c (.slice none 0 0), .c (.int .i64 0), .c (.int .i64 0), .c (.string ⟨#[]⟩), .c (.int .i64 0)] := by kernel_rfl
theorem bld45 : bldk Tryz.prog 45 = some ([.slice none 0 0, .slice none 0 0, .slice none 0 0, .int .i64 0, .int .i64 0, .string ⟨#[]⟩, .int .i64 0], [(0, 1), (1, 1), (2, 1), (3, 3), (6, 1)]) := by kernel_rfl
theorem ze62 : zeroA Tryz.prog 62 = some [.c (.slice none 0 0)] := by kernel_rfl
theorem rwk62 : rwk Tryz.prog 62 = some (155, 2, 16, [.int .i64 0, .int .i64 0]) := by kernel_rfl
theorem ze63 : zeroA Tryz.prog 63 = some [.c (.int .i64 0), .c (.int .i64 0), .c (.int .i64 0), .c (.string ⟨#[]⟩), .c (.slice none 0 0)] := by kernel_rfl
theorem bld63 : bldk Tryz.prog 63 = some ([.int .i64 0, .int .i64 0, .int .i64 0, .string ⟨#[]⟩, .slice none 0 0], [(0, 1), (1, 1), (2, 1), (3, 1), (4, 1)]) := by kernel_rfl
theorem ze64 : zeroA Tryz.prog 64 = some [.c (.int .i64 0), .c (.int .i64 0), .c (.int .i64 0), .c (.string ⟨#[]⟩), .c (.slice none 0 0)] := by kernel_rfl
theorem bld64 : bldk Tryz.prog 64 = some ([.int .i64 0, .int .i64 0, .int .i64 0, .string ⟨#[]⟩, .slice none 0 0], [(0, 1), (1, 1), (2, 1), (3, 1), (4, 1)]) := by kernel_rfl
theorem ze67 : zeroA Tryz.prog 67 = some [.c (.slice none 0 0)] := by kernel_rfl
theorem rwk67 : rwk Tryz.prog 67 = some (152, 2, 16, [.int .i64 0, .int .i64 0]) := by kernel_rfl
theorem ze68 : zeroA Tryz.prog 68 = some [.c (.int .i64 0), .c (.int .i64 0), .c (.int .i64 0), .c (.string ⟨#[]⟩), .c (.slice none 0 0)] := by kernel_rfl
theorem bld68 : bldk Tryz.prog 68 = some ([.int .i64 0, .int .i64 0, .int .i64 0, .string ⟨#[]⟩, .slice none 0 0], [(0, 1), (1, 1), (2, 1), (3, 1), (4, 1)]) := by kernel_rfl
theorem ze69 : zeroA Tryz.prog 69 = some [.c (.int .i64 0), .c (.int .i64 0), .c (.int .i64 0), .c (.string ⟨#[]⟩), .c (.slice none 0 0)] := by kernel_rfl
theorem bld69 : bldk Tryz.prog 69 = some ([.int .i64 0, .int .i64 0, .int .i64 0, .string ⟨#[]⟩, .slice none 0 0], [(0, 1), (1, 1), (2, 1), (3, 1), (4, 1)]) := by kernel_rfl
theorem ze76 : zeroA Tryz.prog 76 = some [.c (.int .i64 0), .c (.int .i64 0), .c (.int .i64 0), .c (.int .i64 0), .c (.string ⟨#[]⟩), .c (.slice none 0 0), .c (.int .i64 0), .c (.int .i64 0), .c (.slice none 0 0), .c (.slice none 0 0), .c (.string ⟨#[]⟩)] := by kernel_rfl
theorem bld76 : bldk Tryz.prog 76 = some ([.int .i64 0, .int .i64 0, .int .i64 0, .int .i64 0, .string ⟨#[]⟩, .slice none 0 0, .int .i64 0, .int .i64 0, .slice none 0 0, .slice none 0 0, .string ⟨#[]⟩], [(0, 1), (1, 5), (6, 1), (7, 1), (8, 1), (9, 1), (10, 1)]) := by kernel_rfl
theorem ze77 : zeroA Tryz.prog 77 = some [.c (.int .i64 0), .c (.int .i64 0), .c (.int .i64 0), .c (.int .i64 0), .c (.string ⟨#[]⟩), .c (.slice none 0 0), .c (.int .i64 0), .c (.int .i64 0), .c (.slice none 0 0), .c (.slice none 0 0), .c (.string ⟨#[]⟩)] := by kernel_rfl
theorem bld77 : bldk Tryz.prog 77 = some ([.int .i64 0, .int .i64 0, .int .i64 0, .int .i64 0, .string ⟨#[]⟩, .slice none 0 0, .int .i64 0, .int .i64 0, .slice none 0 0, .slice none 0 0, .string ⟨#[]⟩], [(0, 1), (1, 5), (6, 1), (7, 1), (8, 1), (9, 1), (10, 1)]) := by kernel_rfl
theorem ze80 : zeroA Tryz.prog 80 = some [.c (.int .i64 0), .c (.int .i64 0), .c (.int .i64 0), .c (.int .i64 0), .c (.string ⟨#[]⟩), .c (.slice none 0 0), .c (.int .i64 0), .c (.int .i64 0), .c (.slice none 0 0), .c (.slice none 0 0), .c (.string ⟨#[]⟩)] := by kernel_rfl
theorem bld80 : bldk Tryz.prog 80 = some ([.int .i64 0, .int .i64 0, .int .i64 0, .int .i64 0, .string ⟨#[]⟩, .slice none 0 0, .int .i64 0, .int .i64 0, .slice none 0 0, .slice none 0 0, .string ⟨#[]⟩], [(0, 1), (1, 5), (6, 1), (7, 1), (8, 1), (9, 1), (10, 1)]) := by kernel_rfl
theorem ze81 : zeroA Tryz.prog 81 = some [.c (.int .i64 0), .c (.int .i64 0), .c (.int .i64 0), .c (.int .i64 0), .c (.string ⟨#[]⟩), .c (.slice none 0 0), .c (.int .i64 0), .c (.int .i64 0), .c (.slice none 0 0), .c (.slice none 0 0), .c (.string ⟨#[]⟩)] := by kernel_rfl
theorem bld81 : bldk Tryz.prog 81 = some ([.int .i64 0, .int .i64 0, .int .i64 0, .int .i64 0, .string ⟨#[]⟩, .slice none 0 0, .int .i64 0, .int .i64 0, .slice none 0 0, .slice none 0 0, .string ⟨#[]⟩], [(0, 1), (1, 5), (6, 1), (7, 1), (8, 1), (9, 1), (10, 1)]) := by kernel_rfl
theorem ze86 : zeroA Tryz.prog 86 = some [.c (.slice none 0 0)] := by kernel_rfl
theorem rwk86 : rwk Tryz.prog 86 = some (77, 11, 152, [.int .i64 0, .int .i64 0, .int .i64 0, .int .i64 0, .string ⟨#[]⟩, .slice none 0 0, .int .i64 0, .int .i64 0, .slice none 0 0, .slice none 0 0, .string ⟨#[]⟩]) := by kernel_rfl
theorem ze89 : zeroA Tryz.prog 89 = some [.c (.slice none 0 0)] := by kernel_rfl
theorem rwk89 : rwk Tryz.prog 89 = some (81, 11, 152, [.int .i64 0, .int .i64 0, .int .i64 0, .int .i64 0, .string ⟨#[]⟩, .slice none 0 0, .int .i64 0, .int .i64 0, .slice none 0 0, .slice none 0 0, .string ⟨#[]⟩]) := by kernel_rfl
theorem ze96 : zeroA Tryz.prog 96 = some [.c (.int .i64 0), .c (.int .i64 0), .c (.int .i64 0)] := by kernel_rfl
theorem bld96 : bldk Tryz.prog 96 = some ([.int .i64 0, .int .i64 0, .int .i64 0], [(0, 1), (1, 1), (2, 1)]) := by kernel_rfl
theorem ze97 : zeroA Tryz.prog 97 = some [.c (.int .i64 0), .c (.int .i64 0), .c (.int .i64 0)] := by kernel_rfl
theorem bld97 : bldk Tryz.prog 97 = some ([.int .i64 0, .int .i64 0, .int .i64 0], [(0, 1), (1, 1), (2, 1)]) := by kernel_rfl
theorem flk97 : flatK Tryz.prog 4 97 = some [.int .i64, .int .i64, .int .i64] ∧ True := ⟨by kernel_rfl, trivial⟩
theorem ze99 : zeroA Tryz.prog 99 = some [.c (.int .i64 0), .c (.int .i64 0), .c (.int .i64 0)] := by kernel_rfl
theorem bld99 : bldk Tryz.prog 99 = some ([.int .i64 0, .int .i64 0, .int .i64 0], [(0, 1), (1, 1), (2, 1)]) := by kernel_rfl
theorem ze110 : zeroA Tryz.prog 110 = some [.c (.slice none 0 0)] := by kernel_rfl
theorem rwk110 : rwk Tryz.prog 110 = some (5, 1, 1, [.int .u8 0]) := by kernel_rfl
theorem slk110 : slk Tryz.prog 110 = some (5, 1) := TT_ok.sl _ _ rfl
theorem ze113 : zeroA Tryz.prog 113 = some [.c (.slice none 0 0)] := by kernel_rfl
theorem rwk113 : rwk Tryz.prog 113 = some (69, 5, 64, [.int .i64 0, .int .i64 0, .int .i64 0, .string ⟨#[]⟩, .slice none 0 0]) := by kernel_rfl
theorem ze116 : zeroA Tryz.prog 116 = some [.c (.int .i64 0), .c (.int .i64 0), .c (.int .i64 0), .c (.string ⟨#[]⟩), .c (.slice none 0 0), .c (.int .i64 0), .c (.int .i64 0), .c (.bool false)] := by kernel_rfl
theorem bld116 : bldk Tryz.prog 116 = some ([.int .i64 0, .int .i64 0, .int .i64 0, .string ⟨#[]⟩, .slice none 0 0, .int .i64 0, .int .i64 0, .bool false], [(0, 5), (5, 1), (6, 1), (7, 1)]) := by kernel_rfl
theorem ze117 : zeroA Tryz.prog 117 = some [.c (.int .i64 0), .c (.int .i64 0), .c (.int .i64 0), .c (.string ⟨#[]⟩), .c (.slice none 0 0), .c (.int .i64 0), .c (.int .i64 0), .c (.bool false)] := by kernel_rfl
theorem bld117 : bldk Tryz.prog 117 = some ([.int .i64 0, .int .i64 0, .int .i64 0, .string ⟨#[]⟩, .slice none 0 0, .int .i64 0, .int .i64 0, .bool false], [(0, 5), (5, 1), (6, 1), (7, 1)]) := by kernel_rfl
theorem ze121 : zeroA Tryz.prog 121 = some [.c (.int .i64 0), .c (.int .i64 0), .c (.int .i64 0), .c (.string ⟨#[]⟩), .c (.slice none 0 0), .c (.int .i64 0), .c (.int .i64 0), .c (.bool false)] := by kernel_rfl
theorem bld121 : bldk Tryz.prog 121 = some ([.int .i64 0, .int .i64 0, .int .i64 0, .string ⟨#[]⟩, .slice none 0 0, .int .i64 0, .int .i64 0, .bool false], [(0, 5), (5, 1), (6, 1), (7, 1)]) := by kernel_rfl
theorem ze136 : zeroA Tryz.prog 136 = some [.c (.int .i64 0), .c (.slice none 0 0), .c (.int .i64 0)] := by kernel_rfl
theorem bld136 : bldk Tryz.prog 136 = some ([.int .i64 0, .slice none 0 0, .int .i64 0], [(0, 1), (1, 1), (2, 1)]) := by kernel_rfl
theorem ze143 : zeroA Tryz.prog 143 = some [.c (.slice none 0 0)] := by kernel_rfl
theorem rwk143 : rwk Tryz.prog 143 = some (64, 5, 64, [.int .i64 0, .int .i64 0, .int .i64 0, .string ⟨#[]⟩, .slice none 0 0]) := by kernel_rfl
theorem ze145 : zeroA Tryz.prog 145 = some [.c (.int .i64 0), .c (.slice none 0 0), .c (.int .i64 0)] := by kernel_rfl
theorem bld145 : bldk Tryz.prog 145 = some ([.int .i64 0, .slice none 0 0, .int .i64 0], [(0, 1), (1, 1), (2, 1)]) := by kernel_rfl
theorem ze152 : zeroA Tryz.prog 152 = some [.c (.int .i64 0), .c (.int .i64 0)] := by kernel_rfl
theorem bld152 : bldk Tryz.prog 152 = some ([.int .i64 0, .int .i64 0], [(0, 1), (1, 1)]) := by kernel_rfl
theorem flk152 : flatK Tryz.prog 4 152 = some [.int .i64, .int .i64] ∧ True := ⟨by kernel_rfl, trivial⟩
theorem ze155 : zeroA Tryz.prog 155 = some [.c (.int .i64 0), .c (.int .i64 0)] := by kernel_rfl
theorem bld155 : bldk Tryz.prog 155 = some ([.int .i64 0, .int .i64 0], [(0, 1), (1, 1)]) := by kernel_rfl
theorem ze162 : zeroA Tryz.prog 162 = some [.c (.slice none 0 0)] := by kernel_rfl
theorem rwk162 : rwk Tryz.prog 162 = some (3, 1, 8, [.int .i64 0]) := by kernel_rfl
theorem ze163 : zeroA Tryz.prog 163 = some [.c (.slice none 0 0)] := by kernel_rfl
theorem rwk163 : rwk Tryz.prog 163 = some (166, 2, 16, [.int .i64 0, .int .i64 0]) := by kernel_rfl
theorem ze166 : zeroA Tryz.prog 166 = some [.c (.int .i64 0), .c (.int .i64 0)] := by kernel_rfl
theorem bld166 : bldk Tryz.prog 166 = some ([.int .i64 0, .int .i64 0], [(0, 1), (1, 1)]) := by kernel_rfl
theorem flk166 : flatK Tryz.prog 4 166 = some [.int .i64, .int .i64] ∧ True := ⟨by kernel_rfl, trivial⟩
theorem ze174 : zeroA Tryz.prog 174 = some [.c (.slice none 0 0)] := by kernel_rfl
theorem rwk174 : rwk Tryz.prog 174 = some (177, 4, 32, [.int .i64 0, .int .i64 0, .int .i64 0, .int .i64 0]) := by kernel_rfl
theorem ze177 : zeroA Tryz.prog 177 = some [.c (.int .i64 0), .c (.int .i64 0), .c (.int .i64 0), .c (.int .i64 0)] := by kernel_rfl
theorem bld177 : bldk Tryz.prog 177 = some ([.int .i64 0, .int .i64 0, .int .i64 0, .int .i64 0], [(0, 2), (2, 2)]) := by kernel_rfl
theorem flk177 : flatK Tryz.prog 4 177 = some [.int .i64, .int .i64, .int .i64, .int .i64] ∧ True := ⟨by kernel_rfl, trivial⟩
theorem ze181 : zeroA Tryz.prog 181 = some [.c (.int .i64 0), .c (.int .i64 0), .c (.int .i64 0), .c (.int .i64 0)] := by kernel_rfl
theorem bld181 : bldk Tryz.prog 181 = some ([.int .i64 0, .int .i64 0, .int .i64 0, .int .i64 0], [(0, 2), (2, 2)]) := by kernel_rfl
theorem flk181 : flatK Tryz.prog 4 181 = some [.int .i64, .int .i64, .int .i64, .int .i64] ∧ True := ⟨by kernel_rfl, trivial⟩
end Go.Proofs.YtacbpfbelcdeiaaGreat.Abs
