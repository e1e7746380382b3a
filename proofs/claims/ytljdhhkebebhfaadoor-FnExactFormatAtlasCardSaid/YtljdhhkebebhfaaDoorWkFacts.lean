/- The types' facts for the walks. -/
import Derived.Test.YtljdhhkebebhfaaDoorData
import Derived.Test.YtljdhhkebebhfaaDoorProg
namespace Go.Proofs.YtljdhhkebebhfaaDoor.Abs
open Go.Proofs Go.RowKit
set_option linter.unusedVariables false
set_option linter.unusedSimpArgs false
def TT : Tbl := ⟨[(2, (false, 1)), (3, (false, 1)), (4, (false, 1)), (5, (false, 1)), (6, (false, 1)), (7, (true, 4)), (8, (true, 4)), (9, (false, 1)), (10, (false, 1)), (11, (false, 1)), (12, (false, 1)), (13, (true, 2)), (14, (true, 2)), (15, (false, 1)), (16, (false, 1)), (17, (false, 1)), (18, (true, 1)), (19, (true, 1)), (21, (false, 1)), (22, (false, 1)), (23, (false, 1)), (24, (false, 1)), (25, (true, 3)), (26, (true, 3)), (27, (true, 7)), (28, (true, 7)), (31, (false, 1)), (32, (false, 1)), (33, (false, 1)), (34, (true, 3)), (35, (true, 7)), (36, (true, 7)), (45, (false, 1)), (56, (false, 1)), (57, (true, 5)), (58, (true, 5)), (59, (true, 8)), (60, (true, 8)), (62, (false, 1)), (63, (true, 3)), (64, (true, 3)), (65, (false, 1)), (70, (false, 1)), (71, (true, 5)), (72, (true, 5)), (73, (true, 8)), (74, (true, 8)), (76, (true, 3)), (77, (true, 3)), (79, (true, 3)), (80, (false, 1)), (81, (true, 3)), (82, (true, 3)), (89, (false, 1)), (110, (true, 2)), (112, (true, 2))], [(7, [(0, 1), (1, 1), (2, 1), (3, 1)]), (8, [(0, 1), (1, 1), (2, 1), (3, 1)]), (13, [(0, 1), (1, 1)]), (14, [(0, 1), (1, 1)]), (18, [(0, 1)]), (19, [(0, 1)]), (25, [(0, 1), (1, 1), (2, 1)]), (26, [(0, 1), (1, 1), (2, 1)]), (27, [(0, 1), (1, 1), (2, 1), (3, 3), (6, 1)]), (28, [(0, 1), (1, 1), (2, 1), (3, 3), (6, 1)]), (34, [(0, 1), (1, 1), (2, 1)]), (35, [(0, 1), (1, 1), (2, 1), (3, 3), (6, 1)]), (36, [(0, 1), (1, 1), (2, 1), (3, 3), (6, 1)]), (57, [(0, 1), (1, 1), (2, 1), (3, 1), (4, 1)]), (58, [(0, 1), (1, 1), (2, 1), (3, 1), (4, 1)]), (59, [(0, 5), (5, 1), (6, 1), (7, 1)]), (60, [(0, 5), (5, 1), (6, 1), (7, 1)]), (63, [(0, 1), (1, 1), (2, 1)]), (64, [(0, 1), (1, 1), (2, 1)]), (71, [(0, 1), (1, 1), (2, 1), (3, 1), (4, 1)]), (72, [(0, 1), (1, 1), (2, 1), (3, 1), (4, 1)]), (73, [(0, 5), (5, 1), (6, 1), (7, 1)]), (74, [(0, 5), (5, 1), (6, 1), (7, 1)]), (76, [(0, 1), (1, 1), (2, 1)]), (77, [(0, 1), (1, 1), (2, 1)]), (79, [(0, 1), (1, 1), (2, 1)]), (81, [(0, 1), (1, 1), (2, 1)]), (82, [(0, 1), (1, 1), (2, 1)]), (110, [(0, 1), (1, 1)]), (112, [(0, 1), (1, 1)])], [(22, (60, 8)), (23, (79, 3)), (24, (64, 3)), (31, (74, 8)), (32, (77, 3)), (33, (82, 3)), (45, (3, 1)), (56, (112, 2)), (62, (58, 5)), (65, (9, 1)), (70, (110, 2)), (80, (72, 5)), (89, (5, 1))], [(2, .int .i64), (3, .int .i64), (4, .bool), (5, .int .u8), (6, .int .u8), (9, .string), (10, .string), (11, .string), (12, .int .u64), (21, .int .i32)]⟩
theorem TT_ok : TT.Ok Tryd.prog := Tbl.ok (by kernel_rfl)
theorem ze2 : zeroA Tryd.prog 2 = some [.c (.int .i64 0)] := by kernel_rfl
theorem ze3 : zeroA Tryd.prog 3 = some [.c (.int .i64 0)] := by kernel_rfl
theorem ze4 : zeroA Tryd.prog 4 = some [.c (.bool false)] := by kernel_rfl
theorem ze5 : zeroA Tryd.prog 5 = some [.c (.int .u8 0)] := by kernel_rfl
theorem ze6 : zeroA Tryd.prog 6 = some [.c (.int .u8 0)] := by kernel_rfl
theorem ze7 : zeroA Tryd.prog 7 = some [.c (.int .i64 0), .c (.int .i64 0), .c (.bool false), .c (.int .u8 0)] := by kernel_rfl
theorem bld7 : bldk Tryd.prog 7 = some ([.int .i64 0, .int .i64 0, .bool false, .int .u8 0], [(0, 1), (1, 1), (2, 1), (3, 1)]) := by kernel_rfl
theorem ze8 : zeroA Tryd.prog 8 = some [.c (.int .i64 0), .c (.int .i64 0), .c (.bool false), .c (.int .u8 0)] := by kernel_rfl
theorem bld8 : bldk Tryd.prog 8 = some ([.int .i64 0, .int .i64 0, .bool false, .int .u8 0], [(0, 1), (1, 1), (2, 1), (3, 1)]) := by kernel_rfl
theorem ze9 : zeroA Tryd.prog 9 = some [.c (.string ⟨#[]⟩)] := by kernel_rfl
theorem kds9 : Tryd.prog.underlying 9 = some .string := by kernel_rfl
theorem ze10 : zeroA Tryd.prog 10 = some [.c (.string ⟨#[]⟩)] := by kernel_rfl
theorem kds10 : Tryd.prog.underlying 10 = some .string := by kernel_rfl
theorem ze11 : zeroA Tryd.prog 11 = some [.c (.string ⟨#[]⟩)] := by kernel_rfl
theorem kds11 : Tryd.prog.underlying 11 = some .string := by kernel_rfl
theorem ze12 : zeroA Tryd.prog 12 = some [.c (.int .u64 0)] := by kernel_rfl
theorem ze13 : zeroA Tryd.prog 13 = some [.c (.string ⟨#[]⟩), .c (.int .u64 0)] := by kernel_rfl
theorem bld13 : bldk Tryd.prog 13 = some ([.string ⟨#[]⟩, .int .u64 0], [(0, 1), (1, 1)]) := by kernel_rfl
theorem ze14 : zeroA Tryd.prog 14 = some [.c (.string ⟨#[]⟩), .c (.int .u64 0)] := by kernel_rfl
theorem bld14 : bldk Tryd.prog 14 = some ([.string ⟨#[]⟩, .int .u64 0], [(0, 1), (1, 1)]) := by kernel_rfl
theorem ze15 : zeroA Tryd.prog 15 = some [.c (.pointer none)] := by kernel_rfl
theorem ze16 : zeroA Tryd.prog 16 = some [.c (.pointer none)] := by kernel_rfl
theorem ze17 : zeroA Tryd.prog 17 = some [.c (.pointer none)] := by kernel_rfl
theorem ze18 : zeroA Tryd.prog 18 = some [.c (.pointer none)] := by kernel_rfl
theorem bld18 : bldk Tryd.prog 18 = some ([.pointer none], [(0, 1)]) := by kernel_rfl
theorem ze19 : zeroA Tryd.prog 19 = some [.c (.pointer none)] := by kernel_rfl
theorem bld19 : bldk Tryd.prog 19 = some ([.pointer none], [(0, 1)]) := by kernel_rfl
theorem ze21 : zeroA Tryd.prog 21 = some [.c (.int .i32 0)] := by kernel_rfl
theorem ze22 : zeroA Tryd.prog 22 = some [.c (.slice none 0 0)] := by kernel_rfl
theorem rwk22 : rwk Tryd.prog 22 = some (60, 8, 88, [.int .i64 0, .int .i64 0, .int .i64 0, .string ⟨#[]⟩, .slice none 0 0, .int .i64 0, .int .i64 0, .bool false]) := by kernel_rfl
theorem ze23 : zeroA Tryd.prog 23 = some [.c (.slice none 0 0)] := by kernel_rfl
theorem rwk23 : rwk Tryd.prog 23 = some (79, 3, 24, [.int .i64 0, .int .i64 0, .int .i64 0]) := by kernel_rfl
theorem ze24 : zeroA Tryd.prog 24 = some [.c (.slice none 0 0)] := by kernel_rfl
theorem rwk24 : rwk Tryd.prog 24 = some (64, 3, 40, [.int .i64 0, .slice none 0 0, .int .i64 0]) := by kernel_rfl
theorem ze25 : zeroA Tryd.prog 25 = some [.c (.int .i64 0), .c (.int .i64 0), .c (.string ⟨#[]⟩)] := by kernel_rfl
theorem bld25 : bldk Tryd.prog 25 = some ([.int .i64 0, .int .i64 0, .string ⟨#[]⟩], [(0, 1), (1, 1), (2, 1)]) := by kernel_rfl
theorem ze26 : zeroA Tryd.prog 26 = some [.c (.int .i64 0), .c (.int .i64 0), .c (.string ⟨#[]⟩)] := by kernel_rfl
theorem bld26 : bldk Tryd.prog 26 = some ([.int .i64 0, .int .i64 0, .string ⟨#[]⟩], [(0, 1), (1, 1), (2, 1)]) := by kernel_rfl
theorem ze27 : zeroA Tryd.prog 27 = some [.c (.slice none 0 0), .c (.slice none 0 0), .c (.slice none 0 0), .c (.int .i64 0), .c (.int .i64 0), .c (.string ⟨#[]⟩), .c (.int .i64 0)] := by kernel_rfl
theorem bld27 : bldk Tryd.prog 27 = some ([.slice none 0 0, .slice none 0 0, .slice none 0 0, .int .i64 0, .int .i64 0, .string ⟨#[]⟩, .int .i64 0], [(0, 1), (1, 1), (2, 1), (3, 3), (6, 1)]) := by kernel_rfl
theorem ze28 : zeroA Tryd.prog 28 = some [.c (.slice none 0 0), .c (.slice none 0 0), .c (.slice none 0 0), .c (.int .i64 0), .c (.int .i64 0), .c (.string ⟨#[]⟩), .c (.int .i64 0)] := by kernel_rfl
theorem bld28 : bldk Tryd.prog 28 = some ([.slice none 0 0, .slice none 0 0, .slice none 0 0, .int .i64 0, .int .i64 0, .string ⟨#[]⟩, .int .i64 0], [(0, 1), (1, 1), (2, 1), (3, 3), (6, 1)]) := by kernel_rfl
theorem ze31 : zeroA Tryd.prog 31 = some [.c (.slice none 0 0)] := by kernel_rfl
theorem rwk31 : rwk Tryd.prog 31 = some (74, 8, 88, [.int .i64 0, .int .i64 0, .int .i64 0, .string ⟨#[]⟩, .slice none 0 0, .int .i64 0, .int .i64 0, .bool false]) := by kernel_rfl
theorem ze32 : zeroA Tryd.prog 32 = some [.c (.slice none 0 0)] := by kernel_rfl
theorem rwk32 : rwk Tryd.prog 32 = some (77, 3, 24, [.int .i64 0, .int .i64 0, .int .i64 0]) := by kernel_rfl
theorem ze33 : zeroA Tryd.prog 33 = some [.c (.slice none 0 0)] := by kernel_rfl
theorem rwk33 : rwk Tryd.prog 33 = some (82, 3, 40, [.int .i64 0, .slice none 0 0, .int .i64 0]) := by kernel_rfl
theorem ze34 : zeroA Tryd.prog 34 = some [.c (.int .i64 0), .c (.int .i64 0), .c (.string ⟨#[]⟩)] := by kernel_rfl
theorem bld34 : bldk Tryd.prog 34 = some ([.int .i64 0, .int .i64 0, .string ⟨#[]⟩], [(0, 1), (1, 1), (2, 1)]) := by kernel_rfl
theorem flk34 : flatK Tryd.prog 4 34 = some [.int .i64, .int .i64, .string] ∧ True := ⟨by kernel_rfl, trivial⟩
theorem ze35 : zeroA Tryd.prog 35 = some [.c (.slice none 0 0), .c (.slice none 0 0), .c (.slice none 0 0), .c (.int .i64 0), .c (.int .i64 0), .c (.string ⟨#[]⟩), .c (.int .i64 0)] := by kernel_rfl
theorem bld35 : bldk Tryd.prog 35 = some ([.slice none 0 0, .slice none 0 0, .slice none 0 0, .int .i64 0, .int .i64 0, .string ⟨#[]⟩, .int .i64 0], [(0, 1), (1, 1), (2, 1), (3, 3), (6, 1)]) := by kernel_rfl
theorem ze36 : zeroA Tryd.prog 36 = some [.c (.slice none 0 0), .c (.slice none 0 0), .c (.slice none 0 0), .c (.int .i64 0), .c (.int .i64 0), .c (.string ⟨#[]⟩), .c (.int .i64 0)] := by kernel_rfl
theorem bld36 : bldk Tryd.prog 36 = some ([.slice none 0 0, .slice none 0 0, .slice none 0 0, .int .i64 0, .int .i64 0, .string ⟨#[]⟩, .int .i64 0], [(0, 1), (1, 1), (2, 1), (3, 3), (6, 1)]) := by kernel_rfl
theorem ze45 : zeroA Tryd.prog 45 = some [.c (.slice none 0 0)] := by kernel_rfl
theorem rwk45 : rwk Tryd.prog 45 = some (3, 1, 8, [.int .i64 0]) := by kernel_rfl
theorem slk45 : slk Tryd.prog 45 = some (3, 1) := TT_ok.sl _ _ rfl
theorem ze56 : zeroA Tryd.prog 56 = some [.c (.slice none 0 0)] := by kernel_rfl
theorem rwk56 : rwk Tryd.prog 56 = some (112, 2, 16, [.int .i64 0, .int .i64 0]) := by kernel_rfl
theorem ze57 : zeroA Tryd.prog 57 = some [.c (.int .i64 0), .c (.int .i64 0), .c (.int .i64 0), .c (.string ⟨#[]⟩), .c (.slice none 0 0)] := by kernel_rfl
theorem bld57 : bldk Tryd.prog 57 = some ([.int .i64 0, .int .i64 0, .int .i64 0, .string ⟨#[]⟩, .slice none 0 0], [(0, 1), (1, 1), (2, 1), (3, 1), (4, 1)]) := by kernel_rfl
theorem ze58 : zeroA Tryd.prog 58 = some [.c (.int .i64 0), .c (.int .i64 0), .c (.int .i64 0), .c (.string ⟨#[]⟩), .c (.slice none 0 0)] := by kernel_rfl
theorem bld58 : bldk Tryd.prog 58 = some ([.int .i64 0, .int .i64 0, .int .i64 0, .string ⟨#[]⟩, .slice none 0 0], [(0, 1), (1, 1), (2, 1), (3, 1), (4, 1)]) := by kernel_rfl
theorem ze59 : zeroA Tryd.prog 59 = some [.c (.int .i64 0), .c (.int .i64 0), .c (.int .i64 0), .c (.string ⟨#[]⟩), .c (.slice none 0 0), .c (.int .i64 0), .c (.int .i64 0), .c (.bool false)] := by kernel_rfl
theorem bld59 : bldk Tryd.prog 59 = some ([.int .i64 0, .int .i64 0, .int .i64 0, .string ⟨#[]⟩, .slice none 0 0, .int .i64 0, .int .i64 0, .bool false], [(0, 5), (5, 1), (6, 1), (7, 1)]) := by kernel_rfl
theorem ze60 : zeroA Tryd.prog 60 = some [.c (.int .i64 0), .c (.int .i64 0), .c (.int .i64 0), .c (.string ⟨#[]⟩), .c (.slice none 0 0), .c (.int .i64 0), .c (.int .i64 0), .c (.bool false)] := by kernel_rfl
theorem bld60 : bldk Tryd.prog 60 = some ([.int .i64 0, .int .i64 0, .int .i64 0, .string ⟨#[]⟩, .slice none 0 0, .int .i64 0, .int .i64 0, .bool false], [(0, 5), (5, 1), (6, 1), (7, 1)]) := by kernel_rfl
theorem ze62 : zeroA Tryd.prog 62 = some [.c (.slice none 0 0)] := by kernel_rfl
theorem rwk62 : rwk Tryd.prog 62 = some (58, 5, 64, [.int .i64 0, .int .i64 0, .int .i64 0, .string ⟨#[]⟩, .slice none 0 0]) := by kernel_rfl
theorem ze63 : zeroA Tryd.prog 63 = some [.c (.int .i64 0), .c (.slice none 0 0), .c (.int .i64 0)] := by kernel_rfl
theorem bld63 : bldk Tryd.prog 63 = some ([.int .i64 0, .slice none 0 0, .int .i64 0], [(0, 1), (1, 1), (2, 1)]) := by kernel_rfl
theorem ze64 : zeroA Tryd.prog 64 = some [.c (.int .i64 0), .c (.slice none 0 0), .c (.int .i64 0)] := by kernel_rfl
theorem bld64 : bldk Tryd.prog 64 = some ([.int .i64 0, .slice none 0 0, .int .i64 0], [(0, 1), (1, 1), (2, 1)]) := by kernel_rfl
theorem ze65 : zeroA Tryd.prog 65 = some [.c (.slice none 0 0)] := by kernel_rfl
theorem rwk65 : rwk Tryd.prog 65 = some (9, 1, 16, [.string ⟨#[]⟩]) := by kernel_rfl
theorem ze70 : zeroA Tryd.prog 70 = some [.c (.slice none 0 0)] := by kernel_rfl
theorem rwk70 : rwk Tryd.prog 70 = some (110, 2, 16, [.int .i64 0, .int .i64 0]) := by kernel_rfl
theorem ze71 : zeroA Tryd.prog 71 = some [.c (.int .i64 0), .c (.int .i64 0), .c (.int .i64 0), .c (.string ⟨#[]⟩), .c (.slice none 0 0)] := by kernel_rfl
theorem bld71 : bldk Tryd.prog 71 = some ([.int .i64 0, .int .i64 0, .int .i64 0, .string ⟨#[]⟩, .slice none 0 0], [(0, 1), (1, 1), (2, 1), (3, 1), (4, 1)]) := by kernel_rfl
theorem ze72 : zeroA Tryd.prog 72 = some [.c (.int .i64 0), .c (.int .i64 0), .c (.int .i64 0), .c (.string ⟨#[]⟩), .c (.slice none 0 0)] := by kernel_rfl
theorem bld72 : bldk Tryd.prog 72 = some ([.int .i64 0, .int .i64 0, .int .i64 0, .string ⟨#[]⟩, .slice none 0 0], [(0, 1), (1, 1), (2, 1), (3, 1), (4, 1)]) := by kernel_rfl
theorem ze73 : zeroA Tryd.prog 73 = some [.c (.int .i64 0), .c (.int .i64 0), .c (.int .i64 0), .c (.string ⟨#[]⟩), .c (.slice none 0 0), .c (.int .i64 0), .c (.int .i64 0), .c (.bool false)] := by kernel_rfl
theorem bld73 : bldk Tryd.prog 73 = some ([.int .i64 0, .int .i64 0, .int .i64 0, .string ⟨#[]⟩, .slice none 0 0, .int .i64 0, .int .i64 0, .bool false], [(0, 5), (5, 1), (6, 1), (7, 1)]) := by kernel_rfl
theorem ze74 : zeroA Tryd.prog 74 = some [.c (.int .i64 0), .c (.int .i64 0), .c (.int .i64 0), .c (.string ⟨#[]⟩), .c (.slice none 0 0), .c (.int .i64 0), .c (.int .i64 0), .c (.bool false)] := by kernel_rfl
theorem bld74 : bldk Tryd.prog 74 = some ([.int .i64 0, .int .i64 0, .int .i64 0, .string ⟨#[]⟩, .slice none 0 0, .int .i64 0, .int .i64 0, .bool false], [(0, 5), (5, 1), (6, 1), (7, 1)]) := by kernel_rfl
theorem ze76 : zeroA Tryd.prog 76 = some [.c (.int .i64 0), .c (.int .i64 0), .c (.int .i64 0)] := by kernel_rfl
theorem bld76 : bldk Tryd.prog 76 = some ([.int .i64 0, .int .i64 0, .int .i64 0], [(0, 1), (1, 1), (2, 1)]) := by kernel_rfl
theorem ze77 : zeroA Tryd.prog 77 = some [.c (.int .i64 0), .c (.int .i64 0), .c (.int .i64 0)] := by kernel_rfl
theorem bld77 : bldk Tryd.prog 77 = some ([.int .i64 0, .int .i64 0, .int .i64 0], [(0, 1), (1, 1), (2, 1)]) := by kernel_rfl
theorem flk77 : flatK Tryd.prog 4 77 = some [.int .i64, .int .i64, .int .i64] ∧ True := ⟨by kernel_rfl, trivial⟩
theorem ze79 : zeroA Tryd.prog 79 = some [.c (.int .i64 0), .c (.int .i64 0), .c (.int .i64 0)] := by kernel_rfl
theorem bld79 : bldk Tryd.prog 79 = some ([.int .i64 0, .int .i64 0, .int .i64 0], [(0, 1), (1, 1), (2, 1)]) := by kernel_rfl
theorem ze80 : zeroA Tryd.prog 80 = some [.c (.slice none 0 0)] := by kernel_rfl
theorem rwk80 : rwk Tryd.prog 80 = some (72, 5, 64, [.int .i64 0, .int .i64 0, .int .i64 0, .string ⟨#[]⟩, .slice none 0 0]) := by kernel_rfl
theorem ze81 : zeroA Tryd.prog 81 = some [.c (.int .i64 0), .c (.slice none 0 0), .c (.int .i64 0)] := by kernel_rfl
theorem bld81 : bldk Tryd.prog 81 = some ([.int .i64 0, .slice none 0 0, .int .i64 0], [(0, 1), (1, 1), (2, 1)]) := by kernel_rfl
theorem ze82 : zeroA Tryd.prog 82 = some [.c (.int .i64 0), .c (.slice none 0 0), .c (.int .i64 0)] := by kernel_rfl
theorem bld82 : bldk Tryd.prog 82 = some ([.int .i64 0, .slice none 0 0, .int .i64 0], [(0, 1), (1, 1), (2, 1)]) := by kernel_rfl
theorem ze89 : zeroA Tryd.prog 89 = some [.c (.slice none 0 0)] := by kernel_rfl
theorem rwk89 : rwk Tryd.prog 89 = some (5, 1, 1, [.int .u8 0]) := by kernel_rfl
theorem ze110 : zeroA Tryd.prog 110 = some [.c (.int .i64 0), .c (.int .i64 0)] := by kernel_rfl
theorem bld110 : bldk Tryd.prog 110 = some ([.int .i64 0, .int .i64 0], [(0, 1), (1, 1)]) := by kernel_rfl
theorem flk110 : flatK Tryd.prog 4 110 = some [.int .i64, .int .i64] ∧ True := ⟨by kernel_rfl, trivial⟩
theorem ze112 : zeroA Tryd.prog 112 = some [.c (.int .i64 0), .c (.int .i64 0)] := by kernel_rfl
theorem bld112 : bldk Tryd.prog 112 = some ([.int .i64 0, .int .i64 0], [(0, 1), (1, 1)]) := by kernel_rfl
end Go.Proofs.YtljdhhkebebhfaaDoor.Abs
