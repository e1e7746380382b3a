/- The types' facts for the walks. -/
import Derived.Test.YtbkcoechoblndaaData
import Derived.Test.YtbkcoechoblndaaProg
namespace Go.Proofs.Ytbkcoechoblndaa.Abs
open Go.Proofs Go.RowKit
set_option linter.unusedVariables false
set_option linter.unusedSimpArgs false
def TT : Tbl := ⟨[(2, (false, 1)), (3, (false, 1)), (4, (false, 1)), (5, (false, 1)), (6, (false, 1)), (7, (true, 4)), (8, (true, 4)), (9, (false, 1)), (10, (false, 1)), (11, (false, 1)), (12, (false, 1)), (13, (true, 2)), (14, (true, 2)), (15, (false, 1)), (16, (false, 1)), (17, (false, 1)), (18, (true, 1)), (19, (true, 1)), (21, (false, 1)), (22, (true, 3)), (23, (true, 3)), (26, (true, 3)), (29, (false, 1)), (32, (false, 1)), (36, (false, 1)), (39, (false, 1)), (46, (false, 1)), (47, (false, 1)), (48, (false, 1)), (49, (true, 7)), (50, (true, 7)), (53, (false, 1)), (54, (false, 1)), (55, (false, 1)), (56, (true, 7)), (57, (true, 7)), (63, (false, 1)), (64, (true, 5)), (65, (true, 5)), (66, (false, 1)), (67, (true, 5)), (68, (true, 5)), (73, (true, 11)), (74, (true, 11)), (76, (true, 11)), (90, (true, 3)), (97, (true, 3)), (98, (true, 3)), (105, (false, 1)), (108, (true, 2)), (109, (true, 2)), (110, (true, 4)), (111, (true, 4)), (116, (false, 1)), (118, (true, 8)), (121, (true, 8)), (124, (true, 3)), (127, (true, 3)), (135, (true, 2))], [(7, [(0, 1), (1, 1), (2, 1), (3, 1)]), (8, [(0, 1), (1, 1), (2, 1), (3, 1)]), (13, [(0, 1), (1, 1)]), (14, [(0, 1), (1, 1)]), (18, [(0, 1)]), (19, [(0, 1)]), (22, [(0, 1), (1, 1), (2, 1)]), (23, [(0, 1), (1, 1), (2, 1)]), (26, [(0, 1), (1, 1), (2, 1)]), (49, [(0, 1), (1, 1), (2, 1), (3, 3), (6, 1)]), (50, [(0, 1), (1, 1), (2, 1), (3, 3), (6, 1)]), (56, [(0, 1), (1, 1), (2, 1), (3, 3), (6, 1)]), (57, [(0, 1), (1, 1), (2, 1), (3, 3), (6, 1)]), (64, [(0, 1), (1, 1), (2, 1), (3, 1), (4, 1)]), (65, [(0, 1), (1, 1), (2, 1), (3, 1), (4, 1)]), (67, [(0, 1), (1, 1), (2, 1), (3, 1), (4, 1)]), (68, [(0, 1), (1, 1), (2, 1), (3, 1), (4, 1)]), (73, [(0, 1), (1, 5), (6, 1), (7, 1), (8, 1), (9, 1), (10, 1)]), (74, [(0, 1), (1, 5), (6, 1), (7, 1), (8, 1), (9, 1), (10, 1)]), (76, [(0, 1), (1, 5), (6, 1), (7, 1), (8, 1), (9, 1), (10, 1)]), (90, [(0, 1), (1, 1), (2, 1)]), (97, [(0, 1), (1, 1), (2, 1)]), (98, [(0, 1), (1, 1), (2, 1)]), (108, [(0, 1), (1, 1)]), (109, [(0, 1), (1, 1)]), (110, [(0, 2), (2, 2)]), (111, [(0, 2), (2, 2)]), (118, [(0, 5), (5, 1), (6, 1), (7, 1)]), (121, [(0, 5), (5, 1), (6, 1), (7, 1)]), (124, [(0, 1), (1, 1), (2, 1)]), (127, [(0, 1), (1, 1), (2, 1)]), (135, [(0, 1), (1, 1)])], [(29, (65, 5)), (32, (68, 5)), (36, (74, 11)), (39, (76, 11)), (46, (121, 8)), (47, (127, 3)), (48, (124, 3)), (53, (118, 8)), (54, (90, 3)), (55, (98, 3)), (63, (135, 2)), (66, (109, 2)), (105, (111, 4)), (116, (5, 1))], [(2, .int .i64), (3, .int .i64), (4, .bool), (5, .int .u8), (6, .int .u8), (9, .string), (10, .string), (11, .string), (12, .int .u64), (21, .int .i32)]⟩
theorem TT_ok : TT.Ok Try.prog := Tbl.ok (by kernel_rfl)
theorem ldk2 : ldk Try.prog 2 = some (false, 1) := TT_ok.ld _ _ rfl
theorem ze2 : zeroA Try.prog 2 = some [.c (.int .i64 0)] := by kernel_rfl
theorem ldk3 : ldk Try.prog 3 = some (false, 1) := TT_ok.ld _ _ rfl
theorem ze3 : zeroA Try.prog 3 = some [.c (.int .i64 0)] := by kernel_rfl
theorem ldk4 : ldk Try.prog 4 = some (false, 1) := TT_ok.ld _ _ rfl
theorem ze4 : zeroA Try.prog 4 = some [.c (.bool false)] := by kernel_rfl
theorem ldk5 : ldk Try.prog 5 = some (false, 1) := TT_ok.ld _ _ rfl
theorem ze5 : zeroA Try.prog 5 = some [.c (.int .u8 0)] := by kernel_rfl
theorem ldk6 : ldk Try.prog 6 = some (false, 1) := TT_ok.ld _ _ rfl
theorem ze6 : zeroA Try.prog 6 = some [.c (.int .u8 0)] := by kernel_rfl
theorem ldk7 : ldk Try.prog 7 = some (true, 4) := TT_ok.ld _ _ rfl
theorem ze7 : zeroA Try.prog 7 = some [.c (.int .i64 0), .c (.int .i64 0), .c (.bool false), .c (.int .u8 0)] := by kernel_rfl
theorem bld7 : bldk Try.prog 7 = some ([.int .i64 0, .int .i64 0, .bool false, .int .u8 0], [(0, 1), (1, 1), (2, 1), (3, 1)]) := by kernel_rfl
theorem ldk8 : ldk Try.prog 8 = some (true, 4) := TT_ok.ld _ _ rfl
theorem ze8 : zeroA Try.prog 8 = some [.c (.int .i64 0), .c (.int .i64 0), .c (.bool false), .c (.int .u8 0)] := by kernel_rfl
theorem bld8 : bldk Try.prog 8 = some ([.int .i64 0, .int .i64 0, .bool false, .int .u8 0], [(0, 1), (1, 1), (2, 1), (3, 1)]) := by kernel_rfl
theorem ldk9 : ldk Try.prog 9 = some (false, 1) := TT_ok.ld _ _ rfl
theorem ze9 : zeroA Try.prog 9 = some [.c (.string ⟨#[]⟩)] := by kernel_rfl
theorem kds9 : Try.prog.underlying 9 = some .string := by kernel_rfl
theorem ldk10 : ldk Try.prog 10 = some (false, 1) := TT_ok.ld _ _ rfl
theorem ze10 : zeroA Try.prog 10 = some [.c (.string ⟨#[]⟩)] := by kernel_rfl
theorem kds10 : Try.prog.underlying 10 = some .string := by kernel_rfl
theorem ldk11 : ldk Try.prog 11 = some (false, 1) := TT_ok.ld _ _ rfl
theorem ze11 : zeroA Try.prog 11 = some [.c (.string ⟨#[]⟩)] := by kernel_rfl
theorem kds11 : Try.prog.underlying 11 = some .string := by kernel_rfl
theorem ldk12 : ldk Try.prog 12 = some (false, 1) := TT_ok.ld _ _ rfl
theorem ze12 : zeroA Try.prog 12 = some [.c (.int .u64 0)] := by kernel_rfl
theorem ldk13 : ldk Try.prog 13 = some (true, 2) := TT_ok.ld _ _ rfl
theorem ze13 : zeroA Try.prog 13 = some [.c (.string ⟨#[]⟩), .c (.int .u64 0)] := by kernel_rfl
theorem bld13 : bldk Try.prog 13 = some ([.string ⟨#[]⟩, .int .u64 0], [(0, 1), (1, 1)]) := by kernel_rfl
theorem ldk14 : ldk Try.prog 14 = some (true, 2) := TT_ok.ld _ _ rfl
theorem ze14 : zeroA Try.prog 14 = some [.c (.string ⟨#[]⟩), .c (.int .u64 0)] := by kernel_rfl
theorem bld14 : bldk Try.prog 14 = some ([.string ⟨#[]⟩, .int .u64 0], [(0, 1), (1, 1)]) := by kernel_rfl
theorem ldk15 : ldk Try.prog 15 = some (false, 1) := TT_ok.ld _ _ rfl
theorem ze15 : zeroA Try.prog 15 = some [.c (.pointer none)] := by kernel_rfl
theorem ldk16 : ldk Try.prog 16 = some (false, 1) := TT_ok.ld _ _ rfl
theorem ze16 : zeroA Try.prog 16 = some [.c (.pointer none)] := by kernel_rfl
theorem ldk17 : ldk Try.prog 17 = some (false, 1) := TT_ok.ld _ _ rfl
theorem ze17 : zeroA Try.prog 17 = some [.c (.pointer none)] := by kernel_rfl
theorem ldk18 : ldk Try.prog 18 = some (true, 1) := TT_ok.ld _ _ rfl
theorem ze18 : zeroA Try.prog 18 = some [.c (.pointer none)] := by kernel_rfl
theorem bld18 : bldk Try.prog 18 = some ([.pointer none], [(0, 1)]) := by kernel_rfl
theorem ldk19 : ldk Try.prog 19 = some (true, 1) := TT_ok.ld _ _ rfl
theorem ze19 : zeroA Try.prog 19 = some [.c (.pointer none)] := by kernel_rfl
theorem bld19 : bldk Try.prog 19 = some ([.pointer none], [(0, 1)]) := by kernel_rfl
theorem ldk21 : ldk Try.prog 21 = some (false, 1) := TT_ok.ld _ _ rfl
theorem ze21 : zeroA Try.prog 21 = some [.c (.int .i32 0)] := by kernel_rfl
theorem ldk22 : ldk Try.prog 22 = some (true, 3) := TT_ok.ld _ _ rfl
theorem ze22 : zeroA Try.prog 22 = some [.c (.int .i64 0), .c (.int .i64 0), .c (.string ⟨#[]⟩)] := by kernel_rfl
theorem bld22 : bldk Try.prog 22 = some ([.int .i64 0, .int .i64 0, .string ⟨#[]⟩], [(0, 1), (1, 1), (2, 1)]) := by kernel_rfl
theorem ldk23 : ldk Try.prog 23 = some (true, 3) := TT_ok.ld _ _ rfl
theorem ze23 : zeroA Try.prog 23 = some [.c (.int .i64 0), .c (.int .i64 0), .c (.string ⟨#[]⟩)] := by kernel_rfl
theorem bld23 : bldk Try.prog 23 = some ([.int .i64 0, .int .i64 0, .string ⟨#[]⟩], [(0, 1), (1, 1), (2, 1)]) := by kernel_rfl
theorem ldk26 : ldk Try.prog 26 = some (true, 3) := TT_ok.ld _ _ rfl
theorem ze26 : zeroA Try.prog 26 = some [.c (.int .i64 0), .c (.int .i64 0), .c (.string ⟨#[]⟩)] := by kernel_rfl
theorem bld26 : bldk Try.prog 26 = some ([.int .i64 0, .int .i64 0, .string ⟨#[]⟩], [(0, 1), (1, 1), (2, 1)]) := by kernel_rfl
theorem flk26 : flatK Try.prog 4 26 = some [.int .i64, .int .i64, .string] ∧ True := ⟨by kernel_rfl, trivial⟩
theorem ldk29 : ldk Try.prog 29 = some (false, 1) := TT_ok.ld _ _ rfl
theorem ze29 : zeroA Try.prog 29 = some [.c (.slice none 0 0)] := by kernel_rfl
theorem rwk29 : rwk Try.prog 29 = some (65, 5, 64, [.int .i64 0, .int .i64 0, .int .i64 0, .string ⟨#[]⟩, .slice none 0 0]) := by kernel_rfl
theorem slk29 : slk Try.prog 29 = some (65, 5) := TT_ok.sl _ _ rfl
theorem ldk32 : ldk Try.prog 32 = some (false, 1) := TT_ok.ld _ _ rfl
theorem ze32 : zeroA Try.prog 32 = some [.c (.slice none 0 0)] := by kernel_rfl
theorem rwk32 : rwk Try.prog 32 = some (68, 5, 64, [.int .i64 0, .int .i64 0, .int .i64 0, .string ⟨#[]⟩, .slice none 0 0]) := by kernel_rfl
theorem slk32 : slk Try.prog 32 = some (68, 5) := TT_ok.sl _ _ rfl
theorem ldk36 : ldk Try.prog 36 = some (false, 1) := TT_ok.ld _ _ rfl
theorem ze36 : zeroA Try.prog 36 = some [.c (.slice none 0 0)] := by kernel_rfl
theorem rwk36 : rwk Try.prog 36 = some (74, 11, 152, [.int .i64 0, .int .i64 0, .int .i64 0, .int .i64 0, .string ⟨#[]⟩, .slice none 0 0, .int .i64 0, .int .i64 0, .slice none 0 0, .slice none 0 0, .string ⟨#[]⟩]) := by kernel_rfl
theorem slk36 : slk Try.prog 36 = some (74, 11) := TT_ok.sl _ _ rfl
theorem ldk39 : ldk Try.prog 39 = some (false, 1) := TT_ok.ld _ _ rfl
theorem ze39 : zeroA Try.prog 39 = some [.c (.slice none 0 0)] := by kernel_rfl
theorem rwk39 : rwk Try.prog 39 = some (76, 11, 152, [.int .i64 0, .int .i64 0, .int .i64 0, .int .i64 0, .string ⟨#[]⟩, .slice none 0 0, .int .i64 0, .int .i64 0, .slice none 0 0, .slice none 0 0, .string ⟨#[]⟩]) := by kernel_rfl
theorem slk39 : slk Try.prog 39 = some (76, 11) := TT_ok.sl _ _ rfl
theorem ldk46 : ldk Try.prog 46 = some (false, 1) := TT_ok.ld _ _ rfl
theorem ze46 : zeroA Try.prog 46 = some [.c (.slice none 0 0)] := by kernel_rfl
theorem rwk46 : rwk Try.prog 46 = some (121, 8, 88, [.int .i64 0, .int .i64 0, .int .i64 0, .string ⟨#[]⟩, .slice none 0 0, .int .i64 0, .int .i64 0, .bool false]) := by kernel_rfl
theorem slk46 : slk Try.prog 46 = some (121, 8) := TT_ok.sl _ _ rfl
theorem ldk47 : ldk Try.prog 47 = some (false, 1) := TT_ok.ld _ _ rfl
theorem ze47 : zeroA Try.prog 47 = some [.c (.slice none 0 0)] := by kernel_rfl
theorem rwk47 : rwk Try.prog 47 = some (127, 3, 24, [.int .i64 0, .int .i64 0, .int .i64 0]) := by kernel_rfl
theorem slk47 : slk Try.prog 47 = some (127, 3) := TT_ok.sl _ _ rfl
theorem ldk48 : ldk Try.prog 48 = some (false, 1) := TT_ok.ld _ _ rfl
theorem ze48 : zeroA Try.prog 48 = some [.c (.slice none 0 0)] := by kernel_rfl
theorem rwk48 : rwk Try.prog 48 = some (124, 3, 40, [.int .i64 0, .slice none 0 0, .int .i64 0]) := by kernel_rfl
theorem slk48 : slk Try.prog 48 = some (124, 3) := TT_ok.sl _ _ rfl
theorem ldk49 : ldk Try.prog 49 = some (true, 7) := TT_ok.ld _ _ rfl
theorem ze49 : zeroA Try.prog 49 = some [.c (.slice none 0 0), .c (.slice none 0 0), .c (.slice none 0 0), .c (.int .i64 0), .c (.int .i64 0), .c (.string ⟨#[]⟩), .c (.int .i64 0)] := by kernel_rfl
theorem bld49 : bldk Try.prog 49 = some ([.slice none 0 0, .slice none 0 0, .slice none 0 0, .int .i64 0, .int .i64 0, .string ⟨#[]⟩, .int .i64 0], [(0, 1), (1, 1), (2, 1), (3, 3), (6, 1)]) := by kernel_rfl
theorem ldk50 : ldk Try.prog 50 = some (true, 7) := TT_ok.ld _ _ rfl
theorem ze50 : zeroA Try.prog 50 = some [.c (.slice none 0 0), .c (.slice none 0 0), .c (.slice none 0 0), .c (.int .i64 0), .c (.int .i64 0), .c (.string ⟨#[]⟩), .c (.int .i64 0)] := by kernel_rfl
theorem bld50 : bldk Try.prog 50 = some ([.slice none 0 0, .slice none 0 0, .slice none 0 0, .int .i64 0, .int .i64 0, .string ⟨#[]⟩, .int .i64 0], [(0, 1), (1, 1), (2, 1), (3, 3), (6, 1)]) := by kernel_rfl
theorem ldk53 : ldk Try.prog 53 = some (false, 1) := TT_ok.ld _ _ rfl
theorem ze53 : zeroA Try.prog 53 = some [.c (.slice none 0 0)] := by kernel_rfl
theorem rwk53 : rwk Try.prog 53 = some (118, 8, 88, [.int .i64 0, .int .i64 0, .int .i64 0, .string ⟨#[]⟩, .slice none 0 0, .int .i64 0, .int .i64 0, .bool false]) := by kernel_rfl
theorem slk53 : slk Try.prog 53 = some (118, 8) := TT_ok.sl _ _ rfl
theorem ldk54 : ldk Try.prog 54 = some (false, 1) := TT_ok.ld _ _ rfl
theorem ze54 : zeroA Try.prog 54 = some [.c (.slice none 0 0)] := by kernel_rfl
theorem rwk54 : rwk Try.prog 54 = some (90, 3, 24, [.int .i64 0, .int .i64 0, .int .i64 0]) := by kernel_rfl
theorem slk54 : slk Try.prog 54 = some (90, 3) := TT_ok.sl _ _ rfl
theorem ldk55 : ldk Try.prog 55 = some (false, 1) := TT_ok.ld _ _ rfl
theorem ze55 : zeroA Try.prog 55 = some [.c (.slice none 0 0)] := by kernel_rfl
theorem rwk55 : rwk Try.prog 55 = some (98, 3, 40, [.int .i64 0, .slice none 0 0, .int .i64 0]) := by kernel_rfl
theorem slk55 : slk Try.prog 55 = some (98, 3) := TT_ok.sl _ _ rfl
theorem ldk56 : ldk Try.prog 56 = some (true, 7) := TT_ok.ld _ _ rfl
theorem ze56 : zeroA Try.prog 56 = some [.c (.slice none 0 0), .c (.slice none 0 0), .c (.slice none 0 0), .c (.int .i64 0), .c (.int .i64 0), .c (.string ⟨#[]⟩), .c (.int .i64 0)] := by kernel_rfl
theorem bld56 : bldk Try.prog 56 = some ([.slice none 0 0, .slice none 0 0, .slice none 0 0, .int .i64 0, .int .i64 0, .string ⟨#[]⟩, .int .i64 0], [(0, 1), (1, 1), (2, 1), (3, 3), (6, 1)]) := by kernel_rfl
theorem ldk57 : ldk Try.prog 57 = some (true, 7) := TT_ok.ld _ _ rfl
theorem ze57 : zeroA Try.prog 57 = some [.c (.slice none 0 0), .c (.slice none 0 0), .c (.slice none 0 0), .c (.int .i64 0), .c (.int .i64 0), .c (.string ⟨#[]⟩), .c (.int .i64 0)] := by kernel_rfl
theorem bld57 : bldk Try.prog 57 = some ([.slice none 0 0, .slice none 0 0, .slice none 0 0, .int .i64 0, .int .i64 0, .string ⟨#[]⟩, .int .i64 0], [(0, 1), (1, 1), (2, 1), (3, 3), (6, 1)]) := by kernel_rfl
theorem ldk63 : ldk Try.prog 63 = some (false, 1) := TT_ok.ld _ _ rfl
theorem ze63 : zeroA Try.prog 63 = some [.c (.slice none 0 0)] := by kernel_rfl
theorem rwk63 : rwk Try.prog 63 = some (135, 2, 16, [.int .i64 0, .int .i64 0]) := by kernel_rfl
theorem slk63 : slk Try.prog 63 = some (135, 2) := TT_ok.sl _ _ rfl
theorem ldk64 : ldk Try.prog 64 = some (true, 5) := TT_ok.ld _ _ rfl
theorem ze64 : zeroA Try.prog 64 = some [.c (.int .i64 0), .c (.int .i64 0), .c (.int .i64 0), .c (.string ⟨#[]⟩), .c (.slice none 0 0)] := by kernel_rfl
theorem bld64 : bldk Try.prog 64 = some ([.int .i64 0, .int .i64 0, .int .i64 0, .string ⟨#[]⟩, .slice none 0 0], [(0, 1), (1, 1), (2, 1), (3, 1), (4, 1)]) := by kernel_rfl
theorem ldk65 : ldk Try.prog 65 = some (true, 5) := TT_ok.ld _ _ rfl
theorem ze65 : zeroA Try.prog 65 = some [.c (.int .i64 0), .c (.int .i64 0), .c (.int .i64 0), .c (.string ⟨#[]⟩), .c (.slice none 0 0)] := by kernel_rfl
theorem bld65 : bldk Try.prog 65 = some ([.int .i64 0, .int .i64 0, .int .i64 0, .string ⟨#[]⟩, .slice none 0 0], [(0, 1), (1, 1), (2, 1), (3, 1), (4, 1)]) := by kernel_rfl
theorem ldk66 : ldk Try.prog 66 = some (false, 1) := TT_ok.ld _ _ rfl
theorem ze66 : zeroA Try.prog 66 = some [.c (.slice none 0 0)] := by kernel_rfl
theorem rwk66 : rwk Try.prog 66 = some (109, 2, 16, [.int .i64 0, .int .i64 0]) := by kernel_rfl
theorem slk66 : slk Try.prog 66 = some (109, 2) := TT_ok.sl _ _ rfl
theorem ldk67 : ldk Try.prog 67 = some (true, 5) := TT_ok.ld _ _ rfl
theorem ze67 : zeroA Try.prog 67 = some [.c (.int .i64 0), .c (.int .i64 0), .c (.int .i64 0), .c (.string ⟨#[]⟩), .c (.slice none 0 0)] := by kernel_rfl
theorem bld67 : bldk Try.prog 67 = some ([.int .i64 0, .int .i64 0, .int .i64 0, .string ⟨#[]⟩, .slice none 0 0], [(0, 1), (1, 1), (2, 1), (3, 1), (4, 1)]) := by kernel_rfl
theorem ldk68 : ldk Try.prog 68 = some (true, 5) := TT_ok.ld _ _ rfl
theorem ze68 : zeroA Try.prog 68 = some [.c (.int .i64 0), .c (.int .i64 0), .c (.int .i64 0), .c (.string ⟨#[]⟩), .c (.slice none 0 0)] := by kernel_rfl
theorem bld68 : bldk Try.prog 68 = some ([.int .i64 0, .int .i64 0, .int .i64 0, .string ⟨#[]⟩, .slice none 0 0], [(0, 1), (1, 1), (2, 1), (3, 1), (4, 1)]) := by kernel_rfl
theorem ldk73 : ldk Try.prog 73 = some (true, 11) := TT_ok.ld _ _ rfl
theorem ze73 : zeroA Try.prog 73 = some [.c (.int .i64 0), .c (.int .i64 0), .c (.int .i64 0), .c (.int .i64 0), .c (.string ⟨#[]⟩), .c (.slice none 0 0), .c (.int .i64 0), .c (.int .i64 0), .c (.slice none 0 0), .c (.slice none 0 0), .c (.string ⟨#[]⟩)] := by kernel_rfl
theorem bld73 : bldk Try.prog 73 = some ([.int .i64 0, .int .i64 0, .int .i64 0, .int .i64 0, .string ⟨#[]⟩, .slice none 0 0, .int .i64 0, .int .i64 0, .slice none 0 0, .slice none 0 0, .string ⟨#[]⟩], [(0, 1), (1, 5), (6, 1), (7, 1), (8, 1), (9, 1), (10, 1)]) := by kernel_rfl
theorem ldk74 : ldk Try.prog 74 = some (true, 11) := TT_ok.ld _ _ rfl
theorem ze74 : zeroA Try.prog 74 = some [.c (.int .i64 0), .c (.int .i64 0), .c (.int .i64 0), .c (.int .i64 0), .c (.string ⟨#[]⟩), .c (.slice none 0 0), .c (.int .i64 0), .c (.int .i64 0), .c (.slice none 0 0), .c (.slice none 0 0), .c (.string ⟨#[]⟩)] := by kernel_rfl
theorem bld74 : bldk Try.prog 74 = some ([.int .i64 0, .int .i64 0, .int .i64 0, .int .i64 0, .string ⟨#[]⟩, .slice none 0 0, .int .i64 0, .int .i64 0, .slice none 0 0, .slice none 0 0, .string ⟨#[]⟩], [(0, 1), (1, 5), (6, 1), (7, 1), (8, 1), (9, 1), (10, 1)]) := by kernel_rfl
theorem ldk76 : ldk Try.prog 76 = some (true, 11) := TT_ok.ld _ _ rfl
theorem ze76 : zeroA Try.prog 76 = some [.c (.int .i64 0), .c (.int .i64 0), .c (.int .i64 0), .c (.int .i64 0), .c (.string ⟨#[]⟩), .c (.slice none 0 0), .c (.int .i64 0), .c (.int .i64 0), .c (.slice none 0 0), .c (.slice none 0 0), .c (.string ⟨#[]⟩)] := by kernel_rfl
theorem bld76 : bldk Try.prog 76 = some ([.int .i64 0, .int .i64 0, .int .i64 0, .int .i64 0, .string ⟨#[]⟩, .slice none 0 0, .int .i64 0, .int .i64 0, .slice none 0 0, .slice none 0 0, .string ⟨#[]⟩], [(0, 1), (1, 5), (6, 1), (7, 1), (8, 1), (9, 1), (10, 1)]) := by kernel_rfl
theorem ldk90 : ldk Try.prog 90 = some (true, 3) := TT_ok.ld _ _ rfl
theorem ze90 : zeroA Try.prog 90 = some [.c (.int .i64 0), .c (.int .i64 0), .c (.int .i64 0)] := by kernel_rfl
theorem bld90 : bldk Try.prog 90 = some ([.int .i64 0, .int .i64 0, .int .i64 0], [(0, 1), (1, 1), (2, 1)]) := by kernel_rfl
theorem flk90 : flatK Try.prog 4 90 = some [.int .i64, .int .i64, .int .i64] ∧ True := ⟨by kernel_rfl, trivial⟩
theorem ldk97 : ldk Try.prog 97 = some (true, 3) := TT_ok.ld _ _ rfl
theorem ze97 : zeroA Try.prog 97 = some [.c (.int .i64 0), .c (.slice none 0 0), .c (.int .i64 0)] := by kernel_rfl
theorem bld97 : bldk Try.prog 97 = some ([.int .i64 0, .slice none 0 0, .int .i64 0], [(0, 1), (1, 1), (2, 1)]) := by kernel_rfl
theorem ldk98 : ldk Try.prog 98 = some (true, 3) := TT_ok.ld _ _ rfl
theorem ze98 : zeroA Try.prog 98 = some [.c (.int .i64 0), .c (.slice none 0 0), .c (.int .i64 0)] := by kernel_rfl
theorem bld98 : bldk Try.prog 98 = some ([.int .i64 0, .slice none 0 0, .int .i64 0], [(0, 1), (1, 1), (2, 1)]) := by kernel_rfl
theorem ldk105 : ldk Try.prog 105 = some (false, 1) := TT_ok.ld _ _ rfl
theorem ze105 : zeroA Try.prog 105 = some [.c (.slice none 0 0)] := by kernel_rfl
theorem rwk105 : rwk Try.prog 105 = some (111, 4, 32, [.int .i64 0, .int .i64 0, .int .i64 0, .int .i64 0]) := by kernel_rfl
theorem slk105 : slk Try.prog 105 = some (111, 4) := TT_ok.sl _ _ rfl
theorem ldk108 : ldk Try.prog 108 = some (true, 2) := TT_ok.ld _ _ rfl
theorem ze108 : zeroA Try.prog 108 = some [.c (.int .i64 0), .c (.int .i64 0)] := by kernel_rfl
theorem bld108 : bldk Try.prog 108 = some ([.int .i64 0, .int .i64 0], [(0, 1), (1, 1)]) := by kernel_rfl
theorem ldk109 : ldk Try.prog 109 = some (true, 2) := TT_ok.ld _ _ rfl
theorem ze109 : zeroA Try.prog 109 = some [.c (.int .i64 0), .c (.int .i64 0)] := by kernel_rfl
theorem bld109 : bldk Try.prog 109 = some ([.int .i64 0, .int .i64 0], [(0, 1), (1, 1)]) := by kernel_rfl
theorem flk109 : flatK Try.prog 4 109 = some [.int .i64, .int .i64] ∧ True := ⟨by kernel_rfl, trivial⟩
theorem ldk110 : ldk Try.prog 110 = some (true, 4) := TT_ok.ld _ _ rfl
theorem ze110 : zeroA Try.prog 110 = some [.c (.int .i64 0), .c (.int .i64 0), .c (.int .i64 0), .c (.int .i64 0)] := by kernel_rfl
theorem bld110 : bldk Try.prog 110 = some ([.int .i64 0, .int .i64 0, .int .i64 0, .int .i64 0], [(0, 2), (2, 2)]) := by kernel_rfl
theorem ldk111 : ldk Try.prog 111 = some (true, 4) := TT_ok.ld _ _ rfl
theorem ze111 : zeroA Try.prog 111 = some [.c (.int .i64 0), .c (.int .i64 0), .c (.int .i64 0), .c (.int .i64 0)] := by kernel_rfl
theorem bld111 : bldk Try.prog 111 = some ([.int .i64 0, .int .i64 0, .int .i64 0, .int .i64 0], [(0, 2), (2, 2)]) := by kernel_rfl
theorem flk111 : flatK Try.prog 4 111 = some [.int .i64, .int .i64, .int .i64, .int .i64] ∧ True := ⟨by kernel_rfl, trivial⟩
theorem ldk116 : ldk Try.prog 116 = some (false, 1) := TT_ok.ld _ _ rfl
theorem ze116 : zeroA Try.prog 116 = some [.c (.slice none 0 0)] := by kernel_rfl
theorem rwk116 : rwk Try.prog 116 = some (5, 1, 1, [.int .u8 0]) := by kernel_rfl
theorem slk116 : slk Try.prog 116 = some (5, 1) := TT_ok.sl _ _ rfl
theorem ldk118 : ldk Try.prog 118 = some (true, 8) := TT_ok.ld _ _ rfl
theorem ze118 : zeroA Try.prog 118 = some [.c (.int .i64 0), .c (.int .i64 0), .c (.int .i64 0), .c (.string ⟨#[]⟩), .c (.slice none 0 0), .c (.int .i64 0), .c (.int .i64 0), .c (.bool false)] := by kernel_rfl
theorem bld118 : bldk Try.prog 118 = some ([.int .i64 0, .int .i64 0, .int .i64 0, .string ⟨#[]⟩, .slice none 0 0, .int .i64 0, .int .i64 0, .bool false], [(0, 5), (5, 1), (6, 1), (7, 1)]) := by kernel_rfl
theorem ldk121 : ldk Try.prog 121 = some (true, 8) := TT_ok.ld _ _ rfl
theorem ze121 : zeroA Try.prog 121 = some [.c (.int .i64 0), .c (.int .i64 0), .c (.int .i64 0), .c (.string ⟨#[]⟩), .c (.slice none 0 0), .c (.int .i64 0), .c (.int .i64 0), .c (.bool false)] := by kernel_rfl
theorem bld121 : bldk Try.prog 121 = some ([.int .i64 0, .int .i64 0, .int .i64 0, .string ⟨#[]⟩, .slice none 0 0, .int .i64 0, .int .i64 0, .bool false], [(0, 5), (5, 1), (6, 1), (7, 1)]) := by kernel_rfl
theorem ldk124 : ldk Try.prog 124 = some (true, 3) := TT_ok.ld _ _ rfl
theorem ze124 : zeroA Try.prog 124 = some [.c (.int .i64 0), .c (.slice none 0 0), .c (.int .i64 0)] := by kernel_rfl
theorem bld124 : bldk Try.prog 124 = some ([.int .i64 0, .slice none 0 0, .int .i64 0], [(0, 1), (1, 1), (2, 1)]) := by kernel_rfl
theorem ldk127 : ldk Try.prog 127 = some (true, 3) := TT_ok.ld _ _ rfl
theorem ze127 : zeroA Try.prog 127 = some [.c (.int .i64 0), .c (.int .i64 0), .c (.int .i64 0)] := by kernel_rfl
theorem bld127 : bldk Try.prog 127 = some ([.int .i64 0, .int .i64 0, .int .i64 0], [(0, 1), (1, 1), (2, 1)]) := by kernel_rfl
theorem ldk135 : ldk Try.prog 135 = some (true, 2) := TT_ok.ld _ _ rfl
theorem ze135 : zeroA Try.prog 135 = some [.c (.int .i64 0), .c (.int .i64 0)] := by kernel_rfl
theorem bld135 : bldk Try.prog 135 = some ([.int .i64 0, .int .i64 0], [(0, 1), (1, 1)]) := by kernel_rfl
end Go.Proofs.Ytbkcoechoblndaa.Abs
