/- The types' facts for the walks. -/
import Derived.Test.YtacbpfbelcdeiaaData
import Derived.Test.YtacbpfbelcdeiaaProg
namespace Go.Proofs.Ytacbpfbelcdeiaa.Abs
open Go.Proofs Go.RowKit
set_option linter.unusedVariables false
set_option linter.unusedSimpArgs false
def TT : Tbl := ⟨[(2, (false, 1)), (3, (false, 1)), (4, (false, 1)), (5, (false, 1)), (6, (false, 1)), (7, (true, 4)), (8, (true, 4)), (9, (false, 1)), (10, (false, 1)), (11, (false, 1)), (12, (false, 1)), (13, (true, 2)), (14, (true, 2)), (15, (false, 1)), (16, (false, 1)), (17, (false, 1)), (18, (true, 1)), (19, (true, 1)), (21, (false, 1)), (22, (false, 1)), (24, (false, 1)), (26, (false, 1)), (33, (true, 2)), (34, (true, 2)), (35, (true, 4)), (36, (true, 4)), (37, (false, 1)), (39, (true, 2)), (40, (true, 4)), (41, (true, 4)), (47, (false, 1)), (48, (true, 5)), (49, (true, 5)), (50, (false, 1)), (51, (true, 5)), (52, (true, 5)), (54, (false, 1)), (55, (false, 1)), (56, (true, 11)), (57, (true, 11)), (67, (false, 1)), (69, (false, 1)), (71, (true, 4)), (72, (true, 4)), (82, (false, 1)), (83, (true, 8)), (84, (true, 8)), (85, (true, 3)), (86, (true, 3)), (91, (true, 2)), (92, (true, 2)), (94, (true, 4)), (95, (true, 4)), (116, (true, 4)), (117, (true, 4)), (118, (true, 0)), (119, (true, 0))], [(7, [(0, 1), (1, 1), (2, 1), (3, 1)]), (8, [(0, 1), (1, 1), (2, 1), (3, 1)]), (13, [(0, 1), (1, 1)]), (14, [(0, 1), (1, 1)]), (18, [(0, 1)]), (19, [(0, 1)]), (33, [(0, 1), (1, 1)]), (34, [(0, 1), (1, 1)]), (35, [(0, 2), (2, 1), (3, 1)]), (36, [(0, 2), (2, 1), (3, 1)]), (39, [(0, 1), (1, 1)]), (40, [(0, 2), (2, 1), (3, 1)]), (41, [(0, 2), (2, 1), (3, 1)]), (48, [(0, 1), (1, 1), (2, 1), (3, 1), (4, 1)]), (49, [(0, 1), (1, 1), (2, 1), (3, 1), (4, 1)]), (51, [(0, 1), (1, 1), (2, 1), (3, 1), (4, 1)]), (52, [(0, 1), (1, 1), (2, 1), (3, 1), (4, 1)]), (56, [(0, 1), (1, 5), (6, 1), (7, 1), (8, 1), (9, 1), (10, 1)]), (57, [(0, 1), (1, 5), (6, 1), (7, 1), (8, 1), (9, 1), (10, 1)]), (71, [(0, 2), (2, 2)]), (72, [(0, 2), (2, 2)]), (83, [(0, 5), (5, 1), (6, 1), (7, 1)]), (84, [(0, 5), (5, 1), (6, 1), (7, 1)]), (85, [(0, 1), (1, 1), (2, 1)]), (86, [(0, 1), (1, 1), (2, 1)]), (91, [(0, 1), (1, 1)]), (92, [(0, 1), (1, 1)]), (94, [(0, 2), (2, 2)]), (95, [(0, 2), (2, 2)]), (116, [(0, 1), (1, 1), (2, 1), (3, 1)]), (117, [(0, 1), (1, 1), (2, 1), (3, 1)]), (119, [(0, 0)])], [(22, (49, 5)), (24, (57, 11)), (26, (52, 5)), (37, (3, 1)), (47, (34, 2)), (50, (39, 2)), (54, (84, 8)), (55, (86, 3)), (67, (92, 2)), (69, (95, 4)), (82, (5, 1))], [(2, .int .i64), (3, .int .i64), (4, .bool), (5, .int .u8), (6, .int .u8), (9, .string), (10, .string), (11, .string), (12, .int .u64), (21, .int .i32)]⟩
theorem TT_ok : TT.Ok Try.prog := Tbl.ok (by kernel_rfl)
theorem ldk2 : ldk Try.prog 2 = some (false, 1) := TT_ok.ld _ _ rfl
theorem ze2 : zeroA Try.prog 2 = some [.c (.int .i64 0)] := by kernel_rfl
theorem ldk3 : ldk Try.prog 3 = some (false, 1) := TT_ok.ld _ _ rfl
theorem ze3 : zeroA Try.prog 3 = some [.c (.int .i64 0)] := by kernel_rfl
theorem ldk4 : ldk Try.prog 4 = some (false, 1) := TT_ok.ld _ _ rfl
theorem ze4 : zeroA Try.prog 4 = some [.c (.bool false)] := by kernel_rfl
theorem ldk5 : ldk Try.prog 5 = some (false, 1) := TT_ok.ld _ _ rfl
theorem ze5 : zeroA Try.prog 5 = some [.c (.int .u8 0)] := by kernel_rfl
theorem ldk6 : ldk Try.prog 6 = some (false, 1) := TT_ok.ld _ _ rfl
theorem ze6 : zeroA Try.prog 6 = some [.c (.int .u8 0)] := by kernel_rfl
theorem ldk7 : ldk Try.prog 7 = some (true, 4) := TT_ok.ld _ _ rfl
theorem ze7 : zeroA Try.prog 7 = some [.c (.int .i64 0), .c (.int .i64 0), .c (.bool false), .c (.int .u8 0)] := by kernel_rfl
theorem bld7 : bldk Try.prog 7 = some ([.int .i64 0, .int .i64 0, .bool false, .int .u8 0], [(0, 1), (1, 1), (2, 1), (3, 1)]) := by kernel_rfl
theorem ldk8 : ldk Try.prog 8 = some (true, 4) := TT_ok.ld _ _ rfl
theorem ze8 : zeroA Try.prog 8 = some [.c (.int .i64 0), .c (.int .i64 0), .c (.bool false), .c (.int .u8 0)] := by kernel_rfl
theorem bld8 : bldk Try.prog 8 = some ([.int .i64 0, .int .i64 0, .bool false, .int .u8 0], [(0, 1), (1, 1), (2, 1), (3, 1)]) := by kernel_rfl
theorem ldk9 : ldk Try.prog 9 = some (false, 1) := TT_ok.ld _ _ rfl
theorem ze9 : zeroA Try.prog 9 = some [.c (.string ⟨#[]⟩)] := by kernel_rfl
theorem kds9 : Try.prog.underlying 9 = some .string := by kernel_rfl
theorem ldk10 : ldk Try.prog 10 = some (false, 1) := TT_ok.ld _ _ rfl
theorem ze10 : zeroA Try.prog 10 = some [.c (.string ⟨#[]⟩)] := by kernel_rfl
theorem kds10 : Try.prog.underlying 10 = some .string := by kernel_rfl
theorem ldk11 : ldk Try.prog 11 = some (false, 1) := TT_ok.ld _ _ rfl
theorem ze11 : zeroA Try.prog 11 = some [.c (.string ⟨#[]⟩)] := by kernel_rfl
theorem kds11 : Try.prog.underlying 11 = some .string := by kernel_rfl
theorem ldk12 : ldk Try.prog 12 = some (false, 1) := TT_ok.ld _ _ rfl
theorem ze12 : zeroA Try.prog 12 = some [.c (.int .u64 0)] := by kernel_rfl
theorem ldk13 : ldk Try.prog 13 = some (true, 2) := TT_ok.ld _ _ rfl
theorem ze13 : zeroA Try.prog 13 = some [.c (.string ⟨#[]⟩), .c (.int .u64 0)] := by kernel_rfl
theorem bld13 : bldk Try.prog 13 = some ([.string ⟨#[]⟩, .int .u64 0], [(0, 1), (1, 1)]) := by kernel_rfl
theorem ldk14 : ldk Try.prog 14 = some (true, 2) := TT_ok.ld _ _ rfl
theorem ze14 : zeroA Try.prog 14 = some [.c (.string ⟨#[]⟩), .c (.int .u64 0)] := by kernel_rfl
theorem bld14 : bldk Try.prog 14 = some ([.string ⟨#[]⟩, .int .u64 0], [(0, 1), (1, 1)]) := by kernel_rfl
theorem ldk15 : ldk Try.prog 15 = some (false, 1) := TT_ok.ld _ _ rfl
theorem ze15 : zeroA Try.prog 15 = some [.c (.pointer none)] := by kernel_rfl
theorem ldk16 : ldk Try.prog 16 = some (false, 1) := TT_ok.ld _ _ rfl
theorem ze16 : zeroA Try.prog 16 = some [.c (.pointer none)] := by kernel_rfl
theorem ldk17 : ldk Try.prog 17 = some (false, 1) := TT_ok.ld _ _ rfl
theorem ze17 : zeroA Try.prog 17 = some [.c (.pointer none)] := by kernel_rfl
theorem ldk18 : ldk Try.prog 18 = some (true, 1) := TT_ok.ld _ _ rfl
theorem ze18 : zeroA Try.prog 18 = some [.c (.pointer none)] := by kernel_rfl
theorem bld18 : bldk Try.prog 18 = some ([.pointer none], [(0, 1)]) := by kernel_rfl
theorem ldk19 : ldk Try.prog 19 = some (true, 1) := TT_ok.ld _ _ rfl
theorem ze19 : zeroA Try.prog 19 = some [.c (.pointer none)] := by kernel_rfl
theorem bld19 : bldk Try.prog 19 = some ([.pointer none], [(0, 1)]) := by kernel_rfl
theorem ldk21 : ldk Try.prog 21 = some (false, 1) := TT_ok.ld _ _ rfl
theorem ze21 : zeroA Try.prog 21 = some [.c (.int .i32 0)] := by kernel_rfl
theorem ldk22 : ldk Try.prog 22 = some (false, 1) := TT_ok.ld _ _ rfl
theorem ze22 : zeroA Try.prog 22 = some [.c (.slice none 0 0)] := by kernel_rfl
theorem rwk22 : rwk Try.prog 22 = some (49, 5, 64, [.int .i64 0, .int .i64 0, .int .i64 0, .string ⟨#[]⟩, .slice none 0 0]) := by kernel_rfl
theorem slk22 : slk Try.prog 22 = some (49, 5) := TT_ok.sl _ _ rfl
theorem ldk24 : ldk Try.prog 24 = some (false, 1) := TT_ok.ld _ _ rfl
theorem ze24 : zeroA Try.prog 24 = some [.c (.slice none 0 0)] := by kernel_rfl
theorem rwk24 : rwk Try.prog 24 = some (57, 11, 152, [.int .i64 0, .int .i64 0, .int .i64 0, .int .i64 0, .string ⟨#[]⟩, .slice none 0 0, .int .i64 0, .int .i64 0, .slice none 0 0, .slice none 0 0, .string ⟨#[]⟩]) := by kernel_rfl
theorem slk24 : slk Try.prog 24 = some (57, 11) := TT_ok.sl _ _ rfl
theorem ldk26 : ldk Try.prog 26 = some (false, 1) := TT_ok.ld _ _ rfl
theorem ze26 : zeroA Try.prog 26 = some [.c (.slice none 0 0)] := by kernel_rfl
theorem rwk26 : rwk Try.prog 26 = some (52, 5, 64, [.int .i64 0, .int .i64 0, .int .i64 0, .string ⟨#[]⟩, .slice none 0 0]) := by kernel_rfl
theorem slk26 : slk Try.prog 26 = some (52, 5) := TT_ok.sl _ _ rfl
theorem ldk33 : ldk Try.prog 33 = some (true, 2) := TT_ok.ld _ _ rfl
theorem ze33 : zeroA Try.prog 33 = some [.c (.int .i64 0), .c (.int .i64 0)] := by kernel_rfl
theorem bld33 : bldk Try.prog 33 = some ([.int .i64 0, .int .i64 0], [(0, 1), (1, 1)]) := by kernel_rfl
theorem ldk34 : ldk Try.prog 34 = some (true, 2) := TT_ok.ld _ _ rfl
theorem ze34 : zeroA Try.prog 34 = some [.c (.int .i64 0), .c (.int .i64 0)] := by kernel_rfl
theorem bld34 : bldk Try.prog 34 = some ([.int .i64 0, .int .i64 0], [(0, 1), (1, 1)]) := by kernel_rfl
theorem ldk35 : ldk Try.prog 35 = some (true, 4) := TT_ok.ld _ _ rfl
theorem ze35 : zeroA Try.prog 35 = some [.c (.int .i64 0), .c (.int .i64 0), .c (.int .i64 0), .c (.int .i64 0)] := by kernel_rfl
theorem bld35 : bldk Try.prog 35 = some ([.int .i64 0, .int .i64 0, .int .i64 0, .int .i64 0], [(0, 2), (2, 1), (3, 1)]) := by kernel_rfl
theorem ldk36 : ldk Try.prog 36 = some (true, 4) := TT_ok.ld _ _ rfl
theorem ze36 : zeroA Try.prog 36 = some [.c (.int .i64 0), .c (.int .i64 0), .c (.int .i64 0), .c (.int .i64 0)] := by kernel_rfl
theorem bld36 : bldk Try.prog 36 = some ([.int .i64 0, .int .i64 0, .int .i64 0, .int .i64 0], [(0, 2), (2, 1), (3, 1)]) := by kernel_rfl
theorem ldk37 : ldk Try.prog 37 = some (false, 1) := TT_ok.ld _ _ rfl
theorem ze37 : zeroA Try.prog 37 = some [.c (.slice none 0 0)] := by kernel_rfl
theorem rwk37 : rwk Try.prog 37 = some (3, 1, 8, [.int .i64 0]) := by kernel_rfl
theorem slk37 : slk Try.prog 37 = some (3, 1) := TT_ok.sl _ _ rfl
theorem ldk39 : ldk Try.prog 39 = some (true, 2) := TT_ok.ld _ _ rfl
theorem ze39 : zeroA Try.prog 39 = some [.c (.int .i64 0), .c (.int .i64 0)] := by kernel_rfl
theorem bld39 : bldk Try.prog 39 = some ([.int .i64 0, .int .i64 0], [(0, 1), (1, 1)]) := by kernel_rfl
theorem flk39 : flatK Try.prog 4 39 = some [.int .i64, .int .i64] ∧ True := ⟨by kernel_rfl, trivial⟩
theorem ldk40 : ldk Try.prog 40 = some (true, 4) := TT_ok.ld _ _ rfl
theorem ze40 : zeroA Try.prog 40 = some [.c (.int .i64 0), .c (.int .i64 0), .c (.int .i64 0), .c (.int .i64 0)] := by kernel_rfl
theorem bld40 : bldk Try.prog 40 = some ([.int .i64 0, .int .i64 0, .int .i64 0, .int .i64 0], [(0, 2), (2, 1), (3, 1)]) := by kernel_rfl
theorem ldk41 : ldk Try.prog 41 = some (true, 4) := TT_ok.ld _ _ rfl
theorem ze41 : zeroA Try.prog 41 = some [.c (.int .i64 0), .c (.int .i64 0), .c (.int .i64 0), .c (.int .i64 0)] := by kernel_rfl
theorem bld41 : bldk Try.prog 41 = some ([.int .i64 0, .int .i64 0, .int .i64 0, .int .i64 0], [(0, 2), (2, 1), (3, 1)]) := by kernel_rfl
theorem flk41 : flatK Try.prog 4 41 = some [.int .i64, .int .i64, .int .i64, .int .i64] ∧ True := ⟨by kernel_rfl, trivial⟩
theorem ldk47 : ldk Try.prog 47 = some (false, 1) := TT_ok.ld _ _ rfl
theorem ze47 : zeroA Try.prog 47 = some [.c (.slice none 0 0)] := by kernel_rfl
theorem rwk47 : rwk Try.prog 47 = some (34, 2, 16, [.int .i64 0, .int .i64 0]) := by kernel_rfl
theorem slk47 : slk Try.prog 47 = some (34, 2) := TT_ok.sl _ _ rfl
theorem ldk48 : ldk Try.prog 48 = some (true, 5) := TT_ok.ld _ _ rfl
theorem ze48 : zeroA Try.prog 48 = some [.c (.int .i64 0), .c (.int .i64 0), .c (.int .i64 0), .c (.string ⟨#[]⟩), .c (.slice none 0 0)] := by kernel_rfl
theorem bld48 : bldk Try.prog 48 = some ([.int .i64 0, .int .i64 0, .int .i64 0, .string ⟨#[]⟩, .slice none 0 0], [(0, 1), (1, 1), (2, 1), (3, 1), (4, 1)]) := by kernel_rfl
theorem ldk49 : ldk Try.prog 49 = some (true, 5) := TT_ok.ld _ _ rfl
theorem ze49 : zeroA Try.prog 49 = some [.c (.int .i64 0), .c (.int .i64 0), .c (.int .i64 0), .c (.string ⟨#[]⟩), .c (.slice none 0 0)] := by kernel_rfl
theorem bld49 : bldk Try.prog 49 = some ([.int .i64 0, .int .i64 0, .int .i64 0, .string ⟨#[]⟩, .slice none 0 0], [(0, 1), (1, 1), (2, 1), (3, 1), (4, 1)]) := by kernel_rfl
theorem ldk50 : ldk Try.prog 50 = some (false, 1) := TT_ok.ld _ _ rfl
theorem ze50 : zeroA Try.prog 50 = some [.c (.slice none 0 0)] := by kernel_rfl
theorem rwk50 : rwk Try.prog 50 = some (39, 2, 16, [.int .i64 0, .int .i64 0]) := by kernel_rfl
theorem slk50 : slk Try.prog 50 = some (39, 2) := TT_ok.sl _ _ rfl
theorem ldk51 : ldk Try.prog 51 = some (true, 5) := TT_ok.ld _ _ rfl
theorem ze51 : zeroA Try.prog 51 = some [.c (.int .i64 0), .c (.int .i64 0), .c (.int .i64 0), .c (.string ⟨#[]⟩), .c (.slice none 0 0)] := by kernel_rfl
theorem bld51 : bldk Try.prog 51 = some ([.int .i64 0, .int .i64 0, .int .i64 0, .string ⟨#[]⟩, .slice none 0 0], [(0, 1), (1, 1), (2, 1), (3, 1), (4, 1)]) := by kernel_rfl
theorem ldk52 : ldk Try.prog 52 = some (true, 5) := TT_ok.ld _ _ rfl
theorem ze52 : zeroA Try.prog 52 = some [.c (.int .i64 0), .c (.int .i64 0), .c (.int .i64 0), .c (.string ⟨#[]⟩), .c (.slice none 0 0)] := by kernel_rfl
theorem bld52 : bldk Try.prog 52 = some ([.int .i64 0, .int .i64 0, .int .i64 0, .string ⟨#[]⟩, .slice none 0 0], [(0, 1), (1, 1), (2, 1), (3, 1), (4, 1)]) := by kernel_rfl
theorem ldk54 : ldk Try.prog 54 = some (false, 1) := TT_ok.ld _ _ rfl
theorem ze54 : zeroA Try.prog 54 = some [.c (.slice none 0 0)] := by kernel_rfl
theorem rwk54 : rwk Try.prog 54 = some (84, 8, 88, [.int .i64 0, .int .i64 0, .int .i64 0, .string ⟨#[]⟩, .slice none 0 0, .int .i64 0, .int .i64 0, .bool false]) := by kernel_rfl
theorem slk54 : slk Try.prog 54 = some (84, 8) := TT_ok.sl _ _ rfl
theorem ldk55 : ldk Try.prog 55 = some (false, 1) := TT_ok.ld _ _ rfl
theorem ze55 : zeroA Try.prog 55 = some [.c (.slice none 0 0)] := by kernel_rfl
theorem rwk55 : rwk Try.prog 55 = some (86, 3, 24, [.int .i64 0, .int .i64 0, .int .i64 0]) := by kernel_rfl
theorem slk55 : slk Try.prog 55 = some (86, 3) := TT_ok.sl _ _ rfl
theorem ldk56 : ldk Try.prog 56 = some (true, 11) := TT_ok.ld _ _ rfl
theorem ze56 : zeroA Try.prog 56 = some [.c (.int .i64 0), .c (.int .i64 0), .c (.int .i64 0), .c (.int .i64 0), .c (.string ⟨#[]⟩), .c (.slice none 0 0), .c (.int .i64 0), .c (.int .i64 0), .c (.slice none 0 0), .c (.slice none 0 0), .c (.string ⟨#[]⟩)] := by kernel_rfl
theorem bld56 : bldk Try.prog 56 = some ([.int .i64 0, .int .i64 0, .int .i64 0, .int .i64 0, .string ⟨#[]⟩, .slice none 0 0, .int .i64 0, .int .i64 0, .slice none 0 0, .slice none 0 0, .string ⟨#[]⟩], [(0, 1), (1, 5), (6, 1), (7, 1), (8, 1), (9, 1), (10, 1)]) := by kernel_rfl
theorem ldk57 : ldk Try.prog 57 = some (true, 11) := TT_ok.ld _ _ rfl
theorem ze57 : zeroA Try.prog 57 = some [.c (.int .i64 0), .c (.int .i64 0), .c (.int .i64 0), .c (.int .i64 0), .c (.string ⟨#[]⟩), .c (.slice none 0 0), .c (.int .i64 0), .c (.int .i64 0), .c (.slice none 0 0), .c (.slice none 0 0), .c (.string ⟨#[]⟩)] := by kernel_rfl
theorem bld57 : bldk Try.prog 57 = some ([.int .i64 0, .int .i64 0, .int .i64 0, .int .i64 0, .string ⟨#[]⟩, .slice none 0 0, .int .i64 0, .int .i64 0, .slice none 0 0, .slice none 0 0, .string ⟨#[]⟩], [(0, 1), (1, 5), (6, 1), (7, 1), (8, 1), (9, 1), (10, 1)]) := by kernel_rfl
theorem ldk67 : ldk Try.prog 67 = some (false, 1) := TT_ok.ld _ _ rfl
theorem ze67 : zeroA Try.prog 67 = some [.c (.slice none 0 0)] := by kernel_rfl
theorem rwk67 : rwk Try.prog 67 = some (92, 2, 16, [.int .i64 0, .int .i64 0]) := by kernel_rfl
theorem slk67 : slk Try.prog 67 = some (92, 2) := TT_ok.sl _ _ rfl
theorem ldk69 : ldk Try.prog 69 = some (false, 1) := TT_ok.ld _ _ rfl
theorem ze69 : zeroA Try.prog 69 = some [.c (.slice none 0 0)] := by kernel_rfl
theorem rwk69 : rwk Try.prog 69 = some (95, 4, 32, [.int .i64 0, .int .i64 0, .int .i64 0, .int .i64 0]) := by kernel_rfl
theorem slk69 : slk Try.prog 69 = some (95, 4) := TT_ok.sl _ _ rfl
theorem ldk71 : ldk Try.prog 71 = some (true, 4) := TT_ok.ld _ _ rfl
theorem ze71 : zeroA Try.prog 71 = some [.c (.int .i64 0), .c (.int .i64 0), .c (.int .i64 0), .c (.int .i64 0)] := by kernel_rfl
theorem bld71 : bldk Try.prog 71 = some ([.int .i64 0, .int .i64 0, .int .i64 0, .int .i64 0], [(0, 2), (2, 2)]) := by kernel_rfl
theorem ldk72 : ldk Try.prog 72 = some (true, 4) := TT_ok.ld _ _ rfl
theorem ze72 : zeroA Try.prog 72 = some [.c (.int .i64 0), .c (.int .i64 0), .c (.int .i64 0), .c (.int .i64 0)] := by kernel_rfl
theorem bld72 : bldk Try.prog 72 = some ([.int .i64 0, .int .i64 0, .int .i64 0, .int .i64 0], [(0, 2), (2, 2)]) := by kernel_rfl
theorem flk72 : flatK Try.prog 4 72 = some [.int .i64, .int .i64, .int .i64, .int .i64] ∧ True := ⟨by kernel_rfl, trivial⟩
theorem ldk82 : ldk Try.prog 82 = some (false, 1) := TT_ok.ld _ _ rfl
theorem ze82 : zeroA Try.prog 82 = some [.c (.slice none 0 0)] := by kernel_rfl
theorem rwk82 : rwk Try.prog 82 = some (5, 1, 1, [.int .u8 0]) := by kernel_rfl
theorem slk82 : slk Try.prog 82 = some (5, 1) := TT_ok.sl _ _ rfl
theorem ldk83 : ldk Try.prog 83 = some (true, 8) := TT_ok.ld _ _ rfl
theorem ze83 : zeroA Try.prog 83 = some [.c (.int .i64 0), .c (.int .i64 0), .c (.int .i64 0), .c (.string ⟨#[]⟩), .c (.slice none 0 0), .c (.int .i64 0), .c (.int .i64 0), .c (.bool false)] := by kernel_rfl
theorem bld83 : bldk Try.prog 83 = some ([.int .i64 0, .int .i64 0, .int .i64 0, .string ⟨#[]⟩, .slice none 0 0, .int .i64 0, .int .i64 0, .bool false], [(0, 5), (5, 1), (6, 1), (7, 1)]) := by kernel_rfl
theorem ldk84 : ldk Try.prog 84 = some (true, 8) := TT_ok.ld _ _ rfl
theorem ze84 : zeroA Try.prog 84 = some [.c (.int .i64 0), .c (.int .i64 0), .c (.int .i64 0), .c (.string ⟨#[]⟩), .c (.slice none 0 0), .c (.int .i64 0), .c (.int .i64 0), .c (.bool false)] := by kernel_rfl
theorem bld84 : bldk Try.prog 84 = some ([.int .i64 0, .int .i64 0, .int .i64 0, .string ⟨#[]⟩, .slice none 0 0, .int .i64 0, .int .i64 0, .bool false], [(0, 5), (5, 1), (6, 1), (7, 1)]) := by kernel_rfl
theorem ldk85 : ldk Try.prog 85 = some (true, 3) := TT_ok.ld _ _ rfl
theorem ze85 : zeroA Try.prog 85 = some [.c (.int .i64 0), .c (.int .i64 0), .c (.int .i64 0)] := by kernel_rfl
theorem bld85 : bldk Try.prog 85 = some ([.int .i64 0, .int .i64 0, .int .i64 0], [(0, 1), (1, 1), (2, 1)]) := by kernel_rfl
theorem ldk86 : ldk Try.prog 86 = some (true, 3) := TT_ok.ld _ _ rfl
theorem ze86 : zeroA Try.prog 86 = some [.c (.int .i64 0), .c (.int .i64 0), .c (.int .i64 0)] := by kernel_rfl
theorem bld86 : bldk Try.prog 86 = some ([.int .i64 0, .int .i64 0, .int .i64 0], [(0, 1), (1, 1), (2, 1)]) := by kernel_rfl
theorem flk86 : flatK Try.prog 4 86 = some [.int .i64, .int .i64, .int .i64] ∧ True := ⟨by kernel_rfl, trivial⟩
theorem ldk91 : ldk Try.prog 91 = some (true, 2) := TT_ok.ld _ _ rfl
theorem ze91 : zeroA Try.prog 91 = some [.c (.int .i64 0), .c (.int .i64 0)] := by kernel_rfl
theorem bld91 : bldk Try.prog 91 = some ([.int .i64 0, .int .i64 0], [(0, 1), (1, 1)]) := by kernel_rfl
theorem ldk92 : ldk Try.prog 92 = some (true, 2) := TT_ok.ld _ _ rfl
theorem ze92 : zeroA Try.prog 92 = some [.c (.int .i64 0), .c (.int .i64 0)] := by kernel_rfl
theorem bld92 : bldk Try.prog 92 = some ([.int .i64 0, .int .i64 0], [(0, 1), (1, 1)]) := by kernel_rfl
theorem flk92 : flatK Try.prog 4 92 = some [.int .i64, .int .i64] ∧ True := ⟨by kernel_rfl, trivial⟩
theorem ldk94 : ldk Try.prog 94 = some (true, 4) := TT_ok.ld _ _ rfl
theorem ze94 : zeroA Try.prog 94 = some [.c (.int .i64 0), .c (.int .i64 0), .c (.int .i64 0), .c (.int .i64 0)] := by kernel_rfl
theorem bld94 : bldk Try.prog 94 = some ([.int .i64 0, .int .i64 0, .int .i64 0, .int .i64 0], [(0, 2), (2, 2)]) := by kernel_rfl
theorem ldk95 : ldk Try.prog 95 = some (true, 4) := TT_ok.ld _ _ rfl
theorem ze95 : zeroA Try.prog 95 = some [.c (.int .i64 0), .c (.int .i64 0), .c (.int .i64 0), .c (.int .i64 0)] := by kernel_rfl
theorem bld95 : bldk Try.prog 95 = some ([.int .i64 0, .int .i64 0, .int .i64 0, .int .i64 0], [(0, 2), (2, 2)]) := by kernel_rfl
theorem flk95 : flatK Try.prog 4 95 = some [.int .i64, .int .i64, .int .i64, .int .i64] ∧ True := ⟨by kernel_rfl, trivial⟩
theorem ldk116 : ldk Try.prog 116 = some (true, 4) := TT_ok.ld _ _ rfl
theorem ze116 : zeroA Try.prog 116 = some [.c (.pointer none), .c (.pointer none), .c (.pointer none), .c (.string ⟨#[]⟩)] := by kernel_rfl
theorem bld116 : bldk Try.prog 116 = some ([.pointer none, .pointer none, .pointer none, .string ⟨#[]⟩], [(0, 1), (1, 1), (2, 1), (3, 1)]) := by kernel_rfl
theorem ldk117 : ldk Try.prog 117 = some (true, 4) := TT_ok.ld _ _ rfl
theorem ze117 : zeroA Try.prog 117 = some [.c (.pointer none), .c (.pointer none), .c (.pointer none), .c (.string ⟨#[]⟩)] := by kernel_rfl
theorem bld117 : bldk Try.prog 117 = some ([.pointer none, .pointer none, .pointer none, .string ⟨#[]⟩], [(0, 1), (1, 1), (2, 1), (3, 1)]) := by kernel_rfl
theorem ldk118 : ldk Try.prog 118 = some (true, 0) := TT_ok.ld _ _ rfl
theorem ze118 : zeroA Try.prog 118 = some [] := by kernel_rfl
theorem bld118 : bldk Try.prog 118 = some ([], []) := by kernel_rfl
theorem ark118 : ark Try.prog 118 = some (0, 1) := by kernel_rfl
theorem ldk119 : ldk Try.prog 119 = some (true, 0) := TT_ok.ld _ _ rfl
theorem ze119 : zeroA Try.prog 119 = some [] := by kernel_rfl
theorem bld119 : bldk Try.prog 119 = some ([], [(0, 0)]) := by kernel_rfl
end Go.Proofs.Ytacbpfbelcdeiaa.Abs
