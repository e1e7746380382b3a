/- The types' facts for the walks. -/
import Derived.Test.YtolmophnimngjaaGreatData
import Derived.Test.YtolmophnimngjaaGreatProg
namespace Go.Proofs.YtolmophnimngjaaGreat.Abs
open Go.Proofs Go.RowKit
set_option linter.unusedVariables false
set_option linter.unusedSimpArgs false
def TT : Tbl := ⟨[(2, (false, 1)), (3, (false, 1)), (4, (false, 1)), (5, (false, 1)), (6, (false, 1)), (7, (true, 4)), (8, (true, 4)), (9, (false, 1)), (10, (false, 1)), (11, (false, 1)), (12, (false, 1)), (13, (true, 2)), (14, (true, 2)), (15, (false, 1)), (16, (false, 1)), (17, (false, 1)), (18, (true, 1)), (19, (true, 1)), (21, (false, 1)), (22, (false, 1)), (23, (false, 1)), (24, (false, 1)), (25, (true, 3)), (26, (true, 3)), (27, (true, 7)), (28, (true, 7)), (31, (false, 1)), (32, (false, 1)), (33, (false, 1)), (34, (true, 3)), (35, (true, 7)), (36, (true, 7)), (45, (false, 1)), (46, (true, 5)), (47, (true, 5)), (48, (true, 8)), (49, (true, 8)), (50, (false, 1)), (51, (true, 3)), (52, (true, 3)), (67, (false, 1)), (68, (true, 5)), (69, (true, 5)), (70, (true, 8)), (71, (true, 8)), (73, (false, 1)), (74, (true, 3)), (75, (true, 3)), (78, (true, 3)), (79, (true, 3)), (84, (true, 3)), (93, (true, 2)), (94, (true, 2)), (96, (false, 1)), (97, (false, 1)), (101, (true, 2)), (102, (true, 2)), (110, (false, 1)), (114, (true, 4)), (121, (true, 4)), (125, (true, 2))], [(7, [(0, 1), (1, 1), (2, 1), (3, 1)]), (8, [(0, 1), (1, 1), (2, 1), (3, 1)]), (13, [(0, 1), (1, 1)]), (14, [(0, 1), (1, 1)]), (18, [(0, 1)]), (19, [(0, 1)]), (25, [(0, 1), (1, 1), (2, 1)]), (26, [(0, 1), (1, 1), (2, 1)]), (27, [(0, 1), (1, 1), (2, 1), (3, 3), (6, 1)]), (28, [(0, 1), (1, 1), (2, 1), (3, 3), (6, 1)]), (34, [(0, 1), (1, 1), (2, 1)]), (35, [(0, 1), (1, 1), (2, 1), (3, 3), (6, 1)]), (36, [(0, 1), (1, 1), (2, 1), (3, 3), (6, 1)]), (46, [(0, 1), (1, 1), (2, 1), (3, 1), (4, 1)]), (47, [(0, 1), (1, 1), (2, 1), (3, 1), (4, 1)]), (48, [(0, 5), (5, 1), (6, 1), (7, 1)]), (49, [(0, 5), (5, 1), (6, 1), (7, 1)]), (51, [(0, 1), (1, 1), (2, 1)]), (52, [(0, 1), (1, 1), (2, 1)]), (68, [(0, 1), (1, 1), (2, 1), (3, 1), (4, 1)]), (69, [(0, 1), (1, 1), (2, 1), (3, 1), (4, 1)]), (70, [(0, 5), (5, 1), (6, 1), (7, 1)]), (71, [(0, 5), (5, 1), (6, 1), (7, 1)]), (74, [(0, 1), (1, 1), (2, 1)]), (75, [(0, 1), (1, 1), (2, 1)]), (78, [(0, 1), (1, 1), (2, 1)]), (79, [(0, 1), (1, 1), (2, 1)]), (84, [(0, 1), (1, 1), (2, 1)]), (93, [(0, 1), (1, 1)]), (94, [(0, 1), (1, 1)]), (101, [(0, 1), (1, 1)]), (102, [(0, 1), (1, 1)]), (114, [(0, 2), (2, 2)]), (121, [(0, 2), (2, 2)]), (125, [(0, 1), (1, 1)])], [(22, (71, 8)), (23, (84, 3)), (24, (75, 3)), (31, (49, 8)), (32, (79, 3)), (33, (52, 3)), (45, (94, 2)), (50, (47, 5)), (67, (125, 2)), (73, (69, 5)), (96, (3, 1)), (97, (102, 2)), (110, (114, 4))], [(2, .int .i64), (3, .int .i64), (4, .bool), (5, .int .u8), (6, .int .u8), (9, .string), (10, .string), (11, .string), (12, .int .u64), (21, .int .i32)]⟩
theorem TT_ok : TT.Ok Tryz.prog := Tbl.ok (by kernel_rfl)
theorem ldk2 : ldk Tryz.prog 2 = some (false, 1) := TT_ok.ld _ _ rfl
theorem ze2 : zeroA Tryz.prog 2 = some [.c (.int .i64 0)] := by kernel_rfl
theorem ldk3 : ldk Tryz.prog 3 = some (false, 1) := TT_ok.ld _ _ rfl
theorem ze3 : zeroA Tryz.prog 3 = some [.c (.int .i64 0)] := by kernel_rfl
theorem ldk4 : ldk Tryz.prog 4 = some (false, 1) := TT_ok.ld _ _ rfl
theorem ze4 : zeroA Tryz.prog 4 = some [.c (.bool false)] := by kernel_rfl
theorem ldk5 : ldk Tryz.prog 5 = some (false, 1) := TT_ok.ld _ _ rfl
theorem ze5 : zeroA Tryz.prog 5 = some [.c (.int .u8 0)] := by kernel_rfl
theorem ldk6 : ldk Tryz.prog 6 = some (false, 1) := TT_ok.ld _ _ rfl
theorem ze6 : zeroA Tryz.prog 6 = some [.c (.int .u8 0)] := by kernel_rfl
theorem ldk7 : ldk Tryz.prog 7 = some (true, 4) := TT_ok.ld _ _ rfl
theorem ze7 : zeroA Tryz.prog 7 = some [.c (.int .i64 0), .c (.int .i64 0), .c (.bool false), .c (.int .u8 0)] := by kernel_rfl
theorem bld7 : bldk Tryz.prog 7 = some ([.int .i64 0, .int .i64 0, .bool false, .int .u8 0], [(0, 1), (1, 1), (2, 1), (3, 1)]) := by kernel_rfl
theorem ldk8 : ldk Tryz.prog 8 = some (true, 4) := TT_ok.ld _ _ rfl
theorem ze8 : zeroA Tryz.prog 8 = some [.c (.int .i64 0), .c (.int .i64 0), .c (.bool false), .c (.int .u8 0)] := by kernel_rfl
theorem bld8 : bldk Tryz.prog 8 = some ([.int .i64 0, .int .i64 0, .bool false, .int .u8 0], [(0, 1), (1, 1), (2, 1), (3, 1)]) := by kernel_rfl
theorem ldk9 : ldk Tryz.prog 9 = some (false, 1) := TT_ok.ld _ _ rfl
theorem ze9 : zeroA Tryz.prog 9 = some [.c (.string ⟨#[]⟩)] := by kernel_rfl
theorem kds9 : Tryz.prog.underlying 9 = some .string := by kernel_rfl
theorem ldk10 : ldk Tryz.prog 10 = some (false, 1) := TT_ok.ld _ _ rfl
theorem ze10 : zeroA Tryz.prog 10 = some [.c (.string ⟨#[]⟩)] := by kernel_rfl
theorem kds10 : Tryz.prog.underlying 10 = some .string := by kernel_rfl
theorem ldk11 : ldk Tryz.prog 11 = some (false, 1) := TT_ok.ld _ _ rfl
theorem ze11 : zeroA Tryz.prog 11 = some [.c (.string ⟨#[]⟩)] := by kernel_rfl
theorem kds11 : Tryz.prog.underlying 11 = some .string := by kernel_rfl
theorem ldk12 : ldk Tryz.prog 12 = some (false, 1) := TT_ok.ld _ _ rfl
theorem ze12 : zeroA Tryz.prog 12 = some [.c (.int .u64 0)] := by kernel_rfl
theorem ldk13 : ldk Tryz.prog 13 = some (true, 2) := TT_ok.ld _ _ rfl
theorem ze13 : zeroA Tryz.prog 13 = some [.c (.string ⟨#[]⟩), .c (.int .u64 0)] := by kernel_rfl
theorem bld13 : bldk Tryz.prog 13 = some ([.string ⟨#[]⟩, .int .u64 0], [(0, 1), (1, 1)]) := by kernel_rfl
theorem ldk14 : ldk Tryz.prog 14 = some (true, 2) := TT_ok.ld _ _ rfl
theorem ze14 : zeroA Tryz.prog 14 = some [.c (.string ⟨#[]⟩), .c (.int .u64 0)] := by kernel_rfl
theorem bld14 : bldk Tryz.prog 14 = some ([.string ⟨#[]⟩, .int .u64 0], [(0, 1), (1, 1)]) := by kernel_rfl
theorem ldk15 : ldk Tryz.prog 15 = some (false, 1) := TT_ok.ld _ _ rfl
theorem ze15 : zeroA Tryz.prog 15 = some [.c (.pointer none)] := by kernel_rfl
theorem ldk16 : ldk Tryz.prog 16 = some (false, 1) := TT_ok.ld _ _ rfl
theorem ze16 : zeroA Tryz.prog 16 = some [.c (.pointer none)] := by kernel_rfl
theorem ldk17 : ldk Tryz.prog 17 = some (false, 1) := TT_ok.ld _ _ rfl
theorem ze17 : zeroA Tryz.prog 17 = some [.c (.pointer none)] := by kernel_rfl
theorem ldk18 : ldk Tryz.prog 18 = some (true, 1) := TT_ok.ld _ _ rfl
theorem ze18 : zeroA Tryz.prog 18 = some [.c (.pointer none)] := by kernel_rfl
theorem bld18 : bldk Tryz.prog 18 = some ([.pointer none], [(0, 1)]) := by kernel_rfl
theorem ldk19 : ldk Tryz.prog 19 = some (true, 1) := TT_ok.ld _ _ rfl
theorem ze19 : zeroA Tryz.prog 19 = some [.c (.pointer none)] := by kernel_rfl
theorem bld19 : bldk Tryz.prog 19 = some ([.pointer none], [(0, 1)]) := by kernel_rfl
theorem ldk21 : ldk Tryz.prog 21 = some (false, 1) := TT_ok.ld _ _ rfl
theorem ze21 : zeroA Tryz.prog 21 = some [.c (.int .i32 0)] := by kernel_rfl
theorem ldk22 : ldk Tryz.prog 22 = some (false, 1) := TT_ok.ld _ _ rfl
theorem ze22 : zeroA Tryz.prog 22 = some [.c (.slice none 0 0)] := by kernel_rfl
theorem rwk22 : rwk Tryz.prog 22 = some (71, 8, 88, [.int .i64 0, .int .i64 0, .int .i64 0, .string ⟨#[]⟩, .slice none 0 0, .int .i64 0, .int .i64 0, .bool false]) := by kernel_rfl
theorem slk22 : slk Tryz.prog 22 = some (71, 8) := TT_ok.sl _ _ rfl
theorem ldk23 : ldk Tryz.prog 23 = some (false, 1) := TT_ok.ld _ _ rfl
theorem ze23 : zeroA Tryz.prog 23 = some [.c (.slice none 0 0)] := by kernel_rfl
theorem rwk23 : rwk Tryz.prog 23 = some (84, 3, 24, [.int .i64 0, .int .i64 0, .int .i64 0]) := by kernel_rfl
theorem slk23 : slk Tryz.prog 23 = some (84, 3) := TT_ok.sl _ _ rfl
theorem ldk24 : ldk Tryz.prog 24 = some (false, 1) := TT_ok.ld _ _ rfl
theorem ze24 : zeroA Tryz.prog 24 = some [.c (.slice none 0 0)] := by kernel_rfl
theorem rwk24 : rwk Tryz.prog 24 = some (75, 3, 40, [.int .i64 0, .slice none 0 0, .int .i64 0]) := by kernel_rfl
theorem slk24 : slk Tryz.prog 24 = some (75, 3) := TT_ok.sl _ _ rfl
theorem ldk25 : ldk Tryz.prog 25 = some (true, 3) := TT_ok.ld _ _ rfl
theorem ze25 : zeroA Tryz.prog 25 = some [.c (.int .i64 0), .c (.int .i64 0), .c (.string ⟨#[]⟩)] := by kernel_rfl
theorem bld25 : bldk Tryz.prog 25 = some ([.int .i64 0, .int .i64 0, .string ⟨#[]⟩], [(0, 1), (1, 1), (2, 1)]) := by kernel_rfl
theorem ldk26 : ldk Tryz.prog 26 = some (true, 3) := TT_ok.ld _ _ rfl
theorem ze26 : zeroA Tryz.prog 26 = some [.c (.int .i64 0), .c (.int .i64 0), .c (.string ⟨#[]⟩)] := by kernel_rfl
theorem bld26 : bldk Tryz.prog 26 = some ([.int .i64 0, .int .i64 0, .string ⟨#[]⟩], [(0, 1), (1, 1), (2, 1)]) := by kernel_rfl
theorem ldk27 : ldk Tryz.prog 27 = some (true, 7) := TT_ok.ld _ _ rfl
theorem ze27 : zeroA Tryz.prog 27 = some [.c (.slice none 0 0), .c (.slice none 0 0), .c (.slice none 0 0), .c (.int .i64 0), .c (.int .i64 0), .c (.string ⟨#[]⟩), .c (.int .i64 0)] := by kernel_rfl
theorem bld27 : bldk Tryz.prog 27 = some ([.slice none 0 0, .slice none 0 0, .slice none 0 0, .int .i64 0, .int .i64 0, .string ⟨#[]⟩, .int .i64 0], [(0, 1), (1, 1), (2, 1), (3, 3), (6, 1)]) := by kernel_rfl
theorem ldk28 : ldk Tryz.prog 28 = some (true, 7) := TT_ok.ld _ _ rfl
theorem ze28 : zeroA Tryz.prog 28 = some [.c (.slice none 0 0), .c (.slice none 0 0), .c (.slice none 0 0), .c (.int .i64 0), .c (.int .i64 0), .c (.string ⟨#[]⟩), .c (.int .i64 0)] := by kernel_rfl
theorem bld28 : bldk Tryz.prog 28 = some ([.slice none 0 0, .slice none 0 0, .slice none 0 0, .int .i64 0, .int .i64 0, .string ⟨#[]⟩, .int .i64 0], [(0, 1), (1, 1), (2, 1), (3, 3), (6, 1)]) := by kernel_rfl
theorem ldk31 : ldk Tryz.prog 31 = some (false, 1) := TT_ok.ld _ _ rfl
theorem ze31 : zeroA Tryz.prog 31 = some [.c (.slice none 0 0)] := by kernel_rfl
theorem rwk31 : rwk Tryz.prog 31 = some (49, 8, 88, [.int .i64 0, .int .i64 0, .int .i64 0, .string ⟨#[]⟩, .slice none 0 0, .int .i64 0, .int .i64 0, .bool false]) := by kernel_rfl
theorem slk31 : slk Tryz.prog 31 = some (49, 8) := TT_ok.sl _ _ rfl
theorem ldk32 : ldk Tryz.prog 32 = some (false, 1) := TT_ok.ld _ _ rfl
theorem ze32 : zeroA Tryz.prog 32 = some [.c (.slice none 0 0)] := by kernel_rfl
theorem rwk32 : rwk Tryz.prog 32 = some (79, 3, 24, [.int .i64 0, .int .i64 0, .int .i64 0]) := by kernel_rfl
theorem slk32 : slk Tryz.prog 32 = some (79, 3) := TT_ok.sl _ _ rfl
theorem ldk33 : ldk Tryz.prog 33 = some (false, 1) := TT_ok.ld _ _ rfl
theorem ze33 : zeroA Tryz.prog 33 = some [.c (.slice none 0 0)] := by kernel_rfl
theorem rwk33 : rwk Tryz.prog 33 = some (52, 3, 40, [.int .i64 0, .slice none 0 0, .int .i64 0]) := by kernel_rfl
theorem slk33 : slk Tryz.prog 33 = some (52, 3) := TT_ok.sl _ _ rfl
theorem ldk34 : ldk Tryz.prog 34 = some (true, 3) := TT_ok.ld _ _ rfl
theorem ze34 : zeroA Tryz.prog 34 = some [.c (.int .i64 0), .c (.int .i64 0), .c (.string ⟨#[]⟩)] := by kernel_rfl
theorem bld34 : bldk Tryz.prog 34 = some ([.int .i64 0, .int .i64 0, .string ⟨#[]⟩], [(0, 1), (1, 1), (2, 1)]) := by kernel_rfl
theorem flk34 : flatK Tryz.prog 4 34 = some [.int .i64, .int .i64, .string] ∧ True := ⟨by kernel_rfl, trivial⟩
theorem ldk35 : ldk Tryz.prog 35 = some (true, 7) := TT_ok.ld _ _ rfl
theorem ze35 : zeroA Tryz.prog 35 = some [.c (.slice none 0 0), .c (.slice none 0 0), .c (.slice none 0 0), .c (.int .i64 0), .c (.int .i64 0), .c (.string ⟨#[]⟩), .c (.int .i64 0)] := by kernel_rfl
theorem bld35 : bldk Tryz.prog 35 = some ([.slice none 0 0, .slice none 0 0, .slice none 0 0, .int .i64 0, .int .i64 0, .string ⟨#[]⟩, .int .i64 0], [(0, 1), (1, 1), (2, 1), (3, 3), (6, 1)]) := by kernel_rfl
theorem ldk36 : ldk Tryz.prog 36 = some (true, 7) := TT_ok.ld _ _ rfl
theorem ze36 : zeroA Tryz.prog 36 = some [.c (.slice none 0 0), .c (.slice none 0 0), .c (.slice none 0 0), .c (.int .i64 0), .c (.int .i64 0), .c (.string ⟨#[]⟩), .c (.int .i64 0)] := by kernel_rfl
theorem bld36 : bldk Tryz.prog 36 = some ([.slice none 0 0, .slice none 0 0, .slice none 0 0, .int .i64 0, .int .i64 0, .string ⟨#[]⟩, .int .i64 0], [(0, 1), (1, 1), (2, 1), (3, 3), (6, 1)]) := by kernel_rfl
theorem ldk45 : ldk Tryz.prog 45 = some (false, 1) := TT_ok.ld _ _ rfl
theorem ze45 : zeroA Tryz.prog 45 = some [.c (.slice none 0 0)] := by kernel_rfl
theorem rwk45 : rwk Tryz.prog 45 = some (94, 2, 16, [.int .i64 0, .int .i64 0]) := by kernel_rfl
theorem slk45 : slk Tryz.prog 45 = some (94, 2) := TT_ok.sl _ _ rfl
theorem ldk46 : ldk Tryz.prog 46 = some (true, 5) := TT_ok.ld _ _ rfl
theorem ze46 : zeroA Tryz.prog 46 = some [.c (.int .i64 0), .c (.int .i64 0), .c (.int .i64 0), .c (.string ⟨#[]⟩), .c (.slice none 0 0)] := by kernel_rfl
theorem bld46 : bldk Tryz.prog 46 = some ([.int .i64 0, .int .i64 0, .int .i64 0, .string ⟨#[]⟩, .slice none 0 0], [(0, 1), (1, 1), (2, 1), (3, 1), (4, 1)]) := by kernel_rfl
theorem ldk47 : ldk Tryz.prog 47 = some (true, 5) := TT_ok.ld _ _ rfl
theorem ze47 : zeroA Tryz.prog 47 = some [.c (.int .i64 0), .c (.int .i64 0), .c (.int .i64 0), .c (.string ⟨#[]⟩), .c (.slice none 0 0)] := by kernel_rfl
theorem bld47 : bldk Tryz.prog 47 = some ([.int .i64 0, .int .i64 0, .int .i64 0, .string ⟨#[]⟩, .slice none 0 0], [(0, 1), (1, 1), (2, 1), (3, 1), (4, 1)]) := by kernel_rfl
theorem ldk48 : ldk Tryz.prog 48 = some (true, 8) := TT_ok.ld _ _ rfl
theorem ze48 : zeroA Tryz.prog 48 = some [.c (.int .i64 0), .c (.int .i64 0), .c (.int .i64 0), .c (.string ⟨#[]⟩), .c (.slice none 0 0), .c (.int .i64 0), .c (.int .i64 0), .c (.bool false)] := by kernel_rfl
theorem bld48 : bldk Tryz.prog 48 = some ([.int .i64 0, .int .i64 0, .int .i64 0, .string ⟨#[]⟩, .slice none 0 0, .int .i64 0, .int .i64 0, .bool false], [(0, 5), (5, 1), (6, 1), (7, 1)]) := by kernel_rfl
theorem ldk49 : ldk Tryz.prog 49 = some (true, 8) := TT_ok.ld _ _ rfl
theorem ze49 : zeroA Tryz.prog 49 = some [.c (.int .i64 0), .c (.int .i64 0), .c (.int .i64 0), .c (.string ⟨#[]⟩), .c (.slice none 0 0), .c (.int .i64 0), .c (.int .i64 0), .c (.bool false)] := by kernel_rfl
theorem bld49 : bldk Tryz.prog 49 = some ([.int .i64 0, .int .i64 0, .int .i64 0, .string ⟨#[]⟩, .slice none 0 0, .int .i64 0, .int .i64 0, .bool false], [(0, 5), (5, 1), (6, 1), (7, 1)]) := by kernel_rfl
theorem ldk50 : ldk Tryz.prog 50 = some (false, 1) := TT_ok.ld _ _ rfl
theorem ze50 : zeroA Tryz.prog 50 = some [.c (.slice none 0 0)] := by kernel_rfl
theorem rwk50 : rwk Tryz.prog 50 = some (47, 5, 64, [.int .i64 0, .int .i64 0, .int .i64 0, .string ⟨#[]⟩, .slice none 0 0]) := by kernel_rfl
theorem slk50 : slk Tryz.prog 50 = some (47, 5) := TT_ok.sl _ _ rfl
theorem ldk51 : ldk Tryz.prog 51 = some (true, 3) := TT_ok.ld _ _ rfl
theorem ze51 : zeroA Tryz.prog 51 = some [.c (.int .i64 0), .c (.slice none 0 0), .c (.int .i64 0)] := by kernel_rfl
theorem bld51 : bldk Tryz.prog 51 = some ([.int .i64 0, .slice none 0 0, .int .i64 0], [(0, 1), (1, 1), (2, 1)]) := by kernel_rfl
theorem ldk52 : ldk Tryz.prog 52 = some (true, 3) := TT_ok.ld _ _ rfl
theorem ze52 : zeroA Tryz.prog 52 = some [.c (.int .i64 0), .c (.slice none 0 0), .c (.int .i64 0)] := by kernel_rfl
theorem bld52 : bldk Tryz.prog 52 = some ([.int .i64 0, .slice none 0 0, .int .i64 0], [(0, 1), (1, 1), (2, 1)]) := by kernel_rfl
theorem ldk67 : ldk Tryz.prog 67 = some (false, 1) := TT_ok.ld _ _ rfl
theorem ze67 : zeroA Tryz.prog 67 = some [.c (.slice none 0 0)] := by kernel_rfl
theorem rwk67 : rwk Tryz.prog 67 = some (125, 2, 16, [.int .i64 0, .int .i64 0]) := by kernel_rfl
theorem slk67 : slk Tryz.prog 67 = some (125, 2) := TT_ok.sl _ _ rfl
theorem ldk68 : ldk Tryz.prog 68 = some (true, 5) := TT_ok.ld _ _ rfl
theorem ze68 : zeroA Tryz.prog 68 = some [.c (.int .i64 0), .c (.int .i64 0), .c (.int .i64 0), .c (.string ⟨#[]⟩), .c (.slice none 0 0)] := by kernel_rfl
theorem bld68 : bldk Tryz.prog 68 = some ([.int .i64 0, .int .i64 0, .int .i64 0, .string ⟨#[]⟩, .slice none 0 0], [(0, 1), (1, 1), (2, 1), (3, 1), (4, 1)]) := by kernel_rfl
theorem ldk69 : ldk Tryz.prog 69 = some (true, 5) := TT_ok.ld _ _ rfl
theorem ze69 : zeroA Tryz.prog 69 = some [.c (.int .i64 0), .c (.int .i64 0), .c (.int .i64 0), .c (.string ⟨#[]⟩), .c (.slice none 0 0)] := by kernel_rfl
theorem bld69 : bldk Tryz.prog 69 = some ([.int .i64 0, .int .i64 0, .int .i64 0, .string ⟨#[]⟩, .slice none 0 0], [(0, 1), (1, 1), (2, 1), (3, 1), (4, 1)]) := by kernel_rfl
theorem ldk70 : ldk Tryz.prog 70 = some (true, 8) := TT_ok.ld _ _ rfl
theorem ze70 : zeroA Tryz.prog 70 = some [.c (.int .i64 0), .c (.int .i64 0), .c (.int .i64 0), .c (.string ⟨#[]⟩), .c (.slice none 0 0), .c (.int .i64 0), .c (.int .i64 0), .c (.bool false)] := by kernel_rfl
theorem bld70 : bldk Tryz.prog 70 = some ([.int .i64 0, .int .i64 0, .int .i64 0, .string ⟨#[]⟩, .slice none 0 0, .int .i64 0, .int .i64 0, .bool false], [(0, 5), (5, 1), (6, 1), (7, 1)]) := by kernel_rfl
theorem ldk71 : ldk Tryz.prog 71 = some (true, 8) := TT_ok.ld _ _ rfl
theorem ze71 : zeroA Tryz.prog 71 = some [.c (.int .i64 0), .c (.int .i64 0), .c (.int .i64 0), .c (.string ⟨#[]⟩), .c (.slice none 0 0), .c (.int .i64 0), .c (.int .i64 0), .c (.bool false)] := by kernel_rfl
theorem bld71 : bldk Tryz.prog 71 = some ([.int .i64 0, .int .i64 0, .int .i64 0, .string ⟨#[]⟩, .slice none 0 0, .int .i64 0, .int .i64 0, .bool false], [(0, 5), (5, 1), (6, 1), (7, 1)]) := by kernel_rfl
theorem ldk73 : ldk Tryz.prog 73 = some (false, 1) := TT_ok.ld _ _ rfl
theorem ze73 : zeroA Tryz.prog 73 = some [.c (.slice none 0 0)] := by kernel_rfl
theorem rwk73 : rwk Tryz.prog 73 = some (69, 5, 64, [.int .i64 0, .int .i64 0, .int .i64 0, .string ⟨#[]⟩, .slice none 0 0]) := by kernel_rfl
theorem slk73 : slk Tryz.prog 73 = some (69, 5) := TT_ok.sl _ _ rfl
theorem ldk74 : ldk Tryz.prog 74 = some (true, 3) := TT_ok.ld _ _ rfl
theorem ze74 : zeroA Tryz.prog 74 = some [.c (.int .i64 0), .c (.slice none 0 0), .c (.int .i64 0)] := by kernel_rfl
theorem bld74 : bldk Tryz.prog 74 = some ([.int .i64 0, .slice none 0 0, .int .i64 0], [(0, 1), (1, 1), (2, 1)]) := by kernel_rfl
theorem ldk75 : ldk Tryz.prog 75 = some (true, 3) := TT_ok.ld _ _ rfl
theorem ze75 : zeroA Tryz.prog 75 = some [.c (.int .i64 0), .c (.slice none 0 0), .c (.int .i64 0)] := by kernel_rfl
theorem bld75 : bldk Tryz.prog 75 = some ([.int .i64 0, .slice none 0 0, .int .i64 0], [(0, 1), (1, 1), (2, 1)]) := by kernel_rfl
theorem ldk78 : ldk Tryz.prog 78 = some (true, 3) := TT_ok.ld _ _ rfl
theorem ze78 : zeroA Tryz.prog 78 = some [.c (.int .i64 0), .c (.int .i64 0), .c (.int .i64 0)] := by kernel_rfl
theorem bld78 : bldk Tryz.prog 78 = some ([.int .i64 0, .int .i64 0, .int .i64 0], [(0, 1), (1, 1), (2, 1)]) := by kernel_rfl
theorem ldk79 : ldk Tryz.prog 79 = some (true, 3) := TT_ok.ld _ _ rfl
theorem ze79 : zeroA Tryz.prog 79 = some [.c (.int .i64 0), .c (.int .i64 0), .c (.int .i64 0)] := by kernel_rfl
theorem bld79 : bldk Tryz.prog 79 = some ([.int .i64 0, .int .i64 0, .int .i64 0], [(0, 1), (1, 1), (2, 1)]) := by kernel_rfl
theorem flk79 : flatK Tryz.prog 4 79 = some [.int .i64, .int .i64, .int .i64] ∧ True := ⟨by kernel_rfl, trivial⟩
theorem ldk84 : ldk Tryz.prog 84 = some (true, 3) := TT_ok.ld _ _ rfl
theorem ze84 : zeroA Tryz.prog 84 = some [.c (.int .i64 0), .c (.int .i64 0), .c (.int .i64 0)] := by kernel_rfl
theorem bld84 : bldk Tryz.prog 84 = some ([.int .i64 0, .int .i64 0, .int .i64 0], [(0, 1), (1, 1), (2, 1)]) := by kernel_rfl
theorem ldk93 : ldk Tryz.prog 93 = some (true, 2) := TT_ok.ld _ _ rfl
theorem ze93 : zeroA Tryz.prog 93 = some [.c (.int .i64 0), .c (.int .i64 0)] := by kernel_rfl
theorem bld93 : bldk Tryz.prog 93 = some ([.int .i64 0, .int .i64 0], [(0, 1), (1, 1)]) := by kernel_rfl
theorem ldk94 : ldk Tryz.prog 94 = some (true, 2) := TT_ok.ld _ _ rfl
theorem ze94 : zeroA Tryz.prog 94 = some [.c (.int .i64 0), .c (.int .i64 0)] := by kernel_rfl
theorem bld94 : bldk Tryz.prog 94 = some ([.int .i64 0, .int .i64 0], [(0, 1), (1, 1)]) := by kernel_rfl
theorem flk94 : flatK Tryz.prog 4 94 = some [.int .i64, .int .i64] ∧ True := ⟨by kernel_rfl, trivial⟩
theorem ldk96 : ldk Tryz.prog 96 = some (false, 1) := TT_ok.ld _ _ rfl
theorem ze96 : zeroA Tryz.prog 96 = some [.c (.slice none 0 0)] := by kernel_rfl
theorem rwk96 : rwk Tryz.prog 96 = some (3, 1, 8, [.int .i64 0]) := by kernel_rfl
theorem slk96 : slk Tryz.prog 96 = some (3, 1) := TT_ok.sl _ _ rfl
theorem ldk97 : ldk Tryz.prog 97 = some (false, 1) := TT_ok.ld _ _ rfl
theorem ze97 : zeroA Tryz.prog 97 = some [.c (.slice none 0 0)] := by kernel_rfl
theorem rwk97 : rwk Tryz.prog 97 = some (102, 2, 16, [.int .i64 0, .int .i64 0]) := by kernel_rfl
theorem slk97 : slk Tryz.prog 97 = some (102, 2) := TT_ok.sl _ _ rfl
theorem ldk101 : ldk Tryz.prog 101 = some (true, 2) := TT_ok.ld _ _ rfl
theorem ze101 : zeroA Tryz.prog 101 = some [.c (.int .i64 0), .c (.int .i64 0)] := by kernel_rfl
theorem bld101 : bldk Tryz.prog 101 = some ([.int .i64 0, .int .i64 0], [(0, 1), (1, 1)]) := by kernel_rfl
theorem ldk102 : ldk Tryz.prog 102 = some (true, 2) := TT_ok.ld _ _ rfl
theorem ze102 : zeroA Tryz.prog 102 = some [.c (.int .i64 0), .c (.int .i64 0)] := by kernel_rfl
theorem bld102 : bldk Tryz.prog 102 = some ([.int .i64 0, .int .i64 0], [(0, 1), (1, 1)]) := by kernel_rfl
theorem flk102 : flatK Tryz.prog 4 102 = some [.int .i64, .int .i64] ∧ True := ⟨by kernel_rfl, trivial⟩
theorem ldk110 : ldk Tryz.prog 110 = some (false, 1) := TT_ok.ld _ _ rfl
theorem ze110 : zeroA Tryz.prog 110 = some [.c (.slice none 0 0)] := by kernel_rfl
theorem rwk110 : rwk Tryz.prog 110 = some (114, 4, 32, [.int .i64 0, .int .i64 0, .int .i64 0, .int .i64 0]) := by kernel_rfl
theorem slk110 : slk Tryz.prog 110 = some (114, 4) := TT_ok.sl _ _ rfl
theorem ldk114 : ldk Tryz.prog 114 = some (true, 4) := TT_ok.ld _ _ rfl
theorem ze114 : zeroA Tryz.prog 114 = some [.c (.int .i64 0), .c (.int .i64 0), .c (.int .i64 0), .c (.int .i64 0)] := by kernel_rfl
theorem bld114 : bldk Tryz.prog 114 = some ([.int .i64 0, .int .i64 0, .int .i64 0, .int .i64 0], [(0, 2), (2, 2)]) := by kernel_rfl
theorem flk114 : flatK Tryz.prog 4 114 = some [.int .i64, .int .i64, .int .i64, .int .i64] ∧ True := ⟨by kernel_rfl, trivial⟩
theorem ldk121 : ldk Tryz.prog 121 = some (true, 4) := TT_ok.ld _ _ rfl
theorem ze121 : zeroA Tryz.prog 121 = some [.c (.int .i64 0), .c (.int .i64 0), .c (.int .i64 0), .c (.int .i64 0)] := by kernel_rfl
theorem bld121 : bldk Tryz.prog 121 = some ([.int .i64 0, .int .i64 0, .int .i64 0, .int .i64 0], [(0, 2), (2, 2)]) := by kernel_rfl
theorem flk121 : flatK Tryz.prog 4 121 = some [.int .i64, .int .i64, .int .i64, .int .i64] ∧ True := ⟨by kernel_rfl, trivial⟩
theorem ldk125 : ldk Tryz.prog 125 = some (true, 2) := TT_ok.ld _ _ rfl
theorem ze125 : zeroA Tryz.prog 125 = some [.c (.int .i64 0), .c (.int .i64 0)] := by kernel_rfl
theorem bld125 : bldk Tryz.prog 125 = some ([.int .i64 0, .int .i64 0], [(0, 1), (1, 1)]) := by kernel_rfl
end Go.Proofs.YtolmophnimngjaaGreat.Abs
