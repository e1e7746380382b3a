/- Part A of the walk over abstract states and of the functions' walks. -/
import Derived.Test.YtniabadeddgmbaaData
import Derived.Test.YtniabadeddgmbaaProg
import Derived.Test.YtniabadeddgmbaaGeo
/- The types' facts for the walks. -/
namespace Go.Proofs.Ytniabadeddgmbaa.Abs
open Go.Proofs Go.RowKit
set_option linter.unusedVariables false
set_option linter.unusedSimpArgs false
def TT : Tbl := ⟨[(2, (false, 1)), (3, (false, 1)), (4, (false, 1)), (5, (false, 1)), (6, (false, 1)), (7, (true, 4)), (8, (true, 4)), (9, (false, 1)), (10, (false, 1)), (11, (false, 1)), (12, (false, 1)), (13, (true, 2)), (14, (true, 2)), (15, (false, 1)), (16, (false, 1)), (17, (false, 1)), (18, (true, 1)), (19, (true, 1)), (21, (false, 1)), (22, (false, 1)), (25, (false, 1)), (29, (true, 2)), (30, (true, 2)), (31, (true, 4)), (32, (true, 4)), (33, (false, 1)), (35, (true, 2)), (36, (true, 4)), (37, (true, 4)), (44, (false, 1)), (45, (true, 5)), (46, (true, 5)), (48, (false, 1)), (50, (false, 1)), (51, (true, 5)), (52, (true, 5)), (53, (true, 4)), (54, (true, 4)), (57, (false, 1)), (74, (true, 2)), (75, (true, 2)), (77, (true, 4)), (78, (true, 4)), (82, (false, 1)), (98, (true, 4)), (99, (true, 4)), (100, (true, 0)), (101, (true, 0)), (102, (true, 0)), (104, (false, 1)), (105, (false, 1)), (106, (false, 1)), (108, (false, 1)), (109, (false, 1)), (110, (false, 1)), (112, (true, 11))], [(7, [(0, 1), (1, 1), (2, 1), (3, 1)]), (8, [(0, 1), (1, 1), (2, 1), (3, 1)]), (13, [(0, 1), (1, 1)]), (14, [(0, 1), (1, 1)]), (18, [(0, 1)]), (19, [(0, 1)]), (29, [(0, 1), (1, 1)]), (30, [(0, 1), (1, 1)]), (31, [(0, 2), (2, 1), (3, 1)]), (32, [(0, 2), (2, 1), (3, 1)]), (35, [(0, 1), (1, 1)]), (36, [(0, 2), (2, 1), (3, 1)]), (37, [(0, 2), (2, 1), (3, 1)]), (45, [(0, 1), (1, 1), (2, 1), (3, 1), (4, 1)]), (46, [(0, 1), (1, 1), (2, 1), (3, 1), (4, 1)]), (51, [(0, 1), (1, 1), (2, 1), (3, 1), (4, 1)]), (52, [(0, 1), (1, 1), (2, 1), (3, 1), (4, 1)]), (53, [(0, 2), (2, 2)]), (54, [(0, 2), (2, 2)]), (74, [(0, 1), (1, 1)]), (75, [(0, 1), (1, 1)]), (77, [(0, 2), (2, 2)]), (78, [(0, 2), (2, 2)]), (98, [(0, 1), (1, 1), (2, 1), (3, 1)]), (99, [(0, 1), (1, 1), (2, 1), (3, 1)]), (101, [(0, 0)]), (102, [(0, 0)]), (112, [(0, 1), (1, 1), (2, 1), (3, 1), (4, 1), (5, 1), (6, 1), (7, 1), (8, 1), (9, 1), (10, 1)])], [(22, (46, 5)), (25, (52, 5)), (33, (3, 1)), (44, (30, 2)), (48, (78, 4)), (50, (35, 2)), (57, (75, 2)), (82, (5, 1))], [(2, .int .i64), (3, .int .i64), (4, .bool), (5, .int .u8), (6, .int .u8), (9, .string), (10, .string), (11, .string), (12, .int .u64), (21, .int .i32), (104, .int .u32), (105, .int .u8), (106, .int .u8), (109, .int .i32), (110, .int .i32)]⟩
theorem TT_ok : TT.Ok Try.prog := Tbl.ok (by kernel_rfl)
theorem ldk2 : ldk Try.prog 2 = some (false, 1) := TT_ok.ld _ _ rfl
theorem ze2 : zeroA Try.prog 2 = some [.c (.int .i64 0)] := by kernel_rfl
theorem ldk3 : ldk Try.prog 3 = some (false, 1) := TT_ok.ld _ _ rfl
theorem ze3 : zeroA Try.prog 3 = some [.c (.int .i64 0)] := by kernel_rfl
theorem ldk4 : ldk Try.prog 4 = some (false, 1) := TT_ok.ld _ _ rfl
theorem ze4 : zeroA Try.prog 4 = some [.c (.bool false)] := by kernel_rfl
theorem ldk5 : ldk Try.prog 5 = some (false, 1) := TT_ok.ld _ _ rfl
theorem ze5 : zeroA Try.prog 5 = some [.c (.int .u8 0)] := by kernel_rfl
theorem ldk6 : ldk Try.prog 6 = some (false, 1) := TT_ok.ld _ _ rfl
theorem ze6 : zeroA Try.prog 6 = some [.c (.int .u8 0)] := by kernel_rfl
theorem ldk7 : ldk Try.prog 7 = some (true, 4) := TT_ok.ld _ _ rfl
theorem ze7 : zeroA Try.prog 7 = some [.c (.int .i64 0), .c (.int .i64 0), .c (.bool false), .c (.int .u8 0)] := by kernel_rfl
theorem bld7 : bldk Try.prog 7 = some ([.int .i64 0, .int .i64 0, .bool false, .int .u8 0], [(0, 1), (1, 1), (2, 1), (3, 1)]) := by kernel_rfl
theorem ldk8 : ldk Try.prog 8 = some (true, 4) := TT_ok.ld _ _ rfl
theorem ze8 : zeroA Try.prog 8 = some [.c (.int .i64 0), .c (.int .i64 0), .c (.bool false), .c (.int .u8 0)] := by kernel_rfl
theorem bld8 : bldk Try.prog 8 = some ([.int .i64 0, .int .i64 0, .bool false, .int .u8 0], [(0, 1), (1, 1), (2, 1), (3, 1)]) := by kernel_rfl
theorem ldk9 : ldk Try.prog 9 = some (false, 1) := TT_ok.ld _ _ rfl
theorem ze9 : zeroA Try.prog 9 = some [.c (.string ⟨#[]⟩)] := by kernel_rfl
theorem kds9 : Try.prog.underlying 9 = some .string := by kernel_rfl
theorem ldk10 : ldk Try.prog 10 = some (false, 1) := TT_ok.ld _ _ rfl
theorem ze10 : zeroA Try.prog 10 = some [.c (.string ⟨#[]⟩)] := by kernel_rfl
theorem kds10 : Try.prog.underlying 10 = some .string := by kernel_rfl
theorem ldk11 : ldk Try.prog 11 = some (false, 1) := TT_ok.ld _ _ rfl
theorem ze11 : zeroA Try.prog 11 = some [.c (.string ⟨#[]⟩)] := by kernel_rfl
theorem kds11 : Try.prog.underlying 11 = some .string := by kernel_rfl
theorem ldk12 : ldk Try.prog 12 = some (false, 1) := TT_ok.ld _ _ rfl
theorem ze12 : zeroA Try.prog 12 = some [.c (.int .u64 0)] := by kernel_rfl
theorem ldk13 : ldk Try.prog 13 = some (true, 2) := TT_ok.ld _ _ rfl
theorem ze13 : zeroA Try.prog 13 = some [.c (.string ⟨#[]⟩), .c (.int .u64 0)] := by kernel_rfl
theorem bld13 : bldk Try.prog 13 = some ([.string ⟨#[]⟩, .int .u64 0], [(0, 1), (1, 1)]) := by kernel_rfl
theorem ldk14 : ldk Try.prog 14 = some (true, 2) := TT_ok.ld _ _ rfl
theorem ze14 : zeroA Try.prog 14 = some [.c (.string ⟨#[]⟩), .c (.int .u64 0)] := by kernel_rfl
theorem bld14 : bldk Try.prog 14 = some ([.string ⟨#[]⟩, .int .u64 0], [(0, 1), (1, 1)]) := by kernel_rfl
theorem ldk15 : ldk Try.prog 15 = some (false, 1) := TT_ok.ld _ _ rfl
theorem ze15 : zeroA Try.prog 15 = some [.c (.pointer none)] := by kernel_rfl
theorem ldk16 : ldk Try.prog 16 = some (false, 1) := TT_ok.ld _ _ rfl
theorem ze16 : zeroA Try.prog 16 = some [.c (.pointer none)] := by kernel_rfl
theorem ldk17 : ldk Try.prog 17 = some (false, 1) := TT_ok.ld _ _ rfl
theorem ze17 : zeroA Try.prog 17 = some [.c (.pointer none)] := by kernel_rfl
theorem ldk18 : ldk Try.prog 18 = some (true, 1) := TT_ok.ld _ _ rfl
theorem ze18 : zeroA Try.prog 18 = some [.c (.pointer none)] := by kernel_rfl
theorem bld18 : bldk Try.prog 18 = some ([.pointer none], [(0, 1)]) := by kernel_rfl
theorem ldk19 : ldk Try.prog 19 = some (true, 1) := TT_ok.ld _ _ rfl
theorem ze19 : zeroA Try.prog 19 = some [.c (.pointer none)] := by kernel_rfl
theorem bld19 : bldk Try.prog 19 = some ([.pointer none], [(0, 1)]) := by kernel_rfl
theorem ldk21 : ldk Try.prog 21 = some (false, 1) := TT_ok.ld _ _ rfl
theorem ze21 : zeroA Try.prog 21 = some [.c (.int .i32 0)] := by kernel_rfl
theorem ldk22 : ldk Try.prog 22 = some (false, 1) := TT_ok.ld _ _ rfl
theorem ze22 : zeroA Try.prog 22 = some [.c (.slice none 0 0)] := by kernel_rfl
theorem rwk22 : rwk Try.prog 22 = some (46, 5, 64, [.int .i64 0, .int .i64 0, .int .i64 0, .string ⟨#[]⟩, .slice none 0 0]) := by kernel_rfl
theorem slk22 : slk Try.prog 22 = some (46, 5) := TT_ok.sl _ _ rfl
theorem ldk25 : ldk Try.prog 25 = some (false, 1) := TT_ok.ld _ _ rfl
theorem ze25 : zeroA Try.prog 25 = some [.c (.slice none 0 0)] := by kernel_rfl
theorem rwk25 : rwk Try.prog 25 = some (52, 5, 64, [.int .i64 0, .int .i64 0, .int .i64 0, .string ⟨#[]⟩, .slice none 0 0]) := by kernel_rfl
theorem slk25 : slk Try.prog 25 = some (52, 5) := TT_ok.sl _ _ rfl
theorem ldk29 : ldk Try.prog 29 = some (true, 2) := TT_ok.ld _ _ rfl
theorem ze29 : zeroA Try.prog 29 = some [.c (.int .i64 0), .c (.int .i64 0)] := by kernel_rfl
theorem bld29 : bldk Try.prog 29 = some ([.int .i64 0, .int .i64 0], [(0, 1), (1, 1)]) := by kernel_rfl
theorem ldk30 : ldk Try.prog 30 = some (true, 2) := TT_ok.ld _ _ rfl
theorem ze30 : zeroA Try.prog 30 = some [.c (.int .i64 0), .c (.int .i64 0)] := by kernel_rfl
theorem bld30 : bldk Try.prog 30 = some ([.int .i64 0, .int .i64 0], [(0, 1), (1, 1)]) := by kernel_rfl
theorem ldk31 : ldk Try.prog 31 = some (true, 4) := TT_ok.ld _ _ rfl
theorem ze31 : zeroA Try.prog 31 = some [.c (.int .i64 0), .c (.int .i64 0), .c (.int .i64 0), .c (.int .i64 0)] := by kernel_rfl
theorem bld31 : bldk Try.prog 31 = some ([.int .i64 0, .int .i64 0, .int .i64 0, .int .i64 0], [(0, 2), (2, 1), (3, 1)]) := by kernel_rfl
theorem ldk32 : ldk Try.prog 32 = some (true, 4) := TT_ok.ld _ _ rfl
theorem ze32 : zeroA Try.prog 32 = some [.c (.int .i64 0), .c (.int .i64 0), .c (.int .i64 0), .c (.int .i64 0)] := by kernel_rfl
theorem bld32 : bldk Try.prog 32 = some ([.int .i64 0, .int .i64 0, .int .i64 0, .int .i64 0], [(0, 2), (2, 1), (3, 1)]) := by kernel_rfl
theorem ldk33 : ldk Try.prog 33 = some (false, 1) := TT_ok.ld _ _ rfl
theorem ze33 : zeroA Try.prog 33 = some [.c (.slice none 0 0)] := by kernel_rfl
theorem rwk33 : rwk Try.prog 33 = some (3, 1, 8, [.int .i64 0]) := by kernel_rfl
theorem slk33 : slk Try.prog 33 = some (3, 1) := TT_ok.sl _ _ rfl
theorem ldk35 : ldk Try.prog 35 = some (true, 2) := TT_ok.ld _ _ rfl
theorem ze35 : zeroA Try.prog 35 = some [.c (.int .i64 0), .c (.int .i64 0)] := by kernel_rfl
theorem bld35 : bldk Try.prog 35 = some ([.int .i64 0, .int .i64 0], [(0, 1), (1, 1)]) := by kernel_rfl
theorem flk35 : flatK Try.prog 4 35 = some [.int .i64, .int .i64] ∧ True := ⟨by kernel_rfl, trivial⟩
theorem ldk36 : ldk Try.prog 36 = some (true, 4) := TT_ok.ld _ _ rfl
theorem ze36 : zeroA Try.prog 36 = some [.c (.int .i64 0), .c (.int .i64 0), .c (.int .i64 0), .c (.int .i64 0)] := by kernel_rfl
theorem bld36 : bldk Try.prog 36 = some ([.int .i64 0, .int .i64 0, .int .i64 0, .int .i64 0], [(0, 2), (2, 1), (3, 1)]) := by kernel_rfl
theorem ldk37 : ldk Try.prog 37 = some (true, 4) := TT_ok.ld _ _ rfl
theorem ze37 : zeroA Try.prog 37 = some [.c (.int .i64 0), .c (.int .i64 0), .c (.int .i64 0), .c (.int .i64 0)] := by kernel_rfl
theorem bld37 : bldk Try.prog 37 = some ([.int .i64 0, .int .i64 0, .int .i64 0, .int .i64 0], [(0, 2), (2, 1), (3, 1)]) := by kernel_rfl
theorem flk37 : flatK Try.prog 4 37 = some [.int .i64, .int .i64, .int .i64, .int .i64] ∧ True := ⟨by kernel_rfl, trivial⟩
theorem ldk44 : ldk Try.prog 44 = some (false, 1) := TT_ok.ld _ _ rfl
theorem ze44 : zeroA Try.prog 44 = some [.c (.slice none 0 0)] := by kernel_rfl
theorem rwk44 : rwk Try.prog 44 = some (30, 2, 16, [.int .i64 0, .int .i64 0]) := by kernel_rfl
theorem slk44 : slk Try.prog 44 = some (30, 2) := TT_ok.sl _ _ rfl
theorem ldk45 : ldk Try.prog 45 = some (true, 5) := TT_ok.ld _ _ rfl
theorem ze45 : zeroA Try.prog 45 = some [.c (.int .i64 0), .c (.int .i64 0), .c (.int .i64 0), .c (.string ⟨#[]⟩), .c (.slice none 0 0)] := by kernel_rfl
theorem bld45 : bldk Try.prog 45 = some ([.int .i64 0, .int .i64 0, .int .i64 0, .string ⟨#[]⟩, .slice none 0 0], [(0, 1), (1, 1), (2, 1), (3, 1), (4, 1)]) := by kernel_rfl
theorem ldk46 : ldk Try.prog 46 = some (true, 5) := TT_ok.ld _ _ rfl
theorem ze46 : zeroA Try.prog 46 = some [.c (.int .i64 0), .c (.int .i64 0), .c (.int .i64 0), .c (.string ⟨#[]⟩), .c (.slice none 0 0)] := by kernel_rfl
theorem bld46 : bldk Try.prog 46 = some ([.int .i64 0, .int .i64 0, .int .i64 0, .string ⟨#[]⟩, .slice none 0 0], [(0, 1), (1, 1), (2, 1), (3, 1), (4, 1)]) := by kernel_rfl
theorem ldk48 : ldk Try.prog 48 = some (false, 1) := TT_ok.ld _ _ rfl
theorem ze48 : zeroA Try.prog 48 = some [.c (.slice none 0 0)] := by kernel_rfl
theorem rwk48 : rwk Try.prog 48 = some (78, 4, 32, [.int .i64 0, .int .i64 0, .int .i64 0, .int .i64 0]) := by kernel_rfl
theorem slk48 : slk Try.prog 48 = some (78, 4) := TT_ok.sl _ _ rfl
theorem ldk50 : ldk Try.prog 50 = some (false, 1) := TT_ok.ld _ _ rfl
theorem ze50 : zeroA Try.prog 50 = some [.c (.slice none 0 0)] := by kernel_rfl
theorem rwk50 : rwk Try.prog 50 = some (35, 2, 16, [.int .i64 0, .int .i64 0]) := by kernel_rfl
theorem slk50 : slk Try.prog 50 = some (35, 2) := TT_ok.sl _ _ rfl
theorem ldk51 : ldk Try.prog 51 = some (true, 5) := TT_ok.ld _ _ rfl
theorem ze51 : zeroA Try.prog 51 = some [.c (.int .i64 0), .c (.int .i64 0), .c (.int .i64 0), .c (.string ⟨#[]⟩), .c (.slice none 0 0)] := by kernel_rfl
theorem bld51 : bldk Try.prog 51 = some ([.int .i64 0, .int .i64 0, .int .i64 0, .string ⟨#[]⟩, .slice none 0 0], [(0, 1), (1, 1), (2, 1), (3, 1), (4, 1)]) := by kernel_rfl
theorem ldk52 : ldk Try.prog 52 = some (true, 5) := TT_ok.ld _ _ rfl
theorem ze52 : zeroA Try.prog 52 = some [.c (.int .i64 0), .c (.int .i64 0), .c (.int .i64 0), .c (.string ⟨#[]⟩), .c (.slice none 0 0)] := by kernel_rfl
theorem bld52 : bldk Try.prog 52 = some ([.int .i64 0, .int .i64 0, .int .i64 0, .string ⟨#[]⟩, .slice none 0 0], [(0, 1), (1, 1), (2, 1), (3, 1), (4, 1)]) := by kernel_rfl
theorem ldk53 : ldk Try.prog 53 = some (true, 4) := TT_ok.ld _ _ rfl
theorem ze53 : zeroA Try.prog 53 = some [.c (.int .i64 0), .c (.int .i64 0), .c (.int .i64 0), .c (.int .i64 0)] := by kernel_rfl
theorem bld53 : bldk Try.prog 53 = some ([.int .i64 0, .int .i64 0, .int .i64 0, .int .i64 0], [(0, 2), (2, 2)]) := by kernel_rfl
theorem ldk54 : ldk Try.prog 54 = some (true, 4) := TT_ok.ld _ _ rfl
theorem ze54 : zeroA Try.prog 54 = some [.c (.int .i64 0), .c (.int .i64 0), .c (.int .i64 0), .c (.int .i64 0)] := by kernel_rfl
theorem bld54 : bldk Try.prog 54 = some ([.int .i64 0, .int .i64 0, .int .i64 0, .int .i64 0], [(0, 2), (2, 2)]) := by kernel_rfl
theorem flk54 : flatK Try.prog 4 54 = some [.int .i64, .int .i64, .int .i64, .int .i64] ∧ True := ⟨by kernel_rfl, trivial⟩
theorem ldk57 : ldk Try.prog 57 = some (false, 1) := TT_ok.ld _ _ rfl
theorem ze57 : zeroA Try.prog 57 = some [.c (.slice none 0 0)] := by kernel_rfl
theorem rwk57 : rwk Try.prog 57 = some (75, 2, 16, [.int .i64 0, .int .i64 0]) := by kernel_rfl
theorem slk57 : slk Try.prog 57 = some (75, 2) := TT_ok.sl _ _ rfl
theorem ldk74 : ldk Try.prog 74 = some (true, 2) := TT_ok.ld _ _ rfl
theorem ze74 : zeroA Try.prog 74 = some [.c (.int .i64 0), .c (.int .i64 0)] := by kernel_rfl
theorem bld74 : bldk Try.prog 74 = some ([.int .i64 0, .int .i64 0], [(0, 1), (1, 1)]) := by kernel_rfl
theorem ldk75 : ldk Try.prog 75 = some (true, 2) := TT_ok.ld _ _ rfl
theorem ze75 : zeroA Try.prog 75 = some [.c (.int .i64 0), .c (.int .i64 0)] := by kernel_rfl
theorem bld75 : bldk Try.prog 75 = some ([.int .i64 0, .int .i64 0], [(0, 1), (1, 1)]) := by kernel_rfl
theorem flk75 : flatK Try.prog 4 75 = some [.int .i64, .int .i64] ∧ True := ⟨by kernel_rfl, trivial⟩
theorem ldk77 : ldk Try.prog 77 = some (true, 4) := TT_ok.ld _ _ rfl
theorem ze77 : zeroA Try.prog 77 = some [.c (.int .i64 0), .c (.int .i64 0), .c (.int .i64 0), .c (.int .i64 0)] := by kernel_rfl
theorem bld77 : bldk Try.prog 77 = some ([.int .i64 0, .int .i64 0, .int .i64 0, .int .i64 0], [(0, 2), (2, 2)]) := by kernel_rfl
theorem ldk78 : ldk Try.prog 78 = some (true, 4) := TT_ok.ld _ _ rfl
theorem ze78 : zeroA Try.prog 78 = some [.c (.int .i64 0), .c (.int .i64 0), .c (.int .i64 0), .c (.int .i64 0)] := by kernel_rfl
theorem bld78 : bldk Try.prog 78 = some ([.int .i64 0, .int .i64 0, .int .i64 0, .int .i64 0], [(0, 2), (2, 2)]) := by kernel_rfl
theorem flk78 : flatK Try.prog 4 78 = some [.int .i64, .int .i64, .int .i64, .int .i64] ∧ True := ⟨by kernel_rfl, trivial⟩
theorem ldk82 : ldk Try.prog 82 = some (false, 1) := TT_ok.ld _ _ rfl
theorem ze82 : zeroA Try.prog 82 = some [.c (.slice none 0 0)] := by kernel_rfl
theorem rwk82 : rwk Try.prog 82 = some (5, 1, 1, [.int .u8 0]) := by kernel_rfl
theorem slk82 : slk Try.prog 82 = some (5, 1) := TT_ok.sl _ _ rfl
theorem ldk98 : ldk Try.prog 98 = some (true, 4) := TT_ok.ld _ _ rfl
theorem ze98 : zeroA Try.prog 98 = some [.c (.pointer none), .c (.pointer none), .c (.pointer none), .c (.string ⟨#[]⟩)] := by kernel_rfl
theorem bld98 : bldk Try.prog 98 = some ([.pointer none, .pointer none, .pointer none, .string ⟨#[]⟩], [(0, 1), (1, 1), (2, 1), (3, 1)]) := by kernel_rfl
theorem ldk99 : ldk Try.prog 99 = some (true, 4) := TT_ok.ld _ _ rfl
theorem ze99 : zeroA Try.prog 99 = some [.c (.pointer none), .c (.pointer none), .c (.pointer none), .c (.string ⟨#[]⟩)] := by kernel_rfl
theorem bld99 : bldk Try.prog 99 = some ([.pointer none, .pointer none, .pointer none, .string ⟨#[]⟩], [(0, 1), (1, 1), (2, 1), (3, 1)]) := by kernel_rfl
theorem ldk100 : ldk Try.prog 100 = some (true, 0) := TT_ok.ld _ _ rfl
theorem ze100 : zeroA Try.prog 100 = some [] := by kernel_rfl
theorem bld100 : bldk Try.prog 100 = some ([], []) := by kernel_rfl
theorem ark100 : ark Try.prog 100 = some (0, 1) := by kernel_rfl
theorem ldk101 : ldk Try.prog 101 = some (true, 0) := TT_ok.ld _ _ rfl
theorem ze101 : zeroA Try.prog 101 = some [] := by kernel_rfl
theorem bld101 : bldk Try.prog 101 = some ([], [(0, 0)]) := by kernel_rfl
theorem ldk102 : ldk Try.prog 102 = some (true, 0) := TT_ok.ld _ _ rfl
theorem ze102 : zeroA Try.prog 102 = some [] := by kernel_rfl
theorem bld102 : bldk Try.prog 102 = some ([], [(0, 0)]) := by kernel_rfl
theorem ldk104 : ldk Try.prog 104 = some (false, 1) := TT_ok.ld _ _ rfl
theorem ze104 : zeroA Try.prog 104 = some [.c (.int .u32 0)] := by kernel_rfl
theorem ldk105 : ldk Try.prog 105 = some (false, 1) := TT_ok.ld _ _ rfl
theorem ze105 : zeroA Try.prog 105 = some [.c (.int .u8 0)] := by kernel_rfl
theorem ldk106 : ldk Try.prog 106 = some (false, 1) := TT_ok.ld _ _ rfl
theorem ze106 : zeroA Try.prog 106 = some [.c (.int .u8 0)] := by kernel_rfl
theorem ldk108 : ldk Try.prog 108 = some (false, 1) := TT_ok.ld _ _ rfl
theorem ze108 : zeroA Try.prog 108 = some [.c (.pointer none)] := by kernel_rfl
theorem ldk109 : ldk Try.prog 109 = some (false, 1) := TT_ok.ld _ _ rfl
theorem ze109 : zeroA Try.prog 109 = some [.c (.int .i32 0)] := by kernel_rfl
theorem ldk110 : ldk Try.prog 110 = some (false, 1) := TT_ok.ld _ _ rfl
theorem ze110 : zeroA Try.prog 110 = some [.c (.int .i32 0)] := by kernel_rfl
theorem ldk112 : ldk Try.prog 112 = some (true, 11) := TT_ok.ld _ _ rfl
end Go.Proofs.Ytniabadeddgmbaa.Abs

/- The walk's steps, their tactics as default arguments. -/
namespace Go.Proofs.Ytniabadeddgmbaa.Abs
open Go.Proofs Go.RowKit
set_option linter.unusedVariables false
set_option linter.unusedSimpArgs false
set_option maxRecDepth 100000
theorem nrm {α : Sort _} {a b : α} (h : a = b := by ((try dsimp only [dput, List.set, cond_true, cond_false, Nat.zero_add, Nat.add_zero, Nat.reduceAdd, splice, List.take, List.drop, List.length, List.nil_append, List.cons_append, List.append, TPoint.en, TSegment.en, TBox.en, TFeature.en, TMeet.en, TPlace.en, TCover.en, TLabel.en, TPiece.en, TLevel.en, TChart.en, TReason.en, TEdit.en, TEntry.en, TEdition.en, TListing.en, TAtlas.en, TEvent.en, TWindow.en]) <;> rfl)) : a = b := h
section
variable {o : Oper} {E : Env} {tm tm' : List AV} {M M2 : Mem} {ops : Array Oper} {rest : List Oper} {N : NPost} {r : AV}
theorem POp.sto {P : Program} {x y : Operand} {id g sz i j n : Nat} {b : Blk} {bb : Bool} {t : TypeId} {r cs : List AV} {z : AV} (ho : o.op = .store t x y) (hx : evA tm x = some (.ref id g sz i j)) (hM : M[id]? = some (some b)) (hg : b.gen = g) (hb : b.sz = sz)
    (hr : b.es[i]? = some r) (hy : evA tm y = some z) (hcs : cellsA z = some cs) (hl : ldk P t = some (bb, n)) (hn : n = cs.length) (hj : j + cs.length ≤ r.length) (hds : o.dst = none) : POp P o E tm M (.c undef) (M.set id (some { b with es := b.es.set i (splice r j cs) })) := by
  obtain ⟨d, _, _, h3⟩ := ldk_inv hl
  exact POp.store ho hx hM hg hb hr hy hcs (by rw [h3, hn]) hj hds
/-- An operation that leaves memory alone. -/
theorem POp.qt (h : POp Try.prog o E tm M r M := by first | exact POp.q TT_ok (by rfl) | exact POp.quiet (QOp.atk_ro (by rfl) (by rfl) (by rfl) (TT_ok.sl _ _ (by rfl)) (Nat.le_of_ble_eq_true (by rfl)) (by first | assumption | omega) (by assumption)) | exact POp.quiet (QOp.ld1_ro (by rfl) (by rfl) (by assumption) (TT_ok.ld _ _ (by rfl)) (by rfl)) | exact POp.quiet (QOp.ldr_ro (by rfl) (by rfl) (by assumption) (TT_ok.ld _ _ (by rfl)) (Nat.le_of_ble_eq_true (by rfl))) | exact POp.quiet (QOp.build (by rfl) (by first | exact bld7 | exact bld8 | exact bld13 | exact bld14 | exact bld18 | exact bld19 | exact bld29 | exact bld30 | exact bld31 | exact bld32 | exact bld35 | exact bld36 | exact bld37 | exact bld45 | exact bld46 | exact bld51 | exact bld52 | exact bld53 | exact bld54 | exact bld74 | exact bld75 | exact bld77 | exact bld78 | exact bld98 | exact bld99 | exact bld100 | exact bld101 | exact bld102) (by rfl) (by rfl)) | exact POp.quiet (QOp.at_own (by rfl) (TT_ok.sl _ _ (by rfl)) (by rfl) (by rfl) (by rfl) (by rfl) (by rfl) (by rfl) (by first | assumption | omega | decide) (by first | assumption | omega | decide)) | exact POp.quiet (QOp.at_arr (by rfl) (by first | exact ark100) (by rfl) (by rfl) (by rfl) (by rfl) (by first | assumption | omega | decide) (by first | assumption | omega | decide)) | exact POp.quiet (QOp.ldr_ref (by rfl) (by rfl) (by rfl) (by rfl) (by rfl) (by assumption) (TT_ok.ld _ _ (by rfl)) (Nat.le_of_ble_eq_true (by rfl))) | exact POp.quiet (QOp.ld1_ref (by rfl) (by rfl) (by rfl) (by rfl) (by rfl) (by assumption) (TT_ok.ld _ _ (by rfl)) (by rfl)) | exact POp.quiet (QOp.len_own (by rfl) (TT_ok.sl _ _ (by rfl)) (by rfl) (by rfl) (by rfl) (by rfl)) | exact POp.quiet (QOp.quo (by rfl) (by rfl) (by rfl) (by first | assumption | omega)) | exact POp.quiet (QOp.rem (by rfl) (by rfl) (by rfl) (by first | assumption | omega)) | exact POp.quiet (QOp.sEq (by rfl) (by rfl) (by rfl) (by first | exact flk35.1 | exact flk37.1 | exact flk54.1 | exact flk75.1 | exact flk78.1) (by rfl) (by rfl) (by rfl) (by rfl) (by rfl) (by rfl) (by rfl) (by rfl)) | exact POp.quiet (QOp.index_str (by rfl) (by first | exact kds9 | exact kds10 | exact kds11) (by rfl) (by rfl) (by first | assumption | omega) (by assumption)) | exact POp.quiet (QOp.cat (by rfl) (by rfl) (by rfl) (by first | assumption | (simp only [ByteArray.size_append, bs_size] at *; omega))) | exact POp.quiet (QOp.str1 (by rfl) (by first | exact Try.underlying22 | exact Try.underlying25 | exact Try.underlying33 | exact Try.underlying44 | exact Try.underlying48 | exact Try.underlying50 | exact Try.underlying57 | exact Try.underlying82) (by first | exact Try.underlying2 | exact Try.underlying3 | exact Try.underlying5 | exact Try.underlying12 | exact Try.underlying21 | exact Try.underlying104) (by first | exact Try.underlying9) (by rfl) (by rfl) (by rfl) (by rfl) (by rfl) (by assumption)) | exact POp.quiet (QOp.pickT (by rfl) (by rfl) (by first | rfl | with_reducible_and_instances assumption | (simp only [Bool.not_eq_true', Bool.not_eq_false', Bool.not_true, Bool.not_false]; with_reducible_and_instances assumption) | decide) (by rfl)) | exact POp.quiet (QOp.pickF (by rfl) (by rfl) (by first | rfl | with_reducible_and_instances assumption | (simp only [Bool.not_eq_true', Bool.not_eq_false', Bool.not_true, Bool.not_false]; with_reducible_and_instances assumption) | decide) (by rfl)) | exact POp.quiet (QOp.pickAnd (by rfl) (by rfl) (by rfl) (by rfl) (by rfl)) | exact POp.quiet (QOp.pickOr (by rfl) (by rfl) (by rfl) (by rfl) (by rfl))) : POp Try.prog o E tm M r M := h
/-- An operation that makes or changes. -/
theorem POp.mk {M' : Mem} (h : POp Try.prog o E tm M r M' := by first | exact POp.empty (by rfl) (by rfl) (by first | exact rwk22 | exact rwk25 | exact rwk33 | exact rwk44 | exact rwk48 | exact rwk50 | exact rwk57 | exact rwk82) | exact POp.literal (by rfl) (by first | exact rwk22 | exact rwk25 | exact rwk33 | exact rwk44 | exact rwk48 | exact rwk50 | exact rwk57 | exact rwk82) (by rfl) (by rfl) (by rfl) (by rfl) (by rfl) (by rfl) | exact POp.make (by rfl) (by first | exact rwk22 | exact rwk25 | exact rwk33 | exact rwk44 | exact rwk48 | exact rwk50 | exact rwk57 | exact rwk82) (by rfl) (by rfl) (by first | assumption | omega) (by simp; omega) (by simp [maxLen]; omega) | exact POp.box (by rfl) (by rfl) (by rfl) | exact POp.allocA (by rfl) (by first | exact ze2 | exact ze3 | exact ze4 | exact ze5 | exact ze6 | exact ze7 | exact ze8 | exact ze9 | exact ze10 | exact ze11 | exact ze12 | exact ze13 | exact ze14 | exact ze15 | exact ze16 | exact ze17 | exact ze18 | exact ze19 | exact ze21 | exact ze22 | exact ze25 | exact ze29 | exact ze30 | exact ze31 | exact ze32 | exact ze33 | exact ze35 | exact ze36 | exact ze37 | exact ze44 | exact ze45 | exact ze46 | exact ze48 | exact ze50 | exact ze51 | exact ze52 | exact ze53 | exact ze54 | exact ze57 | exact ze74 | exact ze75 | exact ze77 | exact ze78 | exact ze82 | exact ze98 | exact ze99 | exact ze100 | exact ze101 | exact ze102 | exact ze104 | exact ze105 | exact ze106 | exact ze108 | exact ze109 | exact ze110) | exact POp.sto (by rfl) (by rfl) (by rfl) (by rfl) (by rfl) (by rfl) (by rfl) (by rfl) (TT_ok.ld _ _ (by rfl)) (by rfl) (Nat.le_of_ble_eq_true (by rfl)) (by rfl) | exact POp.sto (by rfl) (by rfl) (by rfl) (by rfl) (by rfl) (by assumption) (by rfl) (by rfl) (TT_ok.ld _ _ (by rfl)) (by rfl) (Nat.le_of_ble_eq_true (by rfl)) (by rfl) | exact POp.append (by rfl) (by first | exact rwk22 | exact rwk25 | exact rwk33 | exact rwk44 | exact rwk48 | exact rwk50 | exact rwk57 | exact rwk82) (by rfl) (by rfl) (by rfl) (by rfl) (by rfl) (by rfl) (by rfl) (SrcA.own (by rfl) (by rfl) (by rfl) (by rfl)) (by first | (simp <;> omega) | omega | (simp_all <;> omega)) (by first | (simp [maxLen] <;> omega) | (simp_all [maxLen] <;> omega)) | exact POp.append (by rfl) (by first | exact rwk22 | exact rwk25 | exact rwk33 | exact rwk44 | exact rwk48 | exact rwk50 | exact rwk57 | exact rwk82) (by rfl) (by rfl) (by rfl) (by rfl) (by rfl) (by rfl) (by rfl) SrcA.ro (by first | (simp <;> omega) | omega | (simp_all <;> omega)) (by first | (simp [maxLen] <;> omega) | (simp_all [maxLen] <;> omega))) : POp Try.prog o E tm M r M' := h
/-- A literal that stays. -/
theorem POp.lit {b : Blk} (h : POp Try.prog o E tm M (.own M.length 0) (M ++ [some b]) := by exact POp.mk) (hg : b.gen = 0 := by rfl) (hb : b.box = false := by rfl) (hc : ∀ r ∈ b.es, ∀ x ∈ r, Clo x := by exact clo_rows_b rfl) :
    POp Try.prog o E tm M (.ro b.sz b.es) (M ++ [none]) := POp.still h hg hb hc
theorem POp.any {M' : Mem} (h : POp Try.prog o E tm M r M' := by first | exact POp.qt | exact POp.mk) : POp Try.prog o E tm M r M' := h
/-- A call. -/
theorem POp.k {f : FuncId} {fn : Func} {args : Array Operand} {ts : Array TypeId} {vs : List AV} (hf : Try.prog.funcs[f]? = some fn) (ho : o.op = .call { callee := .value (.func f), args := args, argTypes := ts } := by rfl)
    (hn : (fn.name == "runtime.NumGoroutine") = false := by rfl) (hb : fn.body.isSome = true := by rfl) (ha : args.toList.mapM (evA tm) = some vs := by rfl) (hc : VCalls Try.prog f vs (fun r' M' => r' = r ∧ M' = [])) (hv : ∀ x ∈ vs, Clo x := by first | exact clo_all (by rfl) | repeat' (first | exact clo_nil | refine clo_cons ?_ ?_ | exact clo_of (by rfl) | exact clo_fn _ | assumption)) (hr : Clo r := by first | exact clo_of (by rfl) | assumption) : POp Try.prog o E tm M r M := POp.pcall ho hf hn hb ha hv hc hr
/-! ### Plain regions -/
theorem AL.any {M' : Mem} (hN : AL Try.prog ops rest E tm' M2 N) (hg : o.guard = none := by rfl) (h : POp Try.prog o E tm M r M' := by exact POp.any) (e : dput tm o.dst (r) = tm' := by exact nrm) (em : M' = M2 := by exact nrm) : AL Try.prog ops (o :: rest) E tm M N := by
  subst e em
  exact AL.step hg (OpA.pop h hN)
theorem AL.T {j d : Nat} {oj : Oper} {b t : Bool} {M' : Mem} (hN : AL Try.prog ops rest E tm' M2 N) (hg : o.guard = some (j, b) := by rfl) (hj : ops[j]? = some oj := by rfl) (hd : oj.dst = some d := by rfl) (hb : (tm[d]?).map unw = some (.c (.bool t)) := by rfl) (ht : t = b := by first | rfl | assumption | (simp only [Bool.not_eq_true', Bool.not_eq_false', Bool.not_true, Bool.not_false]; assumption)) (h : POp Try.prog o E tm M r M' := by exact POp.any) (e : dput tm o.dst (r) = tm' := by exact nrm) (em : M' = M2 := by exact nrm) : AL Try.prog ops (o :: rest) E tm M N := by
  subst e em
  exact AL.gT hg hj hd hb ht (OpA.pop h hN)
theorem AL.F {j d : Nat} {oj : Oper} {b t : Bool} (hN : AL Try.prog ops rest E tm' M N) (hg : o.guard = some (j, b) := by rfl) (hj : ops[j]? = some oj := by rfl) (hd : oj.dst = some d := by rfl) (hb : (tm[d]?).map unw = some (.c (.bool t)) := by rfl) (ht : t = !b := by first | rfl | assumption | (simp only [Bool.not_eq_true', Bool.not_eq_false', Bool.not_true, Bool.not_false]; assumption)) (e : dput tm o.dst (.c undef) = tm' := by exact nrm) : AL Try.prog ops (o :: rest) E tm M N := by
  subst e
  exact AL.gF hg hj hd hb ht hN
theorem AL.U {j d : Nat} {oj : Oper} {b : Bool} (hN : AL Try.prog ops rest E tm' M N) (hg : o.guard = some (j, b) := by rfl) (hj : ops[j]? = some oj := by rfl) (hd : oj.dst = some d := by rfl) (hb : (tm[d]?).map unw = some (.c undef) := by rfl) (e : dput tm o.dst (.c undef) = tm' := by exact nrm) : AL Try.prog ops (o :: rest) E tm M N := by
  subst e
  exact AL.guardU hg hj hd hb hN
theorem AL.W {j d : Nat} {oj : Oper} {b t : Bool} (hN : AL Try.prog ops rest E tm' M N) (hg : o.guard = some (j, b) := by rfl) (hj : ops[j]? = some oj := by rfl) (hd : oj.dst = some d := by rfl) (hb : (tm[d]?).map unw = some (.c (.bool t)) := by rfl) (h : t = b → POp Try.prog o E tm M r M := by intro h; (try rw [h]); exact POp.qt) (e : dput tm o.dst (.when (bif b then t else !t) r) = tm' := by exact nrm) : AL Try.prog ops (o :: rest) E tm M N := by
  subst e
  exact AL.guardW hg hj hd hb (fun ht => OpA.pop (h ht) ⟨rfl, rfl⟩) hN
/-! ### Drawn regions -/
variable {ND : List AV → Prop} {m bm jj : Nat} {s : Option Mem} {X Y : Mem} {NN : Mem → List AV → Prop} {ch : List (Option Nat)}
theorem DL.any (hN : DL Try.prog ops E M rest tm' ND) (hg : o.guard = none := by rfl) (h : POp Try.prog o E (msk (o.looksAt ops) tm) M r M := by exact POp.qt) (e : dput tm o.dst (r) = tm' := by exact nrm) : DL Try.prog ops E M (o :: rest) tm ND := by
  subst e
  exact DL.p hg h hN
theorem DL.T {j d : Nat} {oj : Oper} {b t : Bool} (hN : DL Try.prog ops E M rest tm' ND) (hg : o.guard = some (j, b) := by rfl) (hj : ops[j]? = some oj := by rfl) (hd : oj.dst = some d := by rfl) (hb : evA (msk (o.looksAt ops) tm) (.tmp d) = some (.c (.bool t)) := by rfl) (ht : t = b := by first | rfl | assumption | (simp only [Bool.not_eq_true', Bool.not_eq_false', Bool.not_true, Bool.not_false]; assumption)) (h : POp Try.prog o E (msk (o.looksAt ops) tm) M r M := by exact POp.qt) (e : dput tm o.dst (.when true r) = tm' := by exact nrm) : DL Try.prog ops E M (o :: rest) tm ND := by
  subst e
  exact DL.gT hg hj hd hb ht h hN
theorem DL.F {j d : Nat} {oj : Oper} {b t : Bool} (hN : DL Try.prog ops E M rest tm' ND) (hg : o.guard = some (j, b) := by rfl) (hj : ops[j]? = some oj := by rfl) (hd : oj.dst = some d := by rfl) (hb : evA (msk (o.looksAt ops) tm) (.tmp d) = some (.c (.bool t)) := by rfl) (ht : t = !b := by first | rfl | assumption | (simp only [Bool.not_eq_true', Bool.not_eq_false', Bool.not_true, Bool.not_false]; assumption)) (e : dput tm o.dst (.c undef) = tm' := by exact nrm) : DL Try.prog ops E M (o :: rest) tm ND := by
  subst e
  exact DL.gF hg hj hd hb ht hN
theorem DL.U {j d : Nat} {oj : Oper} {b : Bool} (hN : DL Try.prog ops E M rest tm' ND) (hg : o.guard = some (j, b) := by rfl) (hj : ops[j]? = some oj := by rfl) (hd : oj.dst = some d := by rfl) (hb : evA (msk (o.looksAt ops) tm) (.tmp d) = some (.c undef) := by rfl) (e : dput tm o.dst (.c undef) = tm' := by exact nrm) : DL Try.prog ops E M (o :: rest) tm ND := by
  subst e
  exact DL.gU hg hj hd hb hN
theorem DL.W {j d : Nat} {oj : Oper} {b t : Bool} (hN : DL Try.prog ops E M rest tm' ND) (hg : o.guard = some (j, b) := by rfl) (hj : ops[j]? = some oj := by rfl) (hd : oj.dst = some d := by rfl) (hb : evA (msk (o.looksAt ops) tm) (.tmp d) = some (.c (.bool t)) := by rfl) (h : t = b → POp Try.prog o E (msk (o.looksAt ops) tm) M r M := by intro h; (try rw [h]); exact POp.qt) (e : dput tm o.dst (.when (bif b then t else !t) r) = tm' := by exact nrm) : DL Try.prog ops E M (o :: rest) tm ND := by
  subst e
  exact DL.g hg hj hd hb h hN
theorem DLM.any (hN : DLM Try.prog ops E M m (jj + 1) rest tm' s NN) (hj : Nat.beq jj m = false := by rfl) (hg : o.guard = none := by rfl) (h : ∀ Y, POp Try.prog o E (msk (o.looksAt ops) tm) (M ++ Y) r (M ++ Y) := by intro Y; exact POp.qt) (e : dput tm o.dst (r) = tm' := by exact nrm) : DLM Try.prog ops E M m jj (o :: rest) tm s NN := by
  subst e
  exact DLM.p hj hg h hN
theorem DLM.mk {M' : Mem} (hN : DLM Try.prog ops E M m (jj + 1) rest tm' (some X) NN) (hj : Nat.beq jj m = true := by rfl) (hg : o.guard = none := by rfl) (h : POp Try.prog o E (msk (o.looksAt ops) tm) M r M' := by exact POp.mk) (hX : M' = M ++ X := by rfl) (e : dput tm o.dst (r) = tm' := by exact nrm) : DLM Try.prog ops E M m jj (o :: rest) tm none NN := by
  subst e
  exact DLM.make hj hg h hX hN
theorem DLM.T {j d : Nat} {oj : Oper} {b t : Bool} (hN : DLM Try.prog ops E M m (jj + 1) rest tm' s NN) (hjj : Nat.beq jj m = false := by rfl) (hg : o.guard = some (j, b) := by rfl) (hj : ops[j]? = some oj := by rfl) (hd : oj.dst = some d := by rfl) (hb : evA (msk (o.looksAt ops) tm) (.tmp d) = some (.c (.bool t)) := by rfl) (ht : t = b := by first | rfl | assumption | (simp only [Bool.not_eq_true', Bool.not_eq_false', Bool.not_true, Bool.not_false]; assumption)) (h : ∀ Y, POp Try.prog o E (msk (o.looksAt ops) tm) (M ++ Y) r (M ++ Y) := by intro Y; exact POp.qt) (e : dput tm o.dst (.when true r) = tm' := by exact nrm) : DLM Try.prog ops E M m jj (o :: rest) tm s NN := by
  subst e
  exact DLM.gT hjj hg hj hd hb ht h hN
theorem DLM.F {j d : Nat} {oj : Oper} {b t : Bool} (hN : DLM Try.prog ops E M m (jj + 1) rest tm' s NN) (hjj : Nat.beq jj m = false := by rfl) (hg : o.guard = some (j, b) := by rfl) (hj : ops[j]? = some oj := by rfl) (hd : oj.dst = some d := by rfl) (hb : evA (msk (o.looksAt ops) tm) (.tmp d) = some (.c (.bool t)) := by rfl) (ht : t = !b := by first | rfl | assumption | (simp only [Bool.not_eq_true', Bool.not_eq_false', Bool.not_true, Bool.not_false]; assumption)) (e : dput tm o.dst (.c undef) = tm' := by exact nrm) : DLM Try.prog ops E M m jj (o :: rest) tm s NN := by
  subst e
  exact DLM.gF hjj hg hj hd hb ht hN
theorem DLM.U {j d : Nat} {oj : Oper} {b : Bool} (hN : DLM Try.prog ops E M m (jj + 1) rest tm' s NN) (hjj : Nat.beq jj m = false := by rfl) (hg : o.guard = some (j, b) := by rfl) (hj : ops[j]? = some oj := by rfl) (hd : oj.dst = some d := by rfl) (hb : evA (msk (o.looksAt ops) tm) (.tmp d) = some (.c undef) := by rfl) (e : dput tm o.dst (.c undef) = tm' := by exact nrm) : DLM Try.prog ops E M m jj (o :: rest) tm s NN := by
  subst e
  exact DLM.gU hjj hg hj hd hb hN
theorem DLM.W {j d : Nat} {oj : Oper} {b t : Bool} (hN : DLM Try.prog ops E M m (jj + 1) rest tm' s NN) (hjj : Nat.beq jj m = false := by rfl) (hg : o.guard = some (j, b) := by rfl) (hj : ops[j]? = some oj := by rfl) (hd : oj.dst = some d := by rfl) (hb : evA (msk (o.looksAt ops) tm) (.tmp d) = some (.c (.bool t)) := by rfl) (h : t = b → ∀ Y, POp Try.prog o E (msk (o.looksAt ops) tm) (M ++ Y) r (M ++ Y) := by intro h Y; (try rw [h]); exact POp.qt) (e : dput tm o.dst (.when (bif b then t else !t) r) = tm' := by exact nrm) : DLM Try.prog ops E M m jj (o :: rest) tm s NN := by
  subst e
  exact DLM.g hjj hg hj hd hb h hN
theorem DLS.any (hN : DLS Try.prog ops E M X m bm (jj + 1) rest tm' ND) (hj : Nat.beq jj m = false := by rfl) (hg : o.guard = none := by rfl) (h : POp Try.prog o E (msk (o.looksAt ops) tm) M r M := by exact POp.qt) (h2 : POp Try.prog o E (msk (o.looksAt ops) tm) X r X := by exact POp.qt) (e : dput tm o.dst (r) = tm' := by exact nrm) : DLS Try.prog ops E M X m bm jj (o :: rest) tm ND := by
  subst e
  exact DLS.p hj hg h h2 hN
theorem DLS.bef (hN : DLS Try.prog ops E M X m bm (jj + 1) rest tm' ND) (hj : Nat.beq jj m = false := by rfl) (hb : bm.testBit jj = true := by rfl) (hg : o.guard = none := by rfl) (h : POp Try.prog o E (msk (o.looksAt ops) tm) M r M := by exact POp.qt) (e : dput tm o.dst (r) = tm' := by exact nrm) : DLS Try.prog ops E M X m bm jj (o :: rest) tm ND := by
  subst e
  exact DLS.b hj hb hg h hN
theorem DLS.st {M' : Mem} (hN : DLS Try.prog ops E M X m bm (jj + 1) rest tm' ND) (hj : Nat.beq jj m = true := by rfl) (hg : o.guard = none := by rfl) (h : POp Try.prog o E (msk (o.looksAt ops) tm) M r M' := by exact POp.mk) (hX : M' = X := by first | rfl | exact nrm) (e : dput tm o.dst (r) = tm' := by exact nrm) : DLS Try.prog ops E M X m bm jj (o :: rest) tm ND := by
  subst e
  exact DLS.s hj hg h hX hN
theorem DLR.any (hN : DLR Try.prog ops E M rest ch tm' Y NN) (hg : o.guard = none := by rfl) (h : ∀ Y', POp Try.prog o E (msk (o.looksAt ops) tm) (M ++ Y') r (M ++ Y') := by intro Y; exact POp.qt) (e : dput tm o.dst (r) = tm' := by exact nrm) : DLR Try.prog ops E M (o :: rest) (none :: ch) tm Y NN := by
  subst e
  exact DLR.p hg h hN
theorem DLR.W {j d : Nat} {oj : Oper} {b t : Bool} (hN : DLR Try.prog ops E M rest ch tm' Y NN) (hg : o.guard = some (j, b) := by rfl) (hj : ops[j]? = some oj := by rfl) (hd : oj.dst = some d := by rfl) (hb : evA (msk (o.looksAt ops) tm) (.tmp d) = some (.c (.bool t)) := by rfl) (h : t = b → ∀ Y', POp Try.prog o E (msk (o.looksAt ops) tm) (M ++ Y') r (M ++ Y') := by intro h Y; (try rw [h]); exact POp.qt) (e : dput tm o.dst (.when (bif b then t else !t) r) = tm' := by exact nrm) : DLR Try.prog ops E M (o :: rest) (none :: ch) tm Y NN := by
  subst e
  exact DLR.g hg hj hd hb h hN
/-! ### The program's text -/
variable {c : Nat} {b : Bool} {x y : Code} {Qx : XPost}
theorem AW.cT (h : AW Try.prog x E tm M Qx) (hc : tm[c]? = some (.c (.bool b)) := by rfl) (hb : b = true := by first | first | rfl | with_reducible_and_instances assumption | (simp only [Bool.not_eq_true', Bool.not_eq_false', Bool.not_true, Bool.not_false]; with_reducible_and_instances assumption) | decide | (simp <;> fail)) : AW Try.prog (.cond (.tmp c) x y) E tm M Qx := AW.cond hc (fun _ => h) (fun h0 => by rw [hb] at h0; cases h0)
theorem AW.cF (h : AW Try.prog y E tm M Qx) (hc : tm[c]? = some (.c (.bool b)) := by rfl) (hb : b = false := by first | first | rfl | with_reducible_and_instances assumption | (simp only [Bool.not_eq_true', Bool.not_eq_false', Bool.not_true, Bool.not_false]; with_reducible_and_instances assumption) | decide | (simp <;> fail)) : AW Try.prog (.cond (.tmp c) x y) E tm M Qx := AW.cond hc (fun h0 => by rw [hb] at h0; cases h0) (fun _ => h)
theorem AW.c2 (h1 : b = true → AW Try.prog x E tm M Qx) (h0 : b = false → AW Try.prog y E tm M Qx) (hc : tm[c]? = some (.c (.bool b)) := by rfl) : AW Try.prog (.cond (.tmp c) x y) E tm M Qx := AW.cond hc h1 h0
variable {l l1 l2 : List Oper} {id : Nat}
theorem AW.dr (n1 : Nat) (h : DL Try.prog l.toArray E M l1 tm (fun tm' => AL Try.prog l.toArray l2 E tm' M (Qx .normal))) (e1 : l.take n1 = l1 := by exact nrm) (e2 : l.drop n1 = l2 := by exact nrm) (hm : Try.prog.follows .mixedOrders = true := by kernel_rfl) (hc : chkD l n1 = true := by kernel_rfl) (hn : Nat.ble n1 l.length = true := by rfl) : AW Try.prog (.region id l.toArray true) E tm M Qx := AW.drawn n1 hm hc hn (by rw [e1, e2]; exact h)
theorem AW.drM (n1 m : Nat) (h : DLM Try.prog l.toArray E M m 0 l1 tm none (fun X tm' => AL Try.prog l.toArray l2 E tm' (M ++ X) (Qx .normal))) (e1 : l.take n1 = l1 := by exact nrm) (e2 : l.drop n1 = l2 := by exact nrm) (hmx : Try.prog.follows .mixedOrders = true := by kernel_rfl) (hc : chkD l n1 = true := by kernel_rfl) (hn : Nat.ble n1 l.length = true := by rfl) (hm : Nat.blt m n1 = true := by rfl) :
    AW Try.prog (.region id l.toArray true) E tm M Qx := AW.drawnM n1 m hmx hc hn hm (by rw [e1, e2]; exact h)
theorem AW.drS (n1 m bm : Nat) (X : Mem) (h : DLS Try.prog l.toArray E M X m bm 0 l1 tm (fun tm' => AL Try.prog l.toArray l2 E tm' X (Qx .normal))) (e1 : l.take n1 = l1 := by exact nrm) (e2 : l.drop n1 = l2 := by exact nrm) (hbm : (masks l []).getD m 0 = bm := by kernel_rfl) (hmx : Try.prog.follows .mixedOrders = true := by kernel_rfl) (hc : chkD l n1 = true := by kernel_rfl) (hn : Nat.ble n1 l.length = true := by rfl) (hm : Nat.blt m n1 = true := by rfl) :
    AW Try.prog (.region id l.toArray true) E tm M Qx := AW.drawnS n1 m bm X hbm hmx hc hn hm (by rw [e1, e2]; exact h)
end
end Go.Proofs.Ytniabadeddgmbaa.Abs

/- The walks of the size tests, and that what is left bounds the lengths. -/
namespace Go.Proofs.Ytniabadeddgmbaa.Abs
open Go.Proofs Go.RowKit
set_option linter.unusedVariables false
set_option linter.unusedSimpArgs false
attribute [local irreducible] OpA AL AW DL DLM DLR DLS QOp POp VCalls VCallsI
abbrev wsub (a b : Int) : Int := IntKind.i64.wrap (a - b)
def thenS (a : Int) (k : Int → Int) : Int := if a < 0 then -1 else k a
def szN (n : Nat) (left : Int) : Int := thenS (wsub left n) fun a => a
def szAcc {α : Type} (f : α → Int → Int) (l : List α) (left : Int) (i : Nat) : Int := (l.take i).foldl (fun acc x => if acc < 0 then -1 else f x acc) left
def szL {α : Type} (f : α → Int → Int) (l : List α) (left : Int) : Int := thenS (wsub left l.length) fun a => szAcc f l a l.length
theorem szAcc_succ {α : Type} {f : α → Int → Int} {l : List α} {left : Int} {i : Nat} {x : α} (h : l[i]? = some x) (h0 : 0 ≤ szAcc f l left i) : szAcc f l left (i + 1) = f x (szAcc f l left i) := by
  unfold szAcc at *
  rw [take_succ_of h, List.foldl_append]
  simp only [List.foldl_cons, List.foldl_nil]
  rw [if_neg (by omega)]
theorem sz_stuck {α : Type} (f : α → Int → Int) : ∀ (l : List α) (a : Int), a < 0 → l.foldl (fun acc x => if acc < 0 then -1 else f x acc) a = -1 ∨ l.foldl (fun acc x => if acc < 0 then -1 else f x acc) a = a
  | [], a, h => .inr rfl
  | x :: l, a, h => by
    rw [List.foldl_cons, if_pos h]
    rcases sz_stuck f l (-1) (by omega) with e | e <;> exact .inl e
theorem szAcc_lt {α : Type} {f : α → Int → Int} {l : List α} {left : Int} {i : Nat} {x : α} (hf : f x (szAcc f l left i) < 0 → f x (szAcc f l left i) = -1) (hx : l[i]? = some x) (h0 : 0 ≤ szAcc f l left i) (h : f x (szAcc f l left i) < 0) : szAcc f l left l.length = -1 := by
  have e : szAcc f l left l.length = (l.drop (i + 1)).foldl (fun acc x => if acc < 0 then -1 else f x acc) (szAcc f l left (i + 1)) := by
    unfold szAcc
    rw [← List.foldl_append, List.take_append_drop, List.take_length]
  rw [e, szAcc_succ hx h0, hf h]
  rcases sz_stuck f (l.drop (i + 1)) (-1) (by omega) with e | e <;> exact e
theorem thenS_lt {a : Int} {k : Int → Int} (hk : k a < 0 → k a = -1) (h : thenS a k < 0) : thenS a k = -1 := by
  unfold thenS at *
  split
  · rfl
  · rename_i h1; rw [if_neg h1] at h; exact hk h
theorem thenS_id {a : Int} (h : thenS a (fun a => a) < 0) : thenS a (fun a => a) = -1 := by
  unfold thenS at *
  split
  · rfl
  · rename_i h1; rw [if_neg h1] at h; exact absurd h h1
theorem thenS_ge {a : Int} {k : Int → Int} (h : 0 ≤ thenS a k) : 0 ≤ a ∧ thenS a k = k a := by
  unfold thenS at *
  split
  · rename_i h1; rw [if_pos h1] at h; omega
  · rename_i h1; exact ⟨by omega, rfl⟩
theorem maxLen_eq : maxLen = 9223372036854775807 := by decide
theorem wsub_ge {left : Int} {n : Nat} (hn : n ≤ maxLen) (h0 : 0 ≤ left) (h1 : left ≤ 1048576) : wsub left n = left - n := by
  rw [maxLen_eq] at hn
  exact w64 (by omega) (by omega)
/-- A size test that leaves something: what was there was small. -/
def Szs {α : Type} (f : α → Int → Int) (ok sm : α → Prop) : Prop := ∀ x left, ok x → 0 ≤ left → left ≤ 1048576 → 0 ≤ f x left → sm x ∧ f x left ≤ left
theorem Szs.mem {α : Type} {f : α → Int → Int} {ok sm : α → Prop} (h : Szs f ok sm) : ∀ (l : List α) (a : Int), (∀ x ∈ l, ok x) → 0 ≤ a → a ≤ 1048576 → 0 ≤ l.foldl (fun acc x => if acc < 0 then -1 else f x acc) a → (∀ x ∈ l, sm x) ∧ l.foldl (fun acc x => if acc < 0 then -1 else f x acc) a ≤ a
  | [], a, _, _, _, _ => ⟨fun x hx => by simp at hx, Int.le_refl _⟩
  | x :: l, a, hk, h0, h1, hp => by
    rw [List.foldl_cons, if_neg (by omega)] at hp ⊢
    have hx0 : 0 ≤ f x a := by
      rcases (by omega : f x a < 0 ∨ 0 ≤ f x a) with hn | hn
      · rcases sz_stuck f l (f x a) hn with e | e <;> rw [e] at hp <;> omega
      · exact hn
    obtain ⟨s1, s2⟩ := h x a (hk x (List.mem_cons_self ..)) h0 h1 hx0
    obtain ⟨t1, t2⟩ := Szs.mem h l (f x a) (fun y hy => hk y (List.mem_cons_of_mem _ hy)) hx0 (by omega) hp
    exact ⟨fun y hy => by rcases List.mem_cons.1 hy with rfl | hy <;> first | exact s1 | exact t1 y hy, by omega⟩
theorem Szs.list {α : Type} {f : α → Int → Int} {ok sm : α → Prop} (h : Szs f ok sm) : Szs (szL f) (fun l : List α => l.length ≤ maxLen ∧ ∀ x ∈ l, ok x) (fun l => l.length ≤ 1048576 ∧ ∀ x ∈ l, sm x) := by
  intro l left hk h0 h1 hp
  obtain ⟨a, b⟩ := thenS_ge hp
  have e := wsub_ge hk.1 h0 h1
  rw [show szL f l left = _ from b] at hp ⊢
  unfold szAcc at hp ⊢
  rw [List.take_length] at hp ⊢
  obtain ⟨s, t⟩ := h.mem l _ hk.2 a (by omega) hp
  exact ⟨⟨by omega, s⟩, by omega⟩
theorem Szs.flat {α : Type} {ok : α → Prop} : Szs (fun (l : List α) => szN l.length) (fun l : List α => l.length ≤ maxLen ∧ ∀ x ∈ l, ok x) (fun l => l.length ≤ 1048576) := by
  intro l left hk h0 h1 hp
  obtain ⟨a, b⟩ := thenS_ge (show 0 ≤ szN l.length left from hp)
  have e := wsub_ge hk.1 h0 h1
  change _ ∧ szN l.length left ≤ left
  rw [show szN l.length left = _ from b]
  exact ⟨by omega, by omega⟩
theorem Szs.split {α : Type} {f : α → Int → Int} {ok sm : α → Prop} (h : Szs f ok sm) (x : α) (left : Int) (hk : ok x) (h0 : 0 ≤ left) (h1 : left ≤ 1048576) : decide (f x left < 0) = true ∨ (decide (f x left < 0) = false ∧ sm x ∧ 0 ≤ f x left ∧ f x left ≤ 1048576) := by
  rcases (by omega : f x left < 0 ∨ 0 ≤ f x left) with hz | hz
  · exact .inl (decide_eq_true hz)
  · obtain ⟨a, b⟩ := h x left hk h0 h1 hz
    exact .inr ⟨decide_eq_false (by omega), a, hz, by omega⟩

def TFeature.sm (x : TFeature) : Prop := (x.points.length ≤ 1048576)
def TFeature.sz (x : TFeature) (left : Int) : Int := thenS (wsub left x.name.size) fun a0 => thenS (szN x.points.length a0) fun a1 => a1
theorem TFeature.sz_lt (x : TFeature) (left : Int) (h : x.sz left < 0) : x.sz left = -1 := by
  unfold TFeature.sz at *
  with_reducible refine thenS_lt (fun h => ?_) h
  with_reducible exact thenS_id h
theorem TFeature.szs : Szs TFeature.sz TFeature.ok (fun x => x.sm) := by
  intro x left hk h0 h1 hp
  obtain ⟨k0, k1, k2, k3, k4⟩ := hk
  unfold TFeature.sz at *
  obtain ⟨p0, e0⟩ := thenS_ge hp
  rw [e0] at hp ⊢
  have s0 := wsub_ge k3 h0 h1
  have u0 := Int.le_trans (Int.le_of_eq s0) (by omega : _ ≤ (1048576 : Int))
  have q0 := Int.le_trans (Int.le_of_eq s0) (by omega : _ ≤ left)
  obtain ⟨p1, e1⟩ := thenS_ge hp
  rw [e1] at hp ⊢
  have s1 := Szs.flat (ok := TPoint.ok) _ _ k4 p0 u0 p1
  try dsimp only at s1
  have u1 := Int.le_trans s1.2 u0
  have q1 := Int.le_trans s1.2 q0
  exact ⟨s1.1, q1⟩
set_option maxRecDepth 100000 in
set_option maxHeartbeats 2000000 in
theorem szPointS (l : List TPoint) (left : Int) : VCalls Try.prog 34 [.ro 2 (l.map TPoint.en), I left] (fun r M => r = I (szN l.length left) ∧ M = []) := by
  refine VCalls.body Try.func34 rfl 10 rfl (fun E => ?_)
  simp only [List.reduceReplicate, List.cons_append, List.nil_append]
  repeat' ((first
    | ((with_reducible show AL _ _ _ _ _ _ _); first | refine AL.any ?_ | refine AL.nil ?_)
    | ((with_reducible show AW _ _ _ _ _ _); first | refine AW.seq ?_ | refine AW.region ?_ | refine AW.skip ?_ | refine AW.cT ?_ | refine AW.cF ?_ | (refine AW.c2 ?_ ?_ <;> (intro h; try simp only [Bool.not_eq_true', Bool.not_eq_false'] at h)) | refine AW.block ?_ | refine AW.exit ?_ | refine AW.ret ?_)
    | with_reducible refine (if_pos rfl).mpr ?_
    | with_reducible refine (if_neg (by decide)).mpr ?_) <;> (try dsimp only))
  all_goals exact Fin.one rfl (RV.tmp (by rfl)) (clo_c _) ⟨by first | rfl | ((try simp only [List.length_map] at *); simp only [szN, thenS]; (repeat' split) <;> (try simp_all [thenS, szN]) <;> (try omega)), rfl⟩

set_option maxRecDepth 100000 in
set_option maxHeartbeats 2000000 in
theorem szFeature (x : TFeature) (left : Int) (hk : x.ok) : VCalls Try.prog 17 [.agg x.en, I left] (fun r M => r = I (x.sz left) ∧ M = []) := by
  refine VCalls.body Try.func17 rfl 17 rfl (fun E => ?_)
  simp only [List.reduceReplicate, List.cons_append, List.nil_append]
  have hclo0 : Clo (.ro 2 (x.points.map TPoint.en)) := clo_list TPoint.clo_en
  have hcle : Clo (.agg x.en) := Clo.agg x.clo_en
  have hk' := hk
  obtain ⟨k0, k1, k2, k3, k4⟩ := hk
  obtain ⟨k4, k4'⟩ := k4
  rw [maxLen_eq] at k4
  dsimp only [TFeature.en]
  repeat' ((first
    | ((with_reducible show AL _ _ _ _ _ _ _); first | refine AL.any ?_ | refine AL.any (h := POp.k Try.func34 (hc := szPointS _ _)) ?_ | refine AL.nil ?_)
    | ((with_reducible show AW _ _ _ _ _ _); first | refine AW.seq ?_ | refine AW.region ?_ | refine AW.skip ?_ | refine AW.cT ?_ | refine AW.cF ?_ | (refine AW.c2 ?_ ?_ <;> (intro h; try simp only [Bool.not_eq_true', Bool.not_eq_false'] at h)) | refine AW.block ?_ | refine AW.exit ?_ | refine AW.ret ?_)
    | with_reducible refine (if_pos rfl).mpr ?_
    | with_reducible refine (if_neg (by decide)).mpr ?_) <;> (try dsimp only))
  all_goals exact Fin.one rfl (RV.tmp (by rfl)) (clo_c _) ⟨by first | rfl | ((try simp only [List.length_map] at *); simp only [TFeature.sz, thenS, szN]; (repeat' split) <;> (try simp_all [thenS, szN]) <;> (try omega)), rfl⟩

set_option maxRecDepth 100000 in
set_option maxHeartbeats 2000000 in
theorem szFeatureS (l : List TFeature) (left : Int) (hl : l.length ≤ 9223372036854775807) (hp : ∀ x ∈ l, x.ok) : VCalls Try.prog 5 [.ro 5 (l.map TFeature.en), I left] (fun r M => r = I (szL TFeature.sz l left) ∧ M = []) := by
  refine VCalls.bodyE Try.func5 rfl 25 rfl (fun E hE => ?_)
  simp only [List.reduceReplicate, List.cons_append, List.nil_append]
  repeat' ((first
    | ((with_reducible show AL _ _ _ _ _ _ _); first | refine AL.any ?_ | refine AL.any (h := POp.k Try.func17 (hc := szFeature x _ (by assumption))) ?_ | refine AL.nil ?_)
    | ((with_reducible show AW _ _ _ _ _ _); first | refine AW.seq ?_ | refine AW.region ?_ | refine AW.skip ?_ | (refine AW.loopD hE (fun i : Nat => [.ro 5 (l.map TFeature.en), I (szAcc TFeature.sz l (wsub left l.length) i), .any, .any, .any, I i, .any, .any, .any, .any, .any, .any, .any, .any, .any, .any, .any, .any, .any, .any, .any, .any, .any, .any, .any, .any, .any]) (fun i => []) (fun i => l.length - i) (fun i => i ≤ l.length ∧ 0 ≤ szAcc TFeature.sz l (wsub left l.length) i) 0 (by simp_all [szAcc, wsub]) ?_ (by first | rfl | (simp [fil_zero]; done)) ?_) | refine AW.cT ?_ | refine AW.cF ?_ | (refine AW.c2 ?_ ?_ <;> (intro h; try simp only [Bool.not_eq_true', Bool.not_eq_false'] at h)) | refine AW.block ?_ | refine AW.exit ?_ | refine AW.ret ?_)
    | with_reducible refine (if_pos rfl).mpr ?_
    | with_reducible refine (if_neg (by decide)).mpr ?_) <;> (try dsimp only))
  · exact Fin.one rfl (RV.tmp (by rfl)) (clo_c _) ⟨by simp_all [szL, thenS, wsub], rfl⟩
  · (repeat' (first | exact Wk.nil | refine Wk.any ?_ | (with_reducible refine Wk.same ?_) | refine Wk.of ?_ ?_)) <;> first | rfl | (simp [szAcc, wsub])
  · intro i hi
    have hclo : Clo (.ro 5 (l.map TFeature.en)) := clo_list TFeature.clo_en
    by_cases hlt : i < l.length
    · obtain ⟨x, hx⟩ : ∃ x, l[i]? = some x := ⟨_, List.getElem?_eq_getElem hlt⟩
      have hg := map_get (f := TFeature.en) hx
      have ht := lt_true (f := TFeature.en) hlt
      have hn := next_ix hlt (by omega)
      have hpx := hp x (List.mem_of_getElem? hx)
      have hcle : Clo (.agg x.en) := Clo.agg x.clo_en
      have hs := szAcc_succ (f := TFeature.sz) (left := wsub left l.length) hx hi.2
      repeat' ((first
        | ((with_reducible show AL _ _ _ _ _ _ _); first | refine AL.any ?_ | refine AL.any (h := POp.k Try.func17 (hc := szFeature x _ (by assumption))) ?_ | refine AL.nil ?_)
        | ((with_reducible show AW _ _ _ _ _ _); first | refine AW.seq ?_ | refine AW.region ?_ | refine AW.skip ?_ | refine AW.cT ?_ | refine AW.cF ?_ | (refine AW.c2 ?_ ?_ <;> (intro h; try simp only [Bool.not_eq_true', Bool.not_eq_false'] at h)) | refine AW.block ?_ | refine AW.exit ?_ | refine AW.ret ?_)
        | with_reducible refine (if_pos rfl).mpr ?_
        | with_reducible refine (if_neg (by decide)).mpr ?_) <;> (try dsimp only))
      all_goals first
        | (refine ⟨i + 1, _, ⟨hlt, by rw [hs]; simp_all⟩, by omega, ?_, rfl, ?_, ?_⟩; (focus ((repeat' (first | exact Wk.nil | refine Wk.any ?_ | (with_reducible refine Wk.same ?_) | refine Wk.of ?_ ?_)) <;> (first | (rw [hs]; done) | simp_all [szAcc, wsub]))); (focus ((repeat' (first | exact Fits.nil _ | refine Fits.cons ?_ ?_ | exact Fits.any _ | exact Fits.c _ _ | exact Fits.own (by rfl) | exact Fits.ref (by rfl) | exact Fits.clo (by assumption) | exact Fits.clo (clo_of (by rfl)) | exact Fits.clo (clo_fn _))))); (focus (exact FitsM.nil _)))
        | exact Fin.one rfl (RV.tmp (by rfl)) (clo_c _) ⟨by have e := szAcc_lt (TFeature.sz_lt x _) hx hi.2 (by simp_all); simp_all [szL, thenS, wsub], rfl⟩
    · have ht := lt_false (f := TFeature.en) hlt
      have e : i = l.length := by omega
      subst e
      try rw [List.take_length]
      repeat' ((first
        | ((with_reducible show AL _ _ _ _ _ _ _); first | refine AL.any ?_ | refine AL.any (h := POp.k Try.func17 (hc := szFeature x _ (by assumption))) ?_ | refine AL.nil ?_)
        | ((with_reducible show AW _ _ _ _ _ _); first | refine AW.seq ?_ | refine AW.region ?_ | refine AW.skip ?_ | refine AW.cT ?_ | refine AW.cF ?_ | (refine AW.c2 ?_ ?_ <;> (intro h; try simp only [Bool.not_eq_true', Bool.not_eq_false'] at h)) | refine AW.block ?_ | refine AW.exit ?_ | refine AW.ret ?_)
        | with_reducible refine (if_pos rfl).mpr ?_
        | with_reducible refine (if_neg (by decide)).mpr ?_) <;> (try dsimp only))
      all_goals exact Fin.one rfl (RV.tmp (by rfl)) (clo_c _) ⟨by have e := hi.2; simp_all [szL, thenS, wsub] <;> omega, rfl⟩

end Go.Proofs.Ytniabadeddgmbaa.Abs

/- The walks of the laws' converters. -/
namespace Go.Proofs.Ytniabadeddgmbaa.Abs
open Go.Proofs Go.RowKit
set_option linter.unusedVariables false
set_option linter.unusedSimpArgs false
attribute [local irreducible] OpA AL AW DL DLM DLR DLS QOp POp VCalls VCallsI
set_option maxRecDepth 100000 in
set_option maxHeartbeats 2000000 in
theorem toPoint (x : TPoint) : VCalls Try.prog 28 [.agg x.en] (fun r M => r = .agg x.en ∧ M = []) := by
  refine VCalls.body Try.func28 rfl 10 rfl (fun E => ?_)
  simp only [List.reduceReplicate, List.cons_append, List.nil_append]
  dsimp only [TPoint.en]
  repeat' ((first
    | ((with_reducible show AL _ _ _ _ _ _ _); first | refine AL.any ?_ | refine AL.nil ?_)
    | ((with_reducible show AW _ _ _ _ _ _); first | refine AW.seq ?_ | refine AW.region ?_ | refine AW.skip ?_ | refine AW.block ?_ | refine AW.exit ?_ | refine AW.ret ?_)
    | with_reducible refine (if_pos rfl).mpr ?_
    | with_reducible refine (if_neg (by decide)).mpr ?_) <;> (try dsimp only))
  all_goals exact Fin.one rfl (RV.cell (QOp.quietA TT_ok (by rfl))) (Clo.agg x.clo_en) ⟨by rfl, rfl⟩

set_option maxRecDepth 100000 in
set_option maxHeartbeats 2000000 in
theorem toPointS (l : List TPoint) (hl : l.length ≤ 1048576) : VCalls Try.prog 42 [.ro 2 (l.map TPoint.en)] (fun r M => r = .ro 2 (l.map TPoint.en) ∧ M = []) := by
  refine VCalls.bodyE Try.func42 rfl 22 rfl (fun E hE => ?_)
  simp only [List.reduceReplicate, List.cons_append, List.nil_append]
  repeat' ((first
    | ((with_reducible show AL _ _ _ _ _ _ _); first | refine AL.any ?_ | refine AL.any (h := POp.k Try.func28 (hc := toPoint x)) ?_ | refine AL.nil ?_)
    | ((with_reducible show AW _ _ _ _ _ _); first | refine AW.seq ?_ | refine AW.region ?_ | refine AW.skip ?_ | (refine AW.loopD hE (fun i : Nat => [.ro 2 (l.map TPoint.en), .any, .any, .own 0 0, I i, .any, .any, .any, .any, .any, .any, .any, .any, .any, .any, .any, .any, .any, .any, .any, .any, .any, .any]) (fun i => [some ⟨35, 2, 0, false, fil TPoint.en [I 0, I 0] l i⟩]) (fun i => l.length - i) (fun i => i ≤ l.length) 0 (by simp) ?_ (by first | rfl | (simp [fil_zero]; done)) ?_) | refine AW.cT ?_ | refine AW.cF ?_ | (refine AW.c2 ?_ ?_ <;> (intro h; try simp only [Bool.not_eq_true', Bool.not_eq_false'] at h)) | refine AW.block ?_ | refine AW.exit ?_ | refine AW.ret ?_)
    | with_reducible refine (if_pos rfl).mpr ?_
    | with_reducible refine (if_neg (by decide)).mpr ?_) <;> (try dsimp only))
  · (repeat' (first | exact Wk.nil | refine Wk.any ?_ | (with_reducible refine Wk.same ?_) | refine Wk.of ?_ ?_)) <;> first | rfl | (simp)
  · intro i hi
    have hclo : Clo (.ro 2 (l.map TPoint.en)) := clo_list TPoint.clo_en
    by_cases hlt : i < l.length
    · obtain ⟨x, hx⟩ : ∃ x, l[i]? = some x := ⟨_, List.getElem?_eq_getElem hlt⟩
      have hg := map_get (f := TPoint.en) hx
      have ht := lt_true (f := TPoint.en) hlt
      have hn := next_ix hlt (by omega)
      have hz := fil_get (en := TPoint.en) (z := [I 0, I 0]) hlt
      have ha := fil_at (en := TPoint.en) (z := [I 0, I 0]) hlt
      have hs := fil_set (en := TPoint.en) (z := [I 0, I 0]) hx
      repeat' ((first
        | ((with_reducible show AL _ _ _ _ _ _ _); first | refine AL.any ?_ | refine AL.any (h := POp.k Try.func28 (hc := toPoint x)) ?_ | refine AL.nil ?_)
        | ((with_reducible show AW _ _ _ _ _ _); first | refine AW.seq ?_ | refine AW.region ?_ | refine AW.skip ?_ | refine AW.cT ?_ | refine AW.cF ?_ | (refine AW.c2 ?_ ?_ <;> (intro h; try simp only [Bool.not_eq_true', Bool.not_eq_false'] at h)) | refine AW.block ?_ | refine AW.exit ?_ | refine AW.ret ?_)
        | with_reducible refine (if_pos rfl).mpr ?_
        | with_reducible refine (if_neg (by decide)).mpr ?_) <;> (try dsimp only))
      all_goals first
        | (refine ⟨i + 1, [], hlt, by omega, ?_, by rw [← hs] <;> rfl, ?_, ?_⟩; (focus ((repeat' (first | exact Wk.nil | refine Wk.any ?_ | (with_reducible refine Wk.same ?_) | refine Wk.of ?_ ?_)) <;> (simp_all))); (focus ((repeat' (first | exact Fits.nil _ | refine Fits.cons ?_ ?_ | exact Fits.any _ | exact Fits.c _ _ | exact Fits.own (by rfl) | exact Fits.ref (by rfl) | exact Fits.clo (by assumption) | exact Fits.clo (clo_of (by rfl)) | exact Fits.clo (clo_fn _))))); (focus (exact fits_row (fil_clo (clo_all (by rfl)) TPoint.clo_en))))
    · have ht := lt_false (f := TPoint.en) hlt
      have e : i = l.length := by omega
      subst e
      try rw [List.take_length]
      repeat' ((first
        | ((with_reducible show AL _ _ _ _ _ _ _); first | refine AL.any ?_ | refine AL.any (h := POp.k Try.func28 (hc := toPoint x)) ?_ | refine AL.nil ?_)
        | ((with_reducible show AW _ _ _ _ _ _); first | refine AW.seq ?_ | refine AW.region ?_ | refine AW.skip ?_ | (refine AW.freezeRet (t := 2) (id := 0) rfl rfl rfl rfl (fil_clo (clo_all (by rfl)) TPoint.clo_en) ?_; simp only [fil_all]; try dsimp only [dput, List.set, cond_true, cond_false, Nat.zero_add, Nat.add_zero, Nat.reduceAdd, splice, List.take, List.drop, List.length, List.nil_append, List.cons_append, List.append, TPoint.en, TSegment.en, TBox.en, TFeature.en, TMeet.en, TPlace.en, TCover.en, TLabel.en, TPiece.en, TLevel.en, TChart.en, TReason.en, TEdit.en, TEntry.en, TEdition.en, TListing.en, TAtlas.en, TEvent.en, TWindow.en]) | refine AW.cT ?_ | refine AW.cF ?_ | (refine AW.c2 ?_ ?_ <;> (intro h; try simp only [Bool.not_eq_true', Bool.not_eq_false'] at h)) | refine AW.block ?_ | refine AW.exit ?_ | refine AW.ret ?_)
        | with_reducible refine (if_pos rfl).mpr ?_
        | with_reducible refine (if_neg (by decide)).mpr ?_) <;> (try dsimp only))
      all_goals exact Fin.one rfl (RV.tmp (by rfl)) hclo ⟨rfl, rfl⟩

set_option maxRecDepth 100000 in
set_option maxHeartbeats 2000000 in
theorem toFeature (x : TFeature) (hs : x.sm) : VCalls Try.prog 22 [.agg x.en] (fun r M => r = .agg x.en ∧ M = []) := by
  refine VCalls.body Try.func22 rfl 20 rfl (fun E => ?_)
  simp only [List.reduceReplicate, List.cons_append, List.nil_append]
  have hclo0 : Clo (.ro 2 (x.points.map TPoint.en)) := clo_list TPoint.clo_en
  have hcle : Clo (.agg x.en) := Clo.agg x.clo_en
  have hs' := hs
  obtain hs4 := hs
  dsimp only [TFeature.en]
  repeat' ((first
    | ((with_reducible show AL _ _ _ _ _ _ _); first | refine AL.any ?_ | refine AL.any (h := POp.k Try.func42 (hc := toPointS _ (by assumption))) ?_ | refine AL.nil ?_)
    | ((with_reducible show AW _ _ _ _ _ _); first | refine AW.seq ?_ | refine AW.region ?_ | refine AW.skip ?_ | refine AW.block ?_ | refine AW.exit ?_ | refine AW.ret ?_)
    | with_reducible refine (if_pos rfl).mpr ?_
    | with_reducible refine (if_neg (by decide)).mpr ?_) <;> (try dsimp only))
  all_goals exact Fin.one rfl (RV.cell (QOp.quietA TT_ok (by rfl))) (Clo.agg x.clo_en) ⟨by rfl, rfl⟩

set_option maxRecDepth 100000 in
set_option maxHeartbeats 2000000 in
theorem toFeatureS (l : List TFeature) (hl : l.length ≤ 1048576) (hp : ∀ x ∈ l, x.sm) : VCalls Try.prog 7 [.ro 5 (l.map TFeature.en)] (fun r M => r = .ro 5 (l.map TFeature.en) ∧ M = []) := by
  refine VCalls.bodyE Try.func7 rfl 22 rfl (fun E hE => ?_)
  simp only [List.reduceReplicate, List.cons_append, List.nil_append]
  repeat' ((first
    | ((with_reducible show AL _ _ _ _ _ _ _); first | refine AL.any ?_ | refine AL.any (h := POp.k Try.func22 (hc := toFeature x (by assumption))) ?_ | refine AL.nil ?_)
    | ((with_reducible show AW _ _ _ _ _ _); first | refine AW.seq ?_ | refine AW.region ?_ | refine AW.skip ?_ | (refine AW.loopD hE (fun i : Nat => [.ro 5 (l.map TFeature.en), .any, .any, .own 0 0, I i, .any, .any, .any, .any, .any, .any, .any, .any, .any, .any, .any, .any, .any, .any, .any, .any, .any, .any]) (fun i => [some ⟨52, 5, 0, false, fil TFeature.en [I 0, I 0, I 0, S ⟨#[]⟩, .c (.slice none 0 0)] l i⟩]) (fun i => l.length - i) (fun i => i ≤ l.length) 0 (by simp) ?_ (by first | rfl | (simp [fil_zero]; done)) ?_) | refine AW.cT ?_ | refine AW.cF ?_ | (refine AW.c2 ?_ ?_ <;> (intro h; try simp only [Bool.not_eq_true', Bool.not_eq_false'] at h)) | refine AW.block ?_ | refine AW.exit ?_ | refine AW.ret ?_)
    | with_reducible refine (if_pos rfl).mpr ?_
    | with_reducible refine (if_neg (by decide)).mpr ?_) <;> (try dsimp only))
  · (repeat' (first | exact Wk.nil | refine Wk.any ?_ | (with_reducible refine Wk.same ?_) | refine Wk.of ?_ ?_)) <;> first | rfl | (simp)
  · intro i hi
    have hclo : Clo (.ro 5 (l.map TFeature.en)) := clo_list TFeature.clo_en
    by_cases hlt : i < l.length
    · obtain ⟨x, hx⟩ : ∃ x, l[i]? = some x := ⟨_, List.getElem?_eq_getElem hlt⟩
      have hg := map_get (f := TFeature.en) hx
      have ht := lt_true (f := TFeature.en) hlt
      have hn := next_ix hlt (by omega)
      have hz := fil_get (en := TFeature.en) (z := [I 0, I 0, I 0, S ⟨#[]⟩, .c (.slice none 0 0)]) hlt
      have ha := fil_at (en := TFeature.en) (z := [I 0, I 0, I 0, S ⟨#[]⟩, .c (.slice none 0 0)]) hlt
      have hs := fil_set (en := TFeature.en) (z := [I 0, I 0, I 0, S ⟨#[]⟩, .c (.slice none 0 0)]) hx
      have hpx := hp x (List.mem_of_getElem? hx)
      have hclo0 : Clo (.ro 2 (x.points.map TPoint.en)) := clo_list TPoint.clo_en
      have hcle : Clo (.agg x.en) := Clo.agg x.clo_en
      repeat' ((first
        | ((with_reducible show AL _ _ _ _ _ _ _); first | refine AL.any ?_ | refine AL.any (h := POp.k Try.func22 (hc := toFeature x (by assumption))) ?_ | refine AL.nil ?_)
        | ((with_reducible show AW _ _ _ _ _ _); first | refine AW.seq ?_ | refine AW.region ?_ | refine AW.skip ?_ | refine AW.cT ?_ | refine AW.cF ?_ | (refine AW.c2 ?_ ?_ <;> (intro h; try simp only [Bool.not_eq_true', Bool.not_eq_false'] at h)) | refine AW.block ?_ | refine AW.exit ?_ | refine AW.ret ?_)
        | with_reducible refine (if_pos rfl).mpr ?_
        | with_reducible refine (if_neg (by decide)).mpr ?_) <;> (try dsimp only))
      all_goals first
        | (refine ⟨i + 1, [], hlt, by omega, ?_, by rw [← hs] <;> rfl, ?_, ?_⟩; (focus ((repeat' (first | exact Wk.nil | refine Wk.any ?_ | (with_reducible refine Wk.same ?_) | refine Wk.of ?_ ?_)) <;> (simp_all))); (focus ((repeat' (first | exact Fits.nil _ | refine Fits.cons ?_ ?_ | exact Fits.any _ | exact Fits.c _ _ | exact Fits.own (by rfl) | exact Fits.ref (by rfl) | exact Fits.clo (by assumption) | exact Fits.clo (clo_of (by rfl)) | exact Fits.clo (clo_fn _))))); (focus (exact fits_row (fil_clo (clo_all (by rfl)) TFeature.clo_en))))
    · have ht := lt_false (f := TFeature.en) hlt
      have e : i = l.length := by omega
      subst e
      try rw [List.take_length]
      repeat' ((first
        | ((with_reducible show AL _ _ _ _ _ _ _); first | refine AL.any ?_ | refine AL.any (h := POp.k Try.func22 (hc := toFeature x (by assumption))) ?_ | refine AL.nil ?_)
        | ((with_reducible show AW _ _ _ _ _ _); first | refine AW.seq ?_ | refine AW.region ?_ | refine AW.skip ?_ | (refine AW.freezeRet (t := 2) (id := 0) rfl rfl rfl rfl (fil_clo (clo_all (by rfl)) TFeature.clo_en) ?_; simp only [fil_all]; try dsimp only [dput, List.set, cond_true, cond_false, Nat.zero_add, Nat.add_zero, Nat.reduceAdd, splice, List.take, List.drop, List.length, List.nil_append, List.cons_append, List.append, TPoint.en, TSegment.en, TBox.en, TFeature.en, TMeet.en, TPlace.en, TCover.en, TLabel.en, TPiece.en, TLevel.en, TChart.en, TReason.en, TEdit.en, TEntry.en, TEdition.en, TListing.en, TAtlas.en, TEvent.en, TWindow.en]) | refine AW.cT ?_ | refine AW.cF ?_ | (refine AW.c2 ?_ ?_ <;> (intro h; try simp only [Bool.not_eq_true', Bool.not_eq_false'] at h)) | refine AW.block ?_ | refine AW.exit ?_ | refine AW.ret ?_)
        | with_reducible refine (if_pos rfl).mpr ?_
        | with_reducible refine (if_neg (by decide)).mpr ?_) <;> (try dsimp only))
      all_goals exact Fin.one rfl (RV.tmp (by rfl)) hclo ⟨rfl, rfl⟩

set_option maxRecDepth 100000 in
set_option maxHeartbeats 2000000 in
theorem toWindow (x : TWindow) : VCalls Try.prog 11 [.agg x.en] (fun r M => r = .agg x.en ∧ M = []) := by
  refine VCalls.body Try.func11 rfl 14 rfl (fun E => ?_)
  simp only [List.reduceReplicate, List.cons_append, List.nil_append]
  dsimp only [TWindow.en]
  repeat' ((first
    | ((with_reducible show AL _ _ _ _ _ _ _); first | refine AL.any ?_ | refine AL.any (h := POp.k Try.func28 (hc := toPoint x.low)) ?_ | refine AL.nil ?_)
    | ((with_reducible show AW _ _ _ _ _ _); first | refine AW.seq ?_ | refine AW.region ?_ | refine AW.skip ?_ | refine AW.block ?_ | refine AW.exit ?_ | refine AW.ret ?_)
    | with_reducible refine (if_pos rfl).mpr ?_
    | with_reducible refine (if_neg (by decide)).mpr ?_) <;> (try dsimp only))
  all_goals exact Fin.one rfl (RV.cell (QOp.quietA TT_ok (by rfl))) (Clo.agg x.clo_en) ⟨by rfl, rfl⟩

end Go.Proofs.Ytniabadeddgmbaa.Abs

/- The walks of the laws' equality tests, on equal arguments. -/
namespace Go.Proofs.Ytniabadeddgmbaa.Abs
open Go.Proofs Go.RowKit
set_option linter.unusedVariables false
set_option linter.unusedSimpArgs false
attribute [local irreducible] OpA AL AW DL DLM DLR DLS QOp POp VCalls VCallsI
set_option maxRecDepth 100000 in
set_option maxHeartbeats 2000000 in
theorem eqPoint_self (x : TPoint) : VCalls Try.prog 65 [.agg x.en, .agg x.en] (fun r M => r = B true ∧ M = []) := by
  refine VCalls.body Try.func65 rfl 13 rfl (fun E => ?_)
  simp only [List.reduceReplicate, List.cons_append, List.nil_append]
  dsimp only [TPoint.en]
  repeat' ((first
    | ((with_reducible show AL _ _ _ _ _ _ _); first | refine AL.any ?_ | refine AL.nil ?_)
    | ((with_reducible show AW _ _ _ _ _ _); first | refine AW.seq ?_ | refine AW.region ?_ | refine AW.skip ?_ | refine AW.cT ?_ | refine AW.cF ?_ | (refine AW.c2 ?_ ?_ <;> (intro h; try simp only [Bool.not_eq_true', Bool.not_eq_false'] at h)) | refine AW.block ?_ | refine AW.exit ?_ | refine AW.ret ?_)
    | with_reducible refine (if_pos rfl).mpr ?_
    | with_reducible refine (if_neg (by decide)).mpr ?_) <;> (try dsimp only))
  all_goals exact Fin.one rfl (RV.tmp (by rfl)) (clo_c _) ⟨by simp_all, rfl⟩

set_option maxRecDepth 100000 in
set_option maxHeartbeats 2000000 in
theorem eqPointS_self (l : List TPoint) (hl : l.length ≤ 1048576) : VCalls Try.prog 45 [.ro 2 (l.map TPoint.en), .ro 2 (l.map TPoint.en)] (fun r M => r = B true ∧ M = []) := by
  refine VCalls.bodyE Try.func45 rfl 25 rfl (fun E hE => ?_)
  simp only [List.reduceReplicate, List.cons_append, List.nil_append]
  repeat' ((first
    | ((with_reducible show AL _ _ _ _ _ _ _); first | refine AL.any ?_ | refine AL.any (h := POp.k Try.func65 (hc := eqPoint_self x)) ?_ | refine AL.nil ?_)
    | ((with_reducible show DL _ _ _ _ _ _ _); first | refine DL.any ?_ | refine DL.any (h := POp.k Try.func65 (hc := eqPoint_self x)) ?_ | refine DL.nil ?_)
    | ((with_reducible show AW _ _ _ _ _ _); first | refine AW.seq ?_ | refine AW.region ?_ | refine AW.skip ?_ | (refine AW.loopD hE (fun i : Nat => [.ro 2 (l.map TPoint.en), .ro 2 (l.map TPoint.en), .any, .any, .any, I i, .any, .any, .any, .any, .any, .any, .any, .any, .any, .any, .any, .any, .any, .any, .any, .any, .any, .any, .any, .any, .any]) (fun i => []) (fun i => l.length - i) (fun i => i ≤ l.length) 0 (by simp) ?_ (by first | rfl | (simp [fil_zero]; done)) ?_) | refine AW.dr (id := 6) 8 ?_ | refine AW.cT ?_ | refine AW.cF ?_ | (refine AW.c2 ?_ ?_ <;> (intro h; try simp only [Bool.not_eq_true', Bool.not_eq_false'] at h)) | refine AW.block ?_ | refine AW.exit ?_ | refine AW.ret ?_)
    | with_reducible refine (if_pos rfl).mpr ?_
    | with_reducible refine (if_neg (by decide)).mpr ?_) <;> (try dsimp only))
  · (repeat' (first | exact Wk.nil | refine Wk.any ?_ | (with_reducible refine Wk.same ?_) | refine Wk.of ?_ ?_)) <;> first | rfl | (simp)
  · intro i hi
    have hclo : Clo (.ro 2 (l.map TPoint.en)) := clo_list TPoint.clo_en
    by_cases hlt : i < l.length
    · obtain ⟨x, hx⟩ : ∃ x, l[i]? = some x := ⟨_, List.getElem?_eq_getElem hlt⟩
      have hg := map_get (f := TPoint.en) hx
      have ht := lt_true (f := TPoint.en) hlt
      have hn := next_ix hlt (by omega)
      repeat' ((first
        | ((with_reducible show AL _ _ _ _ _ _ _); first | refine AL.any ?_ | refine AL.any (h := POp.k Try.func65 (hc := eqPoint_self x)) ?_ | refine AL.nil ?_)
        | ((with_reducible show DL _ _ _ _ _ _ _); first | refine DL.any ?_ | refine DL.any (h := POp.k Try.func65 (hc := eqPoint_self x)) ?_ | refine DL.nil ?_)
        | ((with_reducible show AW _ _ _ _ _ _); first | refine AW.seq ?_ | refine AW.region ?_ | refine AW.skip ?_ | refine AW.dr (id := 6) 8 ?_ | refine AW.cT ?_ | refine AW.cF ?_ | (refine AW.c2 ?_ ?_ <;> (intro h; try simp only [Bool.not_eq_true', Bool.not_eq_false'] at h)) | refine AW.block ?_ | refine AW.exit ?_ | refine AW.ret ?_)
        | with_reducible refine (if_pos rfl).mpr ?_
        | with_reducible refine (if_neg (by decide)).mpr ?_) <;> (try dsimp only))
      all_goals first
        | (refine ⟨i + 1, _, hlt, by omega, ?_, rfl, ?_, ?_⟩; (focus ((repeat' (first | exact Wk.nil | refine Wk.any ?_ | (with_reducible refine Wk.same ?_) | refine Wk.of ?_ ?_)) <;> (simp_all))); (focus ((repeat' (first | exact Fits.nil _ | refine Fits.cons ?_ ?_ | exact Fits.any _ | exact Fits.c _ _ | exact Fits.own (by rfl) | exact Fits.ref (by rfl) | exact Fits.clo (by assumption) | exact Fits.clo (clo_of (by rfl)) | exact Fits.clo (clo_fn _))))); (focus (exact FitsM.nil _)))
    · have ht := lt_false (f := TPoint.en) hlt
      have e : i = l.length := by omega
      subst e
      try rw [List.take_length]
      repeat' ((first
        | ((with_reducible show AL _ _ _ _ _ _ _); first | refine AL.any ?_ | refine AL.any (h := POp.k Try.func65 (hc := eqPoint_self x)) ?_ | refine AL.nil ?_)
        | ((with_reducible show DL _ _ _ _ _ _ _); first | refine DL.any ?_ | refine DL.any (h := POp.k Try.func65 (hc := eqPoint_self x)) ?_ | refine DL.nil ?_)
        | ((with_reducible show AW _ _ _ _ _ _); first | refine AW.seq ?_ | refine AW.region ?_ | refine AW.skip ?_ | refine AW.dr (id := 6) 8 ?_ | refine AW.cT ?_ | refine AW.cF ?_ | (refine AW.c2 ?_ ?_ <;> (intro h; try simp only [Bool.not_eq_true', Bool.not_eq_false'] at h)) | refine AW.block ?_ | refine AW.exit ?_ | refine AW.ret ?_)
        | with_reducible refine (if_pos rfl).mpr ?_
        | with_reducible refine (if_neg (by decide)).mpr ?_) <;> (try dsimp only))
      all_goals exact Fin.one rfl (RV.tmp (by rfl)) (clo_c _) ⟨by rfl, rfl⟩

set_option maxRecDepth 100000 in
set_option maxHeartbeats 2000000 in
theorem eqFeature_self (x : TFeature) (hs : x.sm) : VCalls Try.prog 25 [.agg x.en, .agg x.en] (fun r M => r = B true ∧ M = []) := by
  refine VCalls.body Try.func25 rfl 29 rfl (fun E => ?_)
  simp only [List.reduceReplicate, List.cons_append, List.nil_append]
  have hclo0 : Clo (.ro 2 (x.points.map TPoint.en)) := clo_list TPoint.clo_en
  have hcle : Clo (.agg x.en) := Clo.agg x.clo_en
  have hs' := hs
  obtain hs4 := hs
  dsimp only [TFeature.en]
  repeat' ((first
    | ((with_reducible show AL _ _ _ _ _ _ _); first | refine AL.any ?_ | refine AL.any (h := POp.k Try.func45 (hc := eqPointS_self _ (by assumption))) ?_ | refine AL.nil ?_)
    | ((with_reducible show AW _ _ _ _ _ _); first | refine AW.seq ?_ | refine AW.region ?_ | refine AW.skip ?_ | refine AW.cT ?_ | refine AW.cF ?_ | (refine AW.c2 ?_ ?_ <;> (intro h; try simp only [Bool.not_eq_true', Bool.not_eq_false'] at h)) | refine AW.block ?_ | refine AW.exit ?_ | refine AW.ret ?_)
    | with_reducible refine (if_pos rfl).mpr ?_
    | with_reducible refine (if_neg (by decide)).mpr ?_) <;> (try dsimp only))
  all_goals exact Fin.one rfl (RV.tmp (by rfl)) (clo_c _) ⟨by simp_all, rfl⟩

set_option maxRecDepth 100000 in
set_option maxHeartbeats 2000000 in
theorem eqFeatureS_self (l : List TFeature) (hl : l.length ≤ 1048576) (hp : ∀ x ∈ l, x.sm) : VCalls Try.prog 9 [.ro 5 (l.map TFeature.en), .ro 5 (l.map TFeature.en)] (fun r M => r = B true ∧ M = []) := by
  refine VCalls.bodyE Try.func9 rfl 25 rfl (fun E hE => ?_)
  simp only [List.reduceReplicate, List.cons_append, List.nil_append]
  repeat' ((first
    | ((with_reducible show AL _ _ _ _ _ _ _); first | refine AL.any ?_ | refine AL.any (h := POp.k Try.func25 (hc := eqFeature_self x (by assumption))) ?_ | refine AL.nil ?_)
    | ((with_reducible show DL _ _ _ _ _ _ _); first | refine DL.any ?_ | refine DL.any (h := POp.k Try.func25 (hc := eqFeature_self x (by assumption))) ?_ | refine DL.nil ?_)
    | ((with_reducible show AW _ _ _ _ _ _); first | refine AW.seq ?_ | refine AW.region ?_ | refine AW.skip ?_ | (refine AW.loopD hE (fun i : Nat => [.ro 5 (l.map TFeature.en), .ro 5 (l.map TFeature.en), .any, .any, .any, I i, .any, .any, .any, .any, .any, .any, .any, .any, .any, .any, .any, .any, .any, .any, .any, .any, .any, .any, .any, .any, .any]) (fun i => []) (fun i => l.length - i) (fun i => i ≤ l.length) 0 (by simp) ?_ (by first | rfl | (simp [fil_zero]; done)) ?_) | refine AW.dr (id := 6) 8 ?_ | refine AW.cT ?_ | refine AW.cF ?_ | (refine AW.c2 ?_ ?_ <;> (intro h; try simp only [Bool.not_eq_true', Bool.not_eq_false'] at h)) | refine AW.block ?_ | refine AW.exit ?_ | refine AW.ret ?_)
    | with_reducible refine (if_pos rfl).mpr ?_
    | with_reducible refine (if_neg (by decide)).mpr ?_) <;> (try dsimp only))
  · (repeat' (first | exact Wk.nil | refine Wk.any ?_ | (with_reducible refine Wk.same ?_) | refine Wk.of ?_ ?_)) <;> first | rfl | (simp)
  · intro i hi
    have hclo : Clo (.ro 5 (l.map TFeature.en)) := clo_list TFeature.clo_en
    by_cases hlt : i < l.length
    · obtain ⟨x, hx⟩ : ∃ x, l[i]? = some x := ⟨_, List.getElem?_eq_getElem hlt⟩
      have hg := map_get (f := TFeature.en) hx
      have ht := lt_true (f := TFeature.en) hlt
      have hn := next_ix hlt (by omega)
      have hpx := hp x (List.mem_of_getElem? hx)
      have hclo0 : Clo (.ro 2 (x.points.map TPoint.en)) := clo_list TPoint.clo_en
      have hcle : Clo (.agg x.en) := Clo.agg x.clo_en
      repeat' ((first
        | ((with_reducible show AL _ _ _ _ _ _ _); first | refine AL.any ?_ | refine AL.any (h := POp.k Try.func25 (hc := eqFeature_self x (by assumption))) ?_ | refine AL.nil ?_)
        | ((with_reducible show DL _ _ _ _ _ _ _); first | refine DL.any ?_ | refine DL.any (h := POp.k Try.func25 (hc := eqFeature_self x (by assumption))) ?_ | refine DL.nil ?_)
        | ((with_reducible show AW _ _ _ _ _ _); first | refine AW.seq ?_ | refine AW.region ?_ | refine AW.skip ?_ | refine AW.dr (id := 6) 8 ?_ | refine AW.cT ?_ | refine AW.cF ?_ | (refine AW.c2 ?_ ?_ <;> (intro h; try simp only [Bool.not_eq_true', Bool.not_eq_false'] at h)) | refine AW.block ?_ | refine AW.exit ?_ | refine AW.ret ?_)
        | with_reducible refine (if_pos rfl).mpr ?_
        | with_reducible refine (if_neg (by decide)).mpr ?_) <;> (try dsimp only))
      all_goals first
        | (refine ⟨i + 1, _, hlt, by omega, ?_, rfl, ?_, ?_⟩; (focus ((repeat' (first | exact Wk.nil | refine Wk.any ?_ | (with_reducible refine Wk.same ?_) | refine Wk.of ?_ ?_)) <;> (simp_all))); (focus ((repeat' (first | exact Fits.nil _ | refine Fits.cons ?_ ?_ | exact Fits.any _ | exact Fits.c _ _ | exact Fits.own (by rfl) | exact Fits.ref (by rfl) | exact Fits.clo (by assumption) | exact Fits.clo (clo_of (by rfl)) | exact Fits.clo (clo_fn _))))); (focus (exact FitsM.nil _)))
    · have ht := lt_false (f := TFeature.en) hlt
      have e : i = l.length := by omega
      subst e
      try rw [List.take_length]
      repeat' ((first
        | ((with_reducible show AL _ _ _ _ _ _ _); first | refine AL.any ?_ | refine AL.any (h := POp.k Try.func25 (hc := eqFeature_self x (by assumption))) ?_ | refine AL.nil ?_)
        | ((with_reducible show DL _ _ _ _ _ _ _); first | refine DL.any ?_ | refine DL.any (h := POp.k Try.func25 (hc := eqFeature_self x (by assumption))) ?_ | refine DL.nil ?_)
        | ((with_reducible show AW _ _ _ _ _ _); first | refine AW.seq ?_ | refine AW.region ?_ | refine AW.skip ?_ | refine AW.dr (id := 6) 8 ?_ | refine AW.cT ?_ | refine AW.cF ?_ | (refine AW.c2 ?_ ?_ <;> (intro h; try simp only [Bool.not_eq_true', Bool.not_eq_false'] at h)) | refine AW.block ?_ | refine AW.exit ?_ | refine AW.ret ?_)
        | with_reducible refine (if_pos rfl).mpr ?_
        | with_reducible refine (if_neg (by decide)).mpr ?_) <;> (try dsimp only))
      all_goals exact Fin.one rfl (RV.tmp (by rfl)) (clo_c _) ⟨by rfl, rfl⟩

set_option maxRecDepth 100000 in
set_option maxHeartbeats 2000000 in
theorem eqIntS_self (l : List Int) (hl : l.length ≤ 1048576) : VCalls Try.prog 13 [.ro 1 (l.map (fun n => [I n])), .ro 1 (l.map (fun n => [I n]))] (fun r M => r = B true ∧ M = []) := by
  refine VCalls.bodyE Try.func13 rfl 24 rfl (fun E hE => ?_)
  simp only [List.reduceReplicate, List.cons_append, List.nil_append]
  repeat' ((first
    | ((with_reducible show AL _ _ _ _ _ _ _); first | refine AL.any ?_ | refine AL.nil ?_)
    | ((with_reducible show DL _ _ _ _ _ _ _); first | refine DL.any ?_ | refine DL.nil ?_)
    | ((with_reducible show AW _ _ _ _ _ _); first | refine AW.seq ?_ | refine AW.region ?_ | refine AW.skip ?_ | (refine AW.loopD hE (fun i : Nat => [.ro 1 (l.map (fun n => [I n])), .ro 1 (l.map (fun n => [I n])), .any, .any, .any, I i, .any, .any, .any, .any, .any, .any, .any, .any, .any, .any, .any, .any, .any, .any, .any, .any, .any, .any, .any, .any]) (fun i => []) (fun i => l.length - i) (fun i => i ≤ l.length) 0 (by simp) ?_ (by first | rfl | (simp [fil_zero]; done)) ?_) | refine AW.dr (id := 6) 8 ?_ | refine AW.cT ?_ | refine AW.cF ?_ | (refine AW.c2 ?_ ?_ <;> (intro h; try simp only [Bool.not_eq_true', Bool.not_eq_false'] at h)) | refine AW.block ?_ | refine AW.exit ?_ | refine AW.ret ?_)
    | with_reducible refine (if_pos rfl).mpr ?_
    | with_reducible refine (if_neg (by decide)).mpr ?_) <;> (try dsimp only))
  · (repeat' (first | exact Wk.nil | refine Wk.any ?_ | (with_reducible refine Wk.same ?_) | refine Wk.of ?_ ?_)) <;> first | rfl | (simp)
  · intro i hi
    have hclo : Clo (.ro 1 (l.map (fun n => [I n]))) := clo_list (fun _ => clo_cons (clo_c _) clo_nil)
    by_cases hlt : i < l.length
    · obtain ⟨x, hx⟩ : ∃ x, l[i]? = some x := ⟨_, List.getElem?_eq_getElem hlt⟩
      have hg := map_get (f := (fun n => [I n])) hx
      have ht := lt_true (f := (fun n => [I n])) hlt
      have hn := next_ix hlt (by omega)
      repeat' ((first
        | ((with_reducible show AL _ _ _ _ _ _ _); first | refine AL.any ?_ | refine AL.nil ?_)
        | ((with_reducible show DL _ _ _ _ _ _ _); first | refine DL.any ?_ | refine DL.nil ?_)
        | ((with_reducible show AW _ _ _ _ _ _); first | refine AW.seq ?_ | refine AW.region ?_ | refine AW.skip ?_ | refine AW.dr (id := 6) 8 ?_ | refine AW.cT ?_ | refine AW.cF ?_ | (refine AW.c2 ?_ ?_ <;> (intro h; try simp only [Bool.not_eq_true', Bool.not_eq_false'] at h)) | refine AW.block ?_ | refine AW.exit ?_ | refine AW.ret ?_)
        | with_reducible refine (if_pos rfl).mpr ?_
        | with_reducible refine (if_neg (by decide)).mpr ?_) <;> (try dsimp only))
      all_goals first
        | (refine ⟨i + 1, _, hlt, by omega, ?_, rfl, ?_, ?_⟩; (focus ((repeat' (first | exact Wk.nil | refine Wk.any ?_ | (with_reducible refine Wk.same ?_) | refine Wk.of ?_ ?_)) <;> (simp_all))); (focus ((repeat' (first | exact Fits.nil _ | refine Fits.cons ?_ ?_ | exact Fits.any _ | exact Fits.c _ _ | exact Fits.own (by rfl) | exact Fits.ref (by rfl) | exact Fits.clo (by assumption) | exact Fits.clo (clo_of (by rfl)) | exact Fits.clo (clo_fn _))))); (focus (exact FitsM.nil _)))
    · have ht := lt_false (f := (fun n => [I n])) hlt
      have e : i = l.length := by omega
      subst e
      try rw [List.take_length]
      repeat' ((first
        | ((with_reducible show AL _ _ _ _ _ _ _); first | refine AL.any ?_ | refine AL.nil ?_)
        | ((with_reducible show DL _ _ _ _ _ _ _); first | refine DL.any ?_ | refine DL.nil ?_)
        | ((with_reducible show AW _ _ _ _ _ _); first | refine AW.seq ?_ | refine AW.region ?_ | refine AW.skip ?_ | refine AW.dr (id := 6) 8 ?_ | refine AW.cT ?_ | refine AW.cF ?_ | (refine AW.c2 ?_ ?_ <;> (intro h; try simp only [Bool.not_eq_true', Bool.not_eq_false'] at h)) | refine AW.block ?_ | refine AW.exit ?_ | refine AW.ret ?_)
        | with_reducible refine (if_pos rfl).mpr ?_
        | with_reducible refine (if_neg (by decide)).mpr ?_) <;> (try dsimp only))
      all_goals exact Fin.one rfl (RV.tmp (by rfl)) (clo_c _) ⟨by rfl, rfl⟩

end Go.Proofs.Ytniabadeddgmbaa.Abs

/- The walks of points and lines. -/
namespace Go.Proofs.Ytniabadeddgmbaa.Abs
open Go.Proofs Go.RowKit
set_option linter.unusedVariables false
set_option linter.unusedSimpArgs false
attribute [local irreducible] OpA AL AW DL DLM DLR DLS QOp POp VCalls VCallsI
def inr (a b c : Int) : Bool := decide (b ≤ a) && decide (a ≤ c)
def isp (x y : Int) : Bool := inr x 0 200 && inr y 0 200
abbrev wadd (a b : Int) : Int := IntKind.i64.wrap (a + b)
def wmax (a b : Int) : Int := if b > a then b else a
abbrev ptE (a b : TPoint) : Bool := eqVs [.int .i64 a.x, .int .i64 a.y] [.int .i64 b.x, .int .i64 b.y]
theorem ptE_comm (a b : TPoint) : ptE a b = ptE b a := by simp [ptE, eqVs, eqV, Bool.beq_comm, BEq.comm]
def prevP (l : List TPoint) (i : Nat) : TPoint := l.getD (i - 1) ⟨0, 0⟩
def okAt (l : List TPoint) (i : Nat) : Bool := match l[i]? with
  | none => false
  | some x => isp x.x x.y && (i == 0 || !ptE (prevP l i) x)
def ptsOk (l : List TPoint) (n : Nat) : Bool := (List.range n).all (okAt l)
theorem ptsOk_succ (l : List TPoint) (i : Nat) : ptsOk l (i + 1) = (ptsOk l i && okAt l i) := by simp [ptsOk, List.range_succ]
theorem ptsOk_not {l : List TPoint} {i n : Nat} (h : okAt l i = false) (hi : i < n) : ptsOk l n = false := by
  simp only [ptsOk, List.all_eq_false, List.mem_range]
  exact ⟨i, hi, by simp [h]⟩
def isLine (l : List TPoint) : Bool := inr l.length 2 10 && ptsOk l l.length
theorem ln_cases {l : List TPoint} {i : Nat} {x : TPoint} (hx : l[i]? = some x) (hl : l.length ≤ 1048576) :
    (isp x.x x.y = false ∧ okAt l i = false) ∨ (isp x.x x.y = true ∧ decide ((i : Int) > 0) = false ∧ okAt l i = true) ∨
    (isp x.x x.y = true ∧ decide ((i : Int) > 0) = true ∧ 0 ≤ IntKind.i64.wrap ((i : Int) - 1) ∧ (l.map TPoint.en)[(IntKind.i64.wrap ((i : Int) - 1)).toNat]? = some (prevP l i).en ∧ okAt l i = !ptE (prevP l i) x) := by
  have hi := (List.getElem?_eq_some_iff.1 hx).1
  cases hI : isp x.x x.y
  · exact .inl ⟨rfl, by simp [okAt, hx, hI]⟩
  · rcases Nat.eq_zero_or_pos i with h0 | h0
    · subst h0
      exact .inr (.inl ⟨rfl, by simp, by simp [okAt, hx, hI]⟩)
    · have e : IntKind.i64.wrap ((i : Int) - 1) = ((i - 1 : Nat) : Int) := by rw [w64 (by omega) (by omega)]; omega
      refine .inr (.inr ⟨rfl, decide_eq_true (by omega), by omega, ?_, ?_⟩)
      · rw [e, Int.toNat_natCast, List.getElem?_map, List.getElem?_eq_getElem (show i - 1 < l.length by omega)]
        simp [prevP, List.getD_eq_getElem?_getD, List.getElem?_eq_getElem (show i - 1 < l.length by omega)]
      · have : (i == 0) = false := by simp; omega
        simp [okAt, hx, hI, this]
def stepsB (a b c d : Int) : Int := if isp a b && isp c d then wadd (wmax (wsub a c) (wsub c a)) (wmax (wsub b d) (wsub d b)) else -1
def segs (l : List TPoint) : List TSegment := if isLine l then List.zipWith TSegment.mk l l.tail else []
theorem isLine_len {l : List TPoint} (h : isLine l = true) : 2 ≤ l.length ∧ l.length ≤ 10 := by
  simp only [isLine, inr, Bool.and_eq_true, decide_eq_true_eq] at h
  omega
theorem segs_len {l : List TPoint} (h : isLine l = true) : (segs l).length = l.length - 1 := by simp [segs, h]
theorem segs_nil {l : List TPoint} (h : isLine l = false) : segs l = [] := by simp [segs, h]
theorem segs_le (l : List TPoint) : (segs l).length ≤ 9 := by
  cases h : isLine l
  · simp [segs_nil h]
  · have := isLine_len h; rw [segs_len h]; omega
theorem segs_get {l : List TPoint} {i : Nat} (h : i < (segs l).length) : ∃ a b, isLine l = true ∧ i + 1 < l.length ∧ l[i]? = some a ∧ l[i + 1]? = some b ∧ (segs l)[i]? = some ⟨a, b⟩ := by
  cases hL : isLine l
  · simp [segs_nil hL] at h
  · have h1 := h
    rw [segs_len hL] at h1
    refine ⟨l[i], l[i + 1], rfl, by omega, List.getElem?_eq_getElem (by omega), List.getElem?_eq_getElem (by omega), ?_⟩
    simp [segs, hL, List.getElem?_zipWith, List.getElem?_eq_getElem (show i < l.length by omega), List.getElem?_tail, List.getElem?_eq_getElem (show i + 1 < l.length by omega)]
theorem clo_rows {α : Type} {en : α → List AV} (h : ∀ a, ∀ x ∈ en a, Clo x) {l : List α} : ∀ r ∈ l.map en, ∀ x ∈ r, Clo x := fun r hr x hx => by
  obtain ⟨a, _, rfl⟩ := List.mem_map.1 hr
  exact h a x hx
theorem clo_rows_nil : ∀ r ∈ ([] : List (List AV)), ∀ x ∈ r, Clo x := fun r hr => by simp at hr
theorem map_take_succ {α β : Type} {f : α → β} {l : List α} {i : Nat} {x : α} (h : l[i]? = some x) : (l.take (i + 1)).map f = (l.take i).map f ++ [f x] := by rw [take_succ_of h]; simp
/-- What a fold over a list has come to. -/
def accF {α : Type} (f : Int → α → Int) (l : List α) (i : Nat) : Int := (l.take i).foldl f 0
theorem accF_succ {α : Type} {f : Int → α → Int} {l : List α} {i : Nat} {x : α} (h : l[i]? = some x) : accF f l (i + 1) = f (accF f l i) x := by simp [accF, take_succ_of h]
theorem accF_all {α : Type} {f : Int → α → Int} {l : List α} : accF f l l.length = l.foldl f 0 := by simp [accF]
abbrev stepS (n : Int) (s : TSegment) : Int := wadd n (stepsB s.a.x s.a.y s.b.x s.b.y)
def lineSteps (l : List TPoint) : Int := (segs l).foldl stepS 0
abbrev stepT (n : Int) (x : TFeature) : Int := if x.kind == 2 then wadd n (lineSteps x.points) else n
def totSteps (l : List TFeature) : Int := l.foldl stepT 0

set_option maxRecDepth 100000 in
set_option maxHeartbeats 2000000 in
theorem inr_v (a b c : Int) : VCalls Try.prog 48 [I a, I b, I c] (fun r M => r = B (inr a b c) ∧ M = []) := by
  refine VCalls.body Try.func48 rfl 12 rfl (fun E => ?_)
  simp only [List.reduceReplicate, List.cons_append, List.nil_append]
  repeat' ((first
    | ((with_reducible show AL _ _ _ _ _ _ _); first | refine AL.any ?_ | refine AL.U ?_ | refine AL.F ?_ | refine AL.T ?_ | refine AL.W ?_ | refine AL.nil ?_)
    | ((with_reducible show AW _ _ _ _ _ _); first | refine AW.seq ?_ | refine AW.region ?_ | refine AW.skip ?_ | refine AW.block ?_ | refine AW.exit ?_ | refine AW.ret ?_)
    | with_reducible refine (if_pos rfl).mpr ?_
    | with_reducible refine (if_neg (by decide)).mpr ?_) <;> (try dsimp only))
  all_goals exact Fin.one rfl (RV.tmp (by rfl)) (clo_c _) ⟨by first | rfl | (simp_all [inr]; done) | (simp only [inr]; split <;> simp_all <;> omega), rfl⟩

set_option maxRecDepth 100000 in
set_option maxHeartbeats 2000000 in
theorem inr_s (a b c : Int) : VCalls Try.prog 38 [I a, I b, I c] (fun r M => r = B (inr a b c) ∧ M = []) := by
  refine VCalls.body Try.func38 rfl 12 rfl (fun E => ?_)
  simp only [List.reduceReplicate, List.cons_append, List.nil_append]
  repeat' ((first
    | ((with_reducible show AL _ _ _ _ _ _ _); first | refine AL.any ?_ | refine AL.U ?_ | refine AL.F ?_ | refine AL.T ?_ | refine AL.W ?_ | refine AL.nil ?_)
    | ((with_reducible show AW _ _ _ _ _ _); first | refine AW.seq ?_ | refine AW.region ?_ | refine AW.skip ?_ | refine AW.block ?_ | refine AW.exit ?_ | refine AW.ret ?_)
    | with_reducible refine (if_pos rfl).mpr ?_
    | with_reducible refine (if_neg (by decide)).mpr ?_) <;> (try dsimp only))
  all_goals exact Fin.one rfl (RV.tmp (by rfl)) (clo_c _) ⟨by first | rfl | (simp_all [inr]; done) | (simp only [inr]; split <;> simp_all <;> omega), rfl⟩

set_option maxRecDepth 100000 in
set_option maxHeartbeats 2000000 in
theorem isp_v (x y : Int) : VCalls Try.prog 47 [.agg [I x, I y]] (fun r M => r = B (isp x y) ∧ M = []) := by
  refine VCalls.body Try.func47 rfl 10 rfl (fun E => ?_)
  simp only [List.reduceReplicate, List.cons_append, List.nil_append]
  repeat' ((first
    | ((with_reducible show AL _ _ _ _ _ _ _); first | refine AL.any ?_ | refine AL.any (h := POp.k Try.func48 (hc := inr_v _ _ _)) ?_ | refine AL.U ?_ | refine AL.F ?_ | refine AL.T ?_ | refine AL.T (h := POp.k Try.func48 (hc := inr_v _ _ _)) ?_ | refine AL.W ?_ | refine AL.W (h := fun h => by (try rw [h]); exact POp.k Try.func48 (hc := inr_v _ _ _)) ?_ | refine AL.nil ?_)
    | ((with_reducible show AW _ _ _ _ _ _); first | refine AW.seq ?_ | refine AW.region ?_ | refine AW.skip ?_ | refine AW.block ?_ | refine AW.exit ?_ | refine AW.ret ?_)
    | with_reducible refine (if_pos rfl).mpr ?_
    | with_reducible refine (if_neg (by decide)).mpr ?_) <;> (try dsimp only))
  all_goals exact Fin.one rfl (RV.tmp (by rfl)) (clo_c _) ⟨by first | rfl | (simp_all [isp]; done) | (simp only [isp]; split <;> simp_all <;> omega), rfl⟩

theorem isp_v_t (x y : Int) (h : isp x y = true) : VCalls Try.prog 47 [.agg [I x, I y]] (fun r M => r = B true ∧ M = []) := h ▸ isp_v x y
theorem isp_v_f (x y : Int) (h : isp x y = false) : VCalls Try.prog 47 [.agg [I x, I y]] (fun r M => r = B false ∧ M = []) := h ▸ isp_v x y
set_option maxRecDepth 100000 in
set_option maxHeartbeats 2000000 in
theorem isp_s (x y : Int) : VCalls Try.prog 46 [.agg [I x, I y]] (fun r M => r = B (isp x y) ∧ M = []) := by
  refine VCalls.body Try.func46 rfl 10 rfl (fun E => ?_)
  simp only [List.reduceReplicate, List.cons_append, List.nil_append]
  repeat' ((first
    | ((with_reducible show AL _ _ _ _ _ _ _); first | refine AL.any ?_ | refine AL.any (h := POp.k Try.func38 (hc := inr_s _ _ _)) ?_ | refine AL.U ?_ | refine AL.F ?_ | refine AL.T ?_ | refine AL.T (h := POp.k Try.func38 (hc := inr_s _ _ _)) ?_ | refine AL.W ?_ | refine AL.W (h := fun h => by (try rw [h]); exact POp.k Try.func38 (hc := inr_s _ _ _)) ?_ | refine AL.nil ?_)
    | ((with_reducible show AW _ _ _ _ _ _); first | refine AW.seq ?_ | refine AW.region ?_ | refine AW.skip ?_ | refine AW.block ?_ | refine AW.exit ?_ | refine AW.ret ?_)
    | with_reducible refine (if_pos rfl).mpr ?_
    | with_reducible refine (if_neg (by decide)).mpr ?_) <;> (try dsimp only))
  all_goals exact Fin.one rfl (RV.tmp (by rfl)) (clo_c _) ⟨by first | rfl | (simp_all [isp]; done) | (simp only [isp]; split <;> simp_all <;> omega), rfl⟩

theorem isp_s_t (x y : Int) (h : isp x y = true) : VCalls Try.prog 46 [.agg [I x, I y]] (fun r M => r = B true ∧ M = []) := h ▸ isp_s x y
theorem isp_s_f (x y : Int) (h : isp x y = false) : VCalls Try.prog 46 [.agg [I x, I y]] (fun r M => r = B false ∧ M = []) := h ▸ isp_s x y
set_option maxRecDepth 100000 in
set_option maxHeartbeats 2000000 in
theorem isLine_s (l : List TPoint) (hl : l.length ≤ 1048576) : VCalls Try.prog 55 [.ro 2 (l.map TPoint.en)] (fun r M => r = B (isLine l) ∧ M = []) := by
  refine VCalls.bodyE Try.func55 rfl 34 rfl (fun E hE => ?_)
  simp only [List.reduceReplicate, List.cons_append, List.nil_append]
  repeat' ((first
    | ((with_reducible show AL _ _ _ _ _ _ _); first | refine AL.any ?_ | refine AL.any (h := POp.k Try.func38 (hc := inr_s _ _ _)) ?_ | refine AL.any (h := POp.k Try.func46 (hc := by first | exact isp_s_t _ _ (by assumption) | exact isp_s_f _ _ (by assumption) | exact isp_s _ _)) ?_ | refine AL.U ?_ | refine AL.F ?_ | refine AL.T ?_ | refine AL.T (h := POp.k Try.func38 (hc := inr_s _ _ _)) ?_ | refine AL.T (h := POp.k Try.func46 (hc := by first | exact isp_s_t _ _ (by assumption) | exact isp_s_f _ _ (by assumption) | exact isp_s _ _)) ?_ | refine AL.W ?_ | refine AL.W (h := fun h => by (try rw [h]); exact POp.k Try.func38 (hc := inr_s _ _ _)) ?_ | refine AL.W (h := fun h => by (try rw [h]); exact POp.k Try.func46 (hc := by first | exact isp_s_t _ _ (by assumption) | exact isp_s_f _ _ (by assumption) | exact isp_s _ _)) ?_ | refine AL.nil ?_)
    | ((with_reducible show DL _ _ _ _ _ _ _); first | refine DL.any ?_ | refine DL.any (h := POp.k Try.func38 (hc := inr_s _ _ _)) ?_ | refine DL.any (h := POp.k Try.func46 (hc := by first | exact isp_s_t _ _ (by assumption) | exact isp_s_f _ _ (by assumption) | exact isp_s _ _)) ?_ | refine DL.U ?_ | refine DL.F ?_ | refine DL.T ?_ | refine DL.T (h := POp.k Try.func38 (hc := inr_s _ _ _)) ?_ | refine DL.T (h := POp.k Try.func46 (hc := by first | exact isp_s_t _ _ (by assumption) | exact isp_s_f _ _ (by assumption) | exact isp_s _ _)) ?_ | refine DL.W ?_ | refine DL.W (h := fun h => by (try rw [h]); exact POp.k Try.func38 (hc := inr_s _ _ _)) ?_ | refine DL.W (h := fun h => by (try rw [h]); exact POp.k Try.func46 (hc := by first | exact isp_s_t _ _ (by assumption) | exact isp_s_f _ _ (by assumption) | exact isp_s _ _)) ?_ | refine DL.nil ?_)
    | ((with_reducible show AW _ _ _ _ _ _); first | refine AW.seq ?_ | refine AW.region ?_ | refine AW.skip ?_ | (refine AW.loopD hE (fun i : Nat => [.ro 2 (l.map TPoint.en), .any, .any, I i, .any, .any, .any, .any, .any, .any, .any, .any, .any, .any, .any, .any, .any, .any, .any, .any, .any, .any, .any, .any, .any, .any, .any, .any, .any, .any, .any, .any, .any, .any, .any]) (fun i => []) (fun i => l.length - i) (fun i => i ≤ l.length ∧ ptsOk l i = true) 0 (by simp [ptsOk]) ?_ (by first | rfl | (simp [fil_zero]; done)) ?_) | refine AW.dr (id := 4) 19 ?_ | refine AW.cT ?_ | refine AW.cF ?_ | (refine AW.c2 ?_ ?_ <;> (intro h; try simp only [Bool.not_eq_true', Bool.not_eq_false'] at h)) | refine AW.block ?_ | refine AW.exit ?_ | refine AW.ret ?_)
    | with_reducible refine (if_pos rfl).mpr ?_
    | with_reducible refine (if_neg (by decide)).mpr ?_) <;> (try dsimp only))
  · (repeat' (first | exact Wk.nil | refine Wk.any ?_ | (with_reducible refine Wk.same ?_) | refine Wk.of ?_ ?_)) <;> first | rfl | (simp)
  · intro i hi
    have hclo : Clo (.ro 2 (l.map TPoint.en)) := clo_list TPoint.clo_en
    by_cases hlt : i < l.length
    · obtain ⟨x, hx⟩ : ∃ x, l[i]? = some x := ⟨_, List.getElem?_eq_getElem hlt⟩
      have hg := map_get (f := TPoint.en) hx
      have ht := lt_true (f := TPoint.en) hlt
      have hn := next_ix hlt (by omega)
      have hsu := ptsOk_succ l i
      have hpc := ptE_comm x (prevP l i)
      rcases ln_cases hx hl with ⟨hI, hk⟩ | ⟨hI, hz, hk⟩ | ⟨hI, hz, h0, hp, hk⟩
      repeat' ((first
        | ((with_reducible show AL _ _ _ _ _ _ _); first | refine AL.any ?_ | refine AL.any (h := POp.k Try.func38 (hc := inr_s _ _ _)) ?_ | refine AL.any (h := POp.k Try.func46 (hc := by first | exact isp_s_t _ _ (by assumption) | exact isp_s_f _ _ (by assumption) | exact isp_s _ _)) ?_ | refine AL.U ?_ | refine AL.F ?_ | refine AL.T ?_ | refine AL.T (h := POp.k Try.func38 (hc := inr_s _ _ _)) ?_ | refine AL.T (h := POp.k Try.func46 (hc := by first | exact isp_s_t _ _ (by assumption) | exact isp_s_f _ _ (by assumption) | exact isp_s _ _)) ?_ | refine AL.W ?_ | refine AL.W (h := fun h => by (try rw [h]); exact POp.k Try.func38 (hc := inr_s _ _ _)) ?_ | refine AL.W (h := fun h => by (try rw [h]); exact POp.k Try.func46 (hc := by first | exact isp_s_t _ _ (by assumption) | exact isp_s_f _ _ (by assumption) | exact isp_s _ _)) ?_ | refine AL.nil ?_)
        | ((with_reducible show DL _ _ _ _ _ _ _); first | refine DL.any ?_ | refine DL.any (h := POp.k Try.func38 (hc := inr_s _ _ _)) ?_ | refine DL.any (h := POp.k Try.func46 (hc := by first | exact isp_s_t _ _ (by assumption) | exact isp_s_f _ _ (by assumption) | exact isp_s _ _)) ?_ | refine DL.U ?_ | refine DL.F ?_ | refine DL.T ?_ | refine DL.T (h := POp.k Try.func38 (hc := inr_s _ _ _)) ?_ | refine DL.T (h := POp.k Try.func46 (hc := by first | exact isp_s_t _ _ (by assumption) | exact isp_s_f _ _ (by assumption) | exact isp_s _ _)) ?_ | refine DL.W ?_ | refine DL.W (h := fun h => by (try rw [h]); exact POp.k Try.func38 (hc := inr_s _ _ _)) ?_ | refine DL.W (h := fun h => by (try rw [h]); exact POp.k Try.func46 (hc := by first | exact isp_s_t _ _ (by assumption) | exact isp_s_f _ _ (by assumption) | exact isp_s _ _)) ?_ | refine DL.nil ?_)
        | ((with_reducible show AW _ _ _ _ _ _); first | refine AW.seq ?_ | refine AW.region ?_ | refine AW.skip ?_ | refine AW.dr (id := 4) 19 ?_ | refine AW.cT ?_ | refine AW.cF ?_ | (refine AW.c2 ?_ ?_ <;> (intro h; try simp only [Bool.not_eq_true', Bool.not_eq_false'] at h)) | refine AW.block ?_ | refine AW.exit ?_ | refine AW.ret ?_)
        | with_reducible refine (if_pos rfl).mpr ?_
        | with_reducible refine (if_neg (by decide)).mpr ?_) <;> (try dsimp only))
      all_goals first
        | (refine ⟨i + 1, _, ⟨hlt, by simp_all⟩, by omega, ?_, rfl, ?_, ?_⟩; (focus ((repeat' (first | exact Wk.nil | refine Wk.any ?_ | (with_reducible refine Wk.same ?_) | refine Wk.of ?_ ?_)) <;> (simp_all))); (focus ((repeat' (first | exact Fits.nil _ | refine Fits.cons ?_ ?_ | exact Fits.any _ | exact Fits.c _ _ | exact Fits.own (by rfl) | exact Fits.ref (by rfl) | exact Fits.clo (by assumption) | exact Fits.clo (clo_of (by rfl)) | exact Fits.clo (clo_fn _))))); (focus (exact FitsM.nil _)))
        | exact Fin.one rfl (RV.tmp (by rfl)) (clo_c _) ⟨by have hn := ptsOk_not (n := l.length) (by simp_all : okAt l i = false) hlt; simp_all [isLine], rfl⟩
    · have ht := lt_false (f := TPoint.en) hlt
      have e : i = l.length := by omega
      subst e
      try rw [List.take_length]
      repeat' ((first
        | ((with_reducible show AL _ _ _ _ _ _ _); first | refine AL.any ?_ | refine AL.any (h := POp.k Try.func38 (hc := inr_s _ _ _)) ?_ | refine AL.any (h := POp.k Try.func46 (hc := by first | exact isp_s_t _ _ (by assumption) | exact isp_s_f _ _ (by assumption) | exact isp_s _ _)) ?_ | refine AL.U ?_ | refine AL.F ?_ | refine AL.T ?_ | refine AL.T (h := POp.k Try.func38 (hc := inr_s _ _ _)) ?_ | refine AL.T (h := POp.k Try.func46 (hc := by first | exact isp_s_t _ _ (by assumption) | exact isp_s_f _ _ (by assumption) | exact isp_s _ _)) ?_ | refine AL.W ?_ | refine AL.W (h := fun h => by (try rw [h]); exact POp.k Try.func38 (hc := inr_s _ _ _)) ?_ | refine AL.W (h := fun h => by (try rw [h]); exact POp.k Try.func46 (hc := by first | exact isp_s_t _ _ (by assumption) | exact isp_s_f _ _ (by assumption) | exact isp_s _ _)) ?_ | refine AL.nil ?_)
        | ((with_reducible show DL _ _ _ _ _ _ _); first | refine DL.any ?_ | refine DL.any (h := POp.k Try.func38 (hc := inr_s _ _ _)) ?_ | refine DL.any (h := POp.k Try.func46 (hc := by first | exact isp_s_t _ _ (by assumption) | exact isp_s_f _ _ (by assumption) | exact isp_s _ _)) ?_ | refine DL.U ?_ | refine DL.F ?_ | refine DL.T ?_ | refine DL.T (h := POp.k Try.func38 (hc := inr_s _ _ _)) ?_ | refine DL.T (h := POp.k Try.func46 (hc := by first | exact isp_s_t _ _ (by assumption) | exact isp_s_f _ _ (by assumption) | exact isp_s _ _)) ?_ | refine DL.W ?_ | refine DL.W (h := fun h => by (try rw [h]); exact POp.k Try.func38 (hc := inr_s _ _ _)) ?_ | refine DL.W (h := fun h => by (try rw [h]); exact POp.k Try.func46 (hc := by first | exact isp_s_t _ _ (by assumption) | exact isp_s_f _ _ (by assumption) | exact isp_s _ _)) ?_ | refine DL.nil ?_)
        | ((with_reducible show AW _ _ _ _ _ _); first | refine AW.seq ?_ | refine AW.region ?_ | refine AW.skip ?_ | refine AW.dr (id := 4) 19 ?_ | refine AW.cT ?_ | refine AW.cF ?_ | (refine AW.c2 ?_ ?_ <;> (intro h; try simp only [Bool.not_eq_true', Bool.not_eq_false'] at h)) | refine AW.block ?_ | refine AW.exit ?_ | refine AW.ret ?_)
        | with_reducible refine (if_pos rfl).mpr ?_
        | with_reducible refine (if_neg (by decide)).mpr ?_) <;> (try dsimp only))
      all_goals exact Fin.one rfl (RV.tmp (by rfl)) (clo_c _) ⟨by simp_all [isLine], rfl⟩

set_option maxRecDepth 100000 in
set_option maxHeartbeats 2000000 in
theorem isLine_i (l : List TPoint) (hl : l.length ≤ 1048576) : VCalls Try.prog 76 [.ro 2 (l.map TPoint.en)] (fun r M => r = B (isLine l) ∧ M = []) := by
  refine VCalls.bodyE Try.func76 rfl 36 rfl (fun E hE => ?_)
  simp only [List.reduceReplicate, List.cons_append, List.nil_append]
  repeat' ((first
    | ((with_reducible show AL _ _ _ _ _ _ _); first | refine AL.any ?_ | refine AL.any (h := POp.k Try.func47 (hc := by first | exact isp_v_t _ _ (by assumption) | exact isp_v_f _ _ (by assumption) | exact isp_v _ _)) ?_ | refine AL.U ?_ | refine AL.F ?_ | refine AL.T ?_ | refine AL.T (h := POp.k Try.func47 (hc := by first | exact isp_v_t _ _ (by assumption) | exact isp_v_f _ _ (by assumption) | exact isp_v _ _)) ?_ | refine AL.W ?_ | refine AL.W (h := fun h => by (try rw [h]); exact POp.k Try.func47 (hc := by first | exact isp_v_t _ _ (by assumption) | exact isp_v_f _ _ (by assumption) | exact isp_v _ _)) ?_ | refine AL.nil ?_)
    | ((with_reducible show DL _ _ _ _ _ _ _); first | refine DL.any ?_ | refine DL.any (h := POp.k Try.func47 (hc := by first | exact isp_v_t _ _ (by assumption) | exact isp_v_f _ _ (by assumption) | exact isp_v _ _)) ?_ | refine DL.U ?_ | refine DL.F ?_ | refine DL.T ?_ | refine DL.T (h := POp.k Try.func47 (hc := by first | exact isp_v_t _ _ (by assumption) | exact isp_v_f _ _ (by assumption) | exact isp_v _ _)) ?_ | refine DL.W ?_ | refine DL.W (h := fun h => by (try rw [h]); exact POp.k Try.func47 (hc := by first | exact isp_v_t _ _ (by assumption) | exact isp_v_f _ _ (by assumption) | exact isp_v _ _)) ?_ | refine DL.nil ?_)
    | ((with_reducible show AW _ _ _ _ _ _); first | refine AW.seq ?_ | refine AW.region ?_ | refine AW.skip ?_ | (refine AW.loopD hE (fun i : Nat => [.ro 2 (l.map TPoint.en), .any, .any, .any, .any, .any, .any, .any, .any, .any, .any, .any, .any, .ro 2 (l.map TPoint.en), I (l.map TPoint.en).length, I i, .any, .any, .any, .any, .any, .any, .any, .any, .any, .any, .any, .any, .any, .any, .any, .any, .any, .any, .any, .any, .any]) (fun i => []) (fun i => l.length - i) (fun i => i ≤ l.length ∧ ptsOk l i = true) 0 (by simp [ptsOk]) ?_ (by first | rfl | (simp [fil_zero]; done)) ?_) | refine AW.dr (id := 6) 13 ?_ | refine AW.cT ?_ | refine AW.cF ?_ | (refine AW.c2 ?_ ?_ <;> (intro h; try simp only [Bool.not_eq_true', Bool.not_eq_false'] at h)) | refine AW.block ?_ | refine AW.exit ?_ | refine AW.ret ?_)
    | with_reducible refine (if_pos rfl).mpr ?_
    | with_reducible refine (if_neg (by decide)).mpr ?_) <;> (try dsimp only))
  · exact Fin.one rfl (RV.tmp (by rfl)) (clo_c _) ⟨by simp_all [isLine, inr] <;> omega, rfl⟩
  · (repeat' (first | exact Wk.nil | refine Wk.any ?_ | (with_reducible refine Wk.same ?_) | refine Wk.of ?_ ?_)) <;> first | rfl | (simp)
  · intro i hi
    have hclo : Clo (.ro 2 (l.map TPoint.en)) := clo_list TPoint.clo_en
    by_cases hlt : i < l.length
    · obtain ⟨x, hx⟩ : ∃ x, l[i]? = some x := ⟨_, List.getElem?_eq_getElem hlt⟩
      have hg := map_get (f := TPoint.en) hx
      have ht := lt_true (f := TPoint.en) hlt
      have hn := next_ix hlt (by omega)
      have hsu := ptsOk_succ l i
      have hpc := ptE_comm x (prevP l i)
      rcases ln_cases hx hl with ⟨hI, hk⟩ | ⟨hI, hz, hk⟩ | ⟨hI, hz, h0, hp, hk⟩
      repeat' ((first
        | ((with_reducible show AL _ _ _ _ _ _ _); first | refine AL.any ?_ | refine AL.any (h := POp.k Try.func47 (hc := by first | exact isp_v_t _ _ (by assumption) | exact isp_v_f _ _ (by assumption) | exact isp_v _ _)) ?_ | refine AL.U ?_ | refine AL.F ?_ | refine AL.T ?_ | refine AL.T (h := POp.k Try.func47 (hc := by first | exact isp_v_t _ _ (by assumption) | exact isp_v_f _ _ (by assumption) | exact isp_v _ _)) ?_ | refine AL.W ?_ | refine AL.W (h := fun h => by (try rw [h]); exact POp.k Try.func47 (hc := by first | exact isp_v_t _ _ (by assumption) | exact isp_v_f _ _ (by assumption) | exact isp_v _ _)) ?_ | refine AL.nil ?_)
        | ((with_reducible show DL _ _ _ _ _ _ _); first | refine DL.any ?_ | refine DL.any (h := POp.k Try.func47 (hc := by first | exact isp_v_t _ _ (by assumption) | exact isp_v_f _ _ (by assumption) | exact isp_v _ _)) ?_ | refine DL.U ?_ | refine DL.F ?_ | refine DL.T ?_ | refine DL.T (h := POp.k Try.func47 (hc := by first | exact isp_v_t _ _ (by assumption) | exact isp_v_f _ _ (by assumption) | exact isp_v _ _)) ?_ | refine DL.W ?_ | refine DL.W (h := fun h => by (try rw [h]); exact POp.k Try.func47 (hc := by first | exact isp_v_t _ _ (by assumption) | exact isp_v_f _ _ (by assumption) | exact isp_v _ _)) ?_ | refine DL.nil ?_)
        | ((with_reducible show AW _ _ _ _ _ _); first | refine AW.seq ?_ | refine AW.region ?_ | refine AW.skip ?_ | refine AW.dr (id := 6) 13 ?_ | refine AW.cT ?_ | refine AW.cF ?_ | (refine AW.c2 ?_ ?_ <;> (intro h; try simp only [Bool.not_eq_true', Bool.not_eq_false'] at h)) | refine AW.block ?_ | refine AW.exit ?_ | refine AW.ret ?_)
        | with_reducible refine (if_pos rfl).mpr ?_
        | with_reducible refine (if_neg (by decide)).mpr ?_) <;> (try dsimp only))
      all_goals first
        | (refine ⟨i + 1, _, ⟨hlt, by simp_all⟩, by omega, ?_, rfl, ?_, ?_⟩; (focus ((repeat' (first | exact Wk.nil | refine Wk.any ?_ | (with_reducible refine Wk.same ?_) | refine Wk.of ?_ ?_)) <;> (simp_all))); (focus ((repeat' (first | exact Fits.nil _ | refine Fits.cons ?_ ?_ | exact Fits.any _ | exact Fits.c _ _ | exact Fits.own (by rfl) | exact Fits.ref (by rfl) | exact Fits.clo (by assumption) | exact Fits.clo (clo_of (by rfl)) | exact Fits.clo (clo_fn _))))); (focus (exact FitsM.nil _)))
        | exact Fin.one rfl (RV.tmp (by rfl)) (clo_c _) ⟨by have hn := ptsOk_not (n := l.length) (by simp_all : okAt l i = false) hlt; simp_all [isLine], rfl⟩
    · have ht := lt_false (f := TPoint.en) hlt
      have e : i = l.length := by omega
      subst e
      try rw [List.take_length]
      repeat' ((first
        | ((with_reducible show AL _ _ _ _ _ _ _); first | refine AL.any ?_ | refine AL.any (h := POp.k Try.func47 (hc := by first | exact isp_v_t _ _ (by assumption) | exact isp_v_f _ _ (by assumption) | exact isp_v _ _)) ?_ | refine AL.U ?_ | refine AL.F ?_ | refine AL.T ?_ | refine AL.T (h := POp.k Try.func47 (hc := by first | exact isp_v_t _ _ (by assumption) | exact isp_v_f _ _ (by assumption) | exact isp_v _ _)) ?_ | refine AL.W ?_ | refine AL.W (h := fun h => by (try rw [h]); exact POp.k Try.func47 (hc := by first | exact isp_v_t _ _ (by assumption) | exact isp_v_f _ _ (by assumption) | exact isp_v _ _)) ?_ | refine AL.nil ?_)
        | ((with_reducible show DL _ _ _ _ _ _ _); first | refine DL.any ?_ | refine DL.any (h := POp.k Try.func47 (hc := by first | exact isp_v_t _ _ (by assumption) | exact isp_v_f _ _ (by assumption) | exact isp_v _ _)) ?_ | refine DL.U ?_ | refine DL.F ?_ | refine DL.T ?_ | refine DL.T (h := POp.k Try.func47 (hc := by first | exact isp_v_t _ _ (by assumption) | exact isp_v_f _ _ (by assumption) | exact isp_v _ _)) ?_ | refine DL.W ?_ | refine DL.W (h := fun h => by (try rw [h]); exact POp.k Try.func47 (hc := by first | exact isp_v_t _ _ (by assumption) | exact isp_v_f _ _ (by assumption) | exact isp_v _ _)) ?_ | refine DL.nil ?_)
        | ((with_reducible show AW _ _ _ _ _ _); first | refine AW.seq ?_ | refine AW.region ?_ | refine AW.skip ?_ | refine AW.dr (id := 6) 13 ?_ | refine AW.cT ?_ | refine AW.cF ?_ | (refine AW.c2 ?_ ?_ <;> (intro h; try simp only [Bool.not_eq_true', Bool.not_eq_false'] at h)) | refine AW.block ?_ | refine AW.exit ?_ | refine AW.ret ?_)
        | with_reducible refine (if_pos rfl).mpr ?_
        | with_reducible refine (if_neg (by decide)).mpr ?_) <;> (try dsimp only))
      all_goals exact Fin.one rfl (RV.tmp (by rfl)) (clo_c _) ⟨by simp_all [isLine, inr] <;> omega, rfl⟩

set_option maxRecDepth 100000 in
set_option maxHeartbeats 2000000 in
theorem max_s (a b : Int) : VCalls Try.prog 74 [I a, I b] (fun r M => r = I (wmax a b) ∧ M = []) := by
  refine VCalls.body Try.func74 rfl 8 rfl (fun E => ?_)
  simp only [List.reduceReplicate, List.cons_append, List.nil_append]
  repeat' ((first
    | ((with_reducible show AL _ _ _ _ _ _ _); first | refine AL.any ?_ | refine AL.nil ?_)
    | ((with_reducible show AW _ _ _ _ _ _); first | refine AW.seq ?_ | refine AW.region ?_ | refine AW.skip ?_ | refine AW.cT ?_ | refine AW.cF ?_ | (refine AW.c2 ?_ ?_ <;> (intro h; try simp only [Bool.not_eq_true', Bool.not_eq_false'] at h)) | refine AW.block ?_ | refine AW.exit ?_ | refine AW.ret ?_)
    | with_reducible refine (if_pos rfl).mpr ?_
    | with_reducible refine (if_neg (by decide)).mpr ?_) <;> (try dsimp only))
  all_goals exact Fin.one rfl (RV.tmp (by rfl)) (clo_c _) ⟨by first | rfl | (simp_all [wmax]; done) | (simp only [wmax]; split <;> simp_all <;> omega), rfl⟩

end Go.Proofs.Ytniabadeddgmbaa.Abs

/- The walks of sides and segments. -/
namespace Go.Proofs.Ytniabadeddgmbaa.Abs
open Go.Proofs Go.RowKit
set_option linter.unusedVariables false
set_option linter.unusedSimpArgs false
attribute [local irreducible] OpA AL AW DL DLM DLR DLS QOp POp VCalls VCallsI
abbrev wmul (a b : Int) : Int := IntKind.i64.wrap (a * b)
def wmin (a b : Int) : Int := if b < a then b else a
def isSeg (s : TSegment) : Bool := isp s.a.x s.a.y && isp s.b.x s.b.y && !ptE s.a s.b
def crW (a b p : TPoint) : Int := wsub (wmul (wsub b.x a.x) (wsub p.y a.y)) (wmul (wsub b.y a.y) (wsub p.x a.x))
def sdW (a b p : TPoint) : Int := if isp a.x a.y && isp b.x b.y && isp p.x p.y then sg (crW a b p) else 0
def cmpI (x y : Int) : Int := if x < y then -1 else if x > y then 1 else 0
theorem cmp_sg (n : Int) : cmpI n 0 = sg n := by
  unfold cmpI sg
  repeat' split
  all_goals omega
def onW (s : TSegment) (p : TPoint) : Bool := isSeg s && isp p.x p.y && (crW s.a s.b p == 0) && inr p.x (wmin s.a.x s.b.x) (wmax s.a.x s.b.x) && inr p.y (wmin s.a.y s.b.y) (wmax s.a.y s.b.y)
theorem sdW_zero {a b p : TPoint} (h1 : isp a.x a.y = true) (h2 : isp b.x b.y = true) (h3 : isp p.x p.y = true) : (sdW a b p == 0) = (crW a b p == 0) := by
  unfold sdW
  rw [h1, h2, h3]
  simp only [Bool.and_self, if_true]
  have := sg_zero (n := crW a b p)
  cases h : (crW a b p == 0)
  · simp at h ⊢; omega
  · simp at h ⊢; omega
def onWI (s : TSegment) (p : TPoint) : Bool := isSeg s && isp p.x p.y && (sdW s.a s.b p == 0) && inr p.x (if s.b.x < s.a.x then s.b.x else s.a.x) (if s.b.x > s.a.x then s.b.x else s.a.x) && inr p.y (if s.b.y < s.a.y then s.b.y else s.a.y) (if s.b.y > s.a.y then s.b.y else s.a.y)
theorem onWI_eq (s : TSegment) (p : TPoint) : onWI s p = onW s p := by
  unfold onWI onW
  cases h1 : isSeg s
  · simp
  · cases h2 : isp p.x p.y
    · simp
    · have h3 := h1
      unfold isSeg at h3
      simp only [Bool.and_eq_true] at h3
      rw [sdW_zero h3.1.1 h3.1.2 h2]
      rfl
theorem bef_cases (a b : TPoint) : decide (a.y < b.y) = true ∨ (decide (a.y < b.y) = false ∧ (a.y == b.y) = false) ∨ (decide (a.y < b.y) = false ∧ (a.y == b.y) = true) := by
  cases decide (a.y < b.y) <;> cases (a.y == b.y) <;> simp
def fwdW (s : TSegment) : TSegment := if bef s.b s.a = true then ⟨s.b, s.a⟩ else s

set_option maxRecDepth 100000 in
set_option maxHeartbeats 2000000 in
theorem min_s (a b : Int) : VCalls Try.prog 39 [I a, I b] (fun r M => r = I (wmin a b) ∧ M = []) := by
  refine VCalls.body Try.func39 rfl 8 rfl (fun E => ?_)
  simp only [List.reduceReplicate, List.cons_append, List.nil_append]
  repeat' ((first
    | ((with_reducible show AL _ _ _ _ _ _ _); first | refine AL.any ?_ | refine AL.nil ?_)
    | ((with_reducible show AW _ _ _ _ _ _); first | refine AW.seq ?_ | refine AW.region ?_ | refine AW.skip ?_ | refine AW.cT ?_ | refine AW.cF ?_ | (refine AW.c2 ?_ ?_ <;> (intro h; try simp only [Bool.not_eq_true', Bool.not_eq_false'] at h)) | refine AW.block ?_ | refine AW.exit ?_ | refine AW.ret ?_)
    | with_reducible refine (if_pos rfl).mpr ?_
    | with_reducible refine (if_neg (by decide)).mpr ?_) <;> (try dsimp only))
  all_goals exact Fin.one rfl (RV.tmp (by rfl)) (clo_c _) ⟨by first | rfl | (simp_all [wmin]; done) | (simp only [wmin]; (repeat' split) <;> simp_all <;> omega), rfl⟩

set_option maxRecDepth 100000 in
set_option maxHeartbeats 2000000 in
theorem isNaN_v (n : Int) : VCalls Try.prog 86 [I n] (fun r M => r = B false ∧ M = []) := by
  refine VCalls.body Try.func86 rfl 5 rfl (fun E => ?_)
  simp only [List.reduceReplicate, List.cons_append, List.nil_append]
  repeat' ((first
    | ((with_reducible show AL _ _ _ _ _ _ _); first | refine AL.any ?_ | refine AL.nil ?_)
    | ((with_reducible show AW _ _ _ _ _ _); first | refine AW.seq ?_ | refine AW.region ?_ | refine AW.skip ?_ | refine AW.block ?_ | refine AW.exit ?_ | refine AW.ret ?_)
    | with_reducible refine (if_pos rfl).mpr ?_
    | with_reducible refine (if_neg (by decide)).mpr ?_) <;> (try dsimp only))
  all_goals exact Fin.one rfl (RV.tmp (by rfl)) (clo_c _) ⟨by simp, rfl⟩

set_option maxRecDepth 100000 in
set_option maxHeartbeats 2000000 in
theorem cmp_v (x y : Int) : VCalls Try.prog 80 [I x, I y] (fun r M => r = I (cmpI x y) ∧ M = []) := by
  refine VCalls.body Try.func80 rfl 18 rfl (fun E => ?_)
  simp only [List.reduceReplicate, List.cons_append, List.nil_append]
  repeat' ((first
    | ((with_reducible show AL _ _ _ _ _ _ _); first | refine AL.any ?_ | refine AL.any (h := POp.k Try.func86 (hc := isNaN_v _)) ?_ | refine AL.nil ?_)
    | ((with_reducible show AW _ _ _ _ _ _); first | refine AW.seq ?_ | refine AW.region ?_ | refine AW.skip ?_ | refine AW.cT ?_ | refine AW.cF ?_ | (refine AW.c2 ?_ ?_ <;> (intro h; try simp only [Bool.not_eq_true', Bool.not_eq_false'] at h)) | refine AW.block ?_ | refine AW.exit ?_ | refine AW.ret ?_)
    | with_reducible refine (if_pos rfl).mpr ?_
    | with_reducible refine (if_neg (by decide)).mpr ?_) <;> (try dsimp only))
  all_goals exact Fin.one rfl (RV.tmp (by rfl)) (clo_c _) ⟨by first | rfl | (simp_all [cmpI]; done) | (simp only [cmpI]; (repeat' split) <;> simp_all <;> omega), rfl⟩

set_option maxRecDepth 100000 in
set_option maxHeartbeats 2000000 in
theorem crs_s (a b p : TPoint) : VCalls Try.prog 75 [.agg a.en, .agg b.en, .agg p.en] (fun r M => r = I (crW a b p) ∧ M = []) := by
  refine VCalls.body Try.func75 rfl 27 rfl (fun E => ?_)
  simp only [List.reduceReplicate, List.cons_append, List.nil_append]
  dsimp only [TPoint.en, TSegment.en]
  repeat' ((first
    | ((with_reducible show AL _ _ _ _ _ _ _); first | refine AL.any ?_ | refine AL.nil ?_)
    | ((with_reducible show AW _ _ _ _ _ _); first | refine AW.seq ?_ | refine AW.region ?_ | refine AW.skip ?_ | refine AW.block ?_ | refine AW.exit ?_ | refine AW.ret ?_)
    | with_reducible refine (if_pos rfl).mpr ?_
    | with_reducible refine (if_neg (by decide)).mpr ?_) <;> (try dsimp only))
  all_goals exact Fin.one rfl (RV.tmp (by rfl)) (clo_c _) ⟨by first | rfl | (simp_all [crW]; done) | (simp only [crW]; (repeat' split) <;> simp_all <;> omega), rfl⟩

set_option maxRecDepth 100000 in
set_option maxHeartbeats 2000000 in
theorem isSeg_s (s : TSegment) : VCalls Try.prog 59 [.agg s.en] (fun r M => r = B (isSeg s) ∧ M = []) := by
  refine VCalls.body Try.func59 rfl 17 rfl (fun E => ?_)
  simp only [List.reduceReplicate, List.cons_append, List.nil_append]
  dsimp only [TPoint.en, TSegment.en]
  repeat' ((first
    | ((with_reducible show AL _ _ _ _ _ _ _); first | refine AL.any ?_ | refine AL.any (h := POp.k Try.func46 (hc := by first | exact isp_s_t _ _ (by assumption) | exact isp_s_f _ _ (by assumption) | exact isp_s _ _)) ?_ | refine AL.U ?_ | refine AL.F ?_ | refine AL.T ?_ | refine AL.T (h := POp.k Try.func46 (hc := by first | exact isp_s_t _ _ (by assumption) | exact isp_s_f _ _ (by assumption) | exact isp_s _ _)) ?_ | refine AL.W ?_ | refine AL.W (h := fun h => by (try rw [h]); exact POp.k Try.func46 (hc := by first | exact isp_s_t _ _ (by assumption) | exact isp_s_f _ _ (by assumption) | exact isp_s _ _)) ?_ | refine AL.nil ?_)
    | ((with_reducible show AW _ _ _ _ _ _); first | refine AW.seq ?_ | refine AW.region ?_ | refine AW.skip ?_ | refine AW.block ?_ | refine AW.exit ?_ | refine AW.ret ?_)
    | with_reducible refine (if_pos rfl).mpr ?_
    | with_reducible refine (if_neg (by decide)).mpr ?_) <;> (try dsimp only))
  all_goals exact Fin.one rfl (RV.tmp (by rfl)) (clo_c _) ⟨by first | rfl | (simp_all [isSeg]; done) | (simp only [isSeg]; (repeat' split) <;> simp_all <;> omega), rfl⟩

set_option maxRecDepth 100000 in
set_option maxHeartbeats 2000000 in
theorem side_s (a b p : TPoint) : VCalls Try.prog 61 [.agg a.en, .agg b.en, .agg p.en] (fun r M => r = I (sdW a b p) ∧ M = []) := by
  refine VCalls.body Try.func61 rfl 28 rfl (fun E => ?_)
  simp only [List.reduceReplicate, List.cons_append, List.nil_append]
  dsimp only [TPoint.en, TSegment.en]
  repeat' ((first
    | ((with_reducible show AL _ _ _ _ _ _ _); first | refine AL.any ?_ | refine AL.any (h := POp.k Try.func46 (hc := by first | exact isp_s_t _ _ (by assumption) | exact isp_s_f _ _ (by assumption) | exact isp_s _ _)) ?_ | refine AL.any (h := POp.k Try.func75 (hc := by first | exact crs_s a b p | exact crs_s s.a s.b p)) ?_ | refine AL.U ?_ | refine AL.F ?_ | refine AL.T ?_ | refine AL.T (h := POp.k Try.func46 (hc := by first | exact isp_s_t _ _ (by assumption) | exact isp_s_f _ _ (by assumption) | exact isp_s _ _)) ?_ | refine AL.T (h := POp.k Try.func75 (hc := by first | exact crs_s a b p | exact crs_s s.a s.b p)) ?_ | refine AL.W ?_ | refine AL.W (h := fun h => by (try rw [h]); exact POp.k Try.func46 (hc := by first | exact isp_s_t _ _ (by assumption) | exact isp_s_f _ _ (by assumption) | exact isp_s _ _)) ?_ | refine AL.W (h := fun h => by (try rw [h]); exact POp.k Try.func75 (hc := by first | exact crs_s a b p | exact crs_s s.a s.b p)) ?_ | refine AL.nil ?_)
    | ((with_reducible show AW _ _ _ _ _ _); first | refine AW.seq ?_ | refine AW.region ?_ | refine AW.skip ?_ | refine AW.cT ?_ | refine AW.cF ?_ | (refine AW.c2 ?_ ?_ <;> (intro h; try simp only [Bool.not_eq_true', Bool.not_eq_false'] at h)) | refine AW.block ?_ | refine AW.exit ?_ | refine AW.ret ?_)
    | with_reducible refine (if_pos rfl).mpr ?_
    | with_reducible refine (if_neg (by decide)).mpr ?_) <;> (try dsimp only))
  all_goals exact Fin.one rfl (RV.tmp (by rfl)) (clo_c _) ⟨by first | rfl | (simp_all [sdW, sg, cmpI]; done) | (simp only [sdW, sg, cmpI]; (repeat' split) <;> simp_all <;> omega), rfl⟩

set_option maxRecDepth 100000 in
set_option maxHeartbeats 2000000 in
theorem isOn_s (s : TSegment) (p : TPoint) : VCalls Try.prog 87 [.agg s.en, .agg p.en] (fun r M => r = B (onW s p) ∧ M = []) := by
  refine VCalls.body Try.func87 rfl 56 rfl (fun E => ?_)
  simp only [List.reduceReplicate, List.cons_append, List.nil_append]
  dsimp only [TPoint.en, TSegment.en]
  repeat' ((first
    | ((with_reducible show AL _ _ _ _ _ _ _); first | refine AL.any ?_ | refine AL.any (h := POp.k Try.func38 (hc := inr_s _ _ _)) ?_ | refine AL.any (h := POp.k Try.func39 (hc := min_s _ _)) ?_ | refine AL.any (h := POp.k Try.func46 (hc := by first | exact isp_s_t _ _ (by assumption) | exact isp_s_f _ _ (by assumption) | exact isp_s _ _)) ?_ | refine AL.any (h := POp.k Try.func59 (hc := isSeg_s s)) ?_ | refine AL.any (h := POp.k Try.func74 (hc := max_s _ _)) ?_ | refine AL.any (h := POp.k Try.func75 (hc := by first | exact crs_s a b p | exact crs_s s.a s.b p)) ?_ | refine AL.U ?_ | refine AL.F ?_ | refine AL.T ?_ | refine AL.T (h := POp.k Try.func38 (hc := inr_s _ _ _)) ?_ | refine AL.T (h := POp.k Try.func39 (hc := min_s _ _)) ?_ | refine AL.T (h := POp.k Try.func46 (hc := by first | exact isp_s_t _ _ (by assumption) | exact isp_s_f _ _ (by assumption) | exact isp_s _ _)) ?_ | refine AL.T (h := POp.k Try.func59 (hc := isSeg_s s)) ?_ | refine AL.T (h := POp.k Try.func74 (hc := max_s _ _)) ?_ | refine AL.T (h := POp.k Try.func75 (hc := by first | exact crs_s a b p | exact crs_s s.a s.b p)) ?_ | refine AL.W ?_ | refine AL.W (h := fun h => by (try rw [h]); exact POp.k Try.func38 (hc := inr_s _ _ _)) ?_ | refine AL.W (h := fun h => by (try rw [h]); exact POp.k Try.func39 (hc := min_s _ _)) ?_ | refine AL.W (h := fun h => by (try rw [h]); exact POp.k Try.func46 (hc := by first | exact isp_s_t _ _ (by assumption) | exact isp_s_f _ _ (by assumption) | exact isp_s _ _)) ?_ | refine AL.W (h := fun h => by (try rw [h]); exact POp.k Try.func59 (hc := isSeg_s s)) ?_ | refine AL.W (h := fun h => by (try rw [h]); exact POp.k Try.func74 (hc := max_s _ _)) ?_ | refine AL.W (h := fun h => by (try rw [h]); exact POp.k Try.func75 (hc := by first | exact crs_s a b p | exact crs_s s.a s.b p)) ?_ | refine AL.nil ?_)
    | ((with_reducible show DL _ _ _ _ _ _ _); first | refine DL.any ?_ | refine DL.any (h := POp.k Try.func38 (hc := inr_s _ _ _)) ?_ | refine DL.any (h := POp.k Try.func39 (hc := min_s _ _)) ?_ | refine DL.any (h := POp.k Try.func46 (hc := by first | exact isp_s_t _ _ (by assumption) | exact isp_s_f _ _ (by assumption) | exact isp_s _ _)) ?_ | refine DL.any (h := POp.k Try.func59 (hc := isSeg_s s)) ?_ | refine DL.any (h := POp.k Try.func74 (hc := max_s _ _)) ?_ | refine DL.any (h := POp.k Try.func75 (hc := by first | exact crs_s a b p | exact crs_s s.a s.b p)) ?_ | refine DL.U ?_ | refine DL.F ?_ | refine DL.T ?_ | refine DL.T (h := POp.k Try.func38 (hc := inr_s _ _ _)) ?_ | refine DL.T (h := POp.k Try.func39 (hc := min_s _ _)) ?_ | refine DL.T (h := POp.k Try.func46 (hc := by first | exact isp_s_t _ _ (by assumption) | exact isp_s_f _ _ (by assumption) | exact isp_s _ _)) ?_ | refine DL.T (h := POp.k Try.func59 (hc := isSeg_s s)) ?_ | refine DL.T (h := POp.k Try.func74 (hc := max_s _ _)) ?_ | refine DL.T (h := POp.k Try.func75 (hc := by first | exact crs_s a b p | exact crs_s s.a s.b p)) ?_ | refine DL.W ?_ | refine DL.W (h := fun h => by (try rw [h]); exact POp.k Try.func38 (hc := inr_s _ _ _)) ?_ | refine DL.W (h := fun h => by (try rw [h]); exact POp.k Try.func39 (hc := min_s _ _)) ?_ | refine DL.W (h := fun h => by (try rw [h]); exact POp.k Try.func46 (hc := by first | exact isp_s_t _ _ (by assumption) | exact isp_s_f _ _ (by assumption) | exact isp_s _ _)) ?_ | refine DL.W (h := fun h => by (try rw [h]); exact POp.k Try.func59 (hc := isSeg_s s)) ?_ | refine DL.W (h := fun h => by (try rw [h]); exact POp.k Try.func74 (hc := max_s _ _)) ?_ | refine DL.W (h := fun h => by (try rw [h]); exact POp.k Try.func75 (hc := by first | exact crs_s a b p | exact crs_s s.a s.b p)) ?_ | refine DL.nil ?_)
    | ((with_reducible show AW _ _ _ _ _ _); first | refine AW.seq ?_ | refine AW.region ?_ | refine AW.skip ?_ | refine AW.dr (id := 1) 51 ?_ | refine AW.block ?_ | refine AW.exit ?_ | refine AW.ret ?_)
    | with_reducible refine (if_pos rfl).mpr ?_
    | with_reducible refine (if_neg (by decide)).mpr ?_) <;> (try dsimp only))
  all_goals exact Fin.one rfl (RV.tmp (by rfl)) (clo_c _) ⟨by first | rfl | (simp_all [onW, wmin, wmax]; done) | (simp only [onW, wmin, wmax]; (repeat' split) <;> simp_all <;> omega), rfl⟩

set_option maxRecDepth 100000 in
set_option maxHeartbeats 2000000 in
theorem crs_i (a b p : TPoint) : VCalls Try.prog 81 [.agg a.en, .agg b.en, .agg p.en] (fun r M => r = I (crW a b p) ∧ M = []) := by
  refine VCalls.body Try.func81 rfl 27 rfl (fun E => ?_)
  simp only [List.reduceReplicate, List.cons_append, List.nil_append]
  dsimp only [TPoint.en, TSegment.en]
  repeat' ((first
    | ((with_reducible show AL _ _ _ _ _ _ _); first | refine AL.any ?_ | refine AL.nil ?_)
    | ((with_reducible show AW _ _ _ _ _ _); first | refine AW.seq ?_ | refine AW.region ?_ | refine AW.skip ?_ | refine AW.block ?_ | refine AW.exit ?_ | refine AW.ret ?_)
    | with_reducible refine (if_pos rfl).mpr ?_
    | with_reducible refine (if_neg (by decide)).mpr ?_) <;> (try dsimp only))
  all_goals exact Fin.one rfl (RV.tmp (by rfl)) (clo_c _) ⟨by first | rfl | (simp_all [crW]; done) | (simp only [crW]; (repeat' split) <;> simp_all <;> omega), rfl⟩

set_option maxRecDepth 100000 in
set_option maxHeartbeats 2000000 in
theorem isSeg_i (s : TSegment) : VCalls Try.prog 69 [.agg s.en] (fun r M => r = B (isSeg s) ∧ M = []) := by
  refine VCalls.body Try.func69 rfl 17 rfl (fun E => ?_)
  simp only [List.reduceReplicate, List.cons_append, List.nil_append]
  dsimp only [TPoint.en, TSegment.en]
  repeat' ((first
    | ((with_reducible show AL _ _ _ _ _ _ _); first | refine AL.any ?_ | refine AL.any (h := POp.k Try.func47 (hc := by first | exact isp_v_t _ _ (by assumption) | exact isp_v_f _ _ (by assumption) | exact isp_v _ _)) ?_ | refine AL.U ?_ | refine AL.F ?_ | refine AL.T ?_ | refine AL.T (h := POp.k Try.func47 (hc := by first | exact isp_v_t _ _ (by assumption) | exact isp_v_f _ _ (by assumption) | exact isp_v _ _)) ?_ | refine AL.W ?_ | refine AL.W (h := fun h => by (try rw [h]); exact POp.k Try.func47 (hc := by first | exact isp_v_t _ _ (by assumption) | exact isp_v_f _ _ (by assumption) | exact isp_v _ _)) ?_ | refine AL.nil ?_)
    | ((with_reducible show AW _ _ _ _ _ _); first | refine AW.seq ?_ | refine AW.region ?_ | refine AW.skip ?_ | refine AW.block ?_ | refine AW.exit ?_ | refine AW.ret ?_)
    | with_reducible refine (if_pos rfl).mpr ?_
    | with_reducible refine (if_neg (by decide)).mpr ?_) <;> (try dsimp only))
  all_goals exact Fin.one rfl (RV.tmp (by rfl)) (clo_c _) ⟨by first | rfl | (simp_all [isSeg]; done) | (simp only [isSeg]; (repeat' split) <;> simp_all <;> omega), rfl⟩

set_option maxRecDepth 100000 in
set_option maxHeartbeats 2000000 in
theorem side_i (a b p : TPoint) : VCalls Try.prog 72 [.agg a.en, .agg b.en, .agg p.en] (fun r M => r = I (sdW a b p) ∧ M = []) := by
  refine VCalls.body Try.func72 rfl 22 rfl (fun E => ?_)
  simp only [List.reduceReplicate, List.cons_append, List.nil_append]
  dsimp only [TPoint.en, TSegment.en]
  repeat' ((first
    | ((with_reducible show AL _ _ _ _ _ _ _); first | refine AL.any ?_ | refine AL.any (h := POp.k Try.func47 (hc := by first | exact isp_v_t _ _ (by assumption) | exact isp_v_f _ _ (by assumption) | exact isp_v _ _)) ?_ | refine AL.any (h := POp.k Try.func80 (hc := cmp_v _ _)) ?_ | refine AL.any (h := POp.k Try.func81 (hc := by first | exact crs_i a b p | exact crs_i s.a s.b p)) ?_ | refine AL.U ?_ | refine AL.F ?_ | refine AL.T ?_ | refine AL.T (h := POp.k Try.func47 (hc := by first | exact isp_v_t _ _ (by assumption) | exact isp_v_f _ _ (by assumption) | exact isp_v _ _)) ?_ | refine AL.T (h := POp.k Try.func80 (hc := cmp_v _ _)) ?_ | refine AL.T (h := POp.k Try.func81 (hc := by first | exact crs_i a b p | exact crs_i s.a s.b p)) ?_ | refine AL.W ?_ | refine AL.W (h := fun h => by (try rw [h]); exact POp.k Try.func47 (hc := by first | exact isp_v_t _ _ (by assumption) | exact isp_v_f _ _ (by assumption) | exact isp_v _ _)) ?_ | refine AL.W (h := fun h => by (try rw [h]); exact POp.k Try.func80 (hc := cmp_v _ _)) ?_ | refine AL.W (h := fun h => by (try rw [h]); exact POp.k Try.func81 (hc := by first | exact crs_i a b p | exact crs_i s.a s.b p)) ?_ | refine AL.nil ?_)
    | ((with_reducible show AW _ _ _ _ _ _); first | refine AW.seq ?_ | refine AW.region ?_ | refine AW.skip ?_ | refine AW.cT ?_ | refine AW.cF ?_ | (refine AW.c2 ?_ ?_ <;> (intro h; try simp only [Bool.not_eq_true', Bool.not_eq_false'] at h)) | refine AW.block ?_ | refine AW.exit ?_ | refine AW.ret ?_)
    | with_reducible refine (if_pos rfl).mpr ?_
    | with_reducible refine (if_neg (by decide)).mpr ?_) <;> (try dsimp only))
  all_goals exact Fin.one rfl (RV.tmp (by rfl)) (clo_c _) ⟨by first | rfl | (simp_all [sdW, sg, cmpI]; done) | (simp only [sdW, sg, cmpI]; (repeat' split) <;> simp_all <;> omega), rfl⟩

set_option maxRecDepth 100000 in
set_option maxHeartbeats 2000000 in
theorem isOn_i0 (s : TSegment) (p : TPoint) : VCalls Try.prog 85 [.agg s.en, .agg p.en] (fun r M => r = B (onWI s p) ∧ M = []) := by
  refine VCalls.body Try.func85 rfl 56 rfl (fun E => ?_)
  simp only [List.reduceReplicate, List.cons_append, List.nil_append]
  dsimp only [TPoint.en, TSegment.en]
  repeat' ((first
    | ((with_reducible show AL _ _ _ _ _ _ _); first | refine AL.any ?_ | refine AL.any (h := POp.k Try.func47 (hc := by first | exact isp_v_t _ _ (by assumption) | exact isp_v_f _ _ (by assumption) | exact isp_v _ _)) ?_ | refine AL.any (h := POp.k Try.func48 (hc := inr_v _ _ _)) ?_ | refine AL.any (h := POp.k Try.func69 (hc := isSeg_i s)) ?_ | refine AL.any (h := POp.k Try.func72 (hc := by first | exact side_i a b p | exact side_i s.a s.b p)) ?_ | refine AL.U ?_ | refine AL.F ?_ | refine AL.T ?_ | refine AL.T (h := POp.k Try.func47 (hc := by first | exact isp_v_t _ _ (by assumption) | exact isp_v_f _ _ (by assumption) | exact isp_v _ _)) ?_ | refine AL.T (h := POp.k Try.func48 (hc := inr_v _ _ _)) ?_ | refine AL.T (h := POp.k Try.func69 (hc := isSeg_i s)) ?_ | refine AL.T (h := POp.k Try.func72 (hc := by first | exact side_i a b p | exact side_i s.a s.b p)) ?_ | refine AL.W ?_ | refine AL.W (h := fun h => by (try rw [h]); exact POp.k Try.func47 (hc := by first | exact isp_v_t _ _ (by assumption) | exact isp_v_f _ _ (by assumption) | exact isp_v _ _)) ?_ | refine AL.W (h := fun h => by (try rw [h]); exact POp.k Try.func48 (hc := inr_v _ _ _)) ?_ | refine AL.W (h := fun h => by (try rw [h]); exact POp.k Try.func69 (hc := isSeg_i s)) ?_ | refine AL.W (h := fun h => by (try rw [h]); exact POp.k Try.func72 (hc := by first | exact side_i a b p | exact side_i s.a s.b p)) ?_ | refine AL.nil ?_)
    | ((with_reducible show AW _ _ _ _ _ _); first | refine AW.seq ?_ | refine AW.region ?_ | refine AW.skip ?_ | refine AW.block ?_ | refine AW.exit ?_ | refine AW.ret ?_)
    | with_reducible refine (if_pos rfl).mpr ?_
    | with_reducible refine (if_neg (by decide)).mpr ?_) <;> (try dsimp only))
  all_goals exact Fin.one rfl (RV.tmp (by rfl)) (clo_c _) ⟨by first | rfl | (simp only [onWI, Bool.and_assoc]; done), rfl⟩

theorem isOn_i (s : TSegment) (p : TPoint) : VCalls Try.prog 85 [.agg s.en, .agg p.en] (fun r M => r = B (onW s p) ∧ M = []) := onWI_eq s p ▸ isOn_i0 s p
end Go.Proofs.Ytniabadeddgmbaa.Abs

/- The walks of segments put forward. -/
namespace Go.Proofs.Ytniabadeddgmbaa.Abs
open Go.Proofs Go.RowKit
set_option linter.unusedVariables false
set_option linter.unusedSimpArgs false
attribute [local irreducible] OpA AL AW DL DLM DLR DLS QOp POp VCalls VCallsI
set_option maxRecDepth 100000 in
set_option maxHeartbeats 2000000 in
theorem bef_i (a b : TPoint) : VCalls Try.prog 84 [.agg a.en, .agg b.en] (fun r M => r = B (bef a b) ∧ M = []) := by
  refine VCalls.body Try.func84 rfl 22 rfl (fun E => ?_)
  simp only [List.reduceReplicate, List.cons_append, List.nil_append]
  dsimp only [TPoint.en, TSegment.en]
  rcases bef_cases a b with h1 | ⟨h1, h2⟩ | ⟨h1, h2⟩
  repeat' ((first
    | ((with_reducible show AL _ _ _ _ _ _ _); first | refine AL.any ?_ | refine AL.U ?_ | refine AL.F ?_ | refine AL.T ?_ | refine AL.W ?_ | refine AL.nil ?_)
    | ((with_reducible show AW _ _ _ _ _ _); first | refine AW.seq ?_ | refine AW.region ?_ | refine AW.skip ?_ | refine AW.block ?_ | refine AW.exit ?_ | refine AW.ret ?_)
    | with_reducible refine (if_pos rfl).mpr ?_
    | with_reducible refine (if_neg (by decide)).mpr ?_) <;> (try dsimp only))
  all_goals exact Fin.one rfl (RV.tmp (by rfl)) (clo_c _) ⟨by first | rfl | (simp_all [bef]; done) | (simp only [bef]; (repeat' split) <;> simp_all <;> omega), rfl⟩

set_option maxRecDepth 100000 in
set_option maxHeartbeats 2000000 in
theorem turn_i (s : TSegment) : VCalls Try.prog 88 [.agg s.en] (fun r M => r = .agg [I s.b.x, I s.b.y, I s.a.x, I s.a.y] ∧ M = []) := by
  refine VCalls.body Try.func88 rfl 7 rfl (fun E => ?_)
  simp only [List.reduceReplicate, List.cons_append, List.nil_append]
  dsimp only [TPoint.en, TSegment.en]
  repeat' ((first
    | ((with_reducible show AL _ _ _ _ _ _ _); first | refine AL.any ?_ | refine AL.nil ?_)
    | ((with_reducible show AW _ _ _ _ _ _); first | refine AW.seq ?_ | refine AW.region ?_ | refine AW.skip ?_ | refine AW.block ?_ | refine AW.exit ?_ | refine AW.ret ?_)
    | with_reducible refine (if_pos rfl).mpr ?_
    | with_reducible refine (if_neg (by decide)).mpr ?_) <;> (try dsimp only))
  all_goals exact Fin.one rfl (RV.cell (QOp.quietA TT_ok (by rfl))) (clo_of (by rfl)) ⟨by rfl, rfl⟩

set_option maxRecDepth 100000 in
set_option maxHeartbeats 2000000 in
theorem fwd_i (s : TSegment) : VCalls Try.prog 83 [.agg s.en] (fun r M => r = .agg (fwdW s).en ∧ M = []) := by
  refine VCalls.body Try.func83 rfl 10 rfl (fun E => ?_)
  simp only [List.reduceReplicate, List.cons_append, List.nil_append]
  dsimp only [TPoint.en, TSegment.en]
  repeat' ((first
    | ((with_reducible show AL _ _ _ _ _ _ _); first | refine AL.any ?_ | refine AL.any (h := POp.k Try.func84 (hc := by first | exact bef_i a b | exact bef_i s.b s.a)) ?_ | refine AL.any (h := POp.k Try.func88 (hc := turn_i s)) ?_ | refine AL.nil ?_)
    | ((with_reducible show AW _ _ _ _ _ _); first | refine AW.seq ?_ | refine AW.region ?_ | refine AW.skip ?_ | refine AW.cT ?_ | refine AW.cF ?_ | (refine AW.c2 ?_ ?_ <;> (intro h; try simp only [Bool.not_eq_true', Bool.not_eq_false'] at h)) | refine AW.block ?_ | refine AW.exit ?_ | refine AW.ret ?_)
    | with_reducible refine (if_pos rfl).mpr ?_
    | with_reducible refine (if_neg (by decide)).mpr ?_) <;> (try dsimp only))
  all_goals exact Fin.one rfl (RV.cell (QOp.quietA TT_ok (by rfl))) (clo_of (by rfl)) ⟨by first | (simp only [fwdW]; simp_all; done) | (simp [fwdW, *]; done), rfl⟩

end Go.Proofs.Ytniabadeddgmbaa.Abs

/- How two segments meet: what the program's way and the reference's way come to. -/
namespace Go.Proofs.Ytniabadeddgmbaa.Abs
open Go.Proofs Go.RowKit
set_option linter.unusedVariables false
set_option linter.unusedSimpArgs false
attribute [local irreducible] OpA AL AW DL DLM DLR DLS QOp POp VCalls VCallsI
def hmI (s t : TSegment) : Int :=
  if (!isSeg s || !isSeg t) = true then 0 else
  if ((sdW s.a s.b t.a == 0) && (sdW s.a s.b t.b == 0)) = true then
    if bef (if bef (fwdW t).b (fwdW s).b = true then (fwdW t).b else (fwdW s).b) (if bef (fwdW s).a (fwdW t).a = true then (fwdW t).a else (fwdW s).a) = true then 0
    else if ptE (if bef (fwdW s).a (fwdW t).a = true then (fwdW t).a else (fwdW s).a) (if bef (fwdW t).b (fwdW s).b = true then (fwdW t).b else (fwdW s).b) = true then 1 else 3
  else if (decide (wmul (sdW s.a s.b t.a) (sdW s.a s.b t.b) < 0) && decide (wmul (sdW t.a t.b s.a) (sdW t.a t.b s.b) < 0)) = true then 2
  else if (onW s t.a || onW s t.b || onW t s.a || onW t s.b) = true then 1 else 0
theorem mul_small {u v : Int} (h1 : -200 ≤ u ∧ u ≤ 200) (h2 : -200 ≤ v ∧ v ≤ 200) : -40000 ≤ u * v ∧ u * v ≤ 40000 := by
  have a1 := Int.mul_nonneg (show 0 ≤ 200 - u by omega) (show 0 ≤ 200 + v by omega)
  have a2 := Int.mul_nonneg (show 0 ≤ 200 + u by omega) (show 0 ≤ 200 - v by omega)
  have a3 := Int.mul_nonneg (show 0 ≤ 200 - u by omega) (show 0 ≤ 200 - v by omega)
  have a4 := Int.mul_nonneg (show 0 ≤ 200 + u by omega) (show 0 ≤ 200 + v by omega)
  have e1 : (200 - u) * (200 + v) + (200 + u) * (200 - v) = 80000 - 2 * (u * v) := by grind
  have e2 : (200 - u) * (200 - v) + (200 + u) * (200 + v) = 80000 + 2 * (u * v) := by grind
  omega
theorem isp_bd {x y : Int} (h : isp x y = true) : 0 ≤ x ∧ x ≤ 200 ∧ 0 ≤ y ∧ y ≤ 200 := by
  simp only [isp, inr, Bool.and_eq_true, decide_eq_true_eq] at h
  omega
theorem crW_crs {a b p : TPoint} (ha : isp a.x a.y = true) (hb : isp b.x b.y = true) (hp : isp p.x p.y = true) : crW a b p = crs a b p := by
  have ha := isp_bd ha
  have hb := isp_bd hb
  have hp := isp_bd hp
  have m1 := mul_small (u := b.x - a.x) (v := p.y - a.y) (by omega) (by omega)
  have m2 := mul_small (u := b.y - a.y) (v := p.x - a.x) (by omega) (by omega)
  unfold crW crs wmul wsub
  rw [w64 (n := b.x - a.x) (by omega) (by omega), w64 (n := p.y - a.y) (by omega) (by omega), w64 (n := b.y - a.y) (by omega) (by omega), w64 (n := p.x - a.x) (by omega) (by omega)]
  rw [w64 (n := (b.x - a.x) * (p.y - a.y)) (by omega) (by omega), w64 (n := (b.y - a.y) * (p.x - a.x)) (by omega) (by omega), w64 (by omega) (by omega)]
theorem sdW_sg {a b p : TPoint} (ha : isp a.x a.y = true) (hb : isp b.x b.y = true) (hp : isp p.x p.y = true) : sdW a b p = sg (crs a b p) := by
  unfold sdW
  rw [ha, hb, hp, crW_crs ha hb hp]
  rfl
theorem sg_bd (n : Int) : -1 ≤ sg n ∧ sg n ≤ 1 := by unfold sg; split <;> (try split) <;> omega
theorem wmul_sg (m n : Int) : wmul (sg m) (sg n) = sg m * sg n := by
  have h1 := sg_bd m
  have h2 := sg_bd n
  have := mul_small (u := sg m) (v := sg n) (by omega) (by omega)
  exact w64 (by omega) (by omega)
theorem isSeg_bd {s : TSegment} (h : isSeg s = true) : isp s.a.x s.a.y = true ∧ isp s.b.x s.b.y = true ∧ ptE s.a s.b = false := by
  simp only [isSeg, Bool.and_eq_true, Bool.not_eq_true'] at h
  exact ⟨h.1.1, h.1.2, h.2⟩
theorem ptE_eqP (a b : TPoint) : ptE a b = eqP a b := by
  rw [Bool.eq_iff_iff]
  simp [ptE, eqVs, eqV, eqP]
theorem isSeg_ne {s : TSegment} (h : isSeg s = true) : s.a ≠ s.b := fun e => by
  have := (isSeg_bd h).2.2
  rw [ptE_eqP, e] at this
  simp [eqP] at this
theorem inr_btw (a b p : Int) : inr p (wmin a b) (wmax a b) = btwB a b p := by
  rw [Bool.eq_iff_iff]
  unfold inr wmin wmax btwB
  simp only [Bool.and_eq_true, Bool.or_eq_true, decide_eq_true_eq]
  split <;> split <;> omega
theorem onW_onB {s : TSegment} {p : TPoint} (hs : isSeg s = true) (hp : isp p.x p.y = true) : onW s p = onB s.a s.b p := by
  unfold onW onB
  rw [hs, hp, crW_crs (isSeg_bd hs).1 (isSeg_bd hs).2.1 hp, inr_btw, inr_btw]
  rfl
theorem fwdW_ends (s : TSegment) : (fwdW s).a = lowE s.a s.b ∧ (fwdW s).b = highE s.a s.b := by
  unfold fwdW lowE highE
  split <;> exact ⟨rfl, rfl⟩
theorem hmI_eq {s t : TSegment} (hs : isSeg s = true) (ht : isSeg t = true) : hmI s t = meetI s.a s.b t.a t.b := by
  obtain ⟨h1, h2, h3⟩ := isSeg_bd hs
  obtain ⟨g1, g2, g3⟩ := isSeg_bd ht
  unfold hmI meetI crossB
  rw [hs, ht]
  rw [onW_onB hs g1, onW_onB hs g2, onW_onB ht h1, onW_onB ht h2]
  rw [sdW_sg h1 h2 g1, sdW_sg h1 h2 g2, sdW_sg g1 g2 h1, sdW_sg g1 g2 h2, wmul_sg, wmul_sg]
  rw [(fwdW_ends s).1, (fwdW_ends s).2, (fwdW_ends t).1, (fwdW_ends t).2, ptE_eqP]
  simp only [Bool.not_true, Bool.or_self, Bool.false_eq_true, if_false, Bool.and_eq_true, beq_iff_eq]
def endsL (s t : TSegment) : List TPoint := [s.a, s.b, t.a, t.b]
def endE (s t : TSegment) (i : Nat) : TPoint := (endsL s t).getD i ⟨0, 0⟩
def onE (s t : TSegment) (i : Nat) : Bool := if i < 2 then onW t (endE s t i) else onW s (endE s t i)
def addW (on : Bool) (e : TPoint) (l : List TPoint) : List TPoint := if (on && l.all fun q => !ptE q e) = true then l ++ [e] else l
def shK (s t : TSegment) : Nat → List TPoint
  | 0 => []
  | i + 1 => addW (onE s t i) (endE s t i) (shK s t i)
theorem shK_succ (s t : TSegment) (i : Nat) : shK s t (i + 1) = addW (onE s t i) (endE s t i) (shK s t i) := rfl
theorem shK_len (s t : TSegment) (i : Nat) : (shK s t i).length ≤ i := by
  induction i with
  | zero => simp [shK]
  | succ i ih =>
    rw [shK_succ]
    unfold addW
    split
    · simp; omega
    · omega
def onK (s t : TSegment) (i k : Nat) : Bool := onE s t i && ((shK s t i).take k).all fun q => !ptE q (endE s t i)
theorem onK_zero (s t : TSegment) (i : Nat) : onK s t i 0 = onE s t i := by simp [onK]
theorem onK_succ {s t : TSegment} {i k : Nat} {q : TPoint} (h : (shK s t i)[k]? = some q) : onK s t i (k + 1) = (onK s t i k && !ptE q (endE s t i)) := by
  unfold onK
  rw [take_succ_of h, List.all_append, Bool.and_assoc]
  simp
theorem sh_add {s t : TSegment} {i : Nat} (h : onK s t i (shK s t i).length = true) : (shK s t (i + 1)).map TPoint.en = (shK s t i).map TPoint.en ++ [(endE s t i).en] ∧ (shK s t (i + 1)).length = (shK s t i).length + 1 := by
  unfold onK at h
  rw [List.take_length] at h
  rw [shK_succ, addW, if_pos h]
  simp
theorem sh_not {s t : TSegment} {i : Nat} (h : onK s t i (shK s t i).length = false) : (shK s t (i + 1)).map TPoint.en = (shK s t i).map TPoint.en ∧ (shK s t (i + 1)).length = (shK s t i).length := by
  unfold onK at h
  rw [List.take_length] at h
  rw [shK_succ, addW, if_neg (by rw [h]; simp)]
  simp
theorem end_get {s t : TSegment} {i : Nat} (h : i < 4) : ((endsL s t).map TPoint.en)[((i : Int)).toNat]? = some (endE s t i).en := by
  refine map_get ?_
  rw [endE, List.getD_eq_getElem?_getD, List.getElem?_eq_getElem (show i < (endsL s t).length from h)]
  rfl
theorem fitsM_cons {n : Nat} {b : Blk} {M : Mem} (h : ∀ r ∈ b.es, ∀ y ∈ r, Clo y) (hm : FitsM n M) : FitsM n (some b :: M) := fun b' hb r hr x hx => by
  rcases List.mem_cons.1 hb with e | hb
  · cases e; exact Fits.clo (h r hr x hx)
  · exact hm b' hb r hr x hx
theorem clo_one {l : List AV} (h : ∀ x ∈ l, Clo x) : ∀ r ∈ [l], ∀ x ∈ r, Clo x := fun r hr => by
  rw [List.mem_singleton.1 hr]
  exact h
def apW (s t : TSegment) : Bool := decide (wmax s.a.x s.b.x < wmin t.a.x t.b.x) || decide (wmax t.a.x t.b.x < wmin s.a.x s.b.x) || decide (wmax s.a.y s.b.y < wmin t.a.y t.b.y) || decide (wmax t.a.y t.b.y < wmin s.a.y s.b.y)
def hmS (s t : TSegment) : Int :=
  if (!isSeg s || !isSeg t) = true then 0 else if apW s t = true then 0 else
  if (((shK s t 4).length : Int) == 0) = true then (if (decide (wmul (sdW s.a s.b t.a) (sdW s.a s.b t.b) < 0) && decide (wmul (sdW t.a t.b s.a) (sdW t.a t.b s.b) < 0)) = true then 2 else 0)
  else if (((shK s t 4).length : Int) == 1) = true then 1 else 3
theorem addW_addE (on : Bool) (e : TPoint) (l : List TPoint) : addW on e l = addE on e l := by
  unfold addW addE
  simp only [ptE_eqP]
theorem shK_shrd {s t : TSegment} (hs : isSeg s = true) (ht : isSeg t = true) : shK s t 4 = shrd s.a s.b t.a t.b := by
  obtain ⟨h1, h2, h3⟩ := isSeg_bd hs
  obtain ⟨g1, g2, g3⟩ := isSeg_bd ht
  unfold shrd
  rw [shK_succ, shK_succ, shK_succ, shK_succ]
  simp only [addW_addE, onE, endE, endsL, List.getD_cons_zero, List.getD_cons_succ, shK]
  rw [onW_onB hs g1, onW_onB hs g2, onW_onB ht h1, onW_onB ht h2]
  simp
theorem apW_apart {s t : TSegment} (h : apW s t = true) : apart s.a s.b t.a t.b := by
  unfold apW wmin wmax at h
  simp only [Bool.or_eq_true, decide_eq_true_eq] at h
  unfold apart
  rcases h with ((h | h) | h) | h
  · left; split at h <;> split at h <;> omega
  · right; left; split at h <;> split at h <;> omega
  · right; right; left; split at h <;> split at h <;> omega
  · right; right; right; split at h <;> split at h <;> omega
theorem hmS_eq (s t : TSegment) : hmS s t = hmI s t := by
  cases hs : isSeg s
  · simp [hmS, hmI, hs]
  · cases ht : isSeg t
    · simp [hmS, hmI, ht]
    · rw [hmI_eq hs ht]
      cases ha : apW s t
      · rw [← meet_eq (isSeg_ne hs) (isSeg_ne ht)]
        obtain ⟨h1, h2, h3⟩ := isSeg_bd hs
        obtain ⟨g1, g2, g3⟩ := isSeg_bd ht
        have e0 : ∀ n : Nat, ((n : Int) == 0) = decide (n = 0) := fun n => by rw [Bool.eq_iff_iff]; simp
        have e1 : ∀ n : Nat, ((n : Int) == 1) = decide (n = 1) := fun n => by rw [Bool.eq_iff_iff]; simp; omega
        unfold hmS meetS crossB
        simp only [e0, e1, decide_eq_true_eq]
        rw [hs, ht, ha, shK_shrd hs ht, sdW_sg h1 h2 g1, sdW_sg h1 h2 g2, sdW_sg g1 g2 h1, sdW_sg g1 g2 h2, wmul_sg, wmul_sg]
        rfl
      · rw [meet_eq_boxes (isSeg_ne hs) (isSeg_ne ht) (apW_apart ha)]
        simp [hmS, hs, ht, ha]

end Go.Proofs.Ytniabadeddgmbaa.Abs

/- The walks of a ring's segments. -/
namespace Go.Proofs.Ytniabadeddgmbaa.Abs
open Go.Proofs Go.RowKit
set_option linter.unusedVariables false
set_option linter.unusedSimpArgs false
attribute [local irreducible] OpA AL AW DL DLM DLR DLS QOp POp VCalls VCallsI
def arnd (l : List TPoint) : List TSegment := List.zipWith TSegment.mk l (l.tail ++ l.take 1)
theorem arnd_len (l : List TPoint) : (arnd l).length = l.length := by
  cases l
  · simp [arnd]
  · simp [arnd]
theorem arnd_get {l : List TPoint} {i : Nat} (h : i < l.length) : ∃ a b, l[i]? = some a ∧ l[(i + 1) % l.length]? = some b ∧ (arnd l)[i]? = some ⟨a, b⟩ := by
  refine ⟨l[i], l[(i + 1) % l.length]'(Nat.mod_lt _ (by omega)), List.getElem?_eq_getElem _, List.getElem?_eq_getElem _, ?_⟩
  unfold arnd
  rw [List.getElem?_zipWith]
  by_cases h1 : i + 1 < l.length
  · have e : (i + 1) % l.length = i + 1 := Nat.mod_eq_of_lt h1
    rw [List.getElem?_append_left (by simp; omega), List.getElem?_tail]
    simp [e, List.getElem?_eq_getElem h, List.getElem?_eq_getElem h1]
  · have e : (i + 1) % l.length = 0 := by rw [show i + 1 = l.length by omega, Nat.mod_self]
    rw [List.getElem?_append_right (by simp; omega)]
    have e2 : i - l.tail.length = 0 := by simp; omega
    rw [e2]
    simp [e, List.getElem?_eq_getElem h, List.getElem?_take, List.getElem?_eq_getElem (show 0 < l.length by omega)]
theorem arnd_take (l : List TPoint) : (arnd l).take l.length = arnd l := by rw [← arnd_len l, List.take_length]
def wantN (n i k : Nat) : Int := if k + 1 = i ∨ (k = 0 ∧ i + 1 = n) then 1 else 0
theorem arnd_ix {l : List TPoint} {i : Nat} (h : i < l.length) (hl : l.length ≤ 1048576) : (IntKind.i64.wrap ((i : Int) + 1)).tmod ((l.map TPoint.en).length : Int) = (((i + 1) % l.length : Nat) : Int) := by
  rw [w64 (by omega) (by omega), List.length_map, show (i : Int) + 1 = ((i + 1 : Nat) : Int) by omega]
  exact (Int.ofNat_tmod _ _).symm
theorem want_s {n i k : Nat} (hi : i < n) (hk : k < i) (hn : n ≤ 1048576) :
    ((IntKind.i64.wrap ((k : Int) + 1) == (i : Int)) = true ∧ wantN n i k = 1) ∨
    ((IntKind.i64.wrap ((k : Int) + 1) == (i : Int)) = false ∧ ((k : Int) == 0) = false ∧ wantN n i k = 0) ∨
    ((IntKind.i64.wrap ((k : Int) + 1) == (i : Int)) = false ∧ ((k : Int) == 0) = true ∧ (IntKind.i64.wrap ((i : Int) + 1) == (n : Int)) = true ∧ wantN n i k = 1) ∨
    ((IntKind.i64.wrap ((k : Int) + 1) == (i : Int)) = false ∧ ((k : Int) == 0) = true ∧ (IntKind.i64.wrap ((i : Int) + 1) == (n : Int)) = false ∧ wantN n i k = 0) := by
  rw [w64 (n := (k : Int) + 1) (by omega) (by omega), w64 (n := (i : Int) + 1) (by omega) (by omega)]
  unfold wantN
  simp only [beq_iff_eq, beq_eq_false_iff_ne, ne_eq]
  by_cases q1 : k + 1 = i
  · exact .inl ⟨by omega, by simp [q1]⟩
  · by_cases q2 : k = 0
    · by_cases q3 : i + 1 = n
      · exact .inr (.inr (.inl ⟨by omega, by omega, by omega, by simp [q2, q3]⟩))
      · exact .inr (.inr (.inr ⟨by omega, by omega, by omega, by simp [q1, q2, q3] <;> omega⟩))
    · exact .inr (.inl ⟨by omega, by omega, by simp [q1, q2]⟩)
theorem want_i {n i k : Nat} (hi : i < n) (hk : k < i) (hn : n ≤ 1048576) :
    (((k : Int) == IntKind.i64.wrap ((i : Int) - 1)) = true ∧ wantN n i k = 1) ∨
    (((k : Int) == IntKind.i64.wrap ((i : Int) - 1)) = false ∧ ((k : Int) == 0) = false ∧ wantN n i k = 0) ∨
    (((k : Int) == IntKind.i64.wrap ((i : Int) - 1)) = false ∧ ((k : Int) == 0) = true ∧ ((i : Int) == IntKind.i64.wrap ((n : Int) - 1)) = true ∧ wantN n i k = 1) ∨
    (((k : Int) == IntKind.i64.wrap ((i : Int) - 1)) = false ∧ ((k : Int) == 0) = true ∧ ((i : Int) == IntKind.i64.wrap ((n : Int) - 1)) = false ∧ wantN n i k = 0) := by
  have e1 : ((k : Int) == IntKind.i64.wrap ((i : Int) - 1)) = (IntKind.i64.wrap ((k : Int) + 1) == (i : Int)) := by
    rw [w64 (n := (k : Int) + 1) (by omega) (by omega), w64 (n := (i : Int) - 1) (by omega) (by omega), Bool.eq_iff_iff]
    simp only [beq_iff_eq]
    omega
  have e2 : ((i : Int) == IntKind.i64.wrap ((n : Int) - 1)) = (IntKind.i64.wrap ((i : Int) + 1) == (n : Int)) := by
    rw [w64 (n := (i : Int) + 1) (by omega) (by omega), w64 (n := (n : Int) - 1) (by omega) (by omega), Bool.eq_iff_iff]
    simp only [beq_iff_eq]
    omega
  rw [e1, e2]
  exact want_s hi hk hn
def sAt (l : List TPoint) (i : Nat) : TSegment := (arnd l).getD i ⟨⟨0, 0⟩, ⟨0, 0⟩⟩
theorem sAt_of {l : List TPoint} {i : Nat} {x : TSegment} (h : (arnd l)[i]? = some x) : sAt l i = x := by simp [sAt, List.getD_eq_getElem?_getD, h]
def rgIn (l : List TPoint) (i n : Nat) : Bool := (List.range n).all fun k => hmI (sAt l i) (sAt l k) == wantN l.length i k
def rgAt (l : List TPoint) (i : Nat) : Bool := isSeg (sAt l i) && rgIn l i i
def rgOk (l : List TPoint) (n : Nat) : Bool := (List.range n).all (rgAt l)
theorem rgIn_succ (l : List TPoint) (i k : Nat) : rgIn l i (k + 1) = (rgIn l i k && (hmI (sAt l i) (sAt l k) == wantN l.length i k)) := by simp [rgIn, List.range_succ]
theorem rgOk_succ (l : List TPoint) (i : Nat) : rgOk l (i + 1) = (rgOk l i && rgAt l i) := by simp [rgOk, List.range_succ]
theorem rgIn_not {l : List TPoint} {i k n : Nat} (h : (hmI (sAt l i) (sAt l k) == wantN l.length i k) = false) (hk : k < n) : rgIn l i n = false := by
  simp only [rgIn, List.all_eq_false, List.mem_range]
  exact ⟨k, hk, by simp [h]⟩
theorem rgOk_not {l : List TPoint} {i n : Nat} (h : rgAt l i = false) (hi : i < n) : rgOk l n = false := by
  simp only [rgOk, List.all_eq_false, List.mem_range]
  exact ⟨i, hi, by simp [h]⟩
def isRing (l : List TPoint) : Bool := inr l.length 3 10 && rgOk l l.length
theorem isRing_len {l : List TPoint} (h : isRing l = true) : 3 ≤ l.length ∧ l.length ≤ 10 := by
  simp only [isRing, inr, Bool.and_eq_true, decide_eq_true_eq] at h
  omega
def ringSegs (l : List TPoint) : List TSegment := if isRing l then arnd l else []
theorem ringSegs_t {l : List TPoint} (h : isRing l = true) : ringSegs l = arnd l := by simp [ringSegs, h]
theorem ringSegs_f {l : List TPoint} (h : isRing l = false) : ringSegs l = [] := by simp [ringSegs, h]
theorem ringSegs_le (l : List TPoint) : (ringSegs l).length ≤ 10 := by
  unfold ringSegs
  split
  · have := isRing_len (by assumption); rw [arnd_len]; omega
  · simp
abbrev twS (n : Int) (s : TSegment) : Int := wsub (wadd n (wmul s.a.x s.b.y)) (wmul s.a.y s.b.x)
abbrev twI (n : Int) (s : TSegment) : Int := wadd n (wsub (wmul s.a.x s.b.y) (wmul s.a.y s.b.x))
theorem tw_eq (n : Int) (s : TSegment) : twI n s = twS n s := by
  unfold twI twS wadd wsub
  generalize wmul s.a.x s.b.y = p
  generalize wmul s.a.y s.b.x = q
  unfold IntKind.wrap
  simp [IntKind.bits, IntKind.signed]
  repeat' split
  all_goals omega
theorem tw_fun : twI = twS := by
  funext n s
  exact tw_eq n s
def twice (l : List TPoint) : Int := (ringSegs l).foldl twS 0
abbrev stepA (n : Int) (x : TFeature) : Int := if x.kind == 3 then wadd n (wmax (twice x.points) (IntKind.i64.wrap (-(twice x.points)))) else n
def totArea (l : List TFeature) : Int := l.foldl stepA 0

set_option maxRecDepth 100000 in
set_option maxHeartbeats 2000000 in
theorem arnd_s (l : List TPoint) (hl : l.length ≤ 1048576) : VCalls Try.prog 56 [.ro 2 (l.map TPoint.en)] (fun r M => r = .ro 4 ((arnd l).map TSegment.en) ∧ M = []) := by
  refine VCalls.bodyE Try.func56 rfl 28 rfl (fun E hE => ?_)
  simp only [List.reduceReplicate, List.cons_append, List.nil_append]
  have hclo : Clo (.ro 2 (l.map TPoint.en)) := clo_list TPoint.clo_en
  have hclA : Clo (.ro 4 ((arnd l).map TSegment.en)) := clo_list TSegment.clo_en
  have hal := arnd_len l
  repeat' ((first
    | ((with_reducible show AL _ _ _ _ _ _ _); first | refine AL.any ?_ | refine AL.nil ?_)
    | ((with_reducible show DL _ _ _ _ _ _ _); first | refine DL.any ?_ | refine DL.nil ?_)
    | ((with_reducible show DLM _ _ _ _ _ _ _ _ _ _); first | refine DLM.any ?_ | refine DLM.mk ?_ | refine DLM.nil ?_)
    | ((with_reducible show AW _ _ _ _ _ _); first | refine AW.seq ?_ | refine AW.region ?_ | refine AW.skip ?_ | (refine AW.loopD hE (fun i : Nat => [.ro 2 (l.map TPoint.en), .any, .any, .own 0 i, I (i : Int), .any, .any, .any, .any, .any, .any, .any, .any, .any, .any, .any, .any, .any, .any, .any, .any, .any, .any, .any, .any, .any, .any, .any, .any]) (fun i => [some ⟨78, 4, i, false, ((arnd l).take i).map TSegment.en⟩]) (fun i => (arnd l).length - i) (fun i => i ≤ (arnd l).length) 0 (Nat.zero_le _) ?_ (by first | rfl | (simp [fil_zero]; done)) ?_) | refine AW.drM (id := 5) 15 14 ?_ | refine AW.cT ?_ | refine AW.cF ?_ | (refine AW.c2 ?_ ?_ <;> (intro h; try simp only [Bool.not_eq_true', Bool.not_eq_false'] at h)) | refine AW.block ?_ | refine AW.exit ?_ | refine AW.ret ?_)
    | with_reducible refine (if_pos rfl).mpr ?_
    | with_reducible refine (if_neg (by decide)).mpr ?_) <;> (try dsimp only))
  · (repeat' (first | exact Wk.nil | refine Wk.any ?_ | (with_reducible refine Wk.same ?_) | refine Wk.of ?_ ?_)) <;> first | rfl | (simp)
  · intro i hi
    have hclo : Clo (.ro 2 (l.map TPoint.en)) := clo_list TPoint.clo_en
    have hclA : Clo (.ro 4 ((arnd l).map TSegment.en)) := clo_list TSegment.clo_en
    have hal := arnd_len l
    by_cases hlt : i < (arnd l).length
    · skip
      obtain ⟨a, b, ha, hb, hs⟩ := arnd_get (l := l) (i := i) (by omega)
      have ht : decide ((i : Int) < ((l.map TPoint.en).length : Int)) = true := by simp; omega
      have hn := next_ix hlt (by omega)
      have hix := arnd_ix (l := l) (i := i) (by omega) hl
      have hz : ((l.map TPoint.en).length : Int) ≠ 0 := by rw [List.length_map]; omega
      have h0 : 0 ≤ (IntKind.i64.wrap ((i : Int) + 1)).tmod ((l.map TPoint.en).length : Int) := by rw [hix]; omega
      have hga := map_get (f := TPoint.en) ha
      have hgb : (l.map TPoint.en)[((IntKind.i64.wrap ((i : Int) + 1)).tmod ((l.map TPoint.en).length : Int)).toNat]? = some b.en := by rw [hix]; exact map_get hb
      have hm := map_take_succ (f := TSegment.en) hs
      repeat' ((first
        | ((with_reducible show AL _ _ _ _ _ _ _); first | refine AL.any ?_ | refine AL.nil ?_)
        | ((with_reducible show DL _ _ _ _ _ _ _); first | refine DL.any ?_ | refine DL.nil ?_)
        | ((with_reducible show DLM _ _ _ _ _ _ _ _ _ _); first | refine DLM.any ?_ | refine DLM.mk ?_ | refine DLM.nil ?_)
        | ((with_reducible show AW _ _ _ _ _ _); first | refine AW.seq ?_ | refine AW.region ?_ | refine AW.skip ?_ | refine AW.drM (id := 5) 15 14 ?_ | refine AW.cT ?_ | refine AW.cF ?_ | (refine AW.c2 ?_ ?_ <;> (intro h; try simp only [Bool.not_eq_true', Bool.not_eq_false'] at h)) | refine AW.block ?_ | refine AW.exit ?_ | refine AW.ret ?_)
        | with_reducible refine (if_pos rfl).mpr ?_
        | with_reducible refine (if_neg (by decide)).mpr ?_) <;> (try dsimp only))
      all_goals first
        | (refine ⟨i + 1, _, hlt, by omega, ?_, by rw [hm] <;> rfl, ?_, ?_⟩; (focus ((repeat' (first | exact Wk.nil | refine Wk.any ?_ | (with_reducible refine Wk.same ?_) | refine Wk.of ?_ ?_)) <;> (simp_all))); (focus ((repeat' (first | exact Fits.nil _ | refine Fits.cons ?_ ?_ | exact Fits.any _ | exact Fits.c _ _ | exact Fits.own (by rfl) | exact Fits.ref (by rfl) | exact Fits.clo (by assumption) | exact Fits.clo (clo_of (by rfl)) | exact Fits.clo (clo_fn _))))); (focus (exact fits_row (clo_rows TSegment.clo_en))))
    · have e : i = (arnd l).length := by omega
      have ht : decide ((i : Int) < ((l.map TPoint.en).length : Int)) = false := by simp; omega
      subst e
      repeat' ((first
        | ((with_reducible show AL _ _ _ _ _ _ _); first | refine AL.any ?_ | refine AL.nil ?_)
        | ((with_reducible show DL _ _ _ _ _ _ _); first | refine DL.any ?_ | refine DL.nil ?_)
        | ((with_reducible show DLM _ _ _ _ _ _ _ _ _ _); first | refine DLM.any ?_ | refine DLM.mk ?_ | refine DLM.nil ?_)
        | ((with_reducible show AW _ _ _ _ _ _); first | refine AW.seq ?_ | refine AW.region ?_ | refine AW.skip ?_ | (refine AW.freezeRet (t := 2) (id := 0) rfl rfl rfl rfl (clo_rows TSegment.clo_en) ?_; (try simp only [List.take_length]); try dsimp only [dput, List.set, cond_true, cond_false, Nat.zero_add, Nat.add_zero, Nat.reduceAdd, splice, List.take, List.drop, List.length, List.nil_append, List.cons_append, List.append, TPoint.en, TSegment.en, TBox.en, TFeature.en, TMeet.en, TPlace.en, TCover.en, TLabel.en, TPiece.en, TLevel.en, TChart.en, TReason.en, TEdit.en, TEntry.en, TEdition.en, TListing.en, TAtlas.en, TEvent.en, TWindow.en]) | refine AW.drM (id := 5) 15 14 ?_ | refine AW.cT ?_ | refine AW.cF ?_ | (refine AW.c2 ?_ ?_ <;> (intro h; try simp only [Bool.not_eq_true', Bool.not_eq_false'] at h)) | refine AW.block ?_ | refine AW.exit ?_ | refine AW.ret ?_)
        | with_reducible refine (if_pos rfl).mpr ?_
        | with_reducible refine (if_neg (by decide)).mpr ?_) <;> (try dsimp only))
      all_goals exact Fin.one rfl (RV.tmp (by rfl)) (clo_list TSegment.clo_en) ⟨rfl, rfl⟩

set_option maxRecDepth 100000 in
set_option maxHeartbeats 2000000 in
theorem arnd_i (l : List TPoint) (hl : l.length ≤ 1048576) : VCalls Try.prog 78 [.ro 2 (l.map TPoint.en)] (fun r M => r = .ro 4 ((arnd l).map TSegment.en) ∧ M = []) := by
  refine VCalls.bodyE Try.func78 rfl 28 rfl (fun E hE => ?_)
  simp only [List.reduceReplicate, List.cons_append, List.nil_append]
  have hclo : Clo (.ro 2 (l.map TPoint.en)) := clo_list TPoint.clo_en
  have hclA : Clo (.ro 4 ((arnd l).map TSegment.en)) := clo_list TSegment.clo_en
  have hal := arnd_len l
  repeat' ((first
    | ((with_reducible show AL _ _ _ _ _ _ _); first | refine AL.any ?_ | refine AL.nil ?_)
    | ((with_reducible show DL _ _ _ _ _ _ _); first | refine DL.any ?_ | refine DL.nil ?_)
    | ((with_reducible show DLM _ _ _ _ _ _ _ _ _ _); first | refine DLM.any ?_ | refine DLM.mk ?_ | refine DLM.nil ?_)
    | ((with_reducible show AW _ _ _ _ _ _); first | refine AW.seq ?_ | refine AW.region ?_ | refine AW.skip ?_ | (refine AW.loopD hE (fun i : Nat => [.ro 2 (l.map TPoint.en), .any, .any, .own 0 i, .any, .any, .any, .ro 2 (l.map TPoint.en), I (l.map TPoint.en).length, I (i : Int), .any, .any, .any, .any, .any, .any, .any, .any, .any, .any, .any, .any, .any, .any, .any, .any, .any, .any, .any]) (fun i => [some ⟨78, 4, i, false, ((arnd l).take i).map TSegment.en⟩]) (fun i => (arnd l).length - i) (fun i => i ≤ (arnd l).length) 0 (Nat.zero_le _) ?_ (by first | rfl | (simp [fil_zero]; done)) ?_) | refine AW.drM (id := 5) 12 11 ?_ | refine AW.cT ?_ | refine AW.cF ?_ | (refine AW.c2 ?_ ?_ <;> (intro h; try simp only [Bool.not_eq_true', Bool.not_eq_false'] at h)) | refine AW.block ?_ | refine AW.exit ?_ | refine AW.ret ?_)
    | with_reducible refine (if_pos rfl).mpr ?_
    | with_reducible refine (if_neg (by decide)).mpr ?_) <;> (try dsimp only))
  · (repeat' (first | exact Wk.nil | refine Wk.any ?_ | (with_reducible refine Wk.same ?_) | refine Wk.of ?_ ?_)) <;> first | rfl | (simp)
  · intro i hi
    have hclo : Clo (.ro 2 (l.map TPoint.en)) := clo_list TPoint.clo_en
    have hclA : Clo (.ro 4 ((arnd l).map TSegment.en)) := clo_list TSegment.clo_en
    have hal := arnd_len l
    by_cases hlt : i < (arnd l).length
    · skip
      obtain ⟨a, b, ha, hb, hs⟩ := arnd_get (l := l) (i := i) (by omega)
      have ht : decide ((i : Int) < ((l.map TPoint.en).length : Int)) = true := by simp; omega
      have hn := next_ix hlt (by omega)
      have hix := arnd_ix (l := l) (i := i) (by omega) hl
      have hz : ((l.map TPoint.en).length : Int) ≠ 0 := by rw [List.length_map]; omega
      have h0 : 0 ≤ (IntKind.i64.wrap ((i : Int) + 1)).tmod ((l.map TPoint.en).length : Int) := by rw [hix]; omega
      have hga := map_get (f := TPoint.en) ha
      have hgb : (l.map TPoint.en)[((IntKind.i64.wrap ((i : Int) + 1)).tmod ((l.map TPoint.en).length : Int)).toNat]? = some b.en := by rw [hix]; exact map_get hb
      have hm := map_take_succ (f := TSegment.en) hs
      repeat' ((first
        | ((with_reducible show AL _ _ _ _ _ _ _); first | refine AL.any ?_ | refine AL.nil ?_)
        | ((with_reducible show DL _ _ _ _ _ _ _); first | refine DL.any ?_ | refine DL.nil ?_)
        | ((with_reducible show DLM _ _ _ _ _ _ _ _ _ _); first | refine DLM.any ?_ | refine DLM.mk ?_ | refine DLM.nil ?_)
        | ((with_reducible show AW _ _ _ _ _ _); first | refine AW.seq ?_ | refine AW.region ?_ | refine AW.skip ?_ | refine AW.drM (id := 5) 12 11 ?_ | refine AW.cT ?_ | refine AW.cF ?_ | (refine AW.c2 ?_ ?_ <;> (intro h; try simp only [Bool.not_eq_true', Bool.not_eq_false'] at h)) | refine AW.block ?_ | refine AW.exit ?_ | refine AW.ret ?_)
        | with_reducible refine (if_pos rfl).mpr ?_
        | with_reducible refine (if_neg (by decide)).mpr ?_) <;> (try dsimp only))
      all_goals first
        | (refine ⟨i + 1, _, hlt, by omega, ?_, by rw [hm] <;> rfl, ?_, ?_⟩; (focus ((repeat' (first | exact Wk.nil | refine Wk.any ?_ | (with_reducible refine Wk.same ?_) | refine Wk.of ?_ ?_)) <;> (simp_all))); (focus ((repeat' (first | exact Fits.nil _ | refine Fits.cons ?_ ?_ | exact Fits.any _ | exact Fits.c _ _ | exact Fits.own (by rfl) | exact Fits.ref (by rfl) | exact Fits.clo (by assumption) | exact Fits.clo (clo_of (by rfl)) | exact Fits.clo (clo_fn _))))); (focus (exact fits_row (clo_rows TSegment.clo_en))))
    · have e : i = (arnd l).length := by omega
      have ht : decide ((i : Int) < ((l.map TPoint.en).length : Int)) = false := by simp; omega
      subst e
      repeat' ((first
        | ((with_reducible show AL _ _ _ _ _ _ _); first | refine AL.any ?_ | refine AL.nil ?_)
        | ((with_reducible show DL _ _ _ _ _ _ _); first | refine DL.any ?_ | refine DL.nil ?_)
        | ((with_reducible show DLM _ _ _ _ _ _ _ _ _ _); first | refine DLM.any ?_ | refine DLM.mk ?_ | refine DLM.nil ?_)
        | ((with_reducible show AW _ _ _ _ _ _); first | refine AW.seq ?_ | refine AW.region ?_ | refine AW.skip ?_ | (refine AW.freezeRet (t := 2) (id := 0) rfl rfl rfl rfl (clo_rows TSegment.clo_en) ?_; (try simp only [List.take_length]); try dsimp only [dput, List.set, cond_true, cond_false, Nat.zero_add, Nat.add_zero, Nat.reduceAdd, splice, List.take, List.drop, List.length, List.nil_append, List.cons_append, List.append, TPoint.en, TSegment.en, TBox.en, TFeature.en, TMeet.en, TPlace.en, TCover.en, TLabel.en, TPiece.en, TLevel.en, TChart.en, TReason.en, TEdit.en, TEntry.en, TEdition.en, TListing.en, TAtlas.en, TEvent.en, TWindow.en]) | refine AW.drM (id := 5) 12 11 ?_ | refine AW.cT ?_ | refine AW.cF ?_ | (refine AW.c2 ?_ ?_ <;> (intro h; try simp only [Bool.not_eq_true', Bool.not_eq_false'] at h)) | refine AW.block ?_ | refine AW.exit ?_ | refine AW.ret ?_)
        | with_reducible refine (if_pos rfl).mpr ?_
        | with_reducible refine (if_neg (by decide)).mpr ?_) <;> (try dsimp only))
      all_goals exact Fin.one rfl (RV.tmp (by rfl)) (clo_list TSegment.clo_en) ⟨rfl, rfl⟩

end Go.Proofs.Ytniabadeddgmbaa.Abs

/- The walk of the program's HowMeet. -/
namespace Go.Proofs.Ytniabadeddgmbaa.Abs
open Go.Proofs Go.RowKit
set_option linter.unusedVariables false
set_option linter.unusedSimpArgs false
attribute [local irreducible] OpA AL AW DL DLM DLR DLS QOp POp VCalls VCallsI
set_option maxRecDepth 100000 in
set_option maxHeartbeats 2000000 in
theorem meet_i (s t : TSegment) : VCalls Try.prog 77 [.agg s.en, .agg t.en] (fun r M => r = I (hmI s t) ∧ M = []) := by
  refine VCalls.body Try.func77 rfl 107 rfl (fun E => ?_)
  simp only [List.reduceReplicate, List.cons_append, List.nil_append]
  dsimp only [TPoint.en, TSegment.en]
  repeat' ((first
    | ((with_reducible show AL _ _ _ _ _ _ _); first | refine AL.any ?_ | refine AL.any (h := POp.k Try.func69 (hc := by first | exact isSeg_i s | exact isSeg_i t)) ?_ | refine AL.any (h := POp.k Try.func72 (hc := by first | exact side_i s.a s.b t.a | exact side_i s.a s.b t.b | exact side_i t.a t.b s.a | exact side_i t.a t.b s.b)) ?_ | refine AL.any (h := POp.k Try.func83 (hc := by first | exact fwd_i s | exact fwd_i t)) ?_ | refine AL.any (h := POp.k Try.func84 (hc := by first | exact bef_i (fwdW s).a (fwdW t).a | exact bef_i (fwdW t).b (fwdW s).b | exact bef_i (fwdW s).b (fwdW s).a | exact bef_i (fwdW s).b (fwdW t).a | exact bef_i (fwdW t).b (fwdW s).a | exact bef_i (fwdW t).b (fwdW t).a)) ?_ | refine AL.any (h := POp.k Try.func85 (hc := by first | exact isOn_i s t.a | exact isOn_i s t.b | exact isOn_i t s.a | exact isOn_i t s.b)) ?_ | refine AL.U ?_ | refine AL.F ?_ | refine AL.T ?_ | refine AL.T (h := POp.k Try.func69 (hc := by first | exact isSeg_i s | exact isSeg_i t)) ?_ | refine AL.T (h := POp.k Try.func72 (hc := by first | exact side_i s.a s.b t.a | exact side_i s.a s.b t.b | exact side_i t.a t.b s.a | exact side_i t.a t.b s.b)) ?_ | refine AL.T (h := POp.k Try.func83 (hc := by first | exact fwd_i s | exact fwd_i t)) ?_ | refine AL.T (h := POp.k Try.func84 (hc := by first | exact bef_i (fwdW s).a (fwdW t).a | exact bef_i (fwdW t).b (fwdW s).b | exact bef_i (fwdW s).b (fwdW s).a | exact bef_i (fwdW s).b (fwdW t).a | exact bef_i (fwdW t).b (fwdW s).a | exact bef_i (fwdW t).b (fwdW t).a)) ?_ | refine AL.T (h := POp.k Try.func85 (hc := by first | exact isOn_i s t.a | exact isOn_i s t.b | exact isOn_i t s.a | exact isOn_i t s.b)) ?_ | refine AL.W ?_ | refine AL.W (h := fun h => by (try rw [h]); exact POp.k Try.func69 (hc := by first | exact isSeg_i s | exact isSeg_i t)) ?_ | refine AL.W (h := fun h => by (try rw [h]); exact POp.k Try.func72 (hc := by first | exact side_i s.a s.b t.a | exact side_i s.a s.b t.b | exact side_i t.a t.b s.a | exact side_i t.a t.b s.b)) ?_ | refine AL.W (h := fun h => by (try rw [h]); exact POp.k Try.func83 (hc := by first | exact fwd_i s | exact fwd_i t)) ?_ | refine AL.W (h := fun h => by (try rw [h]); exact POp.k Try.func84 (hc := by first | exact bef_i (fwdW s).a (fwdW t).a | exact bef_i (fwdW t).b (fwdW s).b | exact bef_i (fwdW s).b (fwdW s).a | exact bef_i (fwdW s).b (fwdW t).a | exact bef_i (fwdW t).b (fwdW s).a | exact bef_i (fwdW t).b (fwdW t).a)) ?_ | refine AL.W (h := fun h => by (try rw [h]); exact POp.k Try.func85 (hc := by first | exact isOn_i s t.a | exact isOn_i s t.b | exact isOn_i t s.a | exact isOn_i t s.b)) ?_ | refine AL.nil ?_)
    | ((with_reducible show DL _ _ _ _ _ _ _); first | refine DL.any ?_ | refine DL.any (h := POp.k Try.func69 (hc := by first | exact isSeg_i s | exact isSeg_i t)) ?_ | refine DL.any (h := POp.k Try.func72 (hc := by first | exact side_i s.a s.b t.a | exact side_i s.a s.b t.b | exact side_i t.a t.b s.a | exact side_i t.a t.b s.b)) ?_ | refine DL.any (h := POp.k Try.func83 (hc := by first | exact fwd_i s | exact fwd_i t)) ?_ | refine DL.any (h := POp.k Try.func84 (hc := by first | exact bef_i (fwdW s).a (fwdW t).a | exact bef_i (fwdW t).b (fwdW s).b | exact bef_i (fwdW s).b (fwdW s).a | exact bef_i (fwdW s).b (fwdW t).a | exact bef_i (fwdW t).b (fwdW s).a | exact bef_i (fwdW t).b (fwdW t).a)) ?_ | refine DL.any (h := POp.k Try.func85 (hc := by first | exact isOn_i s t.a | exact isOn_i s t.b | exact isOn_i t s.a | exact isOn_i t s.b)) ?_ | refine DL.U ?_ | refine DL.F ?_ | refine DL.T ?_ | refine DL.T (h := POp.k Try.func69 (hc := by first | exact isSeg_i s | exact isSeg_i t)) ?_ | refine DL.T (h := POp.k Try.func72 (hc := by first | exact side_i s.a s.b t.a | exact side_i s.a s.b t.b | exact side_i t.a t.b s.a | exact side_i t.a t.b s.b)) ?_ | refine DL.T (h := POp.k Try.func83 (hc := by first | exact fwd_i s | exact fwd_i t)) ?_ | refine DL.T (h := POp.k Try.func84 (hc := by first | exact bef_i (fwdW s).a (fwdW t).a | exact bef_i (fwdW t).b (fwdW s).b | exact bef_i (fwdW s).b (fwdW s).a | exact bef_i (fwdW s).b (fwdW t).a | exact bef_i (fwdW t).b (fwdW s).a | exact bef_i (fwdW t).b (fwdW t).a)) ?_ | refine DL.T (h := POp.k Try.func85 (hc := by first | exact isOn_i s t.a | exact isOn_i s t.b | exact isOn_i t s.a | exact isOn_i t s.b)) ?_ | refine DL.W ?_ | refine DL.W (h := fun h => by (try rw [h]); exact POp.k Try.func69 (hc := by first | exact isSeg_i s | exact isSeg_i t)) ?_ | refine DL.W (h := fun h => by (try rw [h]); exact POp.k Try.func72 (hc := by first | exact side_i s.a s.b t.a | exact side_i s.a s.b t.b | exact side_i t.a t.b s.a | exact side_i t.a t.b s.b)) ?_ | refine DL.W (h := fun h => by (try rw [h]); exact POp.k Try.func83 (hc := by first | exact fwd_i s | exact fwd_i t)) ?_ | refine DL.W (h := fun h => by (try rw [h]); exact POp.k Try.func84 (hc := by first | exact bef_i (fwdW s).a (fwdW t).a | exact bef_i (fwdW t).b (fwdW s).b | exact bef_i (fwdW s).b (fwdW s).a | exact bef_i (fwdW s).b (fwdW t).a | exact bef_i (fwdW t).b (fwdW s).a | exact bef_i (fwdW t).b (fwdW t).a)) ?_ | refine DL.W (h := fun h => by (try rw [h]); exact POp.k Try.func85 (hc := by first | exact isOn_i s t.a | exact isOn_i s t.b | exact isOn_i t s.a | exact isOn_i t s.b)) ?_ | refine DL.nil ?_)
    | ((with_reducible show DLR _ _ _ _ _ _ _ _ _); first | refine DLR.any ?_ | refine DLR.alloc rfl rfl (by first | exact ze2 | exact ze3 | exact ze4 | exact ze5 | exact ze6 | exact ze7 | exact ze8 | exact ze9 | exact ze10 | exact ze11 | exact ze12 | exact ze14 | exact ze17 | exact ze19 | exact ze21 | exact ze30 | exact ze31 | exact ze32 | exact ze33 | exact ze35 | exact ze44 | exact ze46 | exact ze50 | exact ze51 | exact ze74 | exact ze77 | exact ze78 | exact ze99 | exact ze100 | exact ze102 | exact ze105) rfl rfl ?_ | refine DLR.box rfl rfl (by rfl) (by rfl) rfl rfl ?_ | refine DLR.store rfl rfl (by rfl) rfl rfl rfl rfl rfl (by rfl) (by rfl) (TT_ok.ld _ _ (by rfl)) (by rfl) (by rfl) rfl ?_ | refine DLR.any (h := fun Y => POp.k Try.func69 (hc := by first | exact isSeg_i s | exact isSeg_i t)) ?_ | refine DLR.any (h := fun Y => POp.k Try.func72 (hc := by first | exact side_i s.a s.b t.a | exact side_i s.a s.b t.b | exact side_i t.a t.b s.a | exact side_i t.a t.b s.b)) ?_ | refine DLR.any (h := fun Y => POp.k Try.func83 (hc := by first | exact fwd_i s | exact fwd_i t)) ?_ | refine DLR.any (h := fun Y => POp.k Try.func84 (hc := by first | exact bef_i (fwdW s).a (fwdW t).a | exact bef_i (fwdW t).b (fwdW s).b | exact bef_i (fwdW s).b (fwdW s).a | exact bef_i (fwdW s).b (fwdW t).a | exact bef_i (fwdW t).b (fwdW s).a | exact bef_i (fwdW t).b (fwdW t).a)) ?_ | refine DLR.any (h := fun Y => POp.k Try.func85 (hc := by first | exact isOn_i s t.a | exact isOn_i s t.b | exact isOn_i t s.a | exact isOn_i t s.b)) ?_ | refine DLR.W ?_ | refine DLR.W (h := fun h Y => by (try rw [h]); exact POp.k Try.func69 (hc := by first | exact isSeg_i s | exact isSeg_i t)) ?_ | refine DLR.W (h := fun h Y => by (try rw [h]); exact POp.k Try.func72 (hc := by first | exact side_i s.a s.b t.a | exact side_i s.a s.b t.b | exact side_i t.a t.b s.a | exact side_i t.a t.b s.b)) ?_ | refine DLR.W (h := fun h Y => by (try rw [h]); exact POp.k Try.func83 (hc := by first | exact fwd_i s | exact fwd_i t)) ?_ | refine DLR.W (h := fun h Y => by (try rw [h]); exact POp.k Try.func84 (hc := by first | exact bef_i (fwdW s).a (fwdW t).a | exact bef_i (fwdW t).b (fwdW s).b | exact bef_i (fwdW s).b (fwdW s).a | exact bef_i (fwdW s).b (fwdW t).a | exact bef_i (fwdW t).b (fwdW s).a | exact bef_i (fwdW t).b (fwdW t).a)) ?_ | refine DLR.W (h := fun h Y => by (try rw [h]); exact POp.k Try.func85 (hc := by first | exact isOn_i s t.a | exact isOn_i s t.b | exact isOn_i t s.a | exact isOn_i t s.b)) ?_ | refine DLR.nil ?_)
    | ((with_reducible show AW _ _ _ _ _ _); first | refine AW.seq ?_ | refine AW.region ?_ | refine AW.skip ?_ | refine AW.dr (id := 3) 13 ?_ | refine AW.dr (id := 5) 3 ?_ | refine AW.drawnR (id := 6) 7 2 [none, none, none, none, some 0, some 1, some 0] [some Rsv, some Rsv] rfl (by kernel_rfl) (by kernel_rfl) (by kernel_rfl) (by rfl) ?_ | refine AW.dr (id := 16) 18 ?_ | refine AW.cT ?_ | refine AW.cF ?_ | (refine AW.c2 ?_ ?_ <;> (intro h; try simp only [Bool.not_eq_true', Bool.not_eq_false'] at h)) | refine AW.block ?_ | refine AW.exit ?_ | refine AW.ret ?_)
    | with_reducible refine (if_pos rfl).mpr ?_
    | with_reducible refine (if_neg (by decide)).mpr ?_) <;> (try dsimp only))
  all_goals exact Fin.one rfl (RV.tmp (by rfl)) (clo_c _) ⟨by first | (simp only [hmI]; simp_all; done) | (unfold hmI wmul; simp only [*, Bool.false_eq_true, if_false, if_true]; done), rfl⟩

end Go.Proofs.Ytniabadeddgmbaa.Abs

/- The walk of the reference's HowMeet. -/
namespace Go.Proofs.Ytniabadeddgmbaa.Abs
open Go.Proofs Go.RowKit
set_option linter.unusedVariables false
set_option linter.unusedSimpArgs false
attribute [local irreducible] OpA AL AW DL DLM DLR DLS QOp POp VCalls VCallsI
set_option maxRecDepth 100000 in
set_option maxHeartbeats 2000000 in
theorem shared_s (s t : TSegment) : VCalls Try.prog 82 [.agg s.en, .agg t.en] (fun r M => r = I ((shK s t 4).length) ∧ M = []) := by
  refine VCalls.bodyE Try.func82 rfl 72 rfl (fun E hE => ?_)
  simp only [List.reduceReplicate, List.cons_append, List.nil_append]
  repeat' ((first
    | ((with_reducible show AL _ _ _ _ _ _ _); first | refine AL.any ?_ | refine AL.any (h := POp.k Try.func87 (hc := by first | exact isOn_s s (endE s t i) | exact isOn_s t (endE s t i))) ?_ | refine AL.U ?_ | refine AL.F ?_ | refine AL.T ?_ | refine AL.T (h := POp.k Try.func87 (hc := by first | exact isOn_s s (endE s t i) | exact isOn_s t (endE s t i))) ?_ | refine AL.W ?_ | refine AL.W (h := fun h => by (try rw [h]); exact POp.k Try.func87 (hc := by first | exact isOn_s s (endE s t i) | exact isOn_s t (endE s t i))) ?_ | refine AL.nil ?_)
    | ((with_reducible show DL _ _ _ _ _ _ _); first | refine DL.any ?_ | refine DL.any (h := POp.k Try.func87 (hc := by first | exact isOn_s s (endE s t i) | exact isOn_s t (endE s t i))) ?_ | refine DL.U ?_ | refine DL.F ?_ | refine DL.T ?_ | refine DL.T (h := POp.k Try.func87 (hc := by first | exact isOn_s s (endE s t i) | exact isOn_s t (endE s t i))) ?_ | refine DL.W ?_ | refine DL.W (h := fun h => by (try rw [h]); exact POp.k Try.func87 (hc := by first | exact isOn_s s (endE s t i) | exact isOn_s t (endE s t i))) ?_ | refine DL.nil ?_)
    | ((with_reducible show AW _ _ _ _ _ _); first | refine AW.seq ?_ | refine AW.region ?_ | refine AW.skip ?_ | (refine AW.loopD hE (fun i : Nat => [.any, .any, .ref 0 0 4 0 0, .ref 1 0 4 0 0, .any, .own 2 (shK s t i).length, .own 3 0, I (i : Int), .any, .any, .any, .any, .any, .any, .any, .any, .any, .any, .any, .any, .any, .any, .any, .any, .any, .any, .any, .any, .any, .any, .any, .any, .any, .any, .any, .any, .any, .any, .any, .any, .any, .any, .any, .any, .any, .any, .any, .any, .any, .any, .any, .any, .any, .any, .any, .any, .any, .any, .any, .any, .any, .any, .any, .any, .any, .any, .any, .any, .any, .any, .any, .any, .any, .any]) (fun i => [some ⟨78, 4, 0, true, [s.en]⟩, some ⟨78, 4, 0, true, [t.en]⟩, some ⟨35, 2, (shK s t i).length, false, (shK s t i).map TPoint.en⟩, some ⟨35, 2, 0, false, (endsL s t).map TPoint.en⟩]) (fun i => 4 - i) (fun i => i ≤ 4) 0 (Nat.zero_le _) ?_ (by first | rfl | (simp; done)) ?_) | refine AW.dr (id := 6) 19 ?_ | refine AW.dr (id := 10) 10 ?_ | refine AW.cT ?_ | refine AW.cF ?_ | (refine AW.c2 ?_ ?_ <;> (intro h; try simp only [Bool.not_eq_true', Bool.not_eq_false'] at h)) | refine AW.block ?_ | refine AW.exit ?_ | refine AW.ret ?_)
    | with_reducible refine (if_pos rfl).mpr ?_
    | with_reducible refine (if_neg (by decide)).mpr ?_) <;> (try dsimp only))
  · (repeat' (first | exact Wk.nil | refine Wk.any ?_ | (with_reducible refine Wk.same ?_) | refine Wk.of ?_ ?_)) <;> first | rfl | (simp; done)
  · intro i hv_i
    by_cases hlt_i : i < 4
    · skip
      have hti : decide ((i : Int) < 4) = true := by simp; omega
      have hni : IntKind.i64.wrap ((i : Int) + 1) = ((i + 1 : Nat) : Int) := by rw [w64 (by omega) (by omega)]; omega
      have hge := end_get (s := s) (t := t) hlt_i
      have hix : ((i : Int)).toNat < ((endsL s t).map TPoint.en).length := by simp [endsL]; omega
      have hln := shK_len s t i
      have hz := onK_zero s t i
      have hm1 := sh_add (s := s) (t := t) (i := i)
      have hm0 := sh_not (s := s) (t := t) (i := i)
      have hc2 : (decide ((i : Int) < 2) = true ∧ decide ((i : Int) ≥ 2) = false ∧ onE s t i = onW t (endE s t i)) ∨ (decide ((i : Int) < 2) = false ∧ decide ((i : Int) ≥ 2) = true ∧ onE s t i = onW s (endE s t i)) := by
        rcases Nat.lt_or_ge i 2 with h2 | h2
        · exact .inl ⟨by simp; omega, by simp; omega, by simp [onE, h2]⟩
        · exact .inr ⟨by simp; omega, by simp; omega, by simp [onE]; omega⟩
      rcases hc2 with ⟨hA, hB, hon⟩ | ⟨hA, hB, hon⟩
      cases hw : onW t (endE s t i)
      all_goals
        repeat' ((first
          | ((with_reducible show AL _ _ _ _ _ _ _); first | refine AL.any ?_ | refine AL.any (h := POp.k Try.func87 (hc := by first | exact isOn_s s (endE s t i) | exact isOn_s t (endE s t i))) ?_ | refine AL.U ?_ | refine AL.F ?_ | refine AL.T ?_ | refine AL.T (h := POp.k Try.func87 (hc := by first | exact isOn_s s (endE s t i) | exact isOn_s t (endE s t i))) ?_ | refine AL.W ?_ | refine AL.W (h := fun h => by (try rw [h]); exact POp.k Try.func87 (hc := by first | exact isOn_s s (endE s t i) | exact isOn_s t (endE s t i))) ?_ | refine AL.nil ?_)
          | ((with_reducible show DL _ _ _ _ _ _ _); first | refine DL.any ?_ | refine DL.any (h := POp.k Try.func87 (hc := by first | exact isOn_s s (endE s t i) | exact isOn_s t (endE s t i))) ?_ | refine DL.U ?_ | refine DL.F ?_ | refine DL.T ?_ | refine DL.T (h := POp.k Try.func87 (hc := by first | exact isOn_s s (endE s t i) | exact isOn_s t (endE s t i))) ?_ | refine DL.W ?_ | refine DL.W (h := fun h => by (try rw [h]); exact POp.k Try.func87 (hc := by first | exact isOn_s s (endE s t i) | exact isOn_s t (endE s t i))) ?_ | refine DL.nil ?_)
          | ((with_reducible show AW _ _ _ _ _ _); first | refine AW.seq ?_ | refine AW.region ?_ | refine AW.skip ?_ | (refine AW.loopD hE (fun k : Nat => [.any, .any, .ref 0 0 4 0 0, .ref 1 0 4 0 0, .any, .own 2 (shK s t i).length, .own 3 0, I (i : Int), B (onK s t i k), I (k : Int), .any, .any, .any, .any, .any, .any, .any, .any, .any, .any, .any, .any, .any, .any, .any, .any, .any, .any, .any, .any, .any, .any, .any, .any, .any, .any, .any, .any, .any, .any, .any, .any, .any, .any, .any, .any, .any, .any, .any, .any, .any, .any, .any, .any, .any, .any, .any, .any, .any, .any, .any, .any, .any, .any, .any, .any, .any, .any, .any, .any, .any, .any, .any, .any]) (fun k => [some ⟨78, 4, 0, true, [s.en]⟩, some ⟨78, 4, 0, true, [t.en]⟩, some ⟨35, 2, (shK s t i).length, false, (shK s t i).map TPoint.en⟩, some ⟨35, 2, 0, false, (endsL s t).map TPoint.en⟩]) (fun k => (shK s t i).length - k) (fun k => k ≤ (shK s t i).length) 0 (Nat.zero_le _) ?_ (by first | rfl | (simp; done)) ?_) | refine AW.dr (id := 6) 19 ?_ | refine AW.dr (id := 10) 10 ?_ | refine AW.cT ?_ | refine AW.cF ?_ | (refine AW.c2 ?_ ?_ <;> (intro h; try simp only [Bool.not_eq_true', Bool.not_eq_false'] at h)) | refine AW.block ?_ | refine AW.exit ?_ | refine AW.ret ?_)
          | with_reducible refine (if_pos rfl).mpr ?_
          | with_reducible refine (if_neg (by decide)).mpr ?_) <;> (try dsimp only))
        · (repeat' (first | exact Wk.nil | refine Wk.any ?_ | (with_reducible refine Wk.same ?_) | refine Wk.of ?_ ?_)) <;> first | rfl | (simp_all)
        · intro k hv_k
          by_cases hlt_k : k < (shK s t i).length
          · skip
            obtain ⟨q, hq⟩ : ∃ q, (shK s t i)[k]? = some q := ⟨_, List.getElem?_eq_getElem hlt_k⟩
            have hgk := map_get (f := TPoint.en) hq
            have htk := lt_true (f := TPoint.en) hlt_k
            have hnk := next_ix hlt_k (by omega)
            have hkx : ((k : Int)).toNat < ((shK s t i).map TPoint.en).length := by simp; omega
            have hks := onK_succ hq
            repeat' ((first
              | ((with_reducible show AL _ _ _ _ _ _ _); first | refine AL.any ?_ | refine AL.any (h := POp.k Try.func87 (hc := by first | exact isOn_s s (endE s t i) | exact isOn_s t (endE s t i))) ?_ | refine AL.U ?_ | refine AL.F ?_ | refine AL.T ?_ | refine AL.T (h := POp.k Try.func87 (hc := by first | exact isOn_s s (endE s t i) | exact isOn_s t (endE s t i))) ?_ | refine AL.W ?_ | refine AL.W (h := fun h => by (try rw [h]); exact POp.k Try.func87 (hc := by first | exact isOn_s s (endE s t i) | exact isOn_s t (endE s t i))) ?_ | refine AL.nil ?_)
              | ((with_reducible show DL _ _ _ _ _ _ _); first | refine DL.any ?_ | refine DL.any (h := POp.k Try.func87 (hc := by first | exact isOn_s s (endE s t i) | exact isOn_s t (endE s t i))) ?_ | refine DL.U ?_ | refine DL.F ?_ | refine DL.T ?_ | refine DL.T (h := POp.k Try.func87 (hc := by first | exact isOn_s s (endE s t i) | exact isOn_s t (endE s t i))) ?_ | refine DL.W ?_ | refine DL.W (h := fun h => by (try rw [h]); exact POp.k Try.func87 (hc := by first | exact isOn_s s (endE s t i) | exact isOn_s t (endE s t i))) ?_ | refine DL.nil ?_)
              | ((with_reducible show AW _ _ _ _ _ _); first | refine AW.seq ?_ | refine AW.region ?_ | refine AW.skip ?_ | refine AW.dr (id := 6) 19 ?_ | refine AW.dr (id := 10) 10 ?_ | refine AW.cT ?_ | refine AW.cF ?_ | (refine AW.c2 ?_ ?_ <;> (intro h; try simp only [Bool.not_eq_true', Bool.not_eq_false'] at h)) | refine AW.block ?_ | refine AW.exit ?_ | refine AW.ret ?_)
              | with_reducible refine (if_pos rfl).mpr ?_
              | with_reducible refine (if_neg (by decide)).mpr ?_) <;> (try dsimp only))
            all_goals first
              | (refine ⟨k + 1, _, hlt_k, by omega, ?_, rfl, ?_, ?_⟩; (focus ((repeat' (first | exact Wk.nil | refine Wk.any ?_ | (with_reducible refine Wk.same ?_) | refine Wk.of ?_ ?_)) <;> (simp_all))); (focus ((repeat' (first | exact Fits.nil _ | refine Fits.cons ?_ ?_ | exact Fits.any _ | exact Fits.c _ _ | exact Fits.own (by rfl) | exact Fits.ref (by rfl) | exact Fits.clo (by assumption) | exact Fits.clo (clo_of (by rfl)) | exact Fits.clo (clo_fn _))))); (focus (exact fitsM_cons (clo_one s.clo_en) (fitsM_cons (clo_one t.clo_en) (fitsM_cons (clo_rows TPoint.clo_en) (fitsM_cons (clo_rows TPoint.clo_en) (FitsM.nil _)))))))
          · have e_k : k = (shK s t i).length := by omega
            have htk := lt_false (f := TPoint.en) (show ¬ k < (shK s t i).length by omega)
            subst e_k
            repeat' ((first
              | ((with_reducible show AL _ _ _ _ _ _ _); first | refine AL.any ?_ | refine AL.any (h := POp.k Try.func87 (hc := by first | exact isOn_s s (endE s t i) | exact isOn_s t (endE s t i))) ?_ | refine AL.U ?_ | refine AL.F ?_ | refine AL.T ?_ | refine AL.T (h := POp.k Try.func87 (hc := by first | exact isOn_s s (endE s t i) | exact isOn_s t (endE s t i))) ?_ | refine AL.W ?_ | refine AL.W (h := fun h => by (try rw [h]); exact POp.k Try.func87 (hc := by first | exact isOn_s s (endE s t i) | exact isOn_s t (endE s t i))) ?_ | refine AL.nil ?_)
              | ((with_reducible show DL _ _ _ _ _ _ _); first | refine DL.any ?_ | refine DL.any (h := POp.k Try.func87 (hc := by first | exact isOn_s s (endE s t i) | exact isOn_s t (endE s t i))) ?_ | refine DL.U ?_ | refine DL.F ?_ | refine DL.T ?_ | refine DL.T (h := POp.k Try.func87 (hc := by first | exact isOn_s s (endE s t i) | exact isOn_s t (endE s t i))) ?_ | refine DL.W ?_ | refine DL.W (h := fun h => by (try rw [h]); exact POp.k Try.func87 (hc := by first | exact isOn_s s (endE s t i) | exact isOn_s t (endE s t i))) ?_ | refine DL.nil ?_)
              | ((with_reducible show AW _ _ _ _ _ _); first | refine AW.seq ?_ | refine AW.region ?_ | refine AW.skip ?_ | refine AW.dr (id := 6) 19 ?_ | refine AW.dr (id := 10) 10 ?_ | refine AW.cT ?_ | refine AW.cF ?_ | (refine AW.c2 ?_ ?_ <;> (intro h; try simp only [Bool.not_eq_true', Bool.not_eq_false'] at h)) | refine AW.block ?_ | refine AW.exit ?_ | refine AW.ret ?_)
              | with_reducible refine (if_pos rfl).mpr ?_
              | with_reducible refine (if_neg (by decide)).mpr ?_) <;> (try dsimp only))
            all_goals first
              | (refine ⟨i + 1, _, hlt_i, by omega, ?_, by rw [(hm1 (by assumption)).1, (hm1 (by assumption)).2] <;> rfl, ?_, ?_⟩; (focus ((repeat' (first | exact Wk.nil | refine Wk.any ?_ | (with_reducible refine Wk.same ?_) | refine Wk.of ?_ ?_)) <;> (simp_all))); (focus ((repeat' (first | exact Fits.nil _ | refine Fits.cons ?_ ?_ | exact Fits.any _ | exact Fits.c _ _ | exact Fits.own (by rfl) | exact Fits.ref (by rfl) | exact Fits.clo (by assumption) | exact Fits.clo (clo_of (by rfl)) | exact Fits.clo (clo_fn _))))); (focus (exact fitsM_cons (clo_one s.clo_en) (fitsM_cons (clo_one t.clo_en) (fitsM_cons (clo_rows TPoint.clo_en) (fitsM_cons (clo_rows TPoint.clo_en) (FitsM.nil _)))))))
              | (refine ⟨i + 1, _, hlt_i, by omega, ?_, by rw [(hm0 (by assumption)).1, (hm0 (by assumption)).2] <;> rfl, ?_, ?_⟩; (focus ((repeat' (first | exact Wk.nil | refine Wk.any ?_ | (with_reducible refine Wk.same ?_) | refine Wk.of ?_ ?_)) <;> (simp_all))); (focus ((repeat' (first | exact Fits.nil _ | refine Fits.cons ?_ ?_ | exact Fits.any _ | exact Fits.c _ _ | exact Fits.own (by rfl) | exact Fits.ref (by rfl) | exact Fits.clo (by assumption) | exact Fits.clo (clo_of (by rfl)) | exact Fits.clo (clo_fn _))))); (focus (exact fitsM_cons (clo_one s.clo_en) (fitsM_cons (clo_one t.clo_en) (fitsM_cons (clo_rows TPoint.clo_en) (fitsM_cons (clo_rows TPoint.clo_en) (FitsM.nil _)))))))
    · have e_i : i = 4 := by omega
      have hti : decide ((i : Int) < 4) = false := by simp; omega
      subst e_i
      repeat' ((first
        | ((with_reducible show AL _ _ _ _ _ _ _); first | refine AL.any ?_ | refine AL.any (h := POp.k Try.func87 (hc := by first | exact isOn_s s (endE s t i) | exact isOn_s t (endE s t i))) ?_ | refine AL.U ?_ | refine AL.F ?_ | refine AL.T ?_ | refine AL.T (h := POp.k Try.func87 (hc := by first | exact isOn_s s (endE s t i) | exact isOn_s t (endE s t i))) ?_ | refine AL.W ?_ | refine AL.W (h := fun h => by (try rw [h]); exact POp.k Try.func87 (hc := by first | exact isOn_s s (endE s t i) | exact isOn_s t (endE s t i))) ?_ | refine AL.nil ?_)
        | ((with_reducible show DL _ _ _ _ _ _ _); first | refine DL.any ?_ | refine DL.any (h := POp.k Try.func87 (hc := by first | exact isOn_s s (endE s t i) | exact isOn_s t (endE s t i))) ?_ | refine DL.U ?_ | refine DL.F ?_ | refine DL.T ?_ | refine DL.T (h := POp.k Try.func87 (hc := by first | exact isOn_s s (endE s t i) | exact isOn_s t (endE s t i))) ?_ | refine DL.W ?_ | refine DL.W (h := fun h => by (try rw [h]); exact POp.k Try.func87 (hc := by first | exact isOn_s s (endE s t i) | exact isOn_s t (endE s t i))) ?_ | refine DL.nil ?_)
        | ((with_reducible show AW _ _ _ _ _ _); first | refine AW.seq ?_ | refine AW.region ?_ | refine AW.skip ?_ | refine AW.dr (id := 6) 19 ?_ | refine AW.dr (id := 10) 10 ?_ | refine AW.cT ?_ | refine AW.cF ?_ | (refine AW.c2 ?_ ?_ <;> (intro h; try simp only [Bool.not_eq_true', Bool.not_eq_false'] at h)) | refine AW.block ?_ | refine AW.exit ?_ | refine AW.ret ?_)
        | with_reducible refine (if_pos rfl).mpr ?_
        | with_reducible refine (if_neg (by decide)).mpr ?_) <;> (try dsimp only))
      all_goals first
        | exact Fin.one rfl (RV.tmp (by rfl)) (clo_c _) ⟨by first | rfl | (simp_all; done), rfl⟩

end Go.Proofs.Ytniabadeddgmbaa.Abs

/- The walk of the reference's HowMeet. -/
namespace Go.Proofs.Ytniabadeddgmbaa.Abs
open Go.Proofs Go.RowKit
set_option linter.unusedVariables false
set_option linter.unusedSimpArgs false
attribute [local irreducible] OpA AL AW DL DLM DLR DLS QOp POp VCalls VCallsI
set_option maxRecDepth 100000 in
set_option maxHeartbeats 2000000 in
theorem meet_s0 (s t : TSegment) : VCalls Try.prog 73 [.agg s.en, .agg t.en] (fun r M => r = I (hmS s t) ∧ M = []) := by
  refine VCalls.body Try.func73 rfl 118 rfl (fun E => ?_)
  simp only [List.reduceReplicate, List.cons_append, List.nil_append]
  dsimp only [TPoint.en, TSegment.en]
  repeat' ((first
    | ((with_reducible show AL _ _ _ _ _ _ _); first | refine AL.any ?_ | refine AL.any (h := POp.k Try.func39 (hc := min_s _ _)) ?_ | refine AL.any (h := POp.k Try.func59 (hc := by first | exact isSeg_s s | exact isSeg_s t)) ?_ | refine AL.any (h := POp.k Try.func61 (hc := by first | exact side_s s.a s.b t.a | exact side_s s.a s.b t.b | exact side_s t.a t.b s.a | exact side_s t.a t.b s.b)) ?_ | refine AL.any (h := POp.k Try.func74 (hc := max_s _ _)) ?_ | refine AL.any (h := POp.k Try.func82 (hc := shared_s s t)) ?_ | refine AL.U ?_ | refine AL.F ?_ | refine AL.T ?_ | refine AL.T (h := POp.k Try.func39 (hc := min_s _ _)) ?_ | refine AL.T (h := POp.k Try.func59 (hc := by first | exact isSeg_s s | exact isSeg_s t)) ?_ | refine AL.T (h := POp.k Try.func61 (hc := by first | exact side_s s.a s.b t.a | exact side_s s.a s.b t.b | exact side_s t.a t.b s.a | exact side_s t.a t.b s.b)) ?_ | refine AL.T (h := POp.k Try.func74 (hc := max_s _ _)) ?_ | refine AL.T (h := POp.k Try.func82 (hc := shared_s s t)) ?_ | refine AL.W ?_ | refine AL.W (h := fun h => by (try rw [h]); exact POp.k Try.func39 (hc := min_s _ _)) ?_ | refine AL.W (h := fun h => by (try rw [h]); exact POp.k Try.func59 (hc := by first | exact isSeg_s s | exact isSeg_s t)) ?_ | refine AL.W (h := fun h => by (try rw [h]); exact POp.k Try.func61 (hc := by first | exact side_s s.a s.b t.a | exact side_s s.a s.b t.b | exact side_s t.a t.b s.a | exact side_s t.a t.b s.b)) ?_ | refine AL.W (h := fun h => by (try rw [h]); exact POp.k Try.func74 (hc := max_s _ _)) ?_ | refine AL.W (h := fun h => by (try rw [h]); exact POp.k Try.func82 (hc := shared_s s t)) ?_ | refine AL.nil ?_)
    | ((with_reducible show DL _ _ _ _ _ _ _); first | refine DL.any ?_ | refine DL.any (h := POp.k Try.func39 (hc := min_s _ _)) ?_ | refine DL.any (h := POp.k Try.func59 (hc := by first | exact isSeg_s s | exact isSeg_s t)) ?_ | refine DL.any (h := POp.k Try.func61 (hc := by first | exact side_s s.a s.b t.a | exact side_s s.a s.b t.b | exact side_s t.a t.b s.a | exact side_s t.a t.b s.b)) ?_ | refine DL.any (h := POp.k Try.func74 (hc := max_s _ _)) ?_ | refine DL.any (h := POp.k Try.func82 (hc := shared_s s t)) ?_ | refine DL.U ?_ | refine DL.F ?_ | refine DL.T ?_ | refine DL.T (h := POp.k Try.func39 (hc := min_s _ _)) ?_ | refine DL.T (h := POp.k Try.func59 (hc := by first | exact isSeg_s s | exact isSeg_s t)) ?_ | refine DL.T (h := POp.k Try.func61 (hc := by first | exact side_s s.a s.b t.a | exact side_s s.a s.b t.b | exact side_s t.a t.b s.a | exact side_s t.a t.b s.b)) ?_ | refine DL.T (h := POp.k Try.func74 (hc := max_s _ _)) ?_ | refine DL.T (h := POp.k Try.func82 (hc := shared_s s t)) ?_ | refine DL.W ?_ | refine DL.W (h := fun h => by (try rw [h]); exact POp.k Try.func39 (hc := min_s _ _)) ?_ | refine DL.W (h := fun h => by (try rw [h]); exact POp.k Try.func59 (hc := by first | exact isSeg_s s | exact isSeg_s t)) ?_ | refine DL.W (h := fun h => by (try rw [h]); exact POp.k Try.func61 (hc := by first | exact side_s s.a s.b t.a | exact side_s s.a s.b t.b | exact side_s t.a t.b s.a | exact side_s t.a t.b s.b)) ?_ | refine DL.W (h := fun h => by (try rw [h]); exact POp.k Try.func74 (hc := max_s _ _)) ?_ | refine DL.W (h := fun h => by (try rw [h]); exact POp.k Try.func82 (hc := shared_s s t)) ?_ | refine DL.nil ?_)
    | ((with_reducible show AW _ _ _ _ _ _); first | refine AW.seq ?_ | refine AW.region ?_ | refine AW.skip ?_ | refine AW.dr (id := 3) 63 ?_ | refine AW.dr (id := 7) 30 ?_ | refine AW.cT ?_ | refine AW.cF ?_ | (refine AW.c2 ?_ ?_ <;> (intro h; try simp only [Bool.not_eq_true', Bool.not_eq_false'] at h)) | refine AW.block ?_ | refine AW.exit ?_ | refine AW.ret ?_)
    | with_reducible refine (if_pos rfl).mpr ?_
    | with_reducible refine (if_neg (by decide)).mpr ?_) <;> (try dsimp only))
  all_goals exact Fin.one rfl (RV.tmp (by rfl)) (clo_c _) ⟨by first | (simp only [hmS, apW]; simp_all; done) | (unfold hmS apW wmul; simp only [*, Bool.false_eq_true, if_false, if_true]; done), rfl⟩

theorem meet_s (s t : TSegment) : VCalls Try.prog 73 [.agg s.en, .agg t.en] (fun r M => r = I (hmI s t) ∧ M = []) := hmS_eq s t ▸ meet_s0 s t
end Go.Proofs.Ytniabadeddgmbaa.Abs

/- The walks of IsRing. -/
namespace Go.Proofs.Ytniabadeddgmbaa.Abs
open Go.Proofs Go.RowKit
set_option linter.unusedVariables false
set_option linter.unusedSimpArgs false
attribute [local irreducible] OpA AL AW DL DLM DLR DLS QOp POp VCalls VCallsI
set_option maxRecDepth 100000 in
set_option maxHeartbeats 2000000 in
theorem isRing_s (l : List TPoint) (hl : l.length ≤ 1048576) : VCalls Try.prog 54 [.ro 2 (l.map TPoint.en)] (fun r M => r = B (isRing l) ∧ M = []) := by
  refine VCalls.bodyE Try.func54 rfl 55 rfl (fun E hE => ?_)
  simp only [List.reduceReplicate, List.cons_append, List.nil_append]
  have hclo : Clo (.ro 2 (l.map TPoint.en)) := clo_list TPoint.clo_en
  have hclA : Clo (.ro 4 ((arnd l).map TSegment.en)) := clo_list TSegment.clo_en
  have hal := arnd_len l
  have hclo : Clo (.ro 2 (l.map TPoint.en)) := clo_list TPoint.clo_en
  have hclA : Clo (.ro 4 ((arnd l).map TSegment.en)) := clo_list TSegment.clo_en
  have hal := arnd_len l
  repeat' ((first
    | ((with_reducible show AL _ _ _ _ _ _ _); first | refine AL.any ?_ | refine AL.any (h := POp.k Try.func38 (hc := inr_s _ _ _)) ?_ | refine AL.any (h := POp.k Try.func56 (hc := arnd_s _ (by assumption))) ?_ | refine AL.any (h := POp.k Try.func59 (hc := isSeg_s x)) ?_ | refine AL.any (h := POp.k Try.func73 (hc := meet_s x y)) ?_ | refine AL.U ?_ | refine AL.F ?_ | refine AL.T ?_ | refine AL.T (h := POp.k Try.func38 (hc := inr_s _ _ _)) ?_ | refine AL.T (h := POp.k Try.func56 (hc := arnd_s _ (by assumption))) ?_ | refine AL.T (h := POp.k Try.func59 (hc := isSeg_s x)) ?_ | refine AL.T (h := POp.k Try.func73 (hc := meet_s x y)) ?_ | refine AL.W ?_ | refine AL.W (h := fun h => by (try rw [h]); exact POp.k Try.func38 (hc := inr_s _ _ _)) ?_ | refine AL.W (h := fun h => by (try rw [h]); exact POp.k Try.func56 (hc := arnd_s _ (by assumption))) ?_ | refine AL.W (h := fun h => by (try rw [h]); exact POp.k Try.func59 (hc := isSeg_s x)) ?_ | refine AL.W (h := fun h => by (try rw [h]); exact POp.k Try.func73 (hc := meet_s x y)) ?_ | refine AL.nil ?_)
    | ((with_reducible show DL _ _ _ _ _ _ _); first | refine DL.any ?_ | refine DL.any (h := POp.k Try.func38 (hc := inr_s _ _ _)) ?_ | refine DL.any (h := POp.k Try.func56 (hc := arnd_s _ (by assumption))) ?_ | refine DL.any (h := POp.k Try.func59 (hc := isSeg_s x)) ?_ | refine DL.any (h := POp.k Try.func73 (hc := meet_s x y)) ?_ | refine DL.nil ?_)
    | ((with_reducible show AW _ _ _ _ _ _); first | refine AW.seq ?_ | refine AW.region ?_ | refine AW.skip ?_ | (refine AW.loopD hE (fun i : Nat => [.ro 2 (l.map TPoint.en), .any, .any, .ro 4 ((arnd l).map TSegment.en), I (i : Int), .any, .any, .any, .any, .any, .any, .any, .any, .any, .any, .any, .any, .any, .any, .any, .any, .any, .any, .any, .any, .any, .any, .any, .any, .any, .any, .any, .any, .any, .any, .any, .any, .any, .any, .any, .any, .any, .any, .any, .any, .any, .any, .any, .any, .any, .any, .any, .any, .any, .any, .any]) (fun i => []) (fun i => (arnd l).length - i) (fun i => i ≤ (arnd l).length ∧ rgOk l i = true) 0 ⟨Nat.zero_le _, by simp [rgOk]⟩ ?_ (by first | rfl | (simp; done)) ?_) | refine AW.dr (id := 15) 10 ?_ | refine AW.cT ?_ | refine AW.cF ?_ | (refine AW.c2 ?_ ?_ <;> (intro h; try simp only [Bool.not_eq_true', Bool.not_eq_false'] at h)) | refine AW.block ?_ | refine AW.exit ?_ | refine AW.ret ?_)
    | with_reducible refine (if_pos rfl).mpr ?_
    | with_reducible refine (if_neg (by decide)).mpr ?_) <;> (try dsimp only))
  any_goals first | exact Fin.one rfl (RV.tmp (by rfl)) (clo_c _) ⟨by simp_all [isRing, inr] <;> omega, rfl⟩
  · (repeat' (first | exact Wk.nil | refine Wk.any ?_ | (with_reducible refine Wk.same ?_) | refine Wk.of ?_ ?_)) <;> first | rfl | (simp; done)
  · intro i hv_i
    have hclo : Clo (.ro 2 (l.map TPoint.en)) := clo_list TPoint.clo_en
    have hclA : Clo (.ro 4 ((arnd l).map TSegment.en)) := clo_list TSegment.clo_en
    have hal := arnd_len l
    by_cases hlt_i : i < (arnd l).length
    · skip
      obtain ⟨x, hx⟩ : ∃ x, (arnd l)[i]? = some x := ⟨_, List.getElem?_eq_getElem hlt_i⟩
      have hgx := map_get (f := TSegment.en) hx
      have hti := lt_true (f := TSegment.en) hlt_i
      have hni := next_ix hlt_i (by omega)
      have hro := rgOk_succ l i
      have hsx := sAt_of hx
      have hra : rgAt l i = (isSeg x && rgIn l i i) := by unfold rgAt; rw [hsx]
      repeat' ((first
        | ((with_reducible show AL _ _ _ _ _ _ _); first | refine AL.any ?_ | refine AL.any (h := POp.k Try.func38 (hc := inr_s _ _ _)) ?_ | refine AL.any (h := POp.k Try.func56 (hc := arnd_s _ (by assumption))) ?_ | refine AL.any (h := POp.k Try.func59 (hc := isSeg_s x)) ?_ | refine AL.any (h := POp.k Try.func73 (hc := meet_s x y)) ?_ | refine AL.U ?_ | refine AL.F ?_ | refine AL.T ?_ | refine AL.T (h := POp.k Try.func38 (hc := inr_s _ _ _)) ?_ | refine AL.T (h := POp.k Try.func56 (hc := arnd_s _ (by assumption))) ?_ | refine AL.T (h := POp.k Try.func59 (hc := isSeg_s x)) ?_ | refine AL.T (h := POp.k Try.func73 (hc := meet_s x y)) ?_ | refine AL.W ?_ | refine AL.W (h := fun h => by (try rw [h]); exact POp.k Try.func38 (hc := inr_s _ _ _)) ?_ | refine AL.W (h := fun h => by (try rw [h]); exact POp.k Try.func56 (hc := arnd_s _ (by assumption))) ?_ | refine AL.W (h := fun h => by (try rw [h]); exact POp.k Try.func59 (hc := isSeg_s x)) ?_ | refine AL.W (h := fun h => by (try rw [h]); exact POp.k Try.func73 (hc := meet_s x y)) ?_ | refine AL.nil ?_)
        | ((with_reducible show DL _ _ _ _ _ _ _); first | refine DL.any ?_ | refine DL.any (h := POp.k Try.func38 (hc := inr_s _ _ _)) ?_ | refine DL.any (h := POp.k Try.func56 (hc := arnd_s _ (by assumption))) ?_ | refine DL.any (h := POp.k Try.func59 (hc := isSeg_s x)) ?_ | refine DL.any (h := POp.k Try.func73 (hc := meet_s x y)) ?_ | refine DL.nil ?_)
        | ((with_reducible show AW _ _ _ _ _ _); first | refine AW.seq ?_ | refine AW.region ?_ | refine AW.skip ?_ | (refine AW.loopD hE (fun k : Nat => [.ro 2 (l.map TPoint.en), .any, .any, .ro 4 ((arnd l).map TSegment.en), I (i : Int), I (k : Int), .any, .any, .any, .any, .any, .any, .any, .any, .any, .any, .any, .any, .any, .any, .any, .any, .any, .any, .any, .any, .any, .any, .any, .any, .any, .any, .any, .any, .any, .any, .any, .any, .any, .any, .any, .any, .any, .any, .any, .any, .any, .any, .any, .any, .any, .any, .any, .any, .any, .any]) (fun k => []) (fun k => i - k) (fun k => k ≤ i ∧ rgIn l i k = true) 0 ⟨Nat.zero_le _, by simp [rgIn]⟩ ?_ (by first | rfl | (simp; done)) ?_) | refine AW.dr (id := 15) 10 ?_ | refine AW.cT ?_ | refine AW.cF ?_ | (refine AW.c2 ?_ ?_ <;> (intro h; try simp only [Bool.not_eq_true', Bool.not_eq_false'] at h)) | refine AW.block ?_ | refine AW.exit ?_ | refine AW.ret ?_)
        | with_reducible refine (if_pos rfl).mpr ?_
        | with_reducible refine (if_neg (by decide)).mpr ?_) <;> (try dsimp only))
      any_goals first | exact Fin.one rfl (RV.tmp (by rfl)) (clo_c _) ⟨by have e2 := rgOk_not (l := l) (i := i) (n := l.length) (by simp_all) (by omega); simp_all [isRing], rfl⟩
      · (repeat' (first | exact Wk.nil | refine Wk.any ?_ | (with_reducible refine Wk.same ?_) | refine Wk.of ?_ ?_)) <;> first | rfl | (simp; done)
      · intro k hv_k
        have hclo : Clo (.ro 2 (l.map TPoint.en)) := clo_list TPoint.clo_en
        have hclA : Clo (.ro 4 ((arnd l).map TSegment.en)) := clo_list TSegment.clo_en
        have hal := arnd_len l
        by_cases hlt_k : k < i
        · skip
          obtain ⟨y, hy⟩ : ∃ y, (arnd l)[k]? = some y := ⟨_, List.getElem?_eq_getElem (by omega)⟩
          have hgy := map_get (f := TSegment.en) hy
          have htk : decide ((k : Int) < (i : Int)) = true := by simp; omega
          have hnk := next_ix hlt_k (by omega)
          have hsy := sAt_of hy
          have hrk : rgIn l i (k + 1) = (rgIn l i k && (hmI x y == wantN l.length i k)) := by rw [rgIn_succ, hsx, hsy]
          have hen : ((arnd l).map TSegment.en).length = l.length := by simp [hal]
          rcases want_s (n := l.length) (i := i) (k := k) (by omega) hlt_k hl with ⟨w1, wN⟩ | ⟨w1, w2, wN⟩ | ⟨w1, w2, w3, wN⟩ | ⟨w1, w2, w3, wN⟩
          all_goals try rw [← hen] at w3
          all_goals
            repeat' ((first
              | ((with_reducible show AL _ _ _ _ _ _ _); first | refine AL.any ?_ | refine AL.any (h := POp.k Try.func38 (hc := inr_s _ _ _)) ?_ | refine AL.any (h := POp.k Try.func56 (hc := arnd_s _ (by assumption))) ?_ | refine AL.any (h := POp.k Try.func59 (hc := isSeg_s x)) ?_ | refine AL.any (h := POp.k Try.func73 (hc := meet_s x y)) ?_ | refine AL.U ?_ | refine AL.F ?_ | refine AL.T ?_ | refine AL.T (h := POp.k Try.func38 (hc := inr_s _ _ _)) ?_ | refine AL.T (h := POp.k Try.func56 (hc := arnd_s _ (by assumption))) ?_ | refine AL.T (h := POp.k Try.func59 (hc := isSeg_s x)) ?_ | refine AL.T (h := POp.k Try.func73 (hc := meet_s x y)) ?_ | refine AL.W ?_ | refine AL.W (h := fun h => by (try rw [h]); exact POp.k Try.func38 (hc := inr_s _ _ _)) ?_ | refine AL.W (h := fun h => by (try rw [h]); exact POp.k Try.func56 (hc := arnd_s _ (by assumption))) ?_ | refine AL.W (h := fun h => by (try rw [h]); exact POp.k Try.func59 (hc := isSeg_s x)) ?_ | refine AL.W (h := fun h => by (try rw [h]); exact POp.k Try.func73 (hc := meet_s x y)) ?_ | refine AL.nil ?_)
              | ((with_reducible show DL _ _ _ _ _ _ _); first | refine DL.any ?_ | refine DL.any (h := POp.k Try.func38 (hc := inr_s _ _ _)) ?_ | refine DL.any (h := POp.k Try.func56 (hc := arnd_s _ (by assumption))) ?_ | refine DL.any (h := POp.k Try.func59 (hc := isSeg_s x)) ?_ | refine DL.any (h := POp.k Try.func73 (hc := meet_s x y)) ?_ | refine DL.nil ?_)
              | ((with_reducible show AW _ _ _ _ _ _); first | refine AW.seq ?_ | refine AW.region ?_ | refine AW.skip ?_ | refine AW.dr (id := 15) 10 ?_ | refine AW.cT ?_ | refine AW.cF ?_ | (refine AW.c2 ?_ ?_ <;> (intro h; try simp only [Bool.not_eq_true', Bool.not_eq_false'] at h)) | refine AW.block ?_ | refine AW.exit ?_ | refine AW.ret ?_)
              | with_reducible refine (if_pos rfl).mpr ?_
              | with_reducible refine (if_neg (by decide)).mpr ?_) <;> (try dsimp only))
            all_goals first
              | (refine ⟨k + 1, _, ⟨hlt_k, by simp_all⟩, by omega, ?_, rfl, ?_, ?_⟩; (focus ((repeat' (first | exact Wk.nil | refine Wk.any ?_ | (with_reducible refine Wk.same ?_) | refine Wk.of ?_ ?_)) <;> (simp_all))); (focus ((repeat' (first | exact Fits.nil _ | refine Fits.cons ?_ ?_ | exact Fits.any _ | exact Fits.c _ _ | exact Fits.own (by rfl) | exact Fits.ref (by rfl) | exact Fits.clo (by assumption) | exact Fits.clo (clo_of (by rfl)) | exact Fits.clo (clo_fn _))))); (focus (exact FitsM.nil _)))
              | exact Fin.one rfl (RV.tmp (by rfl)) (clo_c _) ⟨by have e1 := rgIn_not (l := l) (i := i) (k := k) (n := i) (by simp_all) hlt_k; have e2 := rgOk_not (l := l) (i := i) (n := l.length) (by simp_all) (by omega); simp_all [isRing], rfl⟩
        · have e_k : k = i := by omega
          have htk : decide ((k : Int) < (i : Int)) = false := by simp; omega
          have e2 := e_k.symm
          subst e2
          repeat' ((first
            | ((with_reducible show AL _ _ _ _ _ _ _); first | refine AL.any ?_ | refine AL.any (h := POp.k Try.func38 (hc := inr_s _ _ _)) ?_ | refine AL.any (h := POp.k Try.func56 (hc := arnd_s _ (by assumption))) ?_ | refine AL.any (h := POp.k Try.func59 (hc := isSeg_s x)) ?_ | refine AL.any (h := POp.k Try.func73 (hc := meet_s x y)) ?_ | refine AL.U ?_ | refine AL.F ?_ | refine AL.T ?_ | refine AL.T (h := POp.k Try.func38 (hc := inr_s _ _ _)) ?_ | refine AL.T (h := POp.k Try.func56 (hc := arnd_s _ (by assumption))) ?_ | refine AL.T (h := POp.k Try.func59 (hc := isSeg_s x)) ?_ | refine AL.T (h := POp.k Try.func73 (hc := meet_s x y)) ?_ | refine AL.W ?_ | refine AL.W (h := fun h => by (try rw [h]); exact POp.k Try.func38 (hc := inr_s _ _ _)) ?_ | refine AL.W (h := fun h => by (try rw [h]); exact POp.k Try.func56 (hc := arnd_s _ (by assumption))) ?_ | refine AL.W (h := fun h => by (try rw [h]); exact POp.k Try.func59 (hc := isSeg_s x)) ?_ | refine AL.W (h := fun h => by (try rw [h]); exact POp.k Try.func73 (hc := meet_s x y)) ?_ | refine AL.nil ?_)
            | ((with_reducible show DL _ _ _ _ _ _ _); first | refine DL.any ?_ | refine DL.any (h := POp.k Try.func38 (hc := inr_s _ _ _)) ?_ | refine DL.any (h := POp.k Try.func56 (hc := arnd_s _ (by assumption))) ?_ | refine DL.any (h := POp.k Try.func59 (hc := isSeg_s x)) ?_ | refine DL.any (h := POp.k Try.func73 (hc := meet_s x y)) ?_ | refine DL.nil ?_)
            | ((with_reducible show AW _ _ _ _ _ _); first | refine AW.seq ?_ | refine AW.region ?_ | refine AW.skip ?_ | refine AW.dr (id := 15) 10 ?_ | refine AW.cT ?_ | refine AW.cF ?_ | (refine AW.c2 ?_ ?_ <;> (intro h; try simp only [Bool.not_eq_true', Bool.not_eq_false'] at h)) | refine AW.block ?_ | refine AW.exit ?_ | refine AW.ret ?_)
            | with_reducible refine (if_pos rfl).mpr ?_
            | with_reducible refine (if_neg (by decide)).mpr ?_) <;> (try dsimp only))
          all_goals first
            | (refine ⟨i + 1, _, ⟨hlt_i, by simp_all⟩, by omega, ?_, rfl, ?_, ?_⟩; (focus ((repeat' (first | exact Wk.nil | refine Wk.any ?_ | (with_reducible refine Wk.same ?_) | refine Wk.of ?_ ?_)) <;> (simp_all))); (focus ((repeat' (first | exact Fits.nil _ | refine Fits.cons ?_ ?_ | exact Fits.any _ | exact Fits.c _ _ | exact Fits.own (by rfl) | exact Fits.ref (by rfl) | exact Fits.clo (by assumption) | exact Fits.clo (clo_of (by rfl)) | exact Fits.clo (clo_fn _))))); (focus (exact FitsM.nil _)))
    · have e_i : i = (arnd l).length := by omega
      have hti := lt_false (f := TSegment.en) (show ¬ i < (arnd l).length by omega)
      subst e_i
      repeat' ((first
        | ((with_reducible show AL _ _ _ _ _ _ _); first | refine AL.any ?_ | refine AL.any (h := POp.k Try.func38 (hc := inr_s _ _ _)) ?_ | refine AL.any (h := POp.k Try.func56 (hc := arnd_s _ (by assumption))) ?_ | refine AL.any (h := POp.k Try.func59 (hc := isSeg_s x)) ?_ | refine AL.any (h := POp.k Try.func73 (hc := meet_s x y)) ?_ | refine AL.U ?_ | refine AL.F ?_ | refine AL.T ?_ | refine AL.T (h := POp.k Try.func38 (hc := inr_s _ _ _)) ?_ | refine AL.T (h := POp.k Try.func56 (hc := arnd_s _ (by assumption))) ?_ | refine AL.T (h := POp.k Try.func59 (hc := isSeg_s x)) ?_ | refine AL.T (h := POp.k Try.func73 (hc := meet_s x y)) ?_ | refine AL.W ?_ | refine AL.W (h := fun h => by (try rw [h]); exact POp.k Try.func38 (hc := inr_s _ _ _)) ?_ | refine AL.W (h := fun h => by (try rw [h]); exact POp.k Try.func56 (hc := arnd_s _ (by assumption))) ?_ | refine AL.W (h := fun h => by (try rw [h]); exact POp.k Try.func59 (hc := isSeg_s x)) ?_ | refine AL.W (h := fun h => by (try rw [h]); exact POp.k Try.func73 (hc := meet_s x y)) ?_ | refine AL.nil ?_)
        | ((with_reducible show DL _ _ _ _ _ _ _); first | refine DL.any ?_ | refine DL.any (h := POp.k Try.func38 (hc := inr_s _ _ _)) ?_ | refine DL.any (h := POp.k Try.func56 (hc := arnd_s _ (by assumption))) ?_ | refine DL.any (h := POp.k Try.func59 (hc := isSeg_s x)) ?_ | refine DL.any (h := POp.k Try.func73 (hc := meet_s x y)) ?_ | refine DL.nil ?_)
        | ((with_reducible show AW _ _ _ _ _ _); first | refine AW.seq ?_ | refine AW.region ?_ | refine AW.skip ?_ | refine AW.dr (id := 15) 10 ?_ | refine AW.cT ?_ | refine AW.cF ?_ | (refine AW.c2 ?_ ?_ <;> (intro h; try simp only [Bool.not_eq_true', Bool.not_eq_false'] at h)) | refine AW.block ?_ | refine AW.exit ?_ | refine AW.ret ?_)
        | with_reducible refine (if_pos rfl).mpr ?_
        | with_reducible refine (if_neg (by decide)).mpr ?_) <;> (try dsimp only))
      all_goals first
        | exact Fin.one rfl (RV.tmp (by rfl)) (clo_c _) ⟨by first | (simp_all [isRing]; done) | (simp_all [isRing, inr] <;> omega), rfl⟩

set_option maxRecDepth 100000 in
set_option maxHeartbeats 2000000 in
theorem isRing_i (l : List TPoint) (hl : l.length ≤ 1048576) : VCalls Try.prog 64 [.ro 2 (l.map TPoint.en)] (fun r M => r = B (isRing l) ∧ M = []) := by
  refine VCalls.bodyE Try.func64 rfl 59 rfl (fun E hE => ?_)
  simp only [List.reduceReplicate, List.cons_append, List.nil_append]
  have hclo : Clo (.ro 2 (l.map TPoint.en)) := clo_list TPoint.clo_en
  have hclA : Clo (.ro 4 ((arnd l).map TSegment.en)) := clo_list TSegment.clo_en
  have hal := arnd_len l
  have hclo : Clo (.ro 2 (l.map TPoint.en)) := clo_list TPoint.clo_en
  have hclA : Clo (.ro 4 ((arnd l).map TSegment.en)) := clo_list TSegment.clo_en
  have hal := arnd_len l
  repeat' ((first
    | ((with_reducible show AL _ _ _ _ _ _ _); first | refine AL.any ?_ | refine AL.any (h := POp.k Try.func69 (hc := isSeg_i x)) ?_ | refine AL.any (h := POp.k Try.func77 (hc := meet_i x y)) ?_ | refine AL.any (h := POp.k Try.func78 (hc := arnd_i _ (by assumption))) ?_ | refine AL.U ?_ | refine AL.F ?_ | refine AL.T ?_ | refine AL.T (h := POp.k Try.func69 (hc := isSeg_i x)) ?_ | refine AL.T (h := POp.k Try.func77 (hc := meet_i x y)) ?_ | refine AL.T (h := POp.k Try.func78 (hc := arnd_i _ (by assumption))) ?_ | refine AL.W ?_ | refine AL.W (h := fun h => by (try rw [h]); exact POp.k Try.func69 (hc := isSeg_i x)) ?_ | refine AL.W (h := fun h => by (try rw [h]); exact POp.k Try.func77 (hc := meet_i x y)) ?_ | refine AL.W (h := fun h => by (try rw [h]); exact POp.k Try.func78 (hc := arnd_i _ (by assumption))) ?_ | refine AL.nil ?_)
    | ((with_reducible show DL _ _ _ _ _ _ _); first | refine DL.any ?_ | refine DL.any (h := POp.k Try.func69 (hc := isSeg_i x)) ?_ | refine DL.any (h := POp.k Try.func77 (hc := meet_i x y)) ?_ | refine DL.any (h := POp.k Try.func78 (hc := arnd_i _ (by assumption))) ?_ | refine DL.nil ?_)
    | ((with_reducible show AW _ _ _ _ _ _); first | refine AW.seq ?_ | refine AW.region ?_ | refine AW.skip ?_ | (refine AW.loopD hE (fun i : Nat => [.ro 2 (l.map TPoint.en), .any, .any, .ro 4 ((arnd l).map TSegment.en), .any, .any, .any, .any, .any, .any, .any, .any, .any, .any, .any, .any, .any, .any, I (((arnd l).map TSegment.en).length : Int), I (i : Int), .any, .any, .any, .any, .any, .any, .any, .any, .any, .any, .any, .any, .any, .any, .any, .any, .any, .any, .any, .any, .any, .any, .any, .any, .any, .any, .any, .any, .any, .any, .any, .any, .any, .any, .any, .any, .any, .any, .any, .any]) (fun i => []) (fun i => (arnd l).length - i) (fun i => i ≤ (arnd l).length ∧ rgOk l i = true) 0 ⟨Nat.zero_le _, by simp [rgOk]⟩ ?_ (by first | rfl | (simp; done)) ?_) | refine AW.dr (id := 15) 10 ?_ | refine AW.cT ?_ | refine AW.cF ?_ | (refine AW.c2 ?_ ?_ <;> (intro h; try simp only [Bool.not_eq_true', Bool.not_eq_false'] at h)) | refine AW.block ?_ | refine AW.exit ?_ | refine AW.ret ?_)
    | with_reducible refine (if_pos rfl).mpr ?_
    | with_reducible refine (if_neg (by decide)).mpr ?_) <;> (try dsimp only))
  any_goals first | exact Fin.one rfl (RV.tmp (by rfl)) (clo_c _) ⟨by simp_all [isRing, inr] <;> omega, rfl⟩
  · (repeat' (first | exact Wk.nil | refine Wk.any ?_ | (with_reducible refine Wk.same ?_) | refine Wk.of ?_ ?_)) <;> first | rfl | (simp; done)
  · intro i hv_i
    have hclo : Clo (.ro 2 (l.map TPoint.en)) := clo_list TPoint.clo_en
    have hclA : Clo (.ro 4 ((arnd l).map TSegment.en)) := clo_list TSegment.clo_en
    have hal := arnd_len l
    by_cases hlt_i : i < (arnd l).length
    · skip
      obtain ⟨x, hx⟩ : ∃ x, (arnd l)[i]? = some x := ⟨_, List.getElem?_eq_getElem hlt_i⟩
      have hgx := map_get (f := TSegment.en) hx
      have hti := lt_true (f := TSegment.en) hlt_i
      have hni := next_ix hlt_i (by omega)
      have hro := rgOk_succ l i
      have hsx := sAt_of hx
      have hra : rgAt l i = (isSeg x && rgIn l i i) := by unfold rgAt; rw [hsx]
      repeat' ((first
        | ((with_reducible show AL _ _ _ _ _ _ _); first | refine AL.any ?_ | refine AL.any (h := POp.k Try.func69 (hc := isSeg_i x)) ?_ | refine AL.any (h := POp.k Try.func77 (hc := meet_i x y)) ?_ | refine AL.any (h := POp.k Try.func78 (hc := arnd_i _ (by assumption))) ?_ | refine AL.U ?_ | refine AL.F ?_ | refine AL.T ?_ | refine AL.T (h := POp.k Try.func69 (hc := isSeg_i x)) ?_ | refine AL.T (h := POp.k Try.func77 (hc := meet_i x y)) ?_ | refine AL.T (h := POp.k Try.func78 (hc := arnd_i _ (by assumption))) ?_ | refine AL.W ?_ | refine AL.W (h := fun h => by (try rw [h]); exact POp.k Try.func69 (hc := isSeg_i x)) ?_ | refine AL.W (h := fun h => by (try rw [h]); exact POp.k Try.func77 (hc := meet_i x y)) ?_ | refine AL.W (h := fun h => by (try rw [h]); exact POp.k Try.func78 (hc := arnd_i _ (by assumption))) ?_ | refine AL.nil ?_)
        | ((with_reducible show DL _ _ _ _ _ _ _); first | refine DL.any ?_ | refine DL.any (h := POp.k Try.func69 (hc := isSeg_i x)) ?_ | refine DL.any (h := POp.k Try.func77 (hc := meet_i x y)) ?_ | refine DL.any (h := POp.k Try.func78 (hc := arnd_i _ (by assumption))) ?_ | refine DL.nil ?_)
        | ((with_reducible show AW _ _ _ _ _ _); first | refine AW.seq ?_ | refine AW.region ?_ | refine AW.skip ?_ | (refine AW.loopD hE (fun k : Nat => [.ro 2 (l.map TPoint.en), .any, .any, .ro 4 ((arnd l).map TSegment.en), I (i : Int), .any, .any, .any, .any, .any, .any, .any, .any, .any, .any, .any, .any, .any, I (((arnd l).map TSegment.en).length : Int), I (i : Int), .any, .any, .any, .any, .any, .any, .any, .any, I (i : Int), I (k : Int), .any, .any, .any, .any, .any, .any, .any, .any, .any, .any, .any, .any, .any, .any, .any, .any, .any, .any, .any, .any, .any, .any, .any, .any, .any, .any, .any, .any, .any, .any]) (fun k => []) (fun k => i - k) (fun k => k ≤ i ∧ rgIn l i k = true) 0 ⟨Nat.zero_le _, by simp [rgIn]⟩ ?_ (by first | rfl | (simp; done)) ?_) | refine AW.dr (id := 15) 10 ?_ | refine AW.cT ?_ | refine AW.cF ?_ | (refine AW.c2 ?_ ?_ <;> (intro h; try simp only [Bool.not_eq_true', Bool.not_eq_false'] at h)) | refine AW.block ?_ | refine AW.exit ?_ | refine AW.ret ?_)
        | with_reducible refine (if_pos rfl).mpr ?_
        | with_reducible refine (if_neg (by decide)).mpr ?_) <;> (try dsimp only))
      any_goals first | exact Fin.one rfl (RV.tmp (by rfl)) (clo_c _) ⟨by have e2 := rgOk_not (l := l) (i := i) (n := l.length) (by simp_all) (by omega); simp_all [isRing], rfl⟩
      · (repeat' (first | exact Wk.nil | refine Wk.any ?_ | (with_reducible refine Wk.same ?_) | refine Wk.of ?_ ?_)) <;> first | rfl | (simp; done)
      · intro k hv_k
        have hclo : Clo (.ro 2 (l.map TPoint.en)) := clo_list TPoint.clo_en
        have hclA : Clo (.ro 4 ((arnd l).map TSegment.en)) := clo_list TSegment.clo_en
        have hal := arnd_len l
        by_cases hlt_k : k < i
        · skip
          obtain ⟨y, hy⟩ : ∃ y, (arnd l)[k]? = some y := ⟨_, List.getElem?_eq_getElem (by omega)⟩
          have hgy := map_get (f := TSegment.en) hy
          have htk : decide ((k : Int) < (i : Int)) = true := by simp; omega
          have hnk := next_ix hlt_k (by omega)
          have hsy := sAt_of hy
          have hrk : rgIn l i (k + 1) = (rgIn l i k && (hmI x y == wantN l.length i k)) := by rw [rgIn_succ, hsx, hsy]
          have hen : ((arnd l).map TSegment.en).length = l.length := by simp [hal]
          rcases want_i (n := l.length) (i := i) (k := k) (by omega) hlt_k hl with ⟨w1, wN⟩ | ⟨w1, w2, wN⟩ | ⟨w1, w2, w3, wN⟩ | ⟨w1, w2, w3, wN⟩
          all_goals try rw [← hen] at w3
          all_goals
            repeat' ((first
              | ((with_reducible show AL _ _ _ _ _ _ _); first | refine AL.any ?_ | refine AL.any (h := POp.k Try.func69 (hc := isSeg_i x)) ?_ | refine AL.any (h := POp.k Try.func77 (hc := meet_i x y)) ?_ | refine AL.any (h := POp.k Try.func78 (hc := arnd_i _ (by assumption))) ?_ | refine AL.U ?_ | refine AL.F ?_ | refine AL.T ?_ | refine AL.T (h := POp.k Try.func69 (hc := isSeg_i x)) ?_ | refine AL.T (h := POp.k Try.func77 (hc := meet_i x y)) ?_ | refine AL.T (h := POp.k Try.func78 (hc := arnd_i _ (by assumption))) ?_ | refine AL.W ?_ | refine AL.W (h := fun h => by (try rw [h]); exact POp.k Try.func69 (hc := isSeg_i x)) ?_ | refine AL.W (h := fun h => by (try rw [h]); exact POp.k Try.func77 (hc := meet_i x y)) ?_ | refine AL.W (h := fun h => by (try rw [h]); exact POp.k Try.func78 (hc := arnd_i _ (by assumption))) ?_ | refine AL.nil ?_)
              | ((with_reducible show DL _ _ _ _ _ _ _); first | refine DL.any ?_ | refine DL.any (h := POp.k Try.func69 (hc := isSeg_i x)) ?_ | refine DL.any (h := POp.k Try.func77 (hc := meet_i x y)) ?_ | refine DL.any (h := POp.k Try.func78 (hc := arnd_i _ (by assumption))) ?_ | refine DL.nil ?_)
              | ((with_reducible show AW _ _ _ _ _ _); first | refine AW.seq ?_ | refine AW.region ?_ | refine AW.skip ?_ | refine AW.dr (id := 15) 10 ?_ | refine AW.cT ?_ | refine AW.cF ?_ | (refine AW.c2 ?_ ?_ <;> (intro h; try simp only [Bool.not_eq_true', Bool.not_eq_false'] at h)) | refine AW.block ?_ | refine AW.exit ?_ | refine AW.ret ?_)
              | with_reducible refine (if_pos rfl).mpr ?_
              | with_reducible refine (if_neg (by decide)).mpr ?_) <;> (try dsimp only))
            all_goals first
              | (refine ⟨k + 1, _, ⟨hlt_k, by simp_all⟩, by omega, ?_, rfl, ?_, ?_⟩; (focus ((repeat' (first | exact Wk.nil | refine Wk.any ?_ | (with_reducible refine Wk.same ?_) | refine Wk.of ?_ ?_)) <;> (simp_all))); (focus ((repeat' (first | exact Fits.nil _ | refine Fits.cons ?_ ?_ | exact Fits.any _ | exact Fits.c _ _ | exact Fits.own (by rfl) | exact Fits.ref (by rfl) | exact Fits.clo (by assumption) | exact Fits.clo (clo_of (by rfl)) | exact Fits.clo (clo_fn _))))); (focus (exact FitsM.nil _)))
              | exact Fin.one rfl (RV.tmp (by rfl)) (clo_c _) ⟨by have e1 := rgIn_not (l := l) (i := i) (k := k) (n := i) (by simp_all) hlt_k; have e2 := rgOk_not (l := l) (i := i) (n := l.length) (by simp_all) (by omega); simp_all [isRing], rfl⟩
        · have e_k : k = i := by omega
          have htk : decide ((k : Int) < (i : Int)) = false := by simp; omega
          have e2 := e_k.symm
          subst e2
          repeat' ((first
            | ((with_reducible show AL _ _ _ _ _ _ _); first | refine AL.any ?_ | refine AL.any (h := POp.k Try.func69 (hc := isSeg_i x)) ?_ | refine AL.any (h := POp.k Try.func77 (hc := meet_i x y)) ?_ | refine AL.any (h := POp.k Try.func78 (hc := arnd_i _ (by assumption))) ?_ | refine AL.U ?_ | refine AL.F ?_ | refine AL.T ?_ | refine AL.T (h := POp.k Try.func69 (hc := isSeg_i x)) ?_ | refine AL.T (h := POp.k Try.func77 (hc := meet_i x y)) ?_ | refine AL.T (h := POp.k Try.func78 (hc := arnd_i _ (by assumption))) ?_ | refine AL.W ?_ | refine AL.W (h := fun h => by (try rw [h]); exact POp.k Try.func69 (hc := isSeg_i x)) ?_ | refine AL.W (h := fun h => by (try rw [h]); exact POp.k Try.func77 (hc := meet_i x y)) ?_ | refine AL.W (h := fun h => by (try rw [h]); exact POp.k Try.func78 (hc := arnd_i _ (by assumption))) ?_ | refine AL.nil ?_)
            | ((with_reducible show DL _ _ _ _ _ _ _); first | refine DL.any ?_ | refine DL.any (h := POp.k Try.func69 (hc := isSeg_i x)) ?_ | refine DL.any (h := POp.k Try.func77 (hc := meet_i x y)) ?_ | refine DL.any (h := POp.k Try.func78 (hc := arnd_i _ (by assumption))) ?_ | refine DL.nil ?_)
            | ((with_reducible show AW _ _ _ _ _ _); first | refine AW.seq ?_ | refine AW.region ?_ | refine AW.skip ?_ | refine AW.dr (id := 15) 10 ?_ | refine AW.cT ?_ | refine AW.cF ?_ | (refine AW.c2 ?_ ?_ <;> (intro h; try simp only [Bool.not_eq_true', Bool.not_eq_false'] at h)) | refine AW.block ?_ | refine AW.exit ?_ | refine AW.ret ?_)
            | with_reducible refine (if_pos rfl).mpr ?_
            | with_reducible refine (if_neg (by decide)).mpr ?_) <;> (try dsimp only))
          all_goals first
            | (refine ⟨i + 1, _, ⟨hlt_i, by simp_all⟩, by omega, ?_, rfl, ?_, ?_⟩; (focus ((repeat' (first | exact Wk.nil | refine Wk.any ?_ | (with_reducible refine Wk.same ?_) | refine Wk.of ?_ ?_)) <;> (simp_all))); (focus ((repeat' (first | exact Fits.nil _ | refine Fits.cons ?_ ?_ | exact Fits.any _ | exact Fits.c _ _ | exact Fits.own (by rfl) | exact Fits.ref (by rfl) | exact Fits.clo (by assumption) | exact Fits.clo (clo_of (by rfl)) | exact Fits.clo (clo_fn _))))); (focus (exact FitsM.nil _)))
    · have e_i : i = (arnd l).length := by omega
      have hti := lt_false (f := TSegment.en) (show ¬ i < (arnd l).length by omega)
      subst e_i
      repeat' ((first
        | ((with_reducible show AL _ _ _ _ _ _ _); first | refine AL.any ?_ | refine AL.any (h := POp.k Try.func69 (hc := isSeg_i x)) ?_ | refine AL.any (h := POp.k Try.func77 (hc := meet_i x y)) ?_ | refine AL.any (h := POp.k Try.func78 (hc := arnd_i _ (by assumption))) ?_ | refine AL.U ?_ | refine AL.F ?_ | refine AL.T ?_ | refine AL.T (h := POp.k Try.func69 (hc := isSeg_i x)) ?_ | refine AL.T (h := POp.k Try.func77 (hc := meet_i x y)) ?_ | refine AL.T (h := POp.k Try.func78 (hc := arnd_i _ (by assumption))) ?_ | refine AL.W ?_ | refine AL.W (h := fun h => by (try rw [h]); exact POp.k Try.func69 (hc := isSeg_i x)) ?_ | refine AL.W (h := fun h => by (try rw [h]); exact POp.k Try.func77 (hc := meet_i x y)) ?_ | refine AL.W (h := fun h => by (try rw [h]); exact POp.k Try.func78 (hc := arnd_i _ (by assumption))) ?_ | refine AL.nil ?_)
        | ((with_reducible show DL _ _ _ _ _ _ _); first | refine DL.any ?_ | refine DL.any (h := POp.k Try.func69 (hc := isSeg_i x)) ?_ | refine DL.any (h := POp.k Try.func77 (hc := meet_i x y)) ?_ | refine DL.any (h := POp.k Try.func78 (hc := arnd_i _ (by assumption))) ?_ | refine DL.nil ?_)
        | ((with_reducible show AW _ _ _ _ _ _); first | refine AW.seq ?_ | refine AW.region ?_ | refine AW.skip ?_ | refine AW.dr (id := 15) 10 ?_ | refine AW.cT ?_ | refine AW.cF ?_ | (refine AW.c2 ?_ ?_ <;> (intro h; try simp only [Bool.not_eq_true', Bool.not_eq_false'] at h)) | refine AW.block ?_ | refine AW.exit ?_ | refine AW.ret ?_)
        | with_reducible refine (if_pos rfl).mpr ?_
        | with_reducible refine (if_neg (by decide)).mpr ?_) <;> (try dsimp only))
      all_goals first
        | exact Fin.one rfl (RV.tmp (by rfl)) (clo_c _) ⟨by first | (simp_all [isRing]; done) | (simp_all [isRing, inr] <;> omega), rfl⟩

end Go.Proofs.Ytniabadeddgmbaa.Abs

/- The walks of a line's segments. -/
namespace Go.Proofs.Ytniabadeddgmbaa.Abs
open Go.Proofs Go.RowKit
set_option linter.unusedVariables false
set_option linter.unusedSimpArgs false
attribute [local irreducible] OpA AL AW DL DLM DLR DLS QOp POp VCalls VCallsI
set_option maxRecDepth 100000 in
set_option maxHeartbeats 2000000 in
theorem segs_s (l : List TPoint) (hl : l.length ≤ 1048576) : VCalls Try.prog 36 [.ro 2 (l.map TPoint.en)] (fun r M => r = .ro 4 ((segs l).map TSegment.en) ∧ M = []) := by
  refine VCalls.bodyE Try.func36 rfl 29 rfl (fun E hE => ?_)
  simp only [List.reduceReplicate, List.cons_append, List.nil_append]
  have hclo : Clo (.ro 2 (l.map TPoint.en)) := clo_list TPoint.clo_en
  repeat' ((first
    | ((with_reducible show AL _ _ _ _ _ _ _); first | refine AL.any ?_ | refine AL.any (h := POp.k Try.func55 (hc := isLine_s _ (by assumption))) ?_ | refine AL.U ?_ | refine AL.F ?_ | refine AL.T ?_ | refine AL.T (h := POp.k Try.func55 (hc := isLine_s _ (by assumption))) ?_ | refine AL.W ?_ | refine AL.W (h := fun h => by (try rw [h]); exact POp.k Try.func55 (hc := isLine_s _ (by assumption))) ?_ | refine AL.nil ?_)
    | ((with_reducible show DL _ _ _ _ _ _ _); first | refine DL.any ?_ | refine DL.any (h := POp.k Try.func55 (hc := isLine_s _ (by assumption))) ?_ | refine DL.nil ?_)
    | ((with_reducible show DLM _ _ _ _ _ _ _ _ _ _); first | refine DLM.any ?_ | refine DLM.mk ?_ | refine DLM.any (h := fun Y => POp.k Try.func55 (hc := isLine_s _ (by assumption))) ?_ | refine DLM.nil ?_)
    | ((with_reducible show AW _ _ _ _ _ _); first | refine AW.seq ?_ | refine AW.region ?_ | refine AW.skip ?_ | (refine AW.loopD hE (fun i : Nat => [.ro 2 (l.map TPoint.en), .any, .any, .own 0 i, I ((i : Int) + 1), .any, .any, .any, .any, .any, .any, .any, .any, .any, .any, .any, .any, .any, .any, .any, .any, .any, .any, .any, .any, .any, .any, .any, .any, .any]) (fun i => [some ⟨78, 4, i, false, ((segs l).take i).map TSegment.en⟩]) (fun i => (segs l).length - i) (fun i => i ≤ (segs l).length) 0 (Nat.zero_le _) ?_ (by first | rfl | (simp [fil_zero]; done)) ?_) | refine AW.drM (id := 5) 12 11 ?_ | refine AW.cT ?_ | refine AW.cF ?_ | (refine AW.c2 ?_ ?_ <;> (intro h; try simp only [Bool.not_eq_true', Bool.not_eq_false'] at h)) | refine AW.block ?_ | refine AW.exit ?_ | refine AW.ret ?_)
    | with_reducible refine (if_pos rfl).mpr ?_
    | with_reducible refine (if_neg (by decide)).mpr ?_) <;> (try dsimp only))
  · (repeat' (first | exact Wk.nil | refine Wk.any ?_ | (with_reducible refine Wk.same ?_) | refine Wk.of ?_ ?_)) <;> first | rfl | (simp)
  · intro i hi
    have hclo : Clo (.ro 2 (l.map TPoint.en)) := clo_list TPoint.clo_en
    have hsl := segs_le l
    by_cases hlt : i < (segs l).length
    · skip
      obtain ⟨a, b, hL, hi1, ha, hb, hs⟩ := segs_get hlt
      have ht : (decide ((i : Int) + 1 < ((l.map TPoint.en).length : Int)) && isLine l) = true := by simp [hL]; omega
      have e1 : IntKind.i64.wrap ((i : Int) + 1 - 1) = (i : Int) := by rw [w64 (by omega) (by omega)]; omega
      have h0 : 0 ≤ IntKind.i64.wrap ((i : Int) + 1 - 1) := by omega
      have hga : (l.map TPoint.en)[(IntKind.i64.wrap ((i : Int) + 1 - 1)).toNat]? = some a.en := by rw [e1]; exact map_get ha
      have hgb : (l.map TPoint.en)[((i : Int) + 1).toNat]? = some b.en := by rw [show ((i : Int) + 1).toNat = i + 1 by omega, List.getElem?_map, hb]; rfl
      have h01 : 0 ≤ (i : Int) + 1 := by omega
      have hn : IntKind.i64.wrap ((i : Int) + 1 + 1) = ((i + 1 : Nat) : Int) + 1 := by rw [w64 (by omega) (by omega)]; omega
      have hm := map_take_succ (f := TSegment.en) hs
      repeat' ((first
        | ((with_reducible show AL _ _ _ _ _ _ _); first | refine AL.any ?_ | refine AL.any (h := POp.k Try.func55 (hc := isLine_s _ (by assumption))) ?_ | refine AL.U ?_ | refine AL.F ?_ | refine AL.T ?_ | refine AL.T (h := POp.k Try.func55 (hc := isLine_s _ (by assumption))) ?_ | refine AL.W ?_ | refine AL.W (h := fun h => by (try rw [h]); exact POp.k Try.func55 (hc := isLine_s _ (by assumption))) ?_ | refine AL.nil ?_)
        | ((with_reducible show DL _ _ _ _ _ _ _); first | refine DL.any ?_ | refine DL.any (h := POp.k Try.func55 (hc := isLine_s _ (by assumption))) ?_ | refine DL.nil ?_)
        | ((with_reducible show DLM _ _ _ _ _ _ _ _ _ _); first | refine DLM.any ?_ | refine DLM.mk ?_ | refine DLM.any (h := fun Y => POp.k Try.func55 (hc := isLine_s _ (by assumption))) ?_ | refine DLM.nil ?_)
        | ((with_reducible show AW _ _ _ _ _ _); first | refine AW.seq ?_ | refine AW.region ?_ | refine AW.skip ?_ | refine AW.drM (id := 5) 12 11 ?_ | refine AW.cT ?_ | refine AW.cF ?_ | (refine AW.c2 ?_ ?_ <;> (intro h; try simp only [Bool.not_eq_true', Bool.not_eq_false'] at h)) | refine AW.block ?_ | refine AW.exit ?_ | refine AW.ret ?_)
        | with_reducible refine (if_pos rfl).mpr ?_
        | with_reducible refine (if_neg (by decide)).mpr ?_) <;> (try dsimp only))
      all_goals first
        | (refine ⟨i + 1, _, hlt, by omega, ?_, by rw [hm] <;> rfl, ?_, ?_⟩; (focus ((repeat' (first | exact Wk.nil | refine Wk.any ?_ | (with_reducible refine Wk.same ?_) | refine Wk.of ?_ ?_)) <;> (simp_all))); (focus ((repeat' (first | exact Fits.nil _ | refine Fits.cons ?_ ?_ | exact Fits.any _ | exact Fits.c _ _ | exact Fits.own (by rfl) | exact Fits.ref (by rfl) | exact Fits.clo (by assumption) | exact Fits.clo (clo_of (by rfl)) | exact Fits.clo (clo_fn _))))); (focus (exact fits_row (clo_rows TSegment.clo_en))))
    · have e : i = (segs l).length := by omega
      have hsl := segs_le l
      have ht : (decide ((i : Int) + 1 < ((l.map TPoint.en).length : Int)) && isLine l) = false := by
        cases hL : isLine l
        · simp_all
        · have := segs_len hL; have := isLine_len hL; simp; omega
      subst e
      repeat' ((first
        | ((with_reducible show AL _ _ _ _ _ _ _); first | refine AL.any ?_ | refine AL.any (h := POp.k Try.func55 (hc := isLine_s _ (by assumption))) ?_ | refine AL.U ?_ | refine AL.F ?_ | refine AL.T ?_ | refine AL.T (h := POp.k Try.func55 (hc := isLine_s _ (by assumption))) ?_ | refine AL.W ?_ | refine AL.W (h := fun h => by (try rw [h]); exact POp.k Try.func55 (hc := isLine_s _ (by assumption))) ?_ | refine AL.nil ?_)
        | ((with_reducible show DL _ _ _ _ _ _ _); first | refine DL.any ?_ | refine DL.any (h := POp.k Try.func55 (hc := isLine_s _ (by assumption))) ?_ | refine DL.nil ?_)
        | ((with_reducible show DLM _ _ _ _ _ _ _ _ _ _); first | refine DLM.any ?_ | refine DLM.mk ?_ | refine DLM.any (h := fun Y => POp.k Try.func55 (hc := isLine_s _ (by assumption))) ?_ | refine DLM.nil ?_)
        | ((with_reducible show AW _ _ _ _ _ _); first | refine AW.seq ?_ | refine AW.region ?_ | refine AW.skip ?_ | (refine AW.freezeRet (t := 2) (id := 0) rfl rfl rfl rfl (clo_rows TSegment.clo_en) ?_; (try simp only [List.take_length]); try dsimp only [dput, List.set, cond_true, cond_false, Nat.zero_add, Nat.add_zero, Nat.reduceAdd, splice, List.take, List.drop, List.length, List.nil_append, List.cons_append, List.append, TPoint.en, TSegment.en, TBox.en, TFeature.en, TMeet.en, TPlace.en, TCover.en, TLabel.en, TPiece.en, TLevel.en, TChart.en, TReason.en, TEdit.en, TEntry.en, TEdition.en, TListing.en, TAtlas.en, TEvent.en, TWindow.en]) | refine AW.drM (id := 5) 12 11 ?_ | refine AW.cT ?_ | refine AW.cF ?_ | (refine AW.c2 ?_ ?_ <;> (intro h; try simp only [Bool.not_eq_true', Bool.not_eq_false'] at h)) | refine AW.block ?_ | refine AW.exit ?_ | refine AW.ret ?_)
        | with_reducible refine (if_pos rfl).mpr ?_
        | with_reducible refine (if_neg (by decide)).mpr ?_) <;> (try dsimp only))
      all_goals exact Fin.one rfl (RV.tmp (by rfl)) (clo_list TSegment.clo_en) ⟨rfl, rfl⟩

set_option maxRecDepth 100000 in
set_option maxHeartbeats 2000000 in
theorem segs_i (l : List TPoint) (hl : l.length ≤ 1048576) : VCalls Try.prog 67 [.ro 2 (l.map TPoint.en)] (fun r M => r = .ro 4 ((segs l).map TSegment.en) ∧ M = []) := by
  refine VCalls.bodyE Try.func67 rfl 29 rfl (fun E hE => ?_)
  simp only [List.reduceReplicate, List.cons_append, List.nil_append]
  have hclo : Clo (.ro 2 (l.map TPoint.en)) := clo_list TPoint.clo_en
  repeat' ((first
    | ((with_reducible show AL _ _ _ _ _ _ _); first | refine AL.any ?_ | refine AL.any (h := POp.k Try.func76 (hc := isLine_i _ (by assumption))) ?_ | refine AL.nil ?_)
    | ((with_reducible show DL _ _ _ _ _ _ _); first | refine DL.any ?_ | refine DL.any (h := POp.k Try.func76 (hc := isLine_i _ (by assumption))) ?_ | refine DL.nil ?_)
    | ((with_reducible show DLM _ _ _ _ _ _ _ _ _ _); first | refine DLM.any ?_ | refine DLM.mk ?_ | refine DLM.any (h := fun Y => POp.k Try.func76 (hc := isLine_i _ (by assumption))) ?_ | refine DLM.nil ?_)
    | ((with_reducible show AW _ _ _ _ _ _); first | refine AW.seq ?_ | refine AW.region ?_ | refine AW.skip ?_ | (refine AW.freezeRet (t := 2) (id := 0) rfl rfl rfl rfl clo_rows_nil ?_; (try simp only [List.take_length]); try dsimp only [dput, List.set, cond_true, cond_false, Nat.zero_add, Nat.add_zero, Nat.reduceAdd, splice, List.take, List.drop, List.length, List.nil_append, List.cons_append, List.append, TPoint.en, TSegment.en, TBox.en, TFeature.en, TMeet.en, TPlace.en, TCover.en, TLabel.en, TPiece.en, TLevel.en, TChart.en, TReason.en, TEdit.en, TEntry.en, TEdition.en, TListing.en, TAtlas.en, TEvent.en, TWindow.en]) | (refine AW.loopD hE (fun i : Nat => [.ro 2 (l.map TPoint.en), .any, .any, .own 0 i, I ((i : Int) + 1), .any, .any, .any, .any, .any, .any, .any, .any, .any, .any, .any, .any, .any, .any, .any, .any, .any, .any, .any, .any, .any, .any, .any, .any, .any]) (fun i => [some ⟨78, 4, i, false, ((segs l).take i).map TSegment.en⟩]) (fun i => (segs l).length - i) (fun i => i ≤ (segs l).length) 0 (Nat.zero_le _) ?_ (by first | rfl | (simp [fil_zero]; done)) ?_) | refine AW.drM (id := 7) 12 11 ?_ | refine AW.cT ?_ | refine AW.cF ?_ | (refine AW.c2 ?_ ?_ <;> (intro h; try simp only [Bool.not_eq_true', Bool.not_eq_false'] at h)) | refine AW.block ?_ | refine AW.exit ?_ | refine AW.ret ?_)
    | with_reducible refine (if_pos rfl).mpr ?_
    | with_reducible refine (if_neg (by decide)).mpr ?_) <;> (try dsimp only))
  · exact Fin.one rfl (RV.tmp (by rfl)) (Clo.ro fun r hr => by simp at hr) ⟨by rw [segs_nil (by assumption)]; rfl, rfl⟩
  · (repeat' (first | exact Wk.nil | refine Wk.any ?_ | (with_reducible refine Wk.same ?_) | refine Wk.of ?_ ?_)) <;> first | rfl | (simp)
  · intro i hi
    have hclo : Clo (.ro 2 (l.map TPoint.en)) := clo_list TPoint.clo_en
    have hsl := segs_le l
    by_cases hlt : i < (segs l).length
    · skip
      obtain ⟨a, b, hL, hi1, ha, hb, hs⟩ := segs_get hlt
      have ht : decide ((i : Int) + 1 < ((l.map TPoint.en).length : Int)) = true := by simp []; omega
      have e1 : IntKind.i64.wrap ((i : Int) + 1 - 1) = (i : Int) := by rw [w64 (by omega) (by omega)]; omega
      have h0 : 0 ≤ IntKind.i64.wrap ((i : Int) + 1 - 1) := by omega
      have hga : (l.map TPoint.en)[(IntKind.i64.wrap ((i : Int) + 1 - 1)).toNat]? = some a.en := by rw [e1]; exact map_get ha
      have hgb : (l.map TPoint.en)[((i : Int) + 1).toNat]? = some b.en := by rw [show ((i : Int) + 1).toNat = i + 1 by omega, List.getElem?_map, hb]; rfl
      have h01 : 0 ≤ (i : Int) + 1 := by omega
      have hn : IntKind.i64.wrap ((i : Int) + 1 + 1) = ((i + 1 : Nat) : Int) + 1 := by rw [w64 (by omega) (by omega)]; omega
      have hm := map_take_succ (f := TSegment.en) hs
      repeat' ((first
        | ((with_reducible show AL _ _ _ _ _ _ _); first | refine AL.any ?_ | refine AL.any (h := POp.k Try.func76 (hc := isLine_i _ (by assumption))) ?_ | refine AL.nil ?_)
        | ((with_reducible show DL _ _ _ _ _ _ _); first | refine DL.any ?_ | refine DL.any (h := POp.k Try.func76 (hc := isLine_i _ (by assumption))) ?_ | refine DL.nil ?_)
        | ((with_reducible show DLM _ _ _ _ _ _ _ _ _ _); first | refine DLM.any ?_ | refine DLM.mk ?_ | refine DLM.any (h := fun Y => POp.k Try.func76 (hc := isLine_i _ (by assumption))) ?_ | refine DLM.nil ?_)
        | ((with_reducible show AW _ _ _ _ _ _); first | refine AW.seq ?_ | refine AW.region ?_ | refine AW.skip ?_ | (refine AW.freezeRet (t := 2) (id := 0) rfl rfl rfl rfl clo_rows_nil ?_; (try simp only [List.take_length]); try dsimp only [dput, List.set, cond_true, cond_false, Nat.zero_add, Nat.add_zero, Nat.reduceAdd, splice, List.take, List.drop, List.length, List.nil_append, List.cons_append, List.append, TPoint.en, TSegment.en, TBox.en, TFeature.en, TMeet.en, TPlace.en, TCover.en, TLabel.en, TPiece.en, TLevel.en, TChart.en, TReason.en, TEdit.en, TEntry.en, TEdition.en, TListing.en, TAtlas.en, TEvent.en, TWindow.en]) | refine AW.drM (id := 7) 12 11 ?_ | refine AW.cT ?_ | refine AW.cF ?_ | (refine AW.c2 ?_ ?_ <;> (intro h; try simp only [Bool.not_eq_true', Bool.not_eq_false'] at h)) | refine AW.block ?_ | refine AW.exit ?_ | refine AW.ret ?_)
        | with_reducible refine (if_pos rfl).mpr ?_
        | with_reducible refine (if_neg (by decide)).mpr ?_) <;> (try dsimp only))
      all_goals first
        | (refine ⟨i + 1, _, hlt, by omega, ?_, by rw [hm] <;> rfl, ?_, ?_⟩; (focus ((repeat' (first | exact Wk.nil | refine Wk.any ?_ | (with_reducible refine Wk.same ?_) | refine Wk.of ?_ ?_)) <;> (simp_all))); (focus ((repeat' (first | exact Fits.nil _ | refine Fits.cons ?_ ?_ | exact Fits.any _ | exact Fits.c _ _ | exact Fits.own (by rfl) | exact Fits.ref (by rfl) | exact Fits.clo (by assumption) | exact Fits.clo (clo_of (by rfl)) | exact Fits.clo (clo_fn _))))); (focus (exact fits_row (clo_rows TSegment.clo_en))))
    · have e : i = (segs l).length := by omega
      have hsl := segs_le l
      have ht : decide ((i : Int) + 1 < ((l.map TPoint.en).length : Int)) = false := by
        cases hL : isLine l
        · simp_all
        · have := segs_len hL; have := isLine_len hL; simp; omega
      subst e
      repeat' ((first
        | ((with_reducible show AL _ _ _ _ _ _ _); first | refine AL.any ?_ | refine AL.any (h := POp.k Try.func76 (hc := isLine_i _ (by assumption))) ?_ | refine AL.nil ?_)
        | ((with_reducible show DL _ _ _ _ _ _ _); first | refine DL.any ?_ | refine DL.any (h := POp.k Try.func76 (hc := isLine_i _ (by assumption))) ?_ | refine DL.nil ?_)
        | ((with_reducible show DLM _ _ _ _ _ _ _ _ _ _); first | refine DLM.any ?_ | refine DLM.mk ?_ | refine DLM.any (h := fun Y => POp.k Try.func76 (hc := isLine_i _ (by assumption))) ?_ | refine DLM.nil ?_)
        | ((with_reducible show AW _ _ _ _ _ _); first | refine AW.seq ?_ | refine AW.region ?_ | refine AW.skip ?_ | (refine AW.freezeRet (t := 2) (id := 0) rfl rfl rfl rfl clo_rows_nil ?_; (try simp only [List.take_length]); try dsimp only [dput, List.set, cond_true, cond_false, Nat.zero_add, Nat.add_zero, Nat.reduceAdd, splice, List.take, List.drop, List.length, List.nil_append, List.cons_append, List.append, TPoint.en, TSegment.en, TBox.en, TFeature.en, TMeet.en, TPlace.en, TCover.en, TLabel.en, TPiece.en, TLevel.en, TChart.en, TReason.en, TEdit.en, TEntry.en, TEdition.en, TListing.en, TAtlas.en, TEvent.en, TWindow.en]) | (refine AW.freezeRet (t := 2) (id := 0) rfl rfl rfl rfl (clo_rows TSegment.clo_en) ?_; (try simp only [List.take_length]); try dsimp only [dput, List.set, cond_true, cond_false, Nat.zero_add, Nat.add_zero, Nat.reduceAdd, splice, List.take, List.drop, List.length, List.nil_append, List.cons_append, List.append, TPoint.en, TSegment.en, TBox.en, TFeature.en, TMeet.en, TPlace.en, TCover.en, TLabel.en, TPiece.en, TLevel.en, TChart.en, TReason.en, TEdit.en, TEntry.en, TEdition.en, TListing.en, TAtlas.en, TEvent.en, TWindow.en]) | refine AW.drM (id := 7) 12 11 ?_ | refine AW.cT ?_ | refine AW.cF ?_ | (refine AW.c2 ?_ ?_ <;> (intro h; try simp only [Bool.not_eq_true', Bool.not_eq_false'] at h)) | refine AW.block ?_ | refine AW.exit ?_ | refine AW.ret ?_)
        | with_reducible refine (if_pos rfl).mpr ?_
        | with_reducible refine (if_neg (by decide)).mpr ?_) <;> (try dsimp only))
      all_goals exact Fin.one rfl (RV.tmp (by rfl)) (clo_list TSegment.clo_en) ⟨rfl, rfl⟩

end Go.Proofs.Ytniabadeddgmbaa.Abs
