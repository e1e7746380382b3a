/- The types' facts for the walks. -/
import Derived.Test.YtmbdjcmfclgieaaData
import Derived.Test.YtmbdjcmfclgieaaProg
namespace Go.Proofs.Ytmbdjcmfclgieaa.Abs
open Go.Proofs Go.RowKit
set_option linter.unusedVariables false
set_option linter.unusedSimpArgs false
def TT : Tbl := ⟨[(2, (false, 1)), (3, (false, 1)), (4, (false, 1)), (5, (false, 1)), (6, (false, 1)), (7, (true, 4)), (8, (true, 4)), (9, (false, 1)), (10, (false, 1)), (11, (false, 1)), (12, (false, 1)), (13, (true, 2)), (14, (true, 2)), (15, (false, 1)), (16, (false, 1)), (17, (false, 1)), (18, (true, 1)), (19, (true, 1)), (21, (false, 1)), (24, (true, 2)), (25, (true, 2)), (26, (true, 4)), (27, (true, 4)), (29, (true, 2)), (31, (true, 4)), (39, (false, 1)), (43, (false, 1)), (46, (false, 1)), (65, (false, 1)), (67, (true, 5)), (68, (false, 1)), (70, (true, 5))], [(7, [(0, 1), (1, 1), (2, 1), (3, 1)]), (8, [(0, 1), (1, 1), (2, 1), (3, 1)]), (13, [(0, 1), (1, 1)]), (14, [(0, 1), (1, 1)]), (18, [(0, 1)]), (19, [(0, 1)]), (24, [(0, 1), (1, 1)]), (25, [(0, 1), (1, 1)]), (26, [(0, 2), (2, 1), (3, 1)]), (27, [(0, 2), (2, 1), (3, 1)]), (29, [(0, 1), (1, 1)]), (31, [(0, 2), (2, 1), (3, 1)]), (67, [(0, 1), (1, 1), (2, 1), (3, 1), (4, 1)]), (70, [(0, 1), (1, 1), (2, 1), (3, 1), (4, 1)])], [(39, (3, 1)), (43, (67, 5)), (46, (70, 5)), (65, (25, 2)), (68, (29, 2))], [(2, .int .i64), (3, .int .i64), (4, .bool), (5, .int .u8), (6, .int .u8), (9, .string), (10, .string), (11, .string), (12, .int .u64), (21, .int .i32)]⟩
theorem TT_ok : TT.Ok Try.prog := Tbl.ok (by kernel_rfl)
theorem ldk2 : ldk Try.prog 2 = some (false, 1) := TT_ok.ld _ _ rfl
theorem ze2 : zeroA Try.prog 2 = some [.c (.int .i64 0)] := by kernel_rfl
theorem ldk3 : ldk Try.prog 3 = some (false, 1) := TT_ok.ld _ _ rfl
theorem ze3 : zeroA Try.prog 3 = some [.c (.int .i64 0)] := by kernel_rfl
theorem ldk4 : ldk Try.prog 4 = some (false, 1) := TT_ok.ld _ _ rfl
theorem ze4 : zeroA Try.prog 4 = some [.c (.bool false)] := by kernel_rfl
theorem ldk5 : ldk Try.prog 5 = some (false, 1) := TT_ok.ld _ _ rfl
theorem ze5 : zeroA Try.prog 5 = some [.c (.int .u8 0)] := by kernel_rfl
theorem ldk6 : ldk Try.prog 6 = some (false, 1) := TT_ok.ld _ _ rfl
theorem ze6 : zeroA Try.prog 6 = some [.c (.int .u8 0)] := by kernel_rfl
theorem ldk7 : ldk Try.prog 7 = some (true, 4) := TT_ok.ld _ _ rfl
theorem ze7 : zeroA Try.prog 7 = some [.c (.int .i64 0), .c (.int .i64 0), .c (.bool false), .c (.int .u8 0)] := by kernel_rfl
theorem bld7 : bldk Try.prog 7 = some ([.int .i64 0, .int .i64 0, .bool false, .int .u8 0], [(0, 1), (1, 1), (2, 1), (3, 1)]) := by kernel_rfl
theorem ldk8 : ldk Try.prog 8 = some (true, 4) := TT_ok.ld _ _ rfl
theorem ze8 : zeroA Try.prog 8 = some [.c (.int .i64 0), .c (.int .i64 0), .c (.bool false), .c (.int .u8 0)] := by kernel_rfl
theorem bld8 : bldk Try.prog 8 = some ([.int .i64 0, .int .i64 0, .bool false, .int .u8 0], [(0, 1), (1, 1), (2, 1), (3, 1)]) := by kernel_rfl
theorem ldk9 : ldk Try.prog 9 = some (false, 1) := TT_ok.ld _ _ rfl
theorem ze9 : zeroA Try.prog 9 = some [.c (.string ⟨#[]⟩)] := by kernel_rfl
theorem ldk10 : ldk Try.prog 10 = some (false, 1) := TT_ok.ld _ _ rfl
theorem ze10 : zeroA Try.prog 10 = some [.c (.string ⟨#[]⟩)] := by kernel_rfl
theorem ldk11 : ldk Try.prog 11 = some (false, 1) := TT_ok.ld _ _ rfl
theorem ze11 : zeroA Try.prog 11 = some [.c (.string ⟨#[]⟩)] := by kernel_rfl
theorem ldk12 : ldk Try.prog 12 = some (false, 1) := TT_ok.ld _ _ rfl
theorem ze12 : zeroA Try.prog 12 = some [.c (.int .u64 0)] := by kernel_rfl
theorem ldk13 : ldk Try.prog 13 = some (true, 2) := TT_ok.ld _ _ rfl
theorem ze13 : zeroA Try.prog 13 = some [.c (.string ⟨#[]⟩), .c (.int .u64 0)] := by kernel_rfl
theorem bld13 : bldk Try.prog 13 = some ([.string ⟨#[]⟩, .int .u64 0], [(0, 1), (1, 1)]) := by kernel_rfl
theorem ldk14 : ldk Try.prog 14 = some (true, 2) := TT_ok.ld _ _ rfl
theorem ze14 : zeroA Try.prog 14 = some [.c (.string ⟨#[]⟩), .c (.int .u64 0)] := by kernel_rfl
theorem bld14 : bldk Try.prog 14 = some ([.string ⟨#[]⟩, .int .u64 0], [(0, 1), (1, 1)]) := by kernel_rfl
theorem ldk15 : ldk Try.prog 15 = some (false, 1) := TT_ok.ld _ _ rfl
theorem ze15 : zeroA Try.prog 15 = some [.c (.pointer none)] := by kernel_rfl
theorem ldk16 : ldk Try.prog 16 = some (false, 1) := TT_ok.ld _ _ rfl
theorem ze16 : zeroA Try.prog 16 = some [.c (.pointer none)] := by kernel_rfl
theorem ldk17 : ldk Try.prog 17 = some (false, 1) := TT_ok.ld _ _ rfl
theorem ze17 : zeroA Try.prog 17 = some [.c (.pointer none)] := by kernel_rfl
theorem ldk18 : ldk Try.prog 18 = some (true, 1) := TT_ok.ld _ _ rfl
theorem ze18 : zeroA Try.prog 18 = some [.c (.pointer none)] := by kernel_rfl
theorem bld18 : bldk Try.prog 18 = some ([.pointer none], [(0, 1)]) := by kernel_rfl
theorem ldk19 : ldk Try.prog 19 = some (true, 1) := TT_ok.ld _ _ rfl
theorem ze19 : zeroA Try.prog 19 = some [.c (.pointer none)] := by kernel_rfl
theorem bld19 : bldk Try.prog 19 = some ([.pointer none], [(0, 1)]) := by kernel_rfl
theorem ldk21 : ldk Try.prog 21 = some (false, 1) := TT_ok.ld _ _ rfl
theorem ze21 : zeroA Try.prog 21 = some [.c (.int .i32 0)] := by kernel_rfl
theorem ldk24 : ldk Try.prog 24 = some (true, 2) := TT_ok.ld _ _ rfl
theorem ze24 : zeroA Try.prog 24 = some [.c (.int .i64 0), .c (.int .i64 0)] := by kernel_rfl
theorem bld24 : bldk Try.prog 24 = some ([.int .i64 0, .int .i64 0], [(0, 1), (1, 1)]) := by kernel_rfl
theorem ldk25 : ldk Try.prog 25 = some (true, 2) := TT_ok.ld _ _ rfl
theorem ze25 : zeroA Try.prog 25 = some [.c (.int .i64 0), .c (.int .i64 0)] := by kernel_rfl
theorem bld25 : bldk Try.prog 25 = some ([.int .i64 0, .int .i64 0], [(0, 1), (1, 1)]) := by kernel_rfl
theorem ldk26 : ldk Try.prog 26 = some (true, 4) := TT_ok.ld _ _ rfl
theorem ze26 : zeroA Try.prog 26 = some [.c (.int .i64 0), .c (.int .i64 0), .c (.int .i64 0), .c (.int .i64 0)] := by kernel_rfl
theorem bld26 : bldk Try.prog 26 = some ([.int .i64 0, .int .i64 0, .int .i64 0, .int .i64 0], [(0, 2), (2, 1), (3, 1)]) := by kernel_rfl
theorem ldk27 : ldk Try.prog 27 = some (true, 4) := TT_ok.ld _ _ rfl
theorem ze27 : zeroA Try.prog 27 = some [.c (.int .i64 0), .c (.int .i64 0), .c (.int .i64 0), .c (.int .i64 0)] := by kernel_rfl
theorem bld27 : bldk Try.prog 27 = some ([.int .i64 0, .int .i64 0, .int .i64 0, .int .i64 0], [(0, 2), (2, 1), (3, 1)]) := by kernel_rfl
theorem ldk29 : ldk Try.prog 29 = some (true, 2) := TT_ok.ld _ _ rfl
theorem ze29 : zeroA Try.prog 29 = some [.c (.int .i64 0), .c (.int .i64 0)] := by kernel_rfl
theorem bld29 : bldk Try.prog 29 = some ([.int .i64 0, .int .i64 0], [(0, 1), (1, 1)]) := by kernel_rfl
theorem ldk31 : ldk Try.prog 31 = some (true, 4) := TT_ok.ld _ _ rfl
theorem ze31 : zeroA Try.prog 31 = some [.c (.int .i64 0), .c (.int .i64 0), .c (.int .i64 0), .c (.int .i64 0)] := by kernel_rfl
theorem bld31 : bldk Try.prog 31 = some ([.int .i64 0, .int .i64 0, .int .i64 0, .int .i64 0], [(0, 2), (2, 1), (3, 1)]) := by kernel_rfl
theorem ldk39 : ldk Try.prog 39 = some (false, 1) := TT_ok.ld _ _ rfl
theorem ze39 : zeroA Try.prog 39 = some [.c (.slice none 0 0)] := by kernel_rfl
theorem rwk39 : rwk Try.prog 39 = some (3, 1, 8, [.int .i64 0]) := by kernel_rfl
theorem slk39 : slk Try.prog 39 = some (3, 1) := TT_ok.sl _ _ rfl
theorem ldk43 : ldk Try.prog 43 = some (false, 1) := TT_ok.ld _ _ rfl
theorem ze43 : zeroA Try.prog 43 = some [.c (.slice none 0 0)] := by kernel_rfl
theorem rwk43 : rwk Try.prog 43 = some (67, 5, 64, [.int .i64 0, .int .i64 0, .int .i64 0, .string ⟨#[]⟩, .slice none 0 0]) := by kernel_rfl
theorem slk43 : slk Try.prog 43 = some (67, 5) := TT_ok.sl _ _ rfl
theorem ldk46 : ldk Try.prog 46 = some (false, 1) := TT_ok.ld _ _ rfl
theorem ze46 : zeroA Try.prog 46 = some [.c (.slice none 0 0)] := by kernel_rfl
theorem rwk46 : rwk Try.prog 46 = some (70, 5, 64, [.int .i64 0, .int .i64 0, .int .i64 0, .string ⟨#[]⟩, .slice none 0 0]) := by kernel_rfl
theorem slk46 : slk Try.prog 46 = some (70, 5) := TT_ok.sl _ _ rfl
theorem ldk65 : ldk Try.prog 65 = some (false, 1) := TT_ok.ld _ _ rfl
theorem ze65 : zeroA Try.prog 65 = some [.c (.slice none 0 0)] := by kernel_rfl
theorem rwk65 : rwk Try.prog 65 = some (25, 2, 16, [.int .i64 0, .int .i64 0]) := by kernel_rfl
theorem slk65 : slk Try.prog 65 = some (25, 2) := TT_ok.sl _ _ rfl
theorem ldk67 : ldk Try.prog 67 = some (true, 5) := TT_ok.ld _ _ rfl
theorem ze67 : zeroA Try.prog 67 = some [.c (.int .i64 0), .c (.int .i64 0), .c (.int .i64 0), .c (.string ⟨#[]⟩), .c (.slice none 0 0)] := by kernel_rfl
theorem bld67 : bldk Try.prog 67 = some ([.int .i64 0, .int .i64 0, .int .i64 0, .string ⟨#[]⟩, .slice none 0 0], [(0, 1), (1, 1), (2, 1), (3, 1), (4, 1)]) := by kernel_rfl
theorem ldk68 : ldk Try.prog 68 = some (false, 1) := TT_ok.ld _ _ rfl
theorem ze68 : zeroA Try.prog 68 = some [.c (.slice none 0 0)] := by kernel_rfl
theorem rwk68 : rwk Try.prog 68 = some (29, 2, 16, [.int .i64 0, .int .i64 0]) := by kernel_rfl
theorem slk68 : slk Try.prog 68 = some (29, 2) := TT_ok.sl _ _ rfl
theorem ldk70 : ldk Try.prog 70 = some (true, 5) := TT_ok.ld _ _ rfl
theorem ze70 : zeroA Try.prog 70 = some [.c (.int .i64 0), .c (.int .i64 0), .c (.int .i64 0), .c (.string ⟨#[]⟩), .c (.slice none 0 0)] := by kernel_rfl
theorem bld70 : bldk Try.prog 70 = some ([.int .i64 0, .int .i64 0, .int .i64 0, .string ⟨#[]⟩, .slice none 0 0], [(0, 1), (1, 1), (2, 1), (3, 1), (4, 1)]) := by kernel_rfl
end Go.Proofs.Ytmbdjcmfclgieaa.Abs
