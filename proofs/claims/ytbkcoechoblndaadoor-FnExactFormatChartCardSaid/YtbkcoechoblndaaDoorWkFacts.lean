/- The types' facts for the walks. -/
import Derived.Test.YtbkcoechoblndaaDoorData
import Derived.Test.YtbkcoechoblndaaDoorProg
namespace Go.Proofs.YtbkcoechoblndaaDoor.Abs
open Go.Proofs Go.RowKit
set_option linter.unusedVariables false
set_option linter.unusedSimpArgs false
def TT : Tbl := ⟨[(2, (false, 1)), (3, (false, 1)), (4, (false, 1)), (5, (false, 1)), (6, (false, 1)), (7, (true, 4)), (8, (true, 4)), (9, (false, 1)), (10, (false, 1)), (11, (false, 1)), (12, (false, 1)), (13, (true, 2)), (14, (true, 2)), (15, (false, 1)), (16, (false, 1)), (17, (false, 1)), (18, (true, 1)), (19, (true, 1)), (21, (false, 1)), (22, (false, 1)), (27, (false, 1)), (30, (false, 1)), (38, (false, 1)), (41, (false, 1)), (45, (true, 5)), (46, (true, 5)), (50, (true, 5)), (54, (false, 1)), (55, (false, 1)), (57, (true, 2)), (60, (false, 1)), (61, (false, 1)), (63, (true, 2)), (67, (false, 1)), (71, (true, 2)), (73, (true, 2)), (83, (true, 3)), (85, (true, 3)), (91, (true, 4)), (93, (true, 6)), (98, (false, 1)), (102, (true, 4)), (104, (true, 6))], [(7, [(0, 1), (1, 1), (2, 1), (3, 1)]), (8, [(0, 1), (1, 1), (2, 1), (3, 1)]), (13, [(0, 1), (1, 1)]), (14, [(0, 1), (1, 1)]), (18, [(0, 1)]), (19, [(0, 1)]), (45, [(0, 1), (1, 1), (2, 1), (3, 1), (4, 1)]), (46, [(0, 1), (1, 1), (2, 1), (3, 1), (4, 1)]), (50, [(0, 1), (1, 1), (2, 1), (3, 1), (4, 1)]), (57, [(0, 1), (1, 1)]), (63, [(0, 1), (1, 1)]), (71, [(0, 1), (1, 1)]), (73, [(0, 1), (1, 1)]), (83, [(0, 1), (1, 1), (2, 1)]), (85, [(0, 1), (1, 1), (2, 1)]), (91, [(0, 2), (2, 2)]), (93, [(0, 1), (1, 1), (2, 4)]), (102, [(0, 2), (2, 2)]), (104, [(0, 1), (1, 1), (2, 4)])], [(22, (3, 1)), (27, (73, 2)), (30, (71, 2)), (38, (85, 3)), (41, (83, 3)), (54, (46, 5)), (55, (104, 6)), (60, (50, 5)), (61, (93, 6)), (67, (9, 1)), (98, (5, 1))], [(2, .int .i64), (3, .int .i64), (4, .bool), (5, .int .u8), (6, .int .u8), (9, .string), (10, .string), (11, .string), (12, .int .u64), (21, .int .i32)]⟩
theorem TT_ok : TT.Ok Tryd.prog := Tbl.ok (by kernel_rfl)
theorem ldk2 : ldk Tryd.prog 2 = some (false, 1) := TT_ok.ld _ _ rfl
theorem ze2 : zeroA Tryd.prog 2 = some [.c (.int .i64 0)] := by kernel_rfl
theorem ldk3 : ldk Tryd.prog 3 = some (false, 1) := TT_ok.ld _ _ rfl
theorem ze3 : zeroA Tryd.prog 3 = some [.c (.int .i64 0)] := by kernel_rfl
theorem ldk4 : ldk Tryd.prog 4 = some (false, 1) := TT_ok.ld _ _ rfl
theorem ze4 : zeroA Tryd.prog 4 = some [.c (.bool false)] := by kernel_rfl
theorem ldk5 : ldk Tryd.prog 5 = some (false, 1) := TT_ok.ld _ _ rfl
theorem ze5 : zeroA Tryd.prog 5 = some [.c (.int .u8 0)] := by kernel_rfl
theorem ldk6 : ldk Tryd.prog 6 = some (false, 1) := TT_ok.ld _ _ rfl
theorem ze6 : zeroA Tryd.prog 6 = some [.c (.int .u8 0)] := by kernel_rfl
theorem ldk7 : ldk Tryd.prog 7 = some (true, 4) := TT_ok.ld _ _ rfl
theorem ze7 : zeroA Tryd.prog 7 = some [.c (.int .i64 0), .c (.int .i64 0), .c (.bool false), .c (.int .u8 0)] := by kernel_rfl
theorem bld7 : bldk Tryd.prog 7 = some ([.int .i64 0, .int .i64 0, .bool false, .int .u8 0], [(0, 1), (1, 1), (2, 1), (3, 1)]) := by kernel_rfl
theorem ldk8 : ldk Tryd.prog 8 = some (true, 4) := TT_ok.ld _ _ rfl
theorem ze8 : zeroA Tryd.prog 8 = some [.c (.int .i64 0), .c (.int .i64 0), .c (.bool false), .c (.int .u8 0)] := by kernel_rfl
theorem bld8 : bldk Tryd.prog 8 = some ([.int .i64 0, .int .i64 0, .bool false, .int .u8 0], [(0, 1), (1, 1), (2, 1), (3, 1)]) := by kernel_rfl
theorem ldk9 : ldk Tryd.prog 9 = some (false, 1) := TT_ok.ld _ _ rfl
theorem ze9 : zeroA Tryd.prog 9 = some [.c (.string ⟨#[]⟩)] := by kernel_rfl
theorem kds9 : Tryd.prog.underlying 9 = some .string := by kernel_rfl
theorem ldk10 : ldk Tryd.prog 10 = some (false, 1) := TT_ok.ld _ _ rfl
theorem ze10 : zeroA Tryd.prog 10 = some [.c (.string ⟨#[]⟩)] := by kernel_rfl
theorem kds10 : Tryd.prog.underlying 10 = some .string := by kernel_rfl
theorem ldk11 : ldk Tryd.prog 11 = some (false, 1) := TT_ok.ld _ _ rfl
theorem ze11 : zeroA Tryd.prog 11 = some [.c (.string ⟨#[]⟩)] := by kernel_rfl
theorem kds11 : Tryd.prog.underlying 11 = some .string := by kernel_rfl
theorem ldk12 : ldk Tryd.prog 12 = some (false, 1) := TT_ok.ld _ _ rfl
theorem ze12 : zeroA Tryd.prog 12 = some [.c (.int .u64 0)] := by kernel_rfl
theorem ldk13 : ldk Tryd.prog 13 = some (true, 2) := TT_ok.ld _ _ rfl
theorem ze13 : zeroA Tryd.prog 13 = some [.c (.string ⟨#[]⟩), .c (.int .u64 0)] := by kernel_rfl
theorem bld13 : bldk Tryd.prog 13 = some ([.string ⟨#[]⟩, .int .u64 0], [(0, 1), (1, 1)]) := by kernel_rfl
theorem ldk14 : ldk Tryd.prog 14 = some (true, 2) := TT_ok.ld _ _ rfl
theorem ze14 : zeroA Tryd.prog 14 = some [.c (.string ⟨#[]⟩), .c (.int .u64 0)] := by kernel_rfl
theorem bld14 : bldk Tryd.prog 14 = some ([.string ⟨#[]⟩, .int .u64 0], [(0, 1), (1, 1)]) := by kernel_rfl
theorem ldk15 : ldk Tryd.prog 15 = some (false, 1) := TT_ok.ld _ _ rfl
theorem ze15 : zeroA Tryd.prog 15 = some [.c (.pointer none)] := by kernel_rfl
theorem ldk16 : ldk Tryd.prog 16 = some (false, 1) := TT_ok.ld _ _ rfl
theorem ze16 : zeroA Tryd.prog 16 = some [.c (.pointer none)] := by kernel_rfl
theorem ldk17 : ldk Tryd.prog 17 = some (false, 1) := TT_ok.ld _ _ rfl
theorem ze17 : zeroA Tryd.prog 17 = some [.c (.pointer none)] := by kernel_rfl
theorem ldk18 : ldk Tryd.prog 18 = some (true, 1) := TT_ok.ld _ _ rfl
theorem ze18 : zeroA Tryd.prog 18 = some [.c (.pointer none)] := by kernel_rfl
theorem bld18 : bldk Tryd.prog 18 = some ([.pointer none], [(0, 1)]) := by kernel_rfl
theorem ldk19 : ldk Tryd.prog 19 = some (true, 1) := TT_ok.ld _ _ rfl
theorem ze19 : zeroA Tryd.prog 19 = some [.c (.pointer none)] := by kernel_rfl
theorem bld19 : bldk Tryd.prog 19 = some ([.pointer none], [(0, 1)]) := by kernel_rfl
theorem ldk21 : ldk Tryd.prog 21 = some (false, 1) := TT_ok.ld _ _ rfl
theorem ze21 : zeroA Tryd.prog 21 = some [.c (.int .i32 0)] := by kernel_rfl
theorem ldk22 : ldk Tryd.prog 22 = some (false, 1) := TT_ok.ld _ _ rfl
theorem ze22 : zeroA Tryd.prog 22 = some [.c (.slice none 0 0)] := by kernel_rfl
theorem rwk22 : rwk Tryd.prog 22 = some (3, 1, 8, [.int .i64 0]) := by kernel_rfl
theorem slk22 : slk Tryd.prog 22 = some (3, 1) := TT_ok.sl _ _ rfl
theorem ldk27 : ldk Tryd.prog 27 = some (false, 1) := TT_ok.ld _ _ rfl
theorem ze27 : zeroA Tryd.prog 27 = some [.c (.slice none 0 0)] := by kernel_rfl
theorem rwk27 : rwk Tryd.prog 27 = some (73, 2, 16, [.int .i64 0, .int .i64 0]) := by kernel_rfl
theorem slk27 : slk Tryd.prog 27 = some (73, 2) := TT_ok.sl _ _ rfl
theorem ldk30 : ldk Tryd.prog 30 = some (false, 1) := TT_ok.ld _ _ rfl
theorem ze30 : zeroA Tryd.prog 30 = some [.c (.slice none 0 0)] := by kernel_rfl
theorem rwk30 : rwk Tryd.prog 30 = some (71, 2, 16, [.int .i64 0, .int .i64 0]) := by kernel_rfl
theorem slk30 : slk Tryd.prog 30 = some (71, 2) := TT_ok.sl _ _ rfl
theorem ldk38 : ldk Tryd.prog 38 = some (false, 1) := TT_ok.ld _ _ rfl
theorem ze38 : zeroA Tryd.prog 38 = some [.c (.slice none 0 0)] := by kernel_rfl
theorem rwk38 : rwk Tryd.prog 38 = some (85, 3, 24, [.int .i64 0, .int .i64 0, .int .i64 0]) := by kernel_rfl
theorem slk38 : slk Tryd.prog 38 = some (85, 3) := TT_ok.sl _ _ rfl
theorem ldk41 : ldk Tryd.prog 41 = some (false, 1) := TT_ok.ld _ _ rfl
theorem ze41 : zeroA Tryd.prog 41 = some [.c (.slice none 0 0)] := by kernel_rfl
theorem rwk41 : rwk Tryd.prog 41 = some (83, 3, 24, [.int .i64 0, .int .i64 0, .int .i64 0]) := by kernel_rfl
theorem slk41 : slk Tryd.prog 41 = some (83, 3) := TT_ok.sl _ _ rfl
theorem ldk45 : ldk Tryd.prog 45 = some (true, 5) := TT_ok.ld _ _ rfl
theorem ze45 : zeroA Tryd.prog 45 = some [.c (.int .i64 0), .c (.int .i64 0), .c (.int .i64 0), .c (.string ⟨#[]⟩), .c (.slice none 0 0)] := by kernel_rfl
theorem bld45 : bldk Tryd.prog 45 = some ([.int .i64 0, .int .i64 0, .int .i64 0, .string ⟨#[]⟩, .slice none 0 0], [(0, 1), (1, 1), (2, 1), (3, 1), (4, 1)]) := by kernel_rfl
theorem ldk46 : ldk Tryd.prog 46 = some (true, 5) := TT_ok.ld _ _ rfl
theorem ze46 : zeroA Tryd.prog 46 = some [.c (.int .i64 0), .c (.int .i64 0), .c (.int .i64 0), .c (.string ⟨#[]⟩), .c (.slice none 0 0)] := by kernel_rfl
theorem bld46 : bldk Tryd.prog 46 = some ([.int .i64 0, .int .i64 0, .int .i64 0, .string ⟨#[]⟩, .slice none 0 0], [(0, 1), (1, 1), (2, 1), (3, 1), (4, 1)]) := by kernel_rfl
theorem ldk50 : ldk Tryd.prog 50 = some (true, 5) := TT_ok.ld _ _ rfl
theorem ze50 : zeroA Tryd.prog 50 = some [.c (.int .i64 0), .c (.int .i64 0), .c (.int .i64 0), .c (.string ⟨#[]⟩), .c (.slice none 0 0)] := by kernel_rfl
theorem bld50 : bldk Tryd.prog 50 = some ([.int .i64 0, .int .i64 0, .int .i64 0, .string ⟨#[]⟩, .slice none 0 0], [(0, 1), (1, 1), (2, 1), (3, 1), (4, 1)]) := by kernel_rfl
theorem ldk54 : ldk Tryd.prog 54 = some (false, 1) := TT_ok.ld _ _ rfl
theorem ze54 : zeroA Tryd.prog 54 = some [.c (.slice none 0 0)] := by kernel_rfl
theorem rwk54 : rwk Tryd.prog 54 = some (46, 5, 64, [.int .i64 0, .int .i64 0, .int .i64 0, .string ⟨#[]⟩, .slice none 0 0]) := by kernel_rfl
theorem slk54 : slk Tryd.prog 54 = some (46, 5) := TT_ok.sl _ _ rfl
theorem ldk55 : ldk Tryd.prog 55 = some (false, 1) := TT_ok.ld _ _ rfl
theorem ze55 : zeroA Tryd.prog 55 = some [.c (.slice none 0 0)] := by kernel_rfl
theorem rwk55 : rwk Tryd.prog 55 = some (104, 6, 56, [.int .i64 0, .string ⟨#[]⟩, .int .i64 0, .int .i64 0, .int .i64 0, .int .i64 0]) := by kernel_rfl
theorem slk55 : slk Tryd.prog 55 = some (104, 6) := TT_ok.sl _ _ rfl
theorem ldk57 : ldk Tryd.prog 57 = some (true, 2) := TT_ok.ld _ _ rfl
theorem ze57 : zeroA Tryd.prog 57 = some [.c (.slice none 0 0), .c (.slice none 0 0)] := by kernel_rfl
theorem bld57 : bldk Tryd.prog 57 = some ([.slice none 0 0, .slice none 0 0], [(0, 1), (1, 1)]) := by kernel_rfl
theorem ldk60 : ldk Tryd.prog 60 = some (false, 1) := TT_ok.ld _ _ rfl
theorem ze60 : zeroA Tryd.prog 60 = some [.c (.slice none 0 0)] := by kernel_rfl
theorem rwk60 : rwk Tryd.prog 60 = some (50, 5, 64, [.int .i64 0, .int .i64 0, .int .i64 0, .string ⟨#[]⟩, .slice none 0 0]) := by kernel_rfl
theorem slk60 : slk Tryd.prog 60 = some (50, 5) := TT_ok.sl _ _ rfl
theorem ldk61 : ldk Tryd.prog 61 = some (false, 1) := TT_ok.ld _ _ rfl
theorem ze61 : zeroA Tryd.prog 61 = some [.c (.slice none 0 0)] := by kernel_rfl
theorem rwk61 : rwk Tryd.prog 61 = some (93, 6, 56, [.int .i64 0, .string ⟨#[]⟩, .int .i64 0, .int .i64 0, .int .i64 0, .int .i64 0]) := by kernel_rfl
theorem slk61 : slk Tryd.prog 61 = some (93, 6) := TT_ok.sl _ _ rfl
theorem ldk63 : ldk Tryd.prog 63 = some (true, 2) := TT_ok.ld _ _ rfl
theorem ze63 : zeroA Tryd.prog 63 = some [.c (.slice none 0 0), .c (.slice none 0 0)] := by kernel_rfl
theorem bld63 : bldk Tryd.prog 63 = some ([.slice none 0 0, .slice none 0 0], [(0, 1), (1, 1)]) := by kernel_rfl
theorem ldk67 : ldk Tryd.prog 67 = some (false, 1) := TT_ok.ld _ _ rfl
theorem ze67 : zeroA Tryd.prog 67 = some [.c (.slice none 0 0)] := by kernel_rfl
theorem rwk67 : rwk Tryd.prog 67 = some (9, 1, 16, [.string ⟨#[]⟩]) := by kernel_rfl
theorem slk67 : slk Tryd.prog 67 = some (9, 1) := TT_ok.sl _ _ rfl
theorem ldk71 : ldk Tryd.prog 71 = some (true, 2) := TT_ok.ld _ _ rfl
theorem ze71 : zeroA Tryd.prog 71 = some [.c (.int .i64 0), .c (.int .i64 0)] := by kernel_rfl
theorem bld71 : bldk Tryd.prog 71 = some ([.int .i64 0, .int .i64 0], [(0, 1), (1, 1)]) := by kernel_rfl
theorem flk71 : flatK Tryd.prog 4 71 = some [.int .i64, .int .i64] ∧ True := ⟨by kernel_rfl, trivial⟩
theorem ldk73 : ldk Tryd.prog 73 = some (true, 2) := TT_ok.ld _ _ rfl
theorem ze73 : zeroA Tryd.prog 73 = some [.c (.int .i64 0), .c (.int .i64 0)] := by kernel_rfl
theorem bld73 : bldk Tryd.prog 73 = some ([.int .i64 0, .int .i64 0], [(0, 1), (1, 1)]) := by kernel_rfl
theorem ldk83 : ldk Tryd.prog 83 = some (true, 3) := TT_ok.ld _ _ rfl
theorem ze83 : zeroA Tryd.prog 83 = some [.c (.int .i64 0), .c (.int .i64 0), .c (.int .i64 0)] := by kernel_rfl
theorem bld83 : bldk Tryd.prog 83 = some ([.int .i64 0, .int .i64 0, .int .i64 0], [(0, 1), (1, 1), (2, 1)]) := by kernel_rfl
theorem flk83 : flatK Tryd.prog 4 83 = some [.int .i64, .int .i64, .int .i64] ∧ True := ⟨by kernel_rfl, trivial⟩
theorem ldk85 : ldk Tryd.prog 85 = some (true, 3) := TT_ok.ld _ _ rfl
theorem ze85 : zeroA Tryd.prog 85 = some [.c (.int .i64 0), .c (.int .i64 0), .c (.int .i64 0)] := by kernel_rfl
theorem bld85 : bldk Tryd.prog 85 = some ([.int .i64 0, .int .i64 0, .int .i64 0], [(0, 1), (1, 1), (2, 1)]) := by kernel_rfl
theorem ldk91 : ldk Tryd.prog 91 = some (true, 4) := TT_ok.ld _ _ rfl
theorem ze91 : zeroA Tryd.prog 91 = some [.c (.int .i64 0), .c (.int .i64 0), .c (.int .i64 0), .c (.int .i64 0)] := by kernel_rfl
theorem bld91 : bldk Tryd.prog 91 = some ([.int .i64 0, .int .i64 0, .int .i64 0, .int .i64 0], [(0, 2), (2, 2)]) := by kernel_rfl
theorem flk91 : flatK Tryd.prog 4 91 = some [.int .i64, .int .i64, .int .i64, .int .i64] ∧ True := ⟨by kernel_rfl, trivial⟩
theorem ldk93 : ldk Tryd.prog 93 = some (true, 6) := TT_ok.ld _ _ rfl
theorem ze93 : zeroA Tryd.prog 93 = some [.c (.int .i64 0), .c (.string ⟨#[]⟩), .c (.int .i64 0), .c (.int .i64 0), .c (.int .i64 0), .c (.int .i64 0)] := by kernel_rfl
theorem bld93 : bldk Tryd.prog 93 = some ([.int .i64 0, .string ⟨#[]⟩, .int .i64 0, .int .i64 0, .int .i64 0, .int .i64 0], [(0, 1), (1, 1), (2, 4)]) := by kernel_rfl
theorem flk93 : flatK Tryd.prog 4 93 = some [.int .i64, .string, .int .i64, .int .i64, .int .i64, .int .i64] ∧ True := ⟨by kernel_rfl, trivial⟩
theorem ldk98 : ldk Tryd.prog 98 = some (false, 1) := TT_ok.ld _ _ rfl
theorem ze98 : zeroA Tryd.prog 98 = some [.c (.slice none 0 0)] := by kernel_rfl
theorem rwk98 : rwk Tryd.prog 98 = some (5, 1, 1, [.int .u8 0]) := by kernel_rfl
theorem slk98 : slk Tryd.prog 98 = some (5, 1) := TT_ok.sl _ _ rfl
theorem ldk102 : ldk Tryd.prog 102 = some (true, 4) := TT_ok.ld _ _ rfl
theorem ze102 : zeroA Tryd.prog 102 = some [.c (.int .i64 0), .c (.int .i64 0), .c (.int .i64 0), .c (.int .i64 0)] := by kernel_rfl
theorem bld102 : bldk Tryd.prog 102 = some ([.int .i64 0, .int .i64 0, .int .i64 0, .int .i64 0], [(0, 2), (2, 2)]) := by kernel_rfl
theorem ldk104 : ldk Tryd.prog 104 = some (true, 6) := TT_ok.ld _ _ rfl
theorem ze104 : zeroA Tryd.prog 104 = some [.c (.int .i64 0), .c (.string ⟨#[]⟩), .c (.int .i64 0), .c (.int .i64 0), .c (.int .i64 0), .c (.int .i64 0)] := by kernel_rfl
theorem bld104 : bldk Tryd.prog 104 = some ([.int .i64 0, .string ⟨#[]⟩, .int .i64 0, .int .i64 0, .int .i64 0, .int .i64 0], [(0, 1), (1, 1), (2, 4)]) := by kernel_rfl
end Go.Proofs.YtbkcoechoblndaaDoor.Abs
