/- The walks of segments put forward. -/
import Derived.Test.YtolmophnimngjaaGreatWkStep
import Derived.Test.YtolmophnimngjaaGreatWkGeo
namespace Go.Proofs.YtolmophnimngjaaGreat.Abs
open Go.Proofs Go.RowKit
set_option linter.unusedVariables false
set_option linter.unusedSimpArgs false
attribute [local irreducible] OpA AL AW DL DLM DLR DLS QOp POp VCalls VCallsI
set_option maxRecDepth 100000 in
set_option maxHeartbeats 2000000 in
theorem bef_i (a b : TPoint) : VCalls Tryz.prog 98 [.agg a.en, .agg b.en] (fun r M => r = B (bef a b) ∧ M = []) := by
  refine VCalls.body Tryz.func98 rfl 22 rfl (fun E => ?_)
  simp only [List.reduceReplicate, List.cons_append, List.nil_append]
  dsimp only [TPoint.en, TSegment.en]
  rcases bef_cases a b with h1 | ⟨h1, h2⟩ | ⟨h1, h2⟩
  repeat' ((first
    | ((with_reducible show AL _ _ _ _ _ _ _); first | refine AL.any ?_ | refine AL.U ?_ | refine AL.F ?_ | refine AL.T ?_ | refine AL.W ?_ | refine AL.nil ?_)
    | ((with_reducible show AW _ _ _ _ _ _); first | refine AW.seq ?_ | refine AW.region ?_ | refine AW.skip ?_ | refine AW.block ?_ | refine AW.exit ?_ | refine AW.ret ?_)
    | with_reducible refine (if_pos rfl).mpr ?_
    | with_reducible refine (if_neg (by decide)).mpr ?_) <;> (try dsimp only))
  all_goals exact Fin.one rfl (RV.tmp (by rfl)) (clo_c _) ⟨by first | rfl | (simp_all [bef]; done) | (simp only [bef]; (repeat' split) <;> simp_all <;> omega), rfl⟩

set_option maxRecDepth 100000 in
set_option maxHeartbeats 2000000 in
theorem turn_i (s : TSegment) : VCalls Tryz.prog 111 [.agg s.en] (fun r M => r = .agg [I s.b.x, I s.b.y, I s.a.x, I s.a.y] ∧ M = []) := by
  refine VCalls.body Tryz.func111 rfl 7 rfl (fun E => ?_)
  simp only [List.reduceReplicate, List.cons_append, List.nil_append]
  dsimp only [TPoint.en, TSegment.en]
  repeat' ((first
    | ((with_reducible show AL _ _ _ _ _ _ _); first | refine AL.any ?_ | refine AL.nil ?_)
    | ((with_reducible show AW _ _ _ _ _ _); first | refine AW.seq ?_ | refine AW.region ?_ | refine AW.skip ?_ | refine AW.block ?_ | refine AW.exit ?_ | refine AW.ret ?_)
    | with_reducible refine (if_pos rfl).mpr ?_
    | with_reducible refine (if_neg (by decide)).mpr ?_) <;> (try dsimp only))
  all_goals exact Fin.one rfl (RV.cell (QOp.quietA TT_ok (by rfl))) (clo_of (by rfl)) ⟨by rfl, rfl⟩

set_option maxRecDepth 100000 in
set_option maxHeartbeats 2000000 in
theorem fwd_i (s : TSegment) : VCalls Tryz.prog 97 [.agg s.en] (fun r M => r = .agg (fwdW s).en ∧ M = []) := by
  refine VCalls.body Tryz.func97 rfl 10 rfl (fun E => ?_)
  simp only [List.reduceReplicate, List.cons_append, List.nil_append]
  dsimp only [TPoint.en, TSegment.en]
  repeat' ((first
    | ((with_reducible show AL _ _ _ _ _ _ _); first | refine AL.any ?_ | refine AL.any (h := POp.k Tryz.func98 (hc := by first | exact bef_i a b | exact bef_i s.b s.a)) ?_ | refine AL.any (h := POp.k Tryz.func111 (hc := turn_i s)) ?_ | refine AL.nil ?_)
    | ((with_reducible show AW _ _ _ _ _ _); first | refine AW.seq ?_ | refine AW.region ?_ | refine AW.skip ?_ | refine AW.cT ?_ | refine AW.cF ?_ | (refine AW.c2 ?_ ?_ <;> (intro h; try simp only [Bool.not_eq_true', Bool.not_eq_false'] at h)) | refine AW.block ?_ | refine AW.exit ?_ | refine AW.ret ?_)
    | with_reducible refine (if_pos rfl).mpr ?_
    | with_reducible refine (if_neg (by decide)).mpr ?_) <;> (try dsimp only))
  all_goals exact Fin.one rfl (RV.cell (QOp.quietA TT_ok (by rfl))) (clo_of (by rfl)) ⟨by first | (simp only [fwdW]; simp_all; done) | (simp [fwdW, *]; done), rfl⟩

end Go.Proofs.YtolmophnimngjaaGreat.Abs
