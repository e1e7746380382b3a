/- Part ZCross of the walk over abstract states and of the functions' walks. -/
import Derived.Test.YtpffahmmklpifaaGreatWkStep
import Derived.Test.YtpffahmmklpifaaGreatBnI
import Derived.Test.YtpffahmmklpifaaGreatBnH
/- The walk of the law on NoneCross. -/
namespace Go.Proofs.YtpffahmmklpifaaGreat.Abs
open Go.Proofs Go.RowKit
set_option linter.unusedVariables false
set_option linter.unusedSimpArgs false
set_option maxRecDepth 100000
set_option maxHeartbeats 2000000
attribute [local irreducible] OpA AL AW DL DLM DLR DLS QOp POp VCalls VCallsI
theorem law_FnExactNoneCross (a : TAtlas) (h0 : a.ok) : VCalls Tryz.prog 8 [.agg a.en] (fun r M => r = B true ∧ M = []) := by
  refine VB Tryz.func8 26 (fun E hE => ?_)
  have hclo_a : Clo (.agg a.en) := Clo.agg a.clo_en
  rcases Szs.split (TAtlas.szs) a 1048576 h0 (by decide) (by decide) with hz | ⟨hz, hsm0, hz0, hz1⟩
  repeat' ((first
    | (refine iAL ?_; first | refine AL.any ?_ | refine AL.any (h := POp.k Tryz.func12 (hc := szAtlas a _ (by assumption))) ?_ | refine AL.any (h := POp.k Tryz.func14 (hc := toAtlas a (by assumption))) ?_ | refine AL.any (h := POp.k Tryz.func16 (hc := eqAtlas_self a (by assumption))) ?_ | refine AL.any (h := POp.k Tryz.func37 (hc := ncr_s a (gdA_of (by assumption) (by assumption)))) ?_ | refine AL.any (h := POp.k Tryz.func38 (hc := ncr_i a (gdA_of (by assumption) (by assumption)))) ?_ | refine AL.nil ?_)
    | ((with_reducible show DL ..); first | refine DL.any ?_ | refine DL.any (h := POp.k Tryz.func14 (hc := toAtlas a (by assumption))) ?_ | refine DL.nil ?_)
    | (refine iAW ?_; first | (refine AW.c0 ?_; constructor) | refine AW.dr (id := 10) 3 ?_ | refine AW.cT ?_ | refine AW.cF ?_)) <;> (try dsimp only))
  all_goals exact Fin.one rfl (RV.tmp (by rfl)) (clo_c _) ⟨by first | rfl | (simp_all; done), rfl⟩

end Go.Proofs.YtpffahmmklpifaaGreat.Abs
