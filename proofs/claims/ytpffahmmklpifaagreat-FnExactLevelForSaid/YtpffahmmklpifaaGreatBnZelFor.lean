/- Part ZelFor of the walk over abstract states and of the functions' walks. -/
import Derived.Test.YtpffahmmklpifaaGreatWkStep
import Derived.Test.YtpffahmmklpifaaGreatBnG
import Derived.Test.YtpffahmmklpifaaGreatBnD
/- The walk of the law on LevelFor. -/
namespace Go.Proofs.YtpffahmmklpifaaGreat.Abs
open Go.Proofs Go.RowKit
set_option linter.unusedVariables false
set_option linter.unusedSimpArgs false
set_option maxRecDepth 100000
set_option maxHeartbeats 2000000
attribute [local irreducible] OpA AL AW DL DLM DLR DLS QOp POp VCalls VCallsI
theorem law_FnExactLevelFor (l : List TFeature) (v : List TLevel) (k : Int) (h0 : (l.length ≤ maxLen ∧ ∀ x ∈ l, x.ok)) (h1 : (v.length ≤ maxLen ∧ ∀ x ∈ v, x.ok)) (h2 : i64 k) : VCalls Tryz.prog 5 [.ro 5 (l.map TFeature.en), .ro 3 (v.map TLevel.en), I k] (fun r M => r = B true ∧ M = []) := by
  refine VB Tryz.func5 46 (fun E hE => ?_)
  have hclo_l : Clo (.ro 5 (l.map TFeature.en)) := clo_list TFeature.clo_en
  have hclo_v : Clo (.ro 3 (v.map TLevel.en)) := clo_list TLevel.clo_en
  obtain ⟨hl0, hp0⟩ := id h0
  rw [maxLen_eq] at hl0
  obtain ⟨hl1, hp1⟩ := id h1
  rw [maxLen_eq] at hl1
  rcases Szs.split (TFeature.szs.list) l 1048576 h0 (by decide) (by decide) with hz | ⟨hz, ⟨hl0', hp0'⟩, hz0, hz1⟩
  case' inr => (rcases Szs.split (Szs.flat (ok := TLevel.ok)) v (szL TFeature.sz l 1048576) h1 hz0 hz1 with hz' | ⟨hz', hl1', hz0', hz1'⟩)
  all_goals try (dsimp only at hz')
  repeat' ((first
    | (refine iAL ?_; first | refine AL.any ?_ | refine AL.any (h := POp.k Tryz.func17 (hc := szFeatureS _ _ (by assumption) (by assumption))) ?_ | refine AL.any (h := POp.k Tryz.func19 (hc := toFeatureS _ (by assumption) (by assumption))) ?_ | refine AL.any (h := POp.k Tryz.func22 (hc := eqFeatureS_self _ (by assumption) (by assumption))) ?_ | refine AL.any (h := POp.k Tryz.func23 (hc := szLevelS _ _)) ?_ | refine AL.any (h := POp.k Tryz.func24 (hc := lvf_s l v k (by assumption) (gd_of (by assumption) (by assumption)) (by assumption))) ?_ | refine AL.any (h := POp.k Tryz.func25 (hc := toLevelS v (by assumption))) ?_ | refine AL.any (h := POp.k Tryz.func26 (hc := lvf_i l v k (by assumption) (gd_of (by assumption) (by assumption)) (by assumption))) ?_ | refine AL.any (h := POp.k Tryz.func27 (hc := eqLevelS_self v (by assumption))) ?_ | refine AL.nil ?_)
    | (refine iAW ?_; first | (refine AW.c0 ?_; constructor) | refine AW.cT ?_ | refine AW.cF ?_)) <;> (try dsimp only))
  all_goals exact Fin.one rfl (RV.tmp (by rfl)) (clo_c _) ⟨by first | rfl | (simp_all; done), rfl⟩

end Go.Proofs.YtpffahmmklpifaaGreat.Abs
