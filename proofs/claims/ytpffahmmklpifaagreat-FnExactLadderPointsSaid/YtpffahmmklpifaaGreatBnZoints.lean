/- Part Zoints of the walk over abstract states and of the functions' walks. -/
import Derived.Test.YtpffahmmklpifaaGreatWkStep
import Derived.Test.YtpffahmmklpifaaGreatBnG
import Derived.Test.YtpffahmmklpifaaGreatBnD
/- The walk of the law on LadderPoints. -/
namespace Go.Proofs.YtpffahmmklpifaaGreat.Abs
open Go.Proofs Go.RowKit
set_option linter.unusedVariables false
set_option linter.unusedSimpArgs false
set_option maxRecDepth 100000
set_option maxHeartbeats 2000000
attribute [local irreducible] OpA AL AW DL DLM DLR DLS QOp POp VCalls VCallsI
theorem ctL_lv (l : List TLevel) : ctL TLevel.ct l ≤ l.length * 3 := ctL_bd fun _ _ => Nat.le_refl 3
theorem law_FnExactLadderPoints (l : List TFeature) (v : List TLevel) (h0 : (l.length ≤ maxLen ∧ ∀ x ∈ l, x.ok)) (h1 : (v.length ≤ maxLen ∧ ∀ x ∈ v, x.ok)) : VCalls Tryz.prog 6 [.ro 5 (l.map TFeature.en), .ro 3 (v.map TLevel.en)] (fun r M => r = B true ∧ M = []) := by
  refine VB Tryz.func6 90 (fun E hE => ?_)
  have hclo_l : Clo (.ro 5 (l.map TFeature.en)) := clo_list TFeature.clo_en
  have hclo_v : Clo (.ro 3 (v.map TLevel.en)) := clo_list TLevel.clo_en
  obtain ⟨hl0, hp0⟩ := id h0
  rw [maxLen_eq] at hl0
  obtain ⟨hl1, hp1⟩ := id h1
  rw [maxLen_eq] at hl1
  have hpl := lpV_len l v
  have hnl := nLp_le l v
  have hci := ictL (lpV l v)
  have hclI : Clo (.ro 1 ((lpV l v).map enI)) := clo_list clo_enI
  have hlv := ctL_lv v
  rcases Szs.split (TFeature.szs.list) l 1048576 h0 (by decide) (by decide) with hz | ⟨hz, ⟨hl0', hp0'⟩, hz0, hz1⟩
  case' inr => (rcases Szs.split (Szs.flat (ok := TLevel.ok)) v (szL TFeature.sz l 1048576) h1 hz0 hz1 with hz' | ⟨hz', hl1', hz0', hz1'⟩)
  all_goals try (dsimp only at hz')
  all_goals try (have hlI : (lpV l v).length ≤ 1048576 := by omega)
  all_goals try (have hcf := ctL_ft hl0' (fun x hx => hp0' x hx))
  all_goals try (have hk1 : decide (1 + ((ctL TFeature.ct l : Nat) : Int) + ((ctL TLevel.ct v : Nat) : Int) < 0) = false := by simp; omega)
  all_goals try (have hk2 : decide (1 + ((ctL ict (lpV l v) : Nat) : Int) < 0) = false := by simp; omega)
  repeat' ((first
    | (refine iAL ?_; first | refine AL.at 30 (h := POp.O Tryz.func19 (hc := toFeatureS_o l (by assumption) (by assumption))) ?_ | refine AL.at 32 (h := POp.O Tryz.func25 (hc := toLevelS_o v (by assumption))) ?_ | refine AL.at 35 (h := POp.O Tryz.func29 (hc := lad_i l v (by assumption) (gd_of (by assumption) (by assumption)) (by assumption))) ?_ | refine AL.any ?_ | refine AL.any (h := POp.k Tryz.func17 (hc := szFeatureS _ _ (by assumption) (by assumption))) ?_ | refine AL.any (h := POp.k Tryz.func19 (hc := toFeatureS _ (by assumption) (by assumption))) ?_ | refine AL.any (h := POp.D Tryz.func22 (hc := eqFeatureS_self l (by assumption) (by assumption))) ?_ | refine AL.any (h := POp.k Tryz.func23 (hc := szLevelS _ _)) ?_ | refine AL.any (h := POp.k Tryz.func25 (hc := toLevelS v (by assumption))) ?_ | refine AL.any (h := POp.D Tryz.func27 (hc := eqLevelS_self v (by assumption))) ?_ | refine AL.any (h := POp.k Tryz.func28 (hc := lad_s l v (by assumption) (gd_of (by assumption) (by assumption)) (by assumption))) ?_ | refine AL.any (h := POp.k Tryz.func29 (hc := lad_i' l v (by assumption) (gd_of (by assumption) (by assumption)) (by assumption))) ?_ | refine AL.any (h := POp.D Tryz.func30 (hc := eqIntS_self (lpV l v) (by assumption))) ?_ | refine AL.any (h := POp.H [0] Tryz.func31 (hc := markFeatureS 81 l 1 (by omega) (by omega))) ?_ | refine AL.any (h := POp.H [1] Tryz.func32 (hc := markLevelS 47 v (1 + ((ctL TFeature.ct l : Nat) : Int)) (by omega) (by omega))) ?_ | refine AL.any (h := POp.H [2] Tryz.func33 (hc := markIntS 3 (lpV l v) 1 (by omega) (by omega))) ?_ | refine AL.any (h := POp.D Tryz.func34 (hc := heldIntS (lpV l v) 1 (by omega) (by omega))) ?_ | refine AL.T ?_ | refine AL.T (h := POp.D Tryz.func30 (hc := eqIntS_self (lpV l v) (by assumption))) ?_ | refine AL.nil ?_)
    | (refine iAW ?_; first | (refine AW.c0 ?_; constructor) | refine AW.cT ?_ | refine AW.cF ?_)) <;> (try dsimp only))
  all_goals exact Fin.one rfl (RV.tmp (by rfl)) (clo_c _) ⟨by first | rfl | (simp_all; done), rfl⟩

end Go.Proofs.YtpffahmmklpifaaGreat.Abs
