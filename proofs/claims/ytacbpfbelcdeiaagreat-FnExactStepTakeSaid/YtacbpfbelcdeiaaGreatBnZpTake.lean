/- Part ZpTake of the walk over abstract states and of the functions' walks. -/
import Derived.Test.YtacbpfbelcdeiaaGreatWkStep
import Derived.Test.YtacbpfbelcdeiaaGreatBnE
/- The walk of the law on StepTake. -/
namespace Go.Proofs.YtacbpfbelcdeiaaGreat.Abs
open Go.Proofs Go.RowKit
set_option linter.unusedVariables false
set_option linter.unusedSimpArgs false
set_option maxRecDepth 100000
set_option maxHeartbeats 2000000
attribute [local irreducible] OpA AL AW DL DLM DLR DLS QOp POp VCalls VCallsI
theorem law_FnExactStepTake (a : TAtlas) (id : Int) (who : Int) (h0 : a.ok) (h1 : i64 id) (h2 : i64 who) : VCalls Tryz.prog 10 [.agg a.en, I id, I who] (fun r M => r = B true ∧ M = []) := by
  refine VB Tryz.func10 103 (fun E hE => ?_)
  have hclo_a : Clo (.agg a.en) := Clo.agg a.clo_en
  rcases Szs.split (TAtlas.szs) a 1048576 h0 (by decide) (by decide) with hz | ⟨hz, hsm0, hz0, hz1⟩
  all_goals try (have hsmO : (stp a (tkO a id who) (tkK a id who)).sm := stp_ind (p := TAtlas.sm) (by assumption) (tkO_sm (by assumption)))
  all_goals try (have hcb := TAtlas.cs_le hsmO)
  all_goals try (have hclX : Clo (.agg (stp a (tkO a id who) (tkK a id who)).en) := Clo.agg (TAtlas.clo_en _))
  all_goals try (have hclT : Clo (.tup [.agg (stp a (tkO a id who) (tkK a id who)).en, B (stpB a (tkO a id who) (tkK a id who))]) := Clo.tup (clo_cons hclX (clo_cons (clo_c _) clo_nil)))
  all_goals try (have hca_a := TAtlas.cs_le (a := a) (by assumption))
  all_goals try (have hclA0 : Clo (.ro 8 (a.log.map TEntry.en)) := clo_list TEntry.clo_en)
  all_goals try (have hclA1 : Clo (.ro 3 (a.levels.map TLevel.en)) := clo_list TLevel.clo_en)
  all_goals try (have hclA2 : Clo (.ro 3 (a.editions.map TEdition.en)) := clo_list TEdition.clo_en)
  all_goals try (have hclX0 : Clo (.ro 8 ((stp a (tkO a id who) (tkK a id who)).log.map TEntry.en)) := clo_list TEntry.clo_en)
  all_goals try (have hclX1 : Clo (.ro 3 ((stp a (tkO a id who) (tkK a id who)).levels.map TLevel.en)) := clo_list TLevel.clo_en)
  all_goals try (have hclX2 : Clo (.ro 3 ((stp a (tkO a id who) (tkK a id who)).editions.map TEdition.en)) := clo_list TEdition.clo_en)
  all_goals try (have hclM0 : Clo (.ro 8 ((TAtlas.ms 1 (stp a (tkO a id who) (tkK a id who))).log.map TEntry.en)) := clo_list TEntry.clo_en)
  all_goals try (have hclM1 : Clo (.ro 3 ((TAtlas.ms 1 (stp a (tkO a id who) (tkK a id who))).levels.map TLevel.en)) := clo_list TLevel.clo_en)
  all_goals try (have hclM2 : Clo (.ro 3 ((TAtlas.ms 1 (stp a (tkO a id who) (tkK a id who))).editions.map TEdition.en)) := clo_list TEdition.clo_en)
  all_goals try (have hk2 : decide (1 + (((stp a (tkO a id who) (tkK a id who)).cs : Nat) : Int) < 0) = false := by simp; omega)
  all_goals try (have hk1 : decide (1 + ((a.cs : Nat) : Int) < 0) = false := by simp; omega)
  repeat' ((first
    | (refine iAL ?_; first | refine AL.at 32 (h := POp.O Tryz.func26 (hc := toAtlas_oX a (by assumption))) ?_ | refine AL.at 37 (h := POp.O Tryz.func47 (hc := (show VCalls Tryz.prog 47 [.agg [.ro 8 (a.log.map TEntry.en), .ro 3 (a.levels.map TLevel.en), .ro 3 (a.editions.map TEdition.en), I a.cover.w, I a.cover.h, S a.cover.cells, I a.now], I id, I who] (fun r M => r = .tup [.agg [.own 0 0, .own 1 0, .own 2 0, I (stp a (tkO a id who) (tkK a id who)).cover.w, I (stp a (tkO a id who) (tkK a id who)).cover.h, S (stp a (tkO a id who) (tkK a id who)).cover.cells, I (stp a (tkO a id who) (tkK a id who)).now], B (stpB a (tkO a id who) (tkK a id who))] ∧ M = [some ⟨121, 8, 0, false, (stp a (tkO a id who) (tkK a id who)).log.map TEntry.ed⟩, some ⟨97, 3, 0, false, (stp a (tkO a id who) (tkK a id who)).levels.map TLevel.en⟩, some ⟨136, 3, 0, false, (stp a (tkO a id who) (tkK a id who)).editions.map TEdition.ed⟩]) from tk_i a (gdA_of (by assumption) (by assumption)) id who))) ?_ | refine AL.any ?_ | refine AL.any (h := POp.D Tryz.func19 (hc := eqAtlas_self a (by assumption)) (hvw := vwlF)) ?_ | refine AL.any (h := POp.D Tryz.func19 (hc := eqAtlas_self (stp a (tkO a id who) (tkK a id who)) (by assumption)) (hvw := vwlF)) ?_ | refine AL.any (h := POp.H [2, 3, 4] Tryz.func22 (hc := markAtlas a (1) (by omega) (by omega))) ?_ | refine AL.any (h := POp.H [6, 7, 8] Tryz.func22 (hc := markAtlas (stp a (tkO a id who) (tkK a id who)) 1 (by omega) (by omega))) ?_ | refine AL.any (h := POp.D Tryz.func23 (hc := heldAtlas (stp a (tkO a id who) (tkK a id who)) 1 (by omega) (by omega))) ?_ | refine AL.any (h := POp.k Tryz.func24 (hc := szAtlas a _ (by assumption))) ?_ | refine AL.any (h := POp.k Tryz.func26 (hc := toAtlas a (by assumption))) ?_ | refine AL.any (h := POp.k Tryz.func46 (hc := tk_s' a (gdA_of (by assumption) (by assumption)) id who)) ?_ | refine AL.any (h := POp.k Tryz.func47 (hc := tk_i' a (gdA_of (by assumption) (by assumption)) id who)) ?_ | refine AL.U ?_ | refine AL.F ?_ | refine AL.T ?_ | refine AL.T (h := POp.D Tryz.func19 (hc := eqAtlas_self a (by assumption)) (hvw := vwlF)) ?_ | refine AL.T (h := POp.D Tryz.func19 (hc := eqAtlas_self (stp a (tkO a id who) (tkK a id who)) (by assumption)) (hvw := vwlF)) ?_ | refine AL.W ?_ | refine AL.W (h := fun h => by (try rw [h]); exact POp.D Tryz.func19 (hc := eqAtlas_self a (by assumption)) (hvw := vwlF)) ?_ | refine AL.W (h := fun h => by (try rw [h]); exact POp.D Tryz.func19 (hc := eqAtlas_self (stp a (tkO a id who) (tkK a id who)) (by assumption)) (hvw := vwlF)) ?_ | refine AL.nil ?_)
    | ((with_reducible show DL ..); first | refine DL.any ?_ | refine DL.any (h := POp.k Tryz.func26 (hc := toAtlas a (by assumption))) ?_ | refine DL.nil ?_)
    | (refine iAW ?_; first | (refine AW.c0 ?_; constructor) | refine AW.dr (id := 10) 3 ?_ | refine AW.cT ?_ | refine AW.cF ?_ | (refine AW.c2 ?_ ?_ <;> (intro h; try simp only [bT, bF] at h)))) <;> (try dsimp only))
  all_goals exact Fin.one rfl (RV.tmp (by rfl)) (clo_c _) ⟨by first | rfl | (simp_all; done), rfl⟩

end Go.Proofs.YtacbpfbelcdeiaaGreat.Abs
