/- Part ZEvent of the walk over abstract states and of the functions' walks. -/
import Derived.Test.YtacbpfbelcdeiaaGreatWkStep
import Derived.Test.YtacbpfbelcdeiaaGreatBnF
import Derived.Test.YtacbpfbelcdeiaaGreatBnE
import Derived.Test.YtacbpfbelcdeiaaGreatBnG
/- The walk of the law on ApplyEvent. -/
namespace Go.Proofs.YtacbpfbelcdeiaaGreat.Abs
open Go.Proofs Go.RowKit
set_option linter.unusedVariables false
set_option linter.unusedSimpArgs false
set_option maxRecDepth 100000
set_option maxHeartbeats 2000000
attribute [local irreducible] OpA AL AW DL DLM DLR DLS QOp POp VCalls VCallsI
theorem toEvent_oX (x : TEvent) (hs : x.sm) : VCalls Tryz.prog 50 [.agg [I x.kind, I x.feature.id, I x.feature.kind, I x.feature.rank, S x.feature.name, .ro 2 (x.feature.points.map TPoint.en), I x.id, I x.who, .ro 8 (x.log.map TEntry.en), .ro 3 (x.levels.map TLevel.en), S x.letter]] (fun r M => r = .agg [I x.kind, I x.feature.id, I x.feature.kind, I x.feature.rank, S x.feature.name, .own 0 0, I x.id, I x.who, .own 1 0, .own 2 0, S x.letter] ∧ M = [some ⟨152, 2, 0, false, x.feature.points.map TPoint.en⟩, some ⟨121, 8, 0, false, x.log.map TEntry.ed⟩, some ⟨97, 3, 0, false, x.levels.map TLevel.en⟩]) := toEvent_o x hs
theorem gdV_of {e : TEvent} (h1 : e.sm) (h2 : e.ok) : e.gd := by
  obtain ⟨s1, ⟨s2, s3⟩, s4⟩ := h1
  obtain ⟨_, k1, _, _, ⟨_, k2⟩, _, k3⟩ := h2
  exact ⟨⟨s1, k1.2.2.2.1⟩, ⟨s2, fun x hx => ⟨s3 x hx, (k2 x hx).1.2.2.2.1⟩⟩, s4, k3⟩
theorem TEvent.cs_le {x : TEvent} (h : x.sm) : x.cs ≤ 2200000000000 := by
  obtain ⟨s1, ⟨s2, s3⟩, s4⟩ := h
  have s1 : x.feature.points.length ≤ 1048576 := s1
  have e1 := ctL_pt x.feature.points
  have e2 := ctL_en s2 (fun y hy => s3 y hy)
  have e3 := ctL_lv x.levels
  unfold TEvent.cs TFeature.cs
  omega
theorem law_FnExactApplyEvent (a : TAtlas) (e : TEvent) (h0 : a.ok) (h1 : e.ok) : VCalls Tryz.prog 11 [.agg a.en, .agg e.en] (fun r M => r = B true ∧ M = []) := by
  refine VB Tryz.func11 117 (fun E hE => ?_)
  have hclo_a : Clo (.agg a.en) := Clo.agg a.clo_en
  have hclo_e : Clo (.agg e.en) := Clo.agg e.clo_en
  rcases Szs.split (TAtlas.szs) a 1048576 h0 (by decide) (by decide) with hz | ⟨hz, hsm0, hz0, hz1⟩
  case' inr => (rcases Szs.split (TEvent.szs) e (a.sz 1048576) h1 hz0 hz1 with hz' | ⟨hz', hsm1, hz0', hz1'⟩)
  all_goals try (dsimp only at hz')
  all_goals try (have hsmO : (stp a (apO a e).1 (apO a e).2).sm := stp_ind (p := TAtlas.sm) (by assumption) (apO_sm (by assumption) (show e.gs by assumption)))
  all_goals try (have hcb := TAtlas.cs_le hsmO)
  all_goals try (have hclX : Clo (.agg (stp a (apO a e).1 (apO a e).2).en) := Clo.agg (TAtlas.clo_en _))
  all_goals try (have hclT : Clo (.tup [.agg (stp a (apO a e).1 (apO a e).2).en, B (stpB a (apO a e).1 (apO a e).2)]) := Clo.tup (clo_cons hclX (clo_cons (clo_c _) clo_nil)))
  all_goals try (have hca_a := TAtlas.cs_le (a := a) (by assumption))
  all_goals try (have hclA0 : Clo (.ro 8 (a.log.map TEntry.en)) := clo_list TEntry.clo_en)
  all_goals try (have hclA1 : Clo (.ro 3 (a.levels.map TLevel.en)) := clo_list TLevel.clo_en)
  all_goals try (have hclA2 : Clo (.ro 3 (a.editions.map TEdition.en)) := clo_list TEdition.clo_en)
  all_goals try (have hca_e := TEvent.cs_le (x := e) (by assumption))
  all_goals try (have hclEv0 : Clo (.ro 2 (e.feature.points.map TPoint.en)) := clo_list TPoint.clo_en)
  all_goals try (have hclEv1 : Clo (.ro 8 (e.log.map TEntry.en)) := clo_list TEntry.clo_en)
  all_goals try (have hclEv2 : Clo (.ro 3 (e.levels.map TLevel.en)) := clo_list TLevel.clo_en)
  all_goals try (have hclX0 : Clo (.ro 8 ((stp a (apO a e).1 (apO a e).2).log.map TEntry.en)) := clo_list TEntry.clo_en)
  all_goals try (have hclX1 : Clo (.ro 3 ((stp a (apO a e).1 (apO a e).2).levels.map TLevel.en)) := clo_list TLevel.clo_en)
  all_goals try (have hclX2 : Clo (.ro 3 ((stp a (apO a e).1 (apO a e).2).editions.map TEdition.en)) := clo_list TEdition.clo_en)
  all_goals try (have hclM0 : Clo (.ro 8 ((TAtlas.ms 1 (stp a (apO a e).1 (apO a e).2)).log.map TEntry.en)) := clo_list TEntry.clo_en)
  all_goals try (have hclM1 : Clo (.ro 3 ((TAtlas.ms 1 (stp a (apO a e).1 (apO a e).2)).levels.map TLevel.en)) := clo_list TLevel.clo_en)
  all_goals try (have hclM2 : Clo (.ro 3 ((TAtlas.ms 1 (stp a (apO a e).1 (apO a e).2)).editions.map TEdition.en)) := clo_list TEdition.clo_en)
  all_goals try (have hk2 : decide (1 + (((stp a (apO a e).1 (apO a e).2).cs : Nat) : Int) < 0) = false := by simp; omega)
  all_goals try (have hk1 : decide (1 + ((a.cs : Nat) : Int) + ((e.cs : Nat) : Int) < 0) = false := by simp; omega)
  repeat' ((first
    | (refine iAL ?_; first | refine AL.at 36 (h := POp.O Tryz.func26 (hc := toAtlas_oX a (by assumption))) ?_ | refine AL.at 38 (h := POp.O Tryz.func50 (hc := toEvent_oX e (by assumption))) ?_ | refine AL.at 42 (h := POp.O Tryz.func51 (hc := (show VCalls Tryz.prog 51 [.agg [.ro 8 (a.log.map TEntry.en), .ro 3 (a.levels.map TLevel.en), .ro 3 (a.editions.map TEdition.en), I a.cover.w, I a.cover.h, S a.cover.cells, I a.now], .agg [I e.kind, I e.feature.id, I e.feature.kind, I e.feature.rank, S e.feature.name, .ro 2 (e.feature.points.map TPoint.en), I e.id, I e.who, .ro 8 (e.log.map TEntry.en), .ro 3 (e.levels.map TLevel.en), S e.letter]] (fun r M => r = .tup [.agg [.own 0 0, .own 1 0, .own 2 0, I (stp a (apO a e).1 (apO a e).2).cover.w, I (stp a (apO a e).1 (apO a e).2).cover.h, S (stp a (apO a e).1 (apO a e).2).cover.cells, I (stp a (apO a e).1 (apO a e).2).now], B (stpB a (apO a e).1 (apO a e).2)] ∧ M = [some ⟨121, 8, 0, false, (stp a (apO a e).1 (apO a e).2).log.map TEntry.ed⟩, some ⟨97, 3, 0, false, (stp a (apO a e).1 (apO a e).2).levels.map TLevel.en⟩, some ⟨136, 3, 0, false, (stp a (apO a e).1 (apO a e).2).editions.map TEdition.ed⟩]) from ap_i a (gdA_of (by assumption) (by assumption)) e (gdV_of (by assumption) (by assumption))))) ?_ | refine AL.any ?_ | refine AL.any (h := POp.D Tryz.func19 (hc := eqAtlas_self a (by assumption)) (hvw := vwlF)) ?_ | refine AL.any (h := POp.D Tryz.func19 (hc := eqAtlas_self (stp a (apO a e).1 (apO a e).2) (by assumption)) (hvw := vwlF)) ?_ | refine AL.any (h := POp.H [3, 4, 5] Tryz.func22 (hc := markAtlas a (1) (by omega) (by omega))) ?_ | refine AL.any (h := POp.H [11, 12, 13] Tryz.func22 (hc := markAtlas (stp a (apO a e).1 (apO a e).2) 1 (by omega) (by omega))) ?_ | refine AL.any (h := POp.D Tryz.func23 (hc := heldAtlas (stp a (apO a e).1 (apO a e).2) 1 (by omega) (by omega))) ?_ | refine AL.any (h := POp.k Tryz.func24 (hc := szAtlas a _ (by assumption))) ?_ | refine AL.any (h := POp.k Tryz.func26 (hc := toAtlas a (by assumption))) ?_ | refine AL.any (h := POp.k Tryz.func48 (hc := szEvent e _ (by assumption))) ?_ | refine AL.any (h := POp.k Tryz.func50 (hc := toEvent e (by assumption))) ?_ | refine AL.any (h := POp.k Tryz.func51 (hc := ap_i' a (gdA_of (by assumption) (by assumption)) e (gdV_of (by assumption) (by assumption)))) ?_ | refine AL.any (h := POp.D Tryz.func52 (hc := eqEvent_self e (by assumption)) (hvw := vwlF)) ?_ | refine AL.any (h := POp.H [7, 8, 9] Tryz.func53 (hc := markEvent e (1 + ((a.cs : Nat) : Int)) (by omega) (by omega))) ?_ | refine AL.U ?_ | refine AL.F ?_ | refine AL.T ?_ | refine AL.T (h := POp.D Tryz.func19 (hc := eqAtlas_self a (by assumption)) (hvw := vwlF)) ?_ | refine AL.T (h := POp.D Tryz.func19 (hc := eqAtlas_self (stp a (apO a e).1 (apO a e).2) (by assumption)) (hvw := vwlF)) ?_ | refine AL.W ?_ | refine AL.W (h := fun h => by (try rw [h]); exact POp.D Tryz.func19 (hc := eqAtlas_self a (by assumption)) (hvw := vwlF)) ?_ | refine AL.W (h := fun h => by (try rw [h]); exact POp.D Tryz.func19 (hc := eqAtlas_self (stp a (apO a e).1 (apO a e).2) (by assumption)) (hvw := vwlF)) ?_ | refine AL.nil ?_)
    | ((with_reducible show DL ..); first | refine DL.any ?_ | refine DL.any (h := POp.k Tryz.func26 (hc := toAtlas a (by assumption))) ?_ | refine DL.any (h := POp.k Tryz.func49 (hc := ap_s' a (gdA_of (by assumption) (by assumption)) e (gdV_of (by assumption) (by assumption)))) ?_ | refine DL.any (h := POp.k Tryz.func50 (hc := toEvent e (by assumption))) ?_ | refine DL.any (h := POp.k Tryz.func51 (hc := ap_i' a (gdA_of (by assumption) (by assumption)) e (gdV_of (by assumption) (by assumption)))) ?_ | refine DL.nil ?_)
    | ((with_reducible show DLR ..); first | refine DLR.any ?_ | refine DLR.alloc rfl rfl (by first | exact ze2 | exact ze3 | exact ze4 | exact ze5 | exact ze6 | exact ze7 | exact ze8 | exact ze9 | exact ze10 | exact ze11 | exact ze12 | exact ze13 | exact ze14 | exact ze15 | exact ze16 | exact ze17 | exact ze19 | exact ze22 | exact ze24 | exact ze27 | exact ze28 | exact ze29 | exact ze30 | exact ze32 | exact ze42 | exact ze43 | exact ze44 | exact ze45 | exact ze62 | exact ze64 | exact ze67 | exact ze69 | exact ze77 | exact ze80 | exact ze81 | exact ze89 | exact ze99 | exact ze113 | exact ze116 | exact ze117 | exact ze121 | exact ze145 | exact ze155) rfl rfl ?_ | refine DLR.box rfl rfl (by rfl) (by rfl) rfl rfl ?_ | refine DLR.store rfl rfl (by rfl) rfl rfl rfl rfl rfl (by rfl) (by rfl) (TT_ok.ld _ _ (by rfl)) (by rfl) (by rfl) rfl ?_ | refine DLR.any (h := fun Y => POp.k Tryz.func26 (hc := toAtlas a (by assumption))) ?_ | refine DLR.any (h := fun Y => POp.k Tryz.func49 (hc := ap_s' a (gdA_of (by assumption) (by assumption)) e (gdV_of (by assumption) (by assumption)))) ?_ | refine DLR.any (h := fun Y => POp.k Tryz.func50 (hc := toEvent e (by assumption))) ?_ | refine DLR.any (h := fun Y => POp.k Tryz.func51 (hc := ap_i' a (gdA_of (by assumption) (by assumption)) e (gdV_of (by assumption) (by assumption)))) ?_ | refine DLR.row rfl (fun Y => RowRun.empty (by rfl) (by rfl) (by first | exact rwk22 | exact rwk27 | exact rwk28 | exact rwk29 | exact rwk42 | exact rwk43 | exact rwk62 | exact rwk67 | exact rwk89 | exact rwk113)) rfl rfl ?_ | refine DLR.row rfl (fun Y => RowRun.literal (by rfl) (by first | exact rwk22 | exact rwk27 | exact rwk28 | exact rwk29 | exact rwk42 | exact rwk43 | exact rwk62 | exact rwk67 | exact rwk89 | exact rwk113) (by rfl) (by rfl) (by rfl) (by rfl) (by rfl) (by rfl)) rfl rfl ?_ | refine DLR.append rfl (by rfl) (by first | exact rwk22 | exact rwk27 | exact rwk28 | exact rwk29 | exact rwk42 | exact rwk43 | exact rwk62 | exact rwk67 | exact rwk89 | exact rwk113) (by rfl) rfl rfl rfl rfl rfl rfl (by rfl) (by first | (simp <;> omega) | omega) (by first | (simp [maxLen] <;> omega) | (simp_all [maxLen] <;> omega)) ?_ | refine DLR.nil ?_)
    | (refine iAW ?_; first | (refine AW.c0 ?_; constructor) | refine AW.drawnR (id := 8) 10 1 [none, none, none, none, none, none, none, none, some 0, some 0] [some Rsv] rfl (by kernel_rfl) (by kernel_rfl) (by kernel_rfl) (by rfl) ?_ | refine AW.dr (id := 14) 3 ?_ | refine AW.dr (id := 16) 3 ?_ | refine AW.drawnR (id := 31) 10 1 [none, none, none, none, none, none, none, none, some 0, some 0] [some Rsv] rfl (by kernel_rfl) (by kernel_rfl) (by kernel_rfl) (by rfl) ?_ | refine AW.cT ?_ | refine AW.cF ?_ | (refine AW.c2 ?_ ?_ <;> (intro h; try simp only [bT, bF] at h)))) <;> (try dsimp only))
  all_goals exact Fin.one rfl (RV.tmp (by rfl)) (clo_c _) ⟨by first | rfl | (simp_all; done), rfl⟩

end Go.Proofs.YtacbpfbelcdeiaaGreat.Abs
