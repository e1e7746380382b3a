/- Part F of the walk over abstract states and of the functions' walks. -/
import Derived.Test.YtacbpfbelcdeiaaGreatWkStep
import Derived.Lib.ConvBytes
import Derived.Test.YtacbpfbelcdeiaaGreatWkMark
import Derived.Test.YtacbpfbelcdeiaaGreatBnE
/- The walks of AreEditions. -/
namespace Go.Proofs.YtacbpfbelcdeiaaGreat.Abs
open Go.Proofs Go.RowKit
set_option linter.unusedVariables false
set_option linter.unusedSimpArgs false
attribute [local irreducible] OpA AL AW DL DLM DLR DLS QOp POp VCalls VCallsI
set_option maxRecDepth 100000 in
set_option maxHeartbeats 2000000 in
theorem areEd_s (l : List TEdition) (hl : l.length ≤ 1048576) (hp : ∀ e ∈ l, e.source.length ≤ 1048576 ∧ ∀ x ∈ e.source, x.gd) : VCalls Tryz.prog 104 [.ro 3 (l.map TEdition.en)] (fun r M => r = B (areEd l) ∧ M = []) := by
  refine VCalls.bodyE Tryz.func104 rfl 73 rfl (fun E hE => ?_)
  simp only [List.reduceReplicate, List.cons_append, List.nil_append]
  have hclo : Clo (.ro 3 (l.map TEdition.en)) := clo_list TEdition.clo_en
  repeat' ((first
    | ((with_reducible show AL _ _ _ _ _ _ _); first | refine AL.any ?_ | refine AL.any (h := POp.k Tryz.func118 (hc := seal_s (prevSeal l i) x.tick x.source (by assumption) (by assumption))) ?_ | refine AL.U ?_ | refine AL.F ?_ | refine AL.T ?_ | refine AL.W ?_ | refine AL.nil ?_)
    | ((with_reducible show DL _ _ _ _ _ _ _); first | refine DL.any ?_ | refine DL.any (h := POp.k Tryz.func77 (hc := inr_s _ _ _)) ?_ | refine DL.U ?_ | refine DL.F ?_ | refine DL.T ?_ | refine DL.T (h := POp.k Tryz.func133 (hc := isSource_s x.source (by assumption) (by assumption))) ?_ | refine DL.W ?_ | refine DL.W (h := fun h => by (try rw [h]); exact POp.k Tryz.func133 (hc := isSource_s x.source (by assumption) (by assumption))) ?_ | refine DL.nil ?_)
    | ((with_reducible show AW _ _ _ _ _ _); first | refine AW.seq ?_ | refine AW.region ?_ | refine AW.skip ?_ | (refine AW.loopD hE (fun i : Nat => [.ro 3 (l.map TEdition.en), .any, .any, I (prevSeal l i), I (i : Int), .any, .any, .any, .any, .any, .any, .any, .any, .any, .any, .any, .any, .any, .any, .any, .any, .any, .any, .any, .any, .any, .any, .any, .any, .any, .any, .any, .any, .any, .any, .any, .any, .any, .any, .any, .any, .any, .any, .any, .any, .any, .any, .any, .any, .any, .any, .any, .any, .any, .any, .any, .any, .any, .any, .any, .any, .any, .any, .any, .any, .any, .any, .any, .any, .any, .any, .any, .any, .any]) (fun i => []) (fun i => nEd l - i) (fun i => i ≤ nEd l ∧ edTo l i = true) 0 ⟨Nat.zero_le _, by simp [edTo]⟩ ?_ (by first | rfl | (simp [fil_zero]; done)) ?_) | refine AW.dr (id := 5) 11 ?_ | refine AW.dr (id := 6) 40 ?_ | refine AW.cT ?_ | refine AW.cF ?_ | (refine AW.c2 ?_ ?_ <;> (intro h; try simp only [Bool.not_eq_true', Bool.not_eq_false'] at h)) | refine AW.block ?_ | refine AW.exit ?_ | refine AW.ret ?_)
    | with_reducible refine (if_pos rfl).mpr ?_
    | with_reducible refine (if_neg (by decide)).mpr ?_) <;> (try dsimp only))
  · (repeat' (first | exact Wk.nil | refine Wk.any ?_ | (with_reducible refine Wk.same ?_) | refine Wk.of ?_ ?_)) <;> first | rfl | (simp [prevSeal])
  · intro i hi
    have hclo : Clo (.ro 3 (l.map TEdition.en)) := clo_list TEdition.clo_en
    by_cases hlt : i < nEd l
    · skip
      obtain ⟨hN, hE6⟩ := nEd_t hlt
      obtain ⟨x, hx⟩ : ∃ x, l[i]? = some x := ⟨_, List.getElem?_eq_getElem (by omega)⟩
      have hg := map_get (f := TEdition.en) hx
      have ht : (decide ((i : Int) < ((l.map TEdition.en).length : Int)) && decide (((l.map TEdition.en).length : Int) ≤ 6)) = true := by simp; omega
      have hn := next_ix hlt (by omega)
      obtain ⟨hsl, hsx⟩ := hp x (List.mem_of_getElem? hx)
      have hsu := edTo_succ l i
      have hps := prevSeal_succ hx
      have hclS : Clo (.ro 5 (x.source.map TFeature.en)) := clo_list TFeature.clo_en
      have hcle : Clo (.agg x.en) := Clo.agg x.clo_en
      rcases ed_cases hx hl with ⟨q1, hk⟩ | ⟨q1, hz, ⟨q2, hk⟩ | ⟨q2, q3, hk⟩ | ⟨q2, q3, hk⟩⟩ | ⟨p, q1, hz, h0, hp0, ⟨q4, hk, q2 | ⟨q2, q3⟩ | ⟨q2, q3⟩⟩ | ⟨q4, ⟨q2, hk⟩ | ⟨q2, q3, hk⟩ | ⟨q2, q3, hk⟩⟩⟩
      repeat' ((first
        | ((with_reducible show AL _ _ _ _ _ _ _); first | refine AL.any ?_ | refine AL.any (h := POp.k Tryz.func118 (hc := seal_s (prevSeal l i) x.tick x.source (by assumption) (by assumption))) ?_ | refine AL.U ?_ | refine AL.F ?_ | refine AL.T ?_ | refine AL.W ?_ | refine AL.nil ?_)
        | ((with_reducible show DL _ _ _ _ _ _ _); first | refine DL.any ?_ | refine DL.any (h := POp.k Tryz.func77 (hc := inr_s _ _ _)) ?_ | refine DL.U ?_ | refine DL.F ?_ | refine DL.T ?_ | refine DL.T (h := POp.k Tryz.func133 (hc := isSource_s x.source (by assumption) (by assumption))) ?_ | refine DL.W ?_ | refine DL.W (h := fun h => by (try rw [h]); exact POp.k Tryz.func133 (hc := isSource_s x.source (by assumption) (by assumption))) ?_ | refine DL.nil ?_)
        | ((with_reducible show AW _ _ _ _ _ _); first | refine AW.seq ?_ | refine AW.region ?_ | refine AW.skip ?_ | refine AW.dr (id := 5) 11 ?_ | refine AW.dr (id := 6) 40 ?_ | refine AW.cT ?_ | refine AW.cF ?_ | (refine AW.c2 ?_ ?_ <;> (intro h; try simp only [Bool.not_eq_true', Bool.not_eq_false'] at h)) | refine AW.block ?_ | refine AW.exit ?_ | refine AW.ret ?_)
        | with_reducible refine (if_pos rfl).mpr ?_
        | with_reducible refine (if_neg (by decide)).mpr ?_) <;> (try dsimp only))
      all_goals first
        | (refine ⟨i + 1, _, ⟨hlt, by simp_all⟩, by omega, ?_, rfl, ?_, ?_⟩; (focus ((repeat' (first | exact Wk.nil | refine Wk.any ?_ | (with_reducible refine Wk.same ?_) | refine Wk.of ?_ ?_)) <;> (first | rfl | (simp_all [hps]; done) | simp_all))); (focus ((repeat' (first | exact Fits.nil _ | refine Fits.cons ?_ ?_ | exact Fits.any _ | exact Fits.c _ _ | exact Fits.own (by rfl) | exact Fits.ref (by rfl) | exact Fits.clo (by assumption) | exact Fits.clo (clo_of (by rfl)) | exact Fits.clo (clo_fn _))))); (focus (exact FitsM.nil _)))
        | exact Fin.one rfl (RV.tmp (by rfl)) (clo_c _) ⟨by have hn := edTo_not (n := l.length) (by simp_all : edAt l i = false) (by omega); simp_all [areEd], rfl⟩
    · have e : i = nEd l := by omega
      have ht : (decide ((i : Int) < ((l.map TEdition.en).length : Int)) && decide (((l.map TEdition.en).length : Int) ≤ 6)) = false := by
        rw [e]
        unfold nEd
        split
        · simp
        · simp; omega
      subst e
      repeat' ((first
        | ((with_reducible show AL _ _ _ _ _ _ _); first | refine AL.any ?_ | refine AL.any (h := POp.k Tryz.func118 (hc := seal_s (prevSeal l i) x.tick x.source (by assumption) (by assumption))) ?_ | refine AL.U ?_ | refine AL.F ?_ | refine AL.T ?_ | refine AL.W ?_ | refine AL.nil ?_)
        | ((with_reducible show DL _ _ _ _ _ _ _); first | refine DL.any ?_ | refine DL.any (h := POp.k Tryz.func77 (hc := inr_s _ _ _)) ?_ | refine DL.U ?_ | refine DL.F ?_ | refine DL.T ?_ | refine DL.T (h := POp.k Tryz.func133 (hc := isSource_s x.source (by assumption) (by assumption))) ?_ | refine DL.W ?_ | refine DL.W (h := fun h => by (try rw [h]); exact POp.k Tryz.func133 (hc := isSource_s x.source (by assumption) (by assumption))) ?_ | refine DL.nil ?_)
        | ((with_reducible show AW _ _ _ _ _ _); first | refine AW.seq ?_ | refine AW.region ?_ | refine AW.skip ?_ | refine AW.dr (id := 5) 11 ?_ | refine AW.dr (id := 6) 40 ?_ | refine AW.cT ?_ | refine AW.cF ?_ | (refine AW.c2 ?_ ?_ <;> (intro h; try simp only [Bool.not_eq_true', Bool.not_eq_false'] at h)) | refine AW.block ?_ | refine AW.exit ?_ | refine AW.ret ?_)
        | with_reducible refine (if_pos rfl).mpr ?_
        | with_reducible refine (if_neg (by decide)).mpr ?_) <;> (try dsimp only))
      all_goals exact Fin.one rfl (RV.tmp (by rfl)) (clo_c _) ⟨by have h2 := hi.2; unfold nEd at h2; unfold areEd; split at h2 <;> simp_all <;> omega, rfl⟩

set_option maxRecDepth 100000 in
set_option maxHeartbeats 2000000 in
theorem areEd_i (l : List TEdition) (hl : l.length ≤ 1048576) (hp : ∀ e ∈ l, e.source.length ≤ 1048576 ∧ ∀ x ∈ e.source, x.gd) : VCalls Tryz.prog 107 [.ro 3 (l.map TEdition.en)] (fun r M => r = B (areEd l) ∧ M = []) := by
  refine VCalls.bodyE Tryz.func107 rfl 54 rfl (fun E hE => ?_)
  simp only [List.reduceReplicate, List.cons_append, List.nil_append]
  have hclo : Clo (.ro 3 (l.map TEdition.en)) := clo_list TEdition.clo_en
  repeat' ((first
    | ((with_reducible show AL _ _ _ _ _ _ _); first | refine AL.any ?_ | refine AL.U ?_ | refine AL.F ?_ | refine AL.T ?_ | refine AL.W ?_ | refine AL.nil ?_)
    | ((with_reducible show DL _ _ _ _ _ _ _); first | refine DL.any ?_ | refine DL.any (h := POp.k Tryz.func78 (hc := inr_v _ _ _)) ?_ | refine DL.U ?_ | refine DL.F ?_ | refine DL.T ?_ | refine DL.T (h := POp.k Tryz.func121 (hc := seal_i (prevSeal l i) x.tick x.source (by assumption) (by assumption))) ?_ | refine DL.T (h := POp.k Tryz.func135 (hc := isSource_i x.source (by assumption) (by assumption))) ?_ | refine DL.W ?_ | refine DL.W (h := fun h => by (try rw [h]); exact POp.k Tryz.func121 (hc := seal_i (prevSeal l i) x.tick x.source (by assumption) (by assumption))) ?_ | refine DL.W (h := fun h => by (try rw [h]); exact POp.k Tryz.func135 (hc := isSource_i x.source (by assumption) (by assumption))) ?_ | refine DL.nil ?_)
    | ((with_reducible show AW _ _ _ _ _ _); first | refine AW.seq ?_ | refine AW.region ?_ | refine AW.skip ?_ | (refine AW.loopD hE (fun i : Nat => [.ro 3 (l.map TEdition.en), .any, .any, I (prevSeal l i), .any, .any, .any, .any, .any, .ro 3 (l.map TEdition.en), I ((l.map TEdition.en).length : Int), I (i : Int), .any, .any, .any, .any, .any, .any, .any, .any, .any, .any, .any, .any, .any, .any, .any, .any, .any, .any, .any, .any, .any, .any, .any, .any, .any, .any, .any, .any, .any, .any, .any, .any, .any, .any, .any, .any, .any, .any, .any, .any, .any, .any, .any]) (fun i => []) (fun i => l.length - i) (fun i => i ≤ l.length ∧ edTo l i = true) 0 (by simp [edTo]) ?_ (by first | rfl | (simp [fil_zero]; done)) ?_) | refine AW.dr (id := 7) 34 ?_ | refine AW.cT ?_ | refine AW.cF ?_ | (refine AW.c2 ?_ ?_ <;> (intro h; try simp only [Bool.not_eq_true', Bool.not_eq_false'] at h)) | refine AW.block ?_ | refine AW.exit ?_ | refine AW.ret ?_)
    | with_reducible refine (if_pos rfl).mpr ?_
    | with_reducible refine (if_neg (by decide)).mpr ?_) <;> (try dsimp only))
  · exact Fin.one rfl (RV.tmp (by rfl)) (clo_c _) ⟨by simp_all [areEd] <;> omega, rfl⟩
  · (repeat' (first | exact Wk.nil | refine Wk.any ?_ | (with_reducible refine Wk.same ?_) | refine Wk.of ?_ ?_)) <;> first | rfl | (simp [prevSeal])
  · intro i hi
    have hclo : Clo (.ro 3 (l.map TEdition.en)) := clo_list TEdition.clo_en
    by_cases hlt : i < l.length
    · obtain ⟨x, hx⟩ : ∃ x, l[i]? = some x := ⟨_, List.getElem?_eq_getElem hlt⟩
      have hg := map_get (f := TEdition.en) hx
      have ht := lt_true (f := TEdition.en) hlt
      have hn := next_ix hlt (by omega)
      obtain ⟨hsl, hsx⟩ := hp x (List.mem_of_getElem? hx)
      have hsu := edTo_succ l i
      have hps := prevSeal_succ hx
      have hclS : Clo (.ro 5 (x.source.map TFeature.en)) := clo_list TFeature.clo_en
      have hcle : Clo (.agg x.en) := Clo.agg x.clo_en
      rcases ed_cases hx hl with ⟨q1, hk⟩ | ⟨q1, hz, ⟨q2, hk⟩ | ⟨q2, q3, hk⟩ | ⟨q2, q3, hk⟩⟩ | ⟨p, q1, hz, h0, hp0, ⟨q4, hk, q2 | ⟨q2, q3⟩ | ⟨q2, q3⟩⟩ | ⟨q4, ⟨q2, hk⟩ | ⟨q2, q3, hk⟩ | ⟨q2, q3, hk⟩⟩⟩
      repeat' ((first
        | ((with_reducible show AL _ _ _ _ _ _ _); first | refine AL.any ?_ | refine AL.U ?_ | refine AL.F ?_ | refine AL.T ?_ | refine AL.W ?_ | refine AL.nil ?_)
        | ((with_reducible show DL _ _ _ _ _ _ _); first | refine DL.any ?_ | refine DL.any (h := POp.k Tryz.func78 (hc := inr_v _ _ _)) ?_ | refine DL.U ?_ | refine DL.F ?_ | refine DL.T ?_ | refine DL.T (h := POp.k Tryz.func121 (hc := seal_i (prevSeal l i) x.tick x.source (by assumption) (by assumption))) ?_ | refine DL.T (h := POp.k Tryz.func135 (hc := isSource_i x.source (by assumption) (by assumption))) ?_ | refine DL.W ?_ | refine DL.W (h := fun h => by (try rw [h]); exact POp.k Tryz.func121 (hc := seal_i (prevSeal l i) x.tick x.source (by assumption) (by assumption))) ?_ | refine DL.W (h := fun h => by (try rw [h]); exact POp.k Tryz.func135 (hc := isSource_i x.source (by assumption) (by assumption))) ?_ | refine DL.nil ?_)
        | ((with_reducible show AW _ _ _ _ _ _); first | refine AW.seq ?_ | refine AW.region ?_ | refine AW.skip ?_ | refine AW.dr (id := 7) 34 ?_ | refine AW.cT ?_ | refine AW.cF ?_ | (refine AW.c2 ?_ ?_ <;> (intro h; try simp only [Bool.not_eq_true', Bool.not_eq_false'] at h)) | refine AW.block ?_ | refine AW.exit ?_ | refine AW.ret ?_)
        | with_reducible refine (if_pos rfl).mpr ?_
        | with_reducible refine (if_neg (by decide)).mpr ?_) <;> (try dsimp only))
      all_goals first
        | (refine ⟨i + 1, _, ⟨hlt, by simp_all⟩, by omega, ?_, rfl, ?_, ?_⟩; (focus ((repeat' (first | exact Wk.nil | refine Wk.any ?_ | (with_reducible refine Wk.same ?_) | refine Wk.of ?_ ?_)) <;> (first | rfl | (simp_all [hps]; done) | simp_all))); (focus ((repeat' (first | exact Fits.nil _ | refine Fits.cons ?_ ?_ | exact Fits.any _ | exact Fits.c _ _ | exact Fits.own (by rfl) | exact Fits.ref (by rfl) | exact Fits.clo (by assumption) | exact Fits.clo (clo_of (by rfl)) | exact Fits.clo (clo_fn _))))); (focus (exact FitsM.nil _)))
        | exact Fin.one rfl (RV.tmp (by rfl)) (clo_c _) ⟨by have hn := edTo_not (n := l.length) (by simp_all : edAt l i = false) (by omega); simp_all [areEd], rfl⟩
    · have ht := lt_false (f := TEdition.en) hlt
      have e : i = l.length := by omega
      subst e
      try rw [List.take_length]
      repeat' ((first
        | ((with_reducible show AL _ _ _ _ _ _ _); first | refine AL.any ?_ | refine AL.U ?_ | refine AL.F ?_ | refine AL.T ?_ | refine AL.W ?_ | refine AL.nil ?_)
        | ((with_reducible show DL _ _ _ _ _ _ _); first | refine DL.any ?_ | refine DL.any (h := POp.k Tryz.func78 (hc := inr_v _ _ _)) ?_ | refine DL.U ?_ | refine DL.F ?_ | refine DL.T ?_ | refine DL.T (h := POp.k Tryz.func121 (hc := seal_i (prevSeal l i) x.tick x.source (by assumption) (by assumption))) ?_ | refine DL.T (h := POp.k Tryz.func135 (hc := isSource_i x.source (by assumption) (by assumption))) ?_ | refine DL.W ?_ | refine DL.W (h := fun h => by (try rw [h]); exact POp.k Tryz.func121 (hc := seal_i (prevSeal l i) x.tick x.source (by assumption) (by assumption))) ?_ | refine DL.W (h := fun h => by (try rw [h]); exact POp.k Tryz.func135 (hc := isSource_i x.source (by assumption) (by assumption))) ?_ | refine DL.nil ?_)
        | ((with_reducible show AW _ _ _ _ _ _); first | refine AW.seq ?_ | refine AW.region ?_ | refine AW.skip ?_ | refine AW.dr (id := 7) 34 ?_ | refine AW.cT ?_ | refine AW.cF ?_ | (refine AW.c2 ?_ ?_ <;> (intro h; try simp only [Bool.not_eq_true', Bool.not_eq_false'] at h)) | refine AW.block ?_ | refine AW.exit ?_ | refine AW.ret ?_)
        | with_reducible refine (if_pos rfl).mpr ?_
        | with_reducible refine (if_neg (by decide)).mpr ?_) <;> (try dsimp only))
      all_goals exact Fin.one rfl (RV.tmp (by rfl)) (clo_c _) ⟨by first | (simp_all [areEd]; done) | (simp_all [areEd] <;> omega), rfl⟩

end Go.Proofs.YtacbpfbelcdeiaaGreat.Abs

/- The walks of IsAtlas and FaultOf. -/
namespace Go.Proofs.YtacbpfbelcdeiaaGreat.Abs
open Go.Proofs Go.RowKit
set_option linter.unusedVariables false
set_option linter.unusedSimpArgs false
attribute [local irreducible] OpA AL AW DL DLM DLR DLS QOp POp VCalls VCallsI
set_option maxRecDepth 100000 in
set_option maxHeartbeats 2000000 in
theorem isAtl_s (a : TAtlas) (hgd : a.gd) : VCalls Tryz.prog 61 [.agg a.en] (fun r M => r = B (isAtl a) ∧ M = []) := by
  refine VCalls.bodyE Tryz.func61 rfl 59 rfl (fun E hE => ?_)
  simp only [List.reduceReplicate, List.cons_append, List.nil_append]
  have hclL : Clo (.ro 8 (a.log.map TEntry.en)) := clo_list TEntry.clo_en
  have hclV : Clo (.ro 3 (a.levels.map TLevel.en)) := clo_list TLevel.clo_en
  have hclE : Clo (.ro 3 (a.editions.map TEdition.en)) := clo_list TEdition.clo_en
  have hclA : Clo (.agg a.en) := Clo.agg a.clo_en
  obtain ⟨⟨g1, g2⟩, g3, ⟨g4, g5⟩, g6⟩ := id hgd
  dsimp only [TAtlas.en]
  repeat' ((first
    | ((with_reducible show AL _ _ _ _ _ _ _); first | refine AL.any ?_ | refine AL.any (h := POp.k Tryz.func86 (hc := isLog_s a.log g1 g2)) ?_ | refine AL.U ?_ | refine AL.F ?_ | refine AL.T ?_ | refine AL.T (h := POp.k Tryz.func77 (hc := inr_s _ _ _)) ?_ | refine AL.T (h := POp.k Tryz.func103 (hc := isLadder_s a.levels g3)) ?_ | refine AL.T (h := POp.k Tryz.func104 (hc := areEd_s a.editions g4 g5)) ?_ | refine AL.T (h := POp.k Tryz.func105 (hc := isCover_s a.cover.w a.cover.h a.cover.cells g6)) ?_ | refine AL.W ?_ | refine AL.W (h := fun h => by (try rw [h]); exact POp.k Tryz.func77 (hc := inr_s _ _ _)) ?_ | refine AL.W (h := fun h => by (try rw [h]); exact POp.k Tryz.func103 (hc := isLadder_s a.levels g3)) ?_ | refine AL.W (h := fun h => by (try rw [h]); exact POp.k Tryz.func104 (hc := areEd_s a.editions g4 g5)) ?_ | refine AL.W (h := fun h => by (try rw [h]); exact POp.k Tryz.func105 (hc := isCover_s a.cover.w a.cover.h a.cover.cells g6)) ?_ | refine AL.nil ?_)
    | ((with_reducible show DL _ _ _ _ _ _ _); first | refine DL.any ?_ | refine DL.nil ?_)
    | ((with_reducible show AW _ _ _ _ _ _); first | refine AW.seq ?_ | refine AW.region ?_ | refine AW.skip ?_ | (refine AW.loopD hE (fun i : Nat => [.any, .ref 0 0 7 0 0, .any, I (i : Int), .any, .any, .any, .any, .any, .any, .any, .any, .any, .any, .any, .any, .any, .any, .any, .any, .any, .any, .any, .any, .any, .any, .any, .any, .any, .any, .any, .any, .any, .any, .any, .any, .any, .any, .any, .any, .any, .any, .any, .any, .any, .any, .any, .any, .any, .any, .any, .any, .any, .any, .any, .any, .any, .any, .any, .any]) (fun i => [some ⟨32, 7, 0, true, [a.en]⟩]) (fun i => a.log.length - i) (fun i => i ≤ a.log.length ∧ ticks TEntry.tick a.now a.log i = true) 0 ⟨Nat.zero_le _, by simp [ticks]⟩ ?_ (by first | rfl | (simp; done)) ?_) | refine AW.dr (id := 4) 8 ?_ | refine AW.dr (id := 9) 8 ?_ | refine AW.cT ?_ | refine AW.cF ?_ | (refine AW.c2 ?_ ?_ <;> (intro h; try simp only [Bool.not_eq_true', Bool.not_eq_false'] at h)) | refine AW.block ?_ | refine AW.exit ?_ | refine AW.ret ?_)
    | with_reducible refine (if_pos rfl).mpr ?_
    | with_reducible refine (if_neg (by decide)).mpr ?_) <;> (try dsimp only))
  · (repeat' (first | exact Wk.nil | refine Wk.any ?_ | (with_reducible refine Wk.same ?_) | refine Wk.of ?_ ?_)) <;> first | rfl | (simp; done)
  · intro i hv_i
    by_cases hlt_i : i < a.log.length
    · skip
      obtain ⟨x, hx⟩ : ∃ x, a.log[i]? = some x := ⟨_, List.getElem?_eq_getElem hlt_i⟩
      have hg := map_get (f := TEntry.en) hx
      have ht := lt_true (f := TEntry.en) hlt_i
      have hn := next_ix hlt_i (by omega)
      have hsu := ticks_succ (tk := TEntry.tick) (now := a.now) hx
      have hno := ticks_not (tk := TEntry.tick) (now := a.now) hx
      have hcle : Clo (.agg x.en) := Clo.agg x.clo_en
      repeat' ((first
        | ((with_reducible show AL _ _ _ _ _ _ _); first | refine AL.any ?_ | refine AL.any (h := POp.k Tryz.func86 (hc := isLog_s a.log g1 g2)) ?_ | refine AL.U ?_ | refine AL.F ?_ | refine AL.T ?_ | refine AL.T (h := POp.k Tryz.func77 (hc := inr_s _ _ _)) ?_ | refine AL.T (h := POp.k Tryz.func103 (hc := isLadder_s a.levels g3)) ?_ | refine AL.T (h := POp.k Tryz.func104 (hc := areEd_s a.editions g4 g5)) ?_ | refine AL.T (h := POp.k Tryz.func105 (hc := isCover_s a.cover.w a.cover.h a.cover.cells g6)) ?_ | refine AL.W ?_ | refine AL.W (h := fun h => by (try rw [h]); exact POp.k Tryz.func77 (hc := inr_s _ _ _)) ?_ | refine AL.W (h := fun h => by (try rw [h]); exact POp.k Tryz.func103 (hc := isLadder_s a.levels g3)) ?_ | refine AL.W (h := fun h => by (try rw [h]); exact POp.k Tryz.func104 (hc := areEd_s a.editions g4 g5)) ?_ | refine AL.W (h := fun h => by (try rw [h]); exact POp.k Tryz.func105 (hc := isCover_s a.cover.w a.cover.h a.cover.cells g6)) ?_ | refine AL.nil ?_)
        | ((with_reducible show DL _ _ _ _ _ _ _); first | refine DL.any ?_ | refine DL.nil ?_)
        | ((with_reducible show AW _ _ _ _ _ _); first | refine AW.seq ?_ | refine AW.region ?_ | refine AW.skip ?_ | refine AW.dr (id := 4) 8 ?_ | refine AW.dr (id := 9) 8 ?_ | refine AW.cT ?_ | refine AW.cF ?_ | (refine AW.c2 ?_ ?_ <;> (intro h; try simp only [Bool.not_eq_true', Bool.not_eq_false'] at h)) | refine AW.block ?_ | refine AW.exit ?_ | refine AW.ret ?_)
        | with_reducible refine (if_pos rfl).mpr ?_
        | with_reducible refine (if_neg (by decide)).mpr ?_) <;> (try dsimp only))
      all_goals first
        | (refine ⟨i + 1, _, ⟨hlt_i, by simp_all⟩, by omega, ?_, rfl, ?_, ?_⟩; (focus ((repeat' (first | exact Wk.nil | refine Wk.any ?_ | (with_reducible refine Wk.same ?_) | refine Wk.of ?_ ?_)) <;> (simp_all))); (focus ((repeat' (first | exact Fits.nil _ | refine Fits.cons ?_ ?_ | exact Fits.any _ | exact Fits.c _ _ | exact Fits.own (by rfl) | exact Fits.ref (by rfl) | exact Fits.clo (by assumption) | exact Fits.clo (clo_of (by rfl)) | exact Fits.clo (clo_fn _))))); (focus (exact fitsM_cons (clo_one a.clo_en) (FitsM.nil _))))
        | exact Fin.one rfl (RV.tmp (by rfl)) (clo_c _) ⟨by have hf := hno (by assumption); simp_all [isAtl], rfl⟩
    · have e_i : i = a.log.length := by omega
      have ht := lt_false (f := TEntry.en) (show ¬ i < a.log.length by omega)
      subst e_i
      repeat' ((first
        | ((with_reducible show AL _ _ _ _ _ _ _); first | refine AL.any ?_ | refine AL.any (h := POp.k Tryz.func86 (hc := isLog_s a.log g1 g2)) ?_ | refine AL.U ?_ | refine AL.F ?_ | refine AL.T ?_ | refine AL.T (h := POp.k Tryz.func77 (hc := inr_s _ _ _)) ?_ | refine AL.T (h := POp.k Tryz.func103 (hc := isLadder_s a.levels g3)) ?_ | refine AL.T (h := POp.k Tryz.func104 (hc := areEd_s a.editions g4 g5)) ?_ | refine AL.T (h := POp.k Tryz.func105 (hc := isCover_s a.cover.w a.cover.h a.cover.cells g6)) ?_ | refine AL.W ?_ | refine AL.W (h := fun h => by (try rw [h]); exact POp.k Tryz.func77 (hc := inr_s _ _ _)) ?_ | refine AL.W (h := fun h => by (try rw [h]); exact POp.k Tryz.func103 (hc := isLadder_s a.levels g3)) ?_ | refine AL.W (h := fun h => by (try rw [h]); exact POp.k Tryz.func104 (hc := areEd_s a.editions g4 g5)) ?_ | refine AL.W (h := fun h => by (try rw [h]); exact POp.k Tryz.func105 (hc := isCover_s a.cover.w a.cover.h a.cover.cells g6)) ?_ | refine AL.nil ?_)
        | ((with_reducible show DL _ _ _ _ _ _ _); first | refine DL.any ?_ | refine DL.nil ?_)
        | ((with_reducible show AW _ _ _ _ _ _); first | refine AW.seq ?_ | refine AW.region ?_ | refine AW.skip ?_ | (refine AW.loopD hE (fun k : Nat => [.any, .ref 0 0 7 0 0, .any, .any, I (k : Int), .any, .any, .any, .any, .any, .any, .any, .any, .any, .any, .any, .any, .any, .any, .any, .any, .any, .any, .any, .any, .any, .any, .any, .any, .any, .any, .any, .any, .any, .any, .any, .any, .any, .any, .any, .any, .any, .any, .any, .any, .any, .any, .any, .any, .any, .any, .any, .any, .any, .any, .any, .any, .any, .any, .any]) (fun k => [some ⟨32, 7, 0, true, [a.en]⟩]) (fun k => a.editions.length - k) (fun k => k ≤ a.editions.length ∧ ticks TEdition.tick a.now a.editions k = true) 0 ⟨Nat.zero_le _, by simp [ticks]⟩ ?_ (by first | rfl | (simp; done)) ?_) | refine AW.dr (id := 4) 8 ?_ | refine AW.dr (id := 9) 8 ?_ | refine AW.cT ?_ | refine AW.cF ?_ | (refine AW.c2 ?_ ?_ <;> (intro h; try simp only [Bool.not_eq_true', Bool.not_eq_false'] at h)) | refine AW.block ?_ | refine AW.exit ?_ | refine AW.ret ?_)
        | with_reducible refine (if_pos rfl).mpr ?_
        | with_reducible refine (if_neg (by decide)).mpr ?_) <;> (try dsimp only))
      · (repeat' (first | exact Wk.nil | refine Wk.any ?_ | (with_reducible refine Wk.same ?_) | refine Wk.of ?_ ?_)) <;> first | rfl | (simp; done)
      · intro k hv_k
        by_cases hlt_k : k < a.editions.length
        · skip
          obtain ⟨x, hx⟩ : ∃ x, a.editions[k]? = some x := ⟨_, List.getElem?_eq_getElem hlt_k⟩
          have hg := map_get (f := TEdition.en) hx
          have ht := lt_true (f := TEdition.en) hlt_k
          have hn := next_ix hlt_k (by omega)
          have hsu := ticks_succ (tk := TEdition.tick) (now := a.now) hx
          have hno := ticks_not (tk := TEdition.tick) (now := a.now) hx
          have hcle : Clo (.agg x.en) := Clo.agg x.clo_en
          repeat' ((first
            | ((with_reducible show AL _ _ _ _ _ _ _); first | refine AL.any ?_ | refine AL.any (h := POp.k Tryz.func86 (hc := isLog_s a.log g1 g2)) ?_ | refine AL.U ?_ | refine AL.F ?_ | refine AL.T ?_ | refine AL.T (h := POp.k Tryz.func77 (hc := inr_s _ _ _)) ?_ | refine AL.T (h := POp.k Tryz.func103 (hc := isLadder_s a.levels g3)) ?_ | refine AL.T (h := POp.k Tryz.func104 (hc := areEd_s a.editions g4 g5)) ?_ | refine AL.T (h := POp.k Tryz.func105 (hc := isCover_s a.cover.w a.cover.h a.cover.cells g6)) ?_ | refine AL.W ?_ | refine AL.W (h := fun h => by (try rw [h]); exact POp.k Tryz.func77 (hc := inr_s _ _ _)) ?_ | refine AL.W (h := fun h => by (try rw [h]); exact POp.k Tryz.func103 (hc := isLadder_s a.levels g3)) ?_ | refine AL.W (h := fun h => by (try rw [h]); exact POp.k Tryz.func104 (hc := areEd_s a.editions g4 g5)) ?_ | refine AL.W (h := fun h => by (try rw [h]); exact POp.k Tryz.func105 (hc := isCover_s a.cover.w a.cover.h a.cover.cells g6)) ?_ | refine AL.nil ?_)
            | ((with_reducible show DL _ _ _ _ _ _ _); first | refine DL.any ?_ | refine DL.nil ?_)
            | ((with_reducible show AW _ _ _ _ _ _); first | refine AW.seq ?_ | refine AW.region ?_ | refine AW.skip ?_ | refine AW.dr (id := 4) 8 ?_ | refine AW.dr (id := 9) 8 ?_ | refine AW.cT ?_ | refine AW.cF ?_ | (refine AW.c2 ?_ ?_ <;> (intro h; try simp only [Bool.not_eq_true', Bool.not_eq_false'] at h)) | refine AW.block ?_ | refine AW.exit ?_ | refine AW.ret ?_)
            | with_reducible refine (if_pos rfl).mpr ?_
            | with_reducible refine (if_neg (by decide)).mpr ?_) <;> (try dsimp only))
          all_goals first
            | (refine ⟨k + 1, _, ⟨hlt_k, by simp_all⟩, by omega, ?_, rfl, ?_, ?_⟩; (focus ((repeat' (first | exact Wk.nil | refine Wk.any ?_ | (with_reducible refine Wk.same ?_) | refine Wk.of ?_ ?_)) <;> (simp_all))); (focus ((repeat' (first | exact Fits.nil _ | refine Fits.cons ?_ ?_ | exact Fits.any _ | exact Fits.c _ _ | exact Fits.own (by rfl) | exact Fits.ref (by rfl) | exact Fits.clo (by assumption) | exact Fits.clo (clo_of (by rfl)) | exact Fits.clo (clo_fn _))))); (focus (exact fitsM_cons (clo_one a.clo_en) (FitsM.nil _))))
            | exact Fin.one rfl (RV.tmp (by rfl)) (clo_c _) ⟨by have hf := hno (by assumption); simp_all [isAtl], rfl⟩
        · have e_k : k = a.editions.length := by omega
          have ht := lt_false (f := TEdition.en) (show ¬ k < a.editions.length by omega)
          subst e_k
          repeat' ((first
            | ((with_reducible show AL _ _ _ _ _ _ _); first | refine AL.any ?_ | refine AL.any (h := POp.k Tryz.func86 (hc := isLog_s a.log g1 g2)) ?_ | refine AL.U ?_ | refine AL.F ?_ | refine AL.T ?_ | refine AL.T (h := POp.k Tryz.func77 (hc := inr_s _ _ _)) ?_ | refine AL.T (h := POp.k Tryz.func103 (hc := isLadder_s a.levels g3)) ?_ | refine AL.T (h := POp.k Tryz.func104 (hc := areEd_s a.editions g4 g5)) ?_ | refine AL.T (h := POp.k Tryz.func105 (hc := isCover_s a.cover.w a.cover.h a.cover.cells g6)) ?_ | refine AL.W ?_ | refine AL.W (h := fun h => by (try rw [h]); exact POp.k Tryz.func77 (hc := inr_s _ _ _)) ?_ | refine AL.W (h := fun h => by (try rw [h]); exact POp.k Tryz.func103 (hc := isLadder_s a.levels g3)) ?_ | refine AL.W (h := fun h => by (try rw [h]); exact POp.k Tryz.func104 (hc := areEd_s a.editions g4 g5)) ?_ | refine AL.W (h := fun h => by (try rw [h]); exact POp.k Tryz.func105 (hc := isCover_s a.cover.w a.cover.h a.cover.cells g6)) ?_ | refine AL.nil ?_)
            | ((with_reducible show DL _ _ _ _ _ _ _); first | refine DL.any ?_ | refine DL.nil ?_)
            | ((with_reducible show AW _ _ _ _ _ _); first | refine AW.seq ?_ | refine AW.region ?_ | refine AW.skip ?_ | refine AW.dr (id := 4) 8 ?_ | refine AW.dr (id := 9) 8 ?_ | refine AW.cT ?_ | refine AW.cF ?_ | (refine AW.c2 ?_ ?_ <;> (intro h; try simp only [Bool.not_eq_true', Bool.not_eq_false'] at h)) | refine AW.block ?_ | refine AW.exit ?_ | refine AW.ret ?_)
            | with_reducible refine (if_pos rfl).mpr ?_
            | with_reducible refine (if_neg (by decide)).mpr ?_) <;> (try dsimp only))
          all_goals first
            | exact Fin.one rfl (RV.tmp (by rfl)) (clo_c _) ⟨by simp_all [isAtl, atlIn], rfl⟩

set_option maxRecDepth 100000 in
set_option maxHeartbeats 2000000 in
theorem isAtl_i (a : TAtlas) (hgd : a.gd) : VCalls Tryz.prog 64 [.agg a.en] (fun r M => r = B (isAtl a) ∧ M = []) := by
  refine VCalls.bodyE Tryz.func64 rfl 60 rfl (fun E hE => ?_)
  simp only [List.reduceReplicate, List.cons_append, List.nil_append]
  have hclL : Clo (.ro 8 (a.log.map TEntry.en)) := clo_list TEntry.clo_en
  have hclV : Clo (.ro 3 (a.levels.map TLevel.en)) := clo_list TLevel.clo_en
  have hclE : Clo (.ro 3 (a.editions.map TEdition.en)) := clo_list TEdition.clo_en
  have hclA : Clo (.agg a.en) := Clo.agg a.clo_en
  obtain ⟨⟨g1, g2⟩, g3, ⟨g4, g5⟩, g6⟩ := id hgd
  dsimp only [TAtlas.en]
  repeat' ((first
    | ((with_reducible show AL _ _ _ _ _ _ _); first | refine AL.any ?_ | refine AL.any (h := POp.k Tryz.func89 (hc := isLog_i a.log g1 g2)) ?_ | refine AL.U ?_ | refine AL.F ?_ | refine AL.T ?_ | refine AL.T (h := POp.k Tryz.func78 (hc := inr_v _ _ _)) ?_ | refine AL.T (h := POp.k Tryz.func106 (hc := isLadder_i a.levels g3)) ?_ | refine AL.T (h := POp.k Tryz.func107 (hc := areEd_i a.editions g4 g5)) ?_ | refine AL.T (h := POp.k Tryz.func108 (hc := isCover_i a.cover.w a.cover.h a.cover.cells g6)) ?_ | refine AL.W ?_ | refine AL.W (h := fun h => by (try rw [h]); exact POp.k Tryz.func78 (hc := inr_v _ _ _)) ?_ | refine AL.W (h := fun h => by (try rw [h]); exact POp.k Tryz.func106 (hc := isLadder_i a.levels g3)) ?_ | refine AL.W (h := fun h => by (try rw [h]); exact POp.k Tryz.func107 (hc := areEd_i a.editions g4 g5)) ?_ | refine AL.W (h := fun h => by (try rw [h]); exact POp.k Tryz.func108 (hc := isCover_i a.cover.w a.cover.h a.cover.cells g6)) ?_ | refine AL.nil ?_)
    | ((with_reducible show AW _ _ _ _ _ _); first | refine AW.seq ?_ | refine AW.region ?_ | refine AW.skip ?_ | (refine AW.loopD hE (fun i : Nat => [.any, .ref 0 0 7 0 0, .any, .any, .any, .any, .any, .any, .any, .any, .any, .any, .any, .any, .any, .any, .any, .any, .any, .any, .any, .any, .any, .any, .any, .any, .any, .any, .any, .any, .any, .any, .any, .any, .any, .any, .ro 8 (a.log.map TEntry.en), I ((a.log.map TEntry.en).length : Int), I (i : Int), .any, .any, .any, .any, .any, .any, .any, .any, .any, .any, .any, .any, .any, .any, .any, .any, .any, .any, .any, .any, .any, .any]) (fun i => [some ⟨32, 7, 0, true, [a.en]⟩]) (fun i => a.log.length - i) (fun i => i ≤ a.log.length ∧ ticks TEntry.tick a.now a.log i = true) 0 ⟨Nat.zero_le _, by simp [ticks]⟩ ?_ (by first | rfl | (simp; done)) ?_) | refine AW.cT ?_ | refine AW.cF ?_ | (refine AW.c2 ?_ ?_ <;> (intro h; try simp only [Bool.not_eq_true', Bool.not_eq_false'] at h)) | refine AW.block ?_ | refine AW.exit ?_ | refine AW.ret ?_)
    | with_reducible refine (if_pos rfl).mpr ?_
    | with_reducible refine (if_neg (by decide)).mpr ?_) <;> (try dsimp only))
  any_goals first | exact Fin.one rfl (RV.tmp (by rfl)) (clo_c _) ⟨by rw [atl_f (by assumption)], rfl⟩
  · (repeat' (first | exact Wk.nil | refine Wk.any ?_ | (with_reducible refine Wk.same ?_) | refine Wk.of ?_ ?_)) <;> first | rfl | (simp; done)
  · intro i hv_i
    by_cases hlt_i : i < a.log.length
    · skip
      obtain ⟨x, hx⟩ : ∃ x, a.log[i]? = some x := ⟨_, List.getElem?_eq_getElem hlt_i⟩
      have hg := map_get (f := TEntry.en) hx
      have ht := lt_true (f := TEntry.en) hlt_i
      have hn := next_ix hlt_i (by omega)
      have hsu := ticks_succ (tk := TEntry.tick) (now := a.now) hx
      have hno := ticks_not (tk := TEntry.tick) (now := a.now) hx
      have hcle : Clo (.agg x.en) := Clo.agg x.clo_en
      repeat' ((first
        | ((with_reducible show AL _ _ _ _ _ _ _); first | refine AL.any ?_ | refine AL.any (h := POp.k Tryz.func89 (hc := isLog_i a.log g1 g2)) ?_ | refine AL.U ?_ | refine AL.F ?_ | refine AL.T ?_ | refine AL.T (h := POp.k Tryz.func78 (hc := inr_v _ _ _)) ?_ | refine AL.T (h := POp.k Tryz.func106 (hc := isLadder_i a.levels g3)) ?_ | refine AL.T (h := POp.k Tryz.func107 (hc := areEd_i a.editions g4 g5)) ?_ | refine AL.T (h := POp.k Tryz.func108 (hc := isCover_i a.cover.w a.cover.h a.cover.cells g6)) ?_ | refine AL.W ?_ | refine AL.W (h := fun h => by (try rw [h]); exact POp.k Tryz.func78 (hc := inr_v _ _ _)) ?_ | refine AL.W (h := fun h => by (try rw [h]); exact POp.k Tryz.func106 (hc := isLadder_i a.levels g3)) ?_ | refine AL.W (h := fun h => by (try rw [h]); exact POp.k Tryz.func107 (hc := areEd_i a.editions g4 g5)) ?_ | refine AL.W (h := fun h => by (try rw [h]); exact POp.k Tryz.func108 (hc := isCover_i a.cover.w a.cover.h a.cover.cells g6)) ?_ | refine AL.nil ?_)
        | ((with_reducible show AW _ _ _ _ _ _); first | refine AW.seq ?_ | refine AW.region ?_ | refine AW.skip ?_ | refine AW.cT ?_ | refine AW.cF ?_ | (refine AW.c2 ?_ ?_ <;> (intro h; try simp only [Bool.not_eq_true', Bool.not_eq_false'] at h)) | refine AW.block ?_ | refine AW.exit ?_ | refine AW.ret ?_)
        | with_reducible refine (if_pos rfl).mpr ?_
        | with_reducible refine (if_neg (by decide)).mpr ?_) <;> (try dsimp only))
      all_goals first
        | (refine ⟨i + 1, _, ⟨hlt_i, by simp_all⟩, by omega, ?_, rfl, ?_, ?_⟩; (focus ((repeat' (first | exact Wk.nil | refine Wk.any ?_ | (with_reducible refine Wk.same ?_) | refine Wk.of ?_ ?_)) <;> (simp_all))); (focus ((repeat' (first | exact Fits.nil _ | refine Fits.cons ?_ ?_ | exact Fits.any _ | exact Fits.c _ _ | exact Fits.own (by rfl) | exact Fits.ref (by rfl) | exact Fits.clo (by assumption) | exact Fits.clo (clo_of (by rfl)) | exact Fits.clo (clo_fn _))))); (focus (exact fitsM_cons (clo_one a.clo_en) (FitsM.nil _))))
        | exact Fin.one rfl (RV.tmp (by rfl)) (clo_c _) ⟨by have hf := hno (by assumption); simp_all [isAtl], rfl⟩
    · have e_i : i = a.log.length := by omega
      have ht := lt_false (f := TEntry.en) (show ¬ i < a.log.length by omega)
      subst e_i
      repeat' ((first
        | ((with_reducible show AL _ _ _ _ _ _ _); first | refine AL.any ?_ | refine AL.any (h := POp.k Tryz.func89 (hc := isLog_i a.log g1 g2)) ?_ | refine AL.U ?_ | refine AL.F ?_ | refine AL.T ?_ | refine AL.T (h := POp.k Tryz.func78 (hc := inr_v _ _ _)) ?_ | refine AL.T (h := POp.k Tryz.func106 (hc := isLadder_i a.levels g3)) ?_ | refine AL.T (h := POp.k Tryz.func107 (hc := areEd_i a.editions g4 g5)) ?_ | refine AL.T (h := POp.k Tryz.func108 (hc := isCover_i a.cover.w a.cover.h a.cover.cells g6)) ?_ | refine AL.W ?_ | refine AL.W (h := fun h => by (try rw [h]); exact POp.k Tryz.func78 (hc := inr_v _ _ _)) ?_ | refine AL.W (h := fun h => by (try rw [h]); exact POp.k Tryz.func106 (hc := isLadder_i a.levels g3)) ?_ | refine AL.W (h := fun h => by (try rw [h]); exact POp.k Tryz.func107 (hc := areEd_i a.editions g4 g5)) ?_ | refine AL.W (h := fun h => by (try rw [h]); exact POp.k Tryz.func108 (hc := isCover_i a.cover.w a.cover.h a.cover.cells g6)) ?_ | refine AL.nil ?_)
        | ((with_reducible show AW _ _ _ _ _ _); first | refine AW.seq ?_ | refine AW.region ?_ | refine AW.skip ?_ | (refine AW.loopD hE (fun k : Nat => [.any, .ref 0 0 7 0 0, .any, .any, .any, .any, .any, .any, .any, .any, .any, .any, .any, .any, .any, .any, .any, .any, .any, .any, .any, .any, .any, .any, .any, .any, .any, .any, .any, .any, .any, .any, .any, .any, .any, .any, .any, .any, .any, .any, .any, .any, .any, .any, .any, .any, .any, .any, .any, .ro 3 (a.editions.map TEdition.en), I ((a.editions.map TEdition.en).length : Int), I (k : Int), .any, .any, .any, .any, .any, .any, .any, .any, .any]) (fun k => [some ⟨32, 7, 0, true, [a.en]⟩]) (fun k => a.editions.length - k) (fun k => k ≤ a.editions.length ∧ ticks TEdition.tick a.now a.editions k = true) 0 ⟨Nat.zero_le _, by simp [ticks]⟩ ?_ (by first | rfl | (simp; done)) ?_) | refine AW.cT ?_ | refine AW.cF ?_ | (refine AW.c2 ?_ ?_ <;> (intro h; try simp only [Bool.not_eq_true', Bool.not_eq_false'] at h)) | refine AW.block ?_ | refine AW.exit ?_ | refine AW.ret ?_)
        | with_reducible refine (if_pos rfl).mpr ?_
        | with_reducible refine (if_neg (by decide)).mpr ?_) <;> (try dsimp only))
      · (repeat' (first | exact Wk.nil | refine Wk.any ?_ | (with_reducible refine Wk.same ?_) | refine Wk.of ?_ ?_)) <;> first | rfl | (simp; done)
      · intro k hv_k
        by_cases hlt_k : k < a.editions.length
        · skip
          obtain ⟨x, hx⟩ : ∃ x, a.editions[k]? = some x := ⟨_, List.getElem?_eq_getElem hlt_k⟩
          have hg := map_get (f := TEdition.en) hx
          have ht := lt_true (f := TEdition.en) hlt_k
          have hn := next_ix hlt_k (by omega)
          have hsu := ticks_succ (tk := TEdition.tick) (now := a.now) hx
          have hno := ticks_not (tk := TEdition.tick) (now := a.now) hx
          have hcle : Clo (.agg x.en) := Clo.agg x.clo_en
          repeat' ((first
            | ((with_reducible show AL _ _ _ _ _ _ _); first | refine AL.any ?_ | refine AL.any (h := POp.k Tryz.func89 (hc := isLog_i a.log g1 g2)) ?_ | refine AL.U ?_ | refine AL.F ?_ | refine AL.T ?_ | refine AL.T (h := POp.k Tryz.func78 (hc := inr_v _ _ _)) ?_ | refine AL.T (h := POp.k Tryz.func106 (hc := isLadder_i a.levels g3)) ?_ | refine AL.T (h := POp.k Tryz.func107 (hc := areEd_i a.editions g4 g5)) ?_ | refine AL.T (h := POp.k Tryz.func108 (hc := isCover_i a.cover.w a.cover.h a.cover.cells g6)) ?_ | refine AL.W ?_ | refine AL.W (h := fun h => by (try rw [h]); exact POp.k Tryz.func78 (hc := inr_v _ _ _)) ?_ | refine AL.W (h := fun h => by (try rw [h]); exact POp.k Tryz.func106 (hc := isLadder_i a.levels g3)) ?_ | refine AL.W (h := fun h => by (try rw [h]); exact POp.k Tryz.func107 (hc := areEd_i a.editions g4 g5)) ?_ | refine AL.W (h := fun h => by (try rw [h]); exact POp.k Tryz.func108 (hc := isCover_i a.cover.w a.cover.h a.cover.cells g6)) ?_ | refine AL.nil ?_)
            | ((with_reducible show AW _ _ _ _ _ _); first | refine AW.seq ?_ | refine AW.region ?_ | refine AW.skip ?_ | refine AW.cT ?_ | refine AW.cF ?_ | (refine AW.c2 ?_ ?_ <;> (intro h; try simp only [Bool.not_eq_true', Bool.not_eq_false'] at h)) | refine AW.block ?_ | refine AW.exit ?_ | refine AW.ret ?_)
            | with_reducible refine (if_pos rfl).mpr ?_
            | with_reducible refine (if_neg (by decide)).mpr ?_) <;> (try dsimp only))
          all_goals first
            | (refine ⟨k + 1, _, ⟨hlt_k, by simp_all⟩, by omega, ?_, rfl, ?_, ?_⟩; (focus ((repeat' (first | exact Wk.nil | refine Wk.any ?_ | (with_reducible refine Wk.same ?_) | refine Wk.of ?_ ?_)) <;> (simp_all))); (focus ((repeat' (first | exact Fits.nil _ | refine Fits.cons ?_ ?_ | exact Fits.any _ | exact Fits.c _ _ | exact Fits.own (by rfl) | exact Fits.ref (by rfl) | exact Fits.clo (by assumption) | exact Fits.clo (clo_of (by rfl)) | exact Fits.clo (clo_fn _))))); (focus (exact fitsM_cons (clo_one a.clo_en) (FitsM.nil _))))
            | exact Fin.one rfl (RV.tmp (by rfl)) (clo_c _) ⟨by have hf := hno (by assumption); simp_all [isAtl], rfl⟩
        · have e_k : k = a.editions.length := by omega
          have ht := lt_false (f := TEdition.en) (show ¬ k < a.editions.length by omega)
          subst e_k
          repeat' ((first
            | ((with_reducible show AL _ _ _ _ _ _ _); first | refine AL.any ?_ | refine AL.any (h := POp.k Tryz.func89 (hc := isLog_i a.log g1 g2)) ?_ | refine AL.U ?_ | refine AL.F ?_ | refine AL.T ?_ | refine AL.T (h := POp.k Tryz.func78 (hc := inr_v _ _ _)) ?_ | refine AL.T (h := POp.k Tryz.func106 (hc := isLadder_i a.levels g3)) ?_ | refine AL.T (h := POp.k Tryz.func107 (hc := areEd_i a.editions g4 g5)) ?_ | refine AL.T (h := POp.k Tryz.func108 (hc := isCover_i a.cover.w a.cover.h a.cover.cells g6)) ?_ | refine AL.W ?_ | refine AL.W (h := fun h => by (try rw [h]); exact POp.k Tryz.func78 (hc := inr_v _ _ _)) ?_ | refine AL.W (h := fun h => by (try rw [h]); exact POp.k Tryz.func106 (hc := isLadder_i a.levels g3)) ?_ | refine AL.W (h := fun h => by (try rw [h]); exact POp.k Tryz.func107 (hc := areEd_i a.editions g4 g5)) ?_ | refine AL.W (h := fun h => by (try rw [h]); exact POp.k Tryz.func108 (hc := isCover_i a.cover.w a.cover.h a.cover.cells g6)) ?_ | refine AL.nil ?_)
            | ((with_reducible show AW _ _ _ _ _ _); first | refine AW.seq ?_ | refine AW.region ?_ | refine AW.skip ?_ | refine AW.cT ?_ | refine AW.cF ?_ | (refine AW.c2 ?_ ?_ <;> (intro h; try simp only [Bool.not_eq_true', Bool.not_eq_false'] at h)) | refine AW.block ?_ | refine AW.exit ?_ | refine AW.ret ?_)
            | with_reducible refine (if_pos rfl).mpr ?_
            | with_reducible refine (if_neg (by decide)).mpr ?_) <;> (try dsimp only))
          all_goals first
            | exact Fin.one rfl (RV.tmp (by rfl)) (clo_c _) ⟨by simp_all [isAtl, atlIn], rfl⟩

end Go.Proofs.YtacbpfbelcdeiaaGreat.Abs

/- The walks of the end of every step. -/
namespace Go.Proofs.YtacbpfbelcdeiaaGreat.Abs
open Go.Proofs Go.RowKit
set_option linter.unusedVariables false
set_option linter.unusedSimpArgs false
attribute [local irreducible] OpA AL AW DL DLM DLR DLS QOp POp VCalls VCallsI
theorem TAtlas.gd.gs {a : TAtlas} (h : a.gd) : a.gs := ⟨⟨h.1.1, fun e he => (h.1.2 e he).1⟩, h.2.1, ⟨h.2.2.1.1, fun e he => ⟨(h.2.2.1.2 e he).1, fun x hx => ((h.2.2.1.2 e he).2 x hx).1⟩⟩⟩
def stp (a o : TAtlas) (ok : Bool) : TAtlas := if (ok && isAtl a && isAtl o) = true then o else a
def stpB (a o : TAtlas) (ok : Bool) : Bool := ok && isAtl a && isAtl o
theorem stp_f {a o : TAtlas} {ok : Bool} (h : stpB a o ok = false) : stp a o ok = a := by unfold stp; unfold stpB at h; rw [h]; rfl
theorem stp_t {a o : TAtlas} {ok : Bool} (h : stpB a o ok = true) : stp a o ok = o := by unfold stp; unfold stpB at h; rw [if_pos h]
set_option maxRecDepth 100000 in
set_option maxHeartbeats 2000000 in
theorem stepped_i (a o : TAtlas) (ok : Bool) (hgd : a.gd) (hgo : o.gd) : HCalls Tryz.prog 76 [.agg a.en, .agg o.eo, B ok] o.rw (fun r M => r = .tup [.agg (stp a o ok).eo, B (stpB a o ok)] ∧ M = (stp a o ok).rw) := by
  have hgs := hgd.gs
  have hclA : Clo (.agg a.en) := Clo.agg a.clo_en
  have hclL : Clo (.ro 8 (a.log.map TEntry.en)) := clo_list TEntry.clo_en
  have hclV : Clo (.ro 3 (a.levels.map TLevel.en)) := clo_list TLevel.clo_en
  have hclE : Clo (.ro 3 (a.editions.map TEdition.en)) := clo_list TEdition.clo_en
  refine HCalls.body Tryz.func76 rfl 20 rfl (fun E hE => ?_)
  dsimp only [TAtlas.en, TAtlas.eo, TAtlas.rw]
  simp only [List.reduceReplicate, List.cons_append, List.nil_append]
  repeat' ((first
    | ((with_reducible show AL _ _ _ _ _ _ _); first | refine AL.any ?_ | refine AL.any (h := POp.O Tryz.func75 (hc := cpA_i a (by assumption))) ?_ | refine AL.U ?_ | refine AL.F ?_ | refine AL.T ?_ | refine AL.T (h := POp.k Tryz.func64 (hc := isAtl_i a (by assumption))) ?_ | refine AL.T (h := POp.D Tryz.func64 (hc := isAtl_i o (by assumption))) ?_ | refine AL.W ?_ | refine AL.W (h := fun h => by (try rw [h]); exact POp.k Tryz.func64 (hc := isAtl_i a (by assumption))) ?_ | refine AL.W (h := fun h => by (try rw [h]); exact POp.D Tryz.func64 (hc := isAtl_i o (by assumption))) ?_ | refine AL.nil ?_)
    | ((with_reducible show AW _ _ _ _ _ _); first | refine AW.seq ?_ | refine AW.region ?_ | refine AW.skip ?_ | refine AW.cT ?_ | refine AW.cF ?_ | (refine AW.c2 ?_ ?_ <;> (intro h; try simp only [Bool.not_eq_true', Bool.not_eq_false'] at h)) | refine AW.block ?_ | refine AW.exit ?_ | refine AW.ret ?_)
    | with_reducible refine (if_pos rfl).mpr ?_
    | with_reducible refine (if_neg (by decide)).mpr ?_) <;> (try dsimp only))
  all_goals first
    | (have hst : stpB a o ok = true := by (unfold stpB; cases ok <;> cases h1 : isAtl a <;> cases h2 : isAtl o <;> simp_all)); rw [stp_t hst, hst]; exact Fin.rows2 [0, 1, 2] rfl (RV.cell (QOp.quietA TT_ok (by rfl))) (RV.tmp (by rfl)) (by decide) (by repeat' (first | exact trivial | refine ⟨⟨_, rfl, ?_⟩, ?_⟩ | exact DCl.b rfl | exact DCl.map (fun _ => rfl))) (by repeat' (first | exact all_nil | refine all_cons ?_ ?_ | exact ⟨⟨_, rfl, rfl⟩, rfl⟩ | (show Clo _; exact clo_of (by rfl)))) ⟨rfl, rfl⟩
    | (have hst : stpB a o ok = false := by (unfold stpB; cases ok <;> cases h1 : isAtl a <;> cases h2 : isAtl o <;> simp_all)); rw [stp_f hst, hst]; exact Fin.rows2 [6, 7, 8] rfl (RV.cell (QOp.quietA TT_ok (by rfl))) (RV.tmp (by rfl)) (by decide) (by repeat' (first | exact trivial | refine ⟨⟨_, rfl, ?_⟩, ?_⟩ | exact DCl.b rfl | exact DCl.map (fun _ => rfl))) (by repeat' (first | exact all_nil | refine all_cons ?_ ?_ | exact ⟨⟨_, rfl, rfl⟩, rfl⟩ | (show Clo _; exact clo_of (by rfl)))) ⟨rfl, rfl⟩

set_option maxRecDepth 100000 in
set_option maxHeartbeats 2000000 in
theorem stepped_s (a o : TAtlas) (ok : Bool) (hgd : a.gd) (hgo : o.gd) : HCalls Tryz.prog 73 [.agg a.en, .agg o.eo, B ok] o.rw (fun r M => r = .tup [.agg (stp a o ok).eo, B (stpB a o ok)] ∧ M = (stp a o ok).rw) := by
  have hgs := hgd.gs
  have hclA : Clo (.agg a.en) := Clo.agg a.clo_en
  have hclL : Clo (.ro 8 (a.log.map TEntry.en)) := clo_list TEntry.clo_en
  have hclV : Clo (.ro 3 (a.levels.map TLevel.en)) := clo_list TLevel.clo_en
  have hclE : Clo (.ro 3 (a.editions.map TEdition.en)) := clo_list TEdition.clo_en
  refine HCalls.body Tryz.func73 rfl 20 rfl (fun E hE => ?_)
  dsimp only [TAtlas.en, TAtlas.eo, TAtlas.rw]
  simp only [List.reduceReplicate, List.cons_append, List.nil_append]
  repeat' ((first
    | ((with_reducible show AL _ _ _ _ _ _ _); first | refine AL.any ?_ | refine AL.any (h := POp.O Tryz.func60 (hc := cpA_s a (by assumption))) ?_ | refine AL.U ?_ | refine AL.F ?_ | refine AL.T ?_ | refine AL.T (h := POp.k Tryz.func61 (hc := isAtl_s a (by assumption))) ?_ | refine AL.T (h := POp.D Tryz.func61 (hc := isAtl_s o (by assumption))) ?_ | refine AL.W ?_ | refine AL.W (h := fun h => by (try rw [h]); exact POp.k Tryz.func61 (hc := isAtl_s a (by assumption))) ?_ | refine AL.W (h := fun h => by (try rw [h]); exact POp.D Tryz.func61 (hc := isAtl_s o (by assumption))) ?_ | refine AL.nil ?_)
    | ((with_reducible show AW _ _ _ _ _ _); first | refine AW.seq ?_ | refine AW.region ?_ | refine AW.skip ?_ | refine AW.cT ?_ | refine AW.cF ?_ | (refine AW.c2 ?_ ?_ <;> (intro h; try simp only [Bool.not_eq_true', Bool.not_eq_false'] at h)) | refine AW.block ?_ | refine AW.exit ?_ | refine AW.ret ?_)
    | with_reducible refine (if_pos rfl).mpr ?_
    | with_reducible refine (if_neg (by decide)).mpr ?_) <;> (try dsimp only))
  all_goals first
    | (have hst : stpB a o ok = true := by (unfold stpB; cases ok <;> cases h1 : isAtl a <;> cases h2 : isAtl o <;> simp_all)); rw [stp_t hst, hst]; exact Fin.rows2 [0, 1, 2] rfl (RV.cell (QOp.quietA TT_ok (by rfl))) (RV.tmp (by rfl)) (by decide) (by repeat' (first | exact trivial | refine ⟨⟨_, rfl, ?_⟩, ?_⟩ | exact DCl.b rfl | exact DCl.map (fun _ => rfl))) (by repeat' (first | exact all_nil | refine all_cons ?_ ?_ | exact ⟨⟨_, rfl, rfl⟩, rfl⟩ | (show Clo _; exact clo_of (by rfl)))) ⟨rfl, rfl⟩
    | (have hst : stpB a o ok = false := by (unfold stpB; cases ok <;> cases h1 : isAtl a <;> cases h2 : isAtl o <;> simp_all)); rw [stp_f hst, hst]; exact Fin.rows2 [6, 7, 8] rfl (RV.cell (QOp.quietA TT_ok (by rfl))) (RV.tmp (by rfl)) (by decide) (by repeat' (first | exact trivial | refine ⟨⟨_, rfl, ?_⟩, ?_⟩ | exact DCl.b rfl | exact DCl.map (fun _ => rfl))) (by repeat' (first | exact all_nil | refine all_cons ?_ ?_ | exact ⟨⟨_, rfl, rfl⟩, rfl⟩ | (show Clo _; exact clo_of (by rfl)))) ⟨rfl, rfl⟩

end Go.Proofs.YtacbpfbelcdeiaaGreat.Abs

/- The ends of steps, spelled out. -/
namespace Go.Proofs.YtacbpfbelcdeiaaGreat.Abs
open Go.Proofs Go.RowKit
set_option linter.unusedVariables false
set_option linter.unusedSimpArgs false
attribute [local irreducible] OpA AL AW DL DLM DLR DLS QOp POp VCalls VCallsI
theorem stepped_iX (a o : TAtlas) (ok : Bool) (hgd : a.gd) (hgo : o.gd) : HCalls Tryz.prog 76 [.agg [.ro 8 (a.log.map TEntry.en), .ro 3 (a.levels.map TLevel.en), .ro 3 (a.editions.map TEdition.en), I a.cover.w, I a.cover.h, S a.cover.cells, I a.now], .agg [.own 0 0, .own 1 0, .own 2 0, I o.cover.w, I o.cover.h, S o.cover.cells, I o.now], B ok] [some ⟨121, 8, 0, false, o.log.map TEntry.ed⟩, some ⟨97, 3, 0, false, o.levels.map TLevel.en⟩, some ⟨136, 3, 0, false, o.editions.map TEdition.ed⟩] (fun r M => r = .tup [.agg [.own 0 0, .own 1 0, .own 2 0, I (stp a o ok).cover.w, I (stp a o ok).cover.h, S (stp a o ok).cover.cells, I (stp a o ok).now], B (stpB a o ok)] ∧ M = [some ⟨121, 8, 0, false, (stp a o ok).log.map TEntry.ed⟩, some ⟨97, 3, 0, false, (stp a o ok).levels.map TLevel.en⟩, some ⟨136, 3, 0, false, (stp a o ok).editions.map TEdition.ed⟩]) := stepped_i a o ok hgd hgo
theorem cpA_iX (a : TAtlas) (hgs : a.gs) : VCalls Tryz.prog 75 [.agg [.ro 8 (a.log.map TEntry.en), .ro 3 (a.levels.map TLevel.en), .ro 3 (a.editions.map TEdition.en), I a.cover.w, I a.cover.h, S a.cover.cells, I a.now]] (fun r M => r = .agg [.own 0 0, .own 1 0, .own 2 0, I a.cover.w, I a.cover.h, S a.cover.cells, I a.now] ∧ M = [some ⟨121, 8, 0, false, a.log.map TEntry.ed⟩, some ⟨97, 3, 0, false, a.levels.map TLevel.en⟩, some ⟨136, 3, 0, false, a.editions.map TEdition.ed⟩]) := cpA_i a hgs
theorem stepped_sX (a o : TAtlas) (ok : Bool) (hgd : a.gd) (hgo : o.gd) : HCalls Tryz.prog 73 [.agg [.ro 8 (a.log.map TEntry.en), .ro 3 (a.levels.map TLevel.en), .ro 3 (a.editions.map TEdition.en), I a.cover.w, I a.cover.h, S a.cover.cells, I a.now], .agg [.own 0 0, .own 1 0, .own 2 0, I o.cover.w, I o.cover.h, S o.cover.cells, I o.now], B ok] [some ⟨121, 8, 0, false, o.log.map TEntry.ed⟩, some ⟨97, 3, 0, false, o.levels.map TLevel.en⟩, some ⟨136, 3, 0, false, o.editions.map TEdition.ed⟩] (fun r M => r = .tup [.agg [.own 0 0, .own 1 0, .own 2 0, I (stp a o ok).cover.w, I (stp a o ok).cover.h, S (stp a o ok).cover.cells, I (stp a o ok).now], B (stpB a o ok)] ∧ M = [some ⟨121, 8, 0, false, (stp a o ok).log.map TEntry.ed⟩, some ⟨97, 3, 0, false, (stp a o ok).levels.map TLevel.en⟩, some ⟨136, 3, 0, false, (stp a o ok).editions.map TEdition.ed⟩]) := stepped_s a o ok hgd hgo
theorem cpA_sX (a : TAtlas) (hgs : a.gs) : VCalls Tryz.prog 60 [.agg [.ro 8 (a.log.map TEntry.en), .ro 3 (a.levels.map TLevel.en), .ro 3 (a.editions.map TEdition.en), I a.cover.w, I a.cover.h, S a.cover.cells, I a.now]] (fun r M => r = .agg [.own 0 0, .own 1 0, .own 2 0, I a.cover.w, I a.cover.h, S a.cover.cells, I a.now] ∧ M = [some ⟨121, 8, 0, false, a.log.map TEntry.ed⟩, some ⟨97, 3, 0, false, a.levels.map TLevel.en⟩, some ⟨136, 3, 0, false, a.editions.map TEdition.ed⟩]) := cpA_s a hgs
theorem View.tup' {M : Mem} {cs cs' : List AV} (h : VwL M cs cs') : View M (.tup cs) (.tup cs') := fun base w0 w Fx β Fc u hh hF hown hr => by
  have hl := h.get.1
  cases hr with
  | tup hl2 h3 => exact .tup (by rw [hl2, hl]) (fun i x' u hx hu => by
      have hlt : i < cs.length := by rw [← hl]; exact (List.getElem?_eq_some_iff.1 hx).1
      exact h.get.2 i _ x' (List.getElem?_eq_getElem hlt) hx _ _ _ _ _ _ _ hh hF hown (h3 i _ u (List.getElem?_eq_getElem hlt) hu))

end Go.Proofs.YtacbpfbelcdeiaaGreat.Abs

/- A row of bytes out of a text, changed, and back into a text. -/
namespace Go.Proofs.YtacbpfbelcdeiaaGreat.Abs
open Go.Proofs Go.RowKit
set_option linter.unusedVariables false
set_option linter.unusedSimpArgs false
/-- The state with a row of bytes beside it that came out of a text: the slots ts hold it; it is in nobody's keeping. -/
def SB (E : Env) (tm : List AV) (M : Mem) (ts : List Nat) (l : List UInt8) (a : Act) (w : World) : Prop :=
  ∃ (w0 : World) (k cap : Nat), Sim E tm M a w0 ∧ Below w0.heap.size w0 w ∧ w0.heap.size ≤ k ∧ (∀ j (hj : j < l.length), w.cell? ⟨k, j, none⟩ = some (.int .u8 (l[j].toNat : Int)) ∧ w.frozen? ⟨k, j, none⟩ = false) ∧ ∀ t ∈ ts, a.tmps[t]? = some (.slice (some ⟨k, 0, none⟩) l.length cap)
def WA (P : Program) (ops : Array Oper) (rest : List Oper) (I : Act → World → Prop) (Q : Exit → Act → World → Prop) : Prop := ∀ a w, I a w → wpList P ops Q rest a w
def WC (P : Program) (c : Code) (I : Act → World → Prop) (Q : Exit → Act → World → Prop) : Prop := ∀ a w, I a w → c.wp P Q a w
section
variable {P : Program} {E : Env} {tm tm' : List AV} {M : Mem} {ops : Array Oper} {o o2 : Oper} {rest : List Oper} {I : Act → World → Prop} {Q : Exit → Act → World → Prop} {ts : List Nat} {l : List UInt8}
theorem AW.raw {c : Code} {Qx : XPost} (h : ∀ Q : Exit → Act → World → Prop, (∀ e tm' M' a' w', Qx e tm' M' → Sim E tm' M' a' w' → Q e a' w') → WC P c (Sim E tm M) Q) : AW P c E tm M Qx := fun a w Q hs k => h Q k a w hs
theorem WC.seq {x y : Code} (h : WC P x I (Exit.then (y.wp P Q) Q)) : WC P (.seq x y) I Q := fun a w hi => wp_seq (h a w hi)
theorem WC.region {id : Nat} {l : List Oper} (h : WA P l.toArray l I Q) : WC P (.region id l.toArray false) I Q := fun a w hi => wp_region_lit (h a w hi)
theorem WC.of {c : Code} {Qx : XPost} (h : AW P c E tm M Qx) (hq : ∀ e tm' M' a' w', Qx e tm' M' → Sim E tm' M' a' w' → Q e a' w') : WC P c (Sim E tm M) Q := fun a w hs => h a w Q hs hq
theorem WA.of {N : NPost} (h : AL P ops rest E tm M N) (hn : ∀ tm' M' a' w', N tm' M' → Sim E tm' M' a' w' → Q .normal a' w') : WA P ops rest (Sim E tm M) Q := fun a w hs => h a w Q hs hn
theorem WA.nil (h : ∀ a w, I a w → Q .normal a w) : WA P ops [] I Q := fun a w hi => h a w hi
theorem WA.one {J : Act → World → Prop} (hg : o.guard = none) (h : ∀ a w, I a w → ∀ K : Act → World → Prop, (∀ a' w', J a' w' → K a' w') → o.wp P a w K Q) (hr : WA P ops rest J Q) : WA P ops (o :: rest) I Q :=
  fun a w hi => wpList_plain hg fun K hK => h a w hi K fun a' w' hj => hK a' w' (hr a' w' hj)
theorem WA.q {r : AV} (hg : o.guard = none) (h : POp P o E tm M r M) (e : dput tm o.dst r = tm') (hN : WA P ops rest (Sim E tm' M) Q) : WA P ops (o :: rest) (Sim E tm M) Q := by
  subst e
  refine WA.one hg (fun a w hs K hK => ?_) hN
  exact (OpA.pop (N := fun t2 M2 => t2 = dput tm o.dst r ∧ M2 = M) h ⟨rfl, rfl⟩) a w K Q hs fun tm2 M2 a2 w2 hx hs2 => by
    obtain ⟨rfl, rfl⟩ := hx
    exact hK a2 w2 hs2
/-- A quiet operation beside the row. -/
theorem WA.qB {r : AV} {d : Nat} (hd : o.dst = some d) (hts : ts.all (fun t => !Nat.beq t d) = true) (hg : o.guard = none) (h : QOp P o tm M r) (e : dput tm o.dst r = tm') (hN : WA P ops rest (SB E tm' M ts l) Q) : WA P ops (o :: rest) (SB E tm M ts l) Q := by
  subst e
  refine WA.one hg (fun a w hs K hK => ?_) hN
  obtain ⟨w0, k, cap, ⟨hdf, Fx, β, hh, ho, hsl⟩, hb, hk, hc, ht⟩ := hs
  obtain ⟨v, hv, hr⟩ := h _ _ a w0 Fx β hh hsl
  have hrun := hv w hb.block
  unfold Oper.wp
  rw [hrun, Oper.upon_value]
  refine hK _ _ ⟨w0, k, cap, Sim.next hdf ho hsl hh Mv.refl (Nat.le_refl _) (fun q hq => .inl hq) (fun id b v q g1 g2 g3 => .inr ⟨id, b, v, g1, g2, g3⟩) o.dst hr, hb, hk, hc, fun t hm => ?_⟩
  rw [hd]
  have hne : t ≠ d := fun e => by
    have := List.all_eq_true.1 hts t hm
    rw [e] at this
    simp at this
  simp [Act.put, Array.getElem?_setIfInBounds, Ne.symm hne, ht t hm]
theorem WA.nilS {y : Code} (h : WC P y I Q) : WA P ops [] I (Exit.then (y.wp P Q) Q) := fun a w hi => h a w hi
theorem WA.ofS {y : Code} {Qx : XPost} (hQ : ∀ e tm' M' a' w', Qx e tm' M' → Sim E tm' M' a' w' → Q e a' w') (h : AL P ops rest E tm M (fun tm' M' => AW P y E tm' M' Qx)) : WA P ops rest (Sim E tm M) (Exit.then (y.wp P Q) Q) :=
  fun a w hs => h a w _ hs fun tm' M' a' w' hx hs' => hx a' w' Q hs' hQ
/-- A text's bytes, as a row. -/
theorem WA.bytes {s t e : TypeId} {x : Operand} {str : ByteArray} {d : Nat} (ho : o.op = .convert s t x) (hs : P.underlying s = some .string) (ht : P.underlying t = some (.slice e)) (he : P.underlying e = some (.int .u8)) (hx : sc tm x = some (.string str)) (hd : o.dst = some d) (hdl : Nat.blt d tm.length = true) (hg : o.guard = none)
    (e2 : dput tm (some d) .any = tm') (hN : WA P ops rest (SB E tm' M [d] str.data.toList) Q) : WA P ops (o :: rest) (Sim E tm M) Q := by
  subst e2
  refine WA.one hg (fun a w hsim K hK => ?_) hN
  obtain ⟨hdf, Fx, β, hh, hout, hsl⟩ := hsim
  have hrun : (execOp a.eval o).run P w = .ok (.value (.slice (some ⟨w.heap.size, 0, none⟩) str.size (grownCap w str.size 0 e))) (Lib.bytesWorld w e str) := by
    simp [execOp, ho, hsl.sc hx, Lib.run_convert_string_bytes w s t e str hs ht he]
  unfold Oper.wp
  rw [hrun, Oper.upon_value, hd]
  have hl : str.data.toList.length = str.size := by simp
  refine hK _ _ ⟨w, w.heap.size, grownCap w str.size 0 e, Sim.next hdf hout hsl hh Mv.refl (Nat.le_refl _) (fun q hq => .inl hq) (fun id b v q g1 g2 g3 => .inr ⟨id, b, v, g1, g2, g3⟩) (some d) (.any _), ⟨rfl, rfl, rfl, by rw [Lib.bytesWorld_size]; omega, fun k hk => Lib.bytesWorld_at_old w e str k hk⟩, Nat.le_refl _, fun j hj => ⟨?_, ?_⟩, fun t hm => ?_⟩
  · rw [Lib.bytesWorld_cell w e str j (by omega)]
    simp [List.getD_eq_getElem?_getD, List.getElem?_eq_getElem hj]
  · have hlo : ¬ (Lib.bytesCells w e str).size ≤ j := by
      have : str.size ≤ (Lib.bytesCells w e str).size := by simp [Lib.bytesCells]
      omega
    simp [World.frozen?, Lib.bytesWorld_at_new, hlo]
  · obtain rfl := List.mem_singleton.1 hm
    have hlt : t < a.tmps.size := by rw [hsl.1]; have := Nat.le_of_ble_eq_true hdl; omega
    simp [Act.put, hlt]
/-- The row moves to another slot. -/
theorem WA.mvB {t d : Nat} (ho : o.op = .assign (.tmp t) ∨ o.op = .move (.tmp t)) (ht : ts.any (fun q => Nat.beq q t) = true) (hd : o.dst = some d) (hdl : Nat.blt d tm.length = true) (hg : o.guard = none) (e : dput tm (some d) .any = tm') (hN : WA P ops rest (SB E tm' M (d :: ts) l) Q) : WA P ops (o :: rest) (SB E tm M ts l) Q := by
  subst e
  refine WA.one hg (fun a w hs K hK => ?_) hN
  obtain ⟨w0, k, cap, ⟨hdf, Fx, β, hh, hout, hsl⟩, hb, hk, hc, htt⟩ := hs
  have hmem : t ∈ ts := by
    obtain ⟨q, hq, e⟩ := List.any_eq_true.1 ht
    rw [← Nat.eq_of_beq_eq_true e]
    exact hq
  have hev : a.eval (.tmp t) = .slice (some ⟨k, 0, none⟩) l.length cap := by simp [Act.eval, htt t hmem]
  have hrun : (execOp a.eval o).run P w = .ok (.value (.slice (some ⟨k, 0, none⟩) l.length cap)) w := by
    rcases ho with ho | ho <;> simp [execOp, ho, hev]
  unfold Oper.wp
  rw [hrun, Oper.upon_value, hd]
  refine hK _ _ ⟨w0, k, cap, Sim.next hdf hout hsl hh Mv.refl (Nat.le_refl _) (fun q hq => .inl hq) (fun id b v q g1 g2 g3 => .inr ⟨id, b, v, g1, g2, g3⟩) (some d) (.any _), hb, hk, hc, fun q hm => ?_⟩
  have hlt : d < a.tmps.size := by rw [hsl.1]; have := Nat.le_of_ble_eq_true hdl; omega
  rcases List.mem_cons.1 hm with rfl | hm
  · simp [Act.put, hlt]
  · by_cases e : q = d
    · subst e; simp [Act.put, hlt]
    · simp [Act.put, Array.getElem?_setIfInBounds, Ne.symm e, htt q hm]
/-- The row, back in a text. -/
theorem WA.back {s t e : TypeId} {q : Nat} {v : ByteArray} (hvv : (⟨l.toArray⟩ : ByteArray) = v) (ho : o.op = .convert s t (.tmp q)) (hs : P.underlying s = some (.slice e)) (he : P.underlying e = some (.int .u8)) (ht : P.underlying t = some .string) (hq : ts.any (fun z => Nat.beq z q) = true) (hg : o.guard = none)
    (e2 : dput tm o.dst (.c (.string v)) = tm') (hN : WA P ops rest (Sim E tm' M) Q) : WA P ops (o :: rest) (SB E tm M ts l) Q := by
  subst e2 hvv
  refine WA.one hg (fun a w hsb K hK => ?_) hN
  obtain ⟨w0, k, cap, ⟨hdf, Fx, β, hh, hout, hsl⟩, hb, hk, hc, htt⟩ := hsb
  have hmem : q ∈ ts := by
    obtain ⟨z, hz, e⟩ := List.any_eq_true.1 hq
    rw [← Nat.eq_of_beq_eq_true e]
    exact hz
  have hev : a.eval (.tmp q) = .slice (some ⟨k, 0, none⟩) l.length cap := by simp [Act.eval, htt q hmem]
  have hcv := run_convert_bytes_back (P := P) w s t e ⟨k, 0, none⟩ cap l hs he ht (fun j hj => by
    rw [show (⟨k, 0, none⟩ : Addr).add j = ⟨k, j, none⟩ by simp [Addr.add]; omega]
    exact (hc j hj).1)
  have hrun : (execOp a.eval o).run P w = .ok (.value (.string ⟨l.toArray⟩)) w := by simp [execOp, ho, hev, hcv]
  unfold Oper.wp
  rw [hrun, Oper.upon_value]
  obtain ⟨hh', m⟩ := hh.step hb
  exact hK _ _ (Sim.next hdf hout hsl hh' m hb.size (fun q hq => .inl hq) (fun id b v q g1 g2 g3 => .inr ⟨id, b, v, g1, g2, g3⟩) o.dst (.c _))
/-- A byte of the row is changed: its place, then the store. -/
theorem WA.setB {t te e : TypeId} {q p : Nat} {y z : Operand} {ky : IntKind} {n : Int} {c : UInt8} {vz : Value} (ho : o.op = .indexAddr t (.tmp q) y) (hd : o.dst = some p) (hg : o.guard = none) (hsl1 : slk P t = some (e, 1)) (hq : ts.any (fun z => Nat.beq z q) = true) (hy : sc tm y = some (.int ky n)) (h0 : 0 ≤ n) (hn : n.toNat < l.length)
    (hp : ts.all (fun t => !Nat.beq t p) = true) (ho2 : o2.op = .store te (.tmp p) z) (hd2 : o2.dst = none) (hg2 : o2.guard = none) (hte : (P.info? te).map (·.size) = some 1) (e2 : dput tm (some p) .any = tm') (hz : sc tm' z = some vz) (hv : vz = .int .u8 (c.toNat : Int)) (hpl : Nat.blt p tm.length = true)
    (hN : WA P ops rest (SB E tm' M ts (l.set n.toNat c)) Q) : WA P ops (o :: o2 :: rest) (SB E tm M ts l) Q := by
  subst e2
  refine WA.one (J := fun a w => SB E (dput tm (some p) .any) M ts l a w ∧ ∃ k cap, a.tmps[p]? = some (.pointer (some ⟨k, n.toNat, none⟩)) ∧ (∃ w0, Sim E (dput tm (some p) .any) M a w0 ∧ Below w0.heap.size w0 w ∧ w0.heap.size ≤ k ∧ (∀ j (hj : j < l.length), w.cell? ⟨k, j, none⟩ = some (.int .u8 (l[j].toNat : Int)) ∧ w.frozen? ⟨k, j, none⟩ = false) ∧ ∀ t ∈ ts, a.tmps[t]? = some (.slice (some ⟨k, 0, none⟩) l.length cap))) hg (fun a w hsb K hK => ?_) (WA.one hg2 (fun a w hsb K hK => ?_) hN)
  · obtain ⟨w0, k, cap, ⟨hdf, Fx, β, hh, hout, hsl⟩, hb, hk, hc, htt⟩ := hsb
    have hmem : q ∈ ts := by
      obtain ⟨z, hz, e⟩ := List.any_eq_true.1 hq
      rw [← Nat.eq_of_beq_eq_true e]
      exact hz
    have hev : a.eval (.tmp q) = .slice (some ⟨k, 0, none⟩) l.length cap := by simp [Act.eval, htt q hmem]
    obtain ⟨i0, hi0, hs0⟩ := info_size (slk_inv hsl1).2
    have h2 : n < (l.length : Int) := by omega
    have e : (⟨k, 0, none⟩ : Addr).add (n.toNat * 1) = ⟨k, n.toNat, none⟩ := by rw [Addr.add_mid, Nat.zero_add, Nat.mul_one]
    have hrun : (execOp a.eval o).run P w = .ok (.value (.pointer (some ⟨k, n.toNat, none⟩))) w := by
      simp [execOp, ho, hev, hsl.sc hy, Instr.indexAt, asIntOf, run_underlying (slk_inv hsl1).1, h0, h2, sizeOf, typeInfo, hi0, hs0]
      simpa using e
    unfold Oper.wp
    rw [hrun, Oper.upon_value, hd]
    have hsim : Sim E (dput tm (some p) .any) M (a.put (some p) (.pointer (some ⟨k, n.toNat, none⟩))) w0 := Sim.next hdf hout hsl hh Mv.refl (Nat.le_refl _) (fun q hq => .inl hq) (fun id b v q g1 g2 g3 => .inr ⟨id, b, v, g1, g2, g3⟩) (some p) (.any _)
    have hts : ∀ t ∈ ts, (a.put (some p) (.pointer (some ⟨k, n.toNat, none⟩))).tmps[t]? = some (.slice (some ⟨k, 0, none⟩) l.length cap) := fun t hm => by
      have hne : t ≠ p := fun e => by
        have := List.all_eq_true.1 hp t hm
        rw [e] at this
        simp at this
      simp [Act.put, Array.getElem?_setIfInBounds, Ne.symm hne, htt t hm]
    have hlt : p < a.tmps.size := by rw [hsl.1]; have := Nat.le_of_ble_eq_true hpl; omega
    exact hK _ _ ⟨⟨w0, k, cap, hsim, hb, hk, hc, hts⟩, k, cap, by simp [Act.put, hlt], w0, hsim, hb, hk, hc, hts⟩
  · obtain ⟨_, k, cap, hpp, w0, ⟨hdf, Fx, β, hh, hout, hsl⟩, hb, hk, hc, htt⟩ := hsb
    have hevp : a.eval (.tmp p) = .pointer (some ⟨k, n.toNat, none⟩) := by simp [Act.eval, hpp]
    have hevz := hsl.sc hz
    rw [hv] at hevz
    have hst := run_storeCells_cells (P := P) k n.toNat [.int .u8 (c.toNat : Int)] 0 w (fun j hj => by
      have e0 : j = 0 := by simp at hj; omega
      subst e0
      simpa using (hc n.toNat hn).1 ▸ rfl) (fun j hj => by
      have e0 : j = 0 := by simp at hj; omega
      subst e0
      simpa using (hc n.toNat hn).2) (fun v hm => by obtain rfl := List.mem_singleton.1 hm; rfl)
    obtain ⟨i0, hi0, hs0⟩ := info_size hte
    have hrun : (execOp a.eval o2).run P w = .ok .skip (w.setCells k n.toNat [.int .u8 (c.toNat : Int)]) := by
      simp only [Nat.add_zero] at hst
      have hcs : (Value.int .u8 (c.toNat : Int)).cells = #[.int .u8 (c.toNat : Int)] := rfl
      simp [execOp, ho2, hevp, hevz, Instr.storeAt, Instr.sureAddr, storeVar, sizeOf, typeInfo, hi0, hs0, hcs, hst]
    unfold Oper.wp
    rw [hrun, Oper.upon_skip, hd2]
    refine hK _ _ ⟨w0, k, cap, ⟨hdf, Fx, β, hh, hout, hsl⟩, hb.trans ?_, hk, fun j hj => ?_, fun t hm => by rw [List.length_set]; exact htt t hm⟩
    · refine ⟨rfl, rfl, rfl, by rw [size_setCells]; exact Nat.le_refl _, fun q hq => ?_⟩
      have hkq : k ≠ q := by omega
      simp [World.setCells, World.setCell, Array.getElem?_modify, hkq]
    · rw [List.length_set] at hj
      refine ⟨?_, by rw [World.frozen?_setCells]; exact (hc j hj).2⟩
      rw [List.getElem_set]
      by_cases e : n.toNat = j
      · subst e
        rw [if_pos rfl]
        have := World.cell?_setCells_in k [.int .u8 (c.toNat : Int)] n.toNat w (fun q hq => by
          have e0 : q = 0 := by simp at hq; omega
          subst e0
          rw [Nat.add_zero, (hc _ hj).1]
          rfl) 0 (by simp)
        simpa using this
      · rw [if_neg e, World.cell?_setCells_out k _ _ w _ (fun _ _ => by
          simp only [List.length_cons, List.length_nil]
          omega)]
        exact (hc j hj).1
end
theorem QOp.slice_h {P : Program} {o : Oper} {tm : List AV} {M : Mem} {t : TypeId} {x y : Operand} {s : ByteArray} {k : IntKind} {n : Int} (ho : o.op = .slice t x none (some y) none) (ht : P.underlying t = some .string) (hx : sc tm x = some (.string s)) (hy : sc tm y = some (.int k n)) (h0 : 0 ≤ n) (h1 : n ≤ (s.size : Int)) : QOp P o tm M (.c (.string (s.extract 0 n.toNat))) :=
  fun base w0 a w Fx β hhs hs => ⟨_, fun w' _ => by
    simp [execOp, ho, hs.sc hx, hs.sc hy, run_sliceAt_string, ht, run_slice_string_h w' t s ht k n h0 h1], .c _⟩
theorem QOp.slice_l {P : Program} {o : Oper} {tm : List AV} {M : Mem} {t : TypeId} {x y : Operand} {s : ByteArray} {k : IntKind} {n : Int} (ho : o.op = .slice t x (some y) none none) (ht : P.underlying t = some .string) (hx : sc tm x = some (.string s)) (hy : sc tm y = some (.int k n)) (h0 : 0 ≤ n) (h1 : n ≤ (s.size : Int)) : QOp P o tm M (.c (.string (s.extract n.toNat s.size))) :=
  fun base w0 a w Fx β hhs hs => ⟨_, fun w' _ => by
    simp [execOp, ho, hs.sc hx, hs.sc hy, run_sliceAt_string, ht, run_slice_string_l w' t s ht k n h0 h1], .c _⟩

end Go.Proofs.YtacbpfbelcdeiaaGreat.Abs

/- The walks of StepCover. -/
namespace Go.Proofs.YtacbpfbelcdeiaaGreat.Abs
open Go.Proofs Go.RowKit
set_option linter.unusedVariables false
set_option linter.unusedSimpArgs false
attribute [local irreducible] OpA AL AW DL DLM DLR DLS QOp POp VCalls VCallsI
def setB (s : ByteArray) (i : Nat) (t : ByteArray) : ByteArray := match t[0]? with
  | some b => ⟨(s.data.toList.set i b).toArray⟩
  | none => s
theorem setB_one {s : ByteArray} {i : Nat} {b : UInt8} {t : ByteArray} (h : t[0]? = some b) : setB s i t = ⟨(s.data.toList.set i b).toArray⟩ := by simp [setB, h]
theorem setB_size (s : ByteArray) (i : Nat) (t : ByteArray) : (setB s i t).size = s.size := by
  unfold setB
  split
  · show (Array.size _) = _
    rw [List.size_toArray, List.length_set, Array.length_toList]
    rfl
  · rfl
def covO (a : TAtlas) (cell : Int) (t : ByteArray) : TAtlas := { a with cover := ⟨a.cover.w, a.cover.h, setB a.cover.cells cell.toNat t⟩ }
def covK (a : TAtlas) (cell : Int) (t : ByteArray) : Bool := decide (0 ≤ cell) && decide (cell < (a.cover.cells.size : Int)) && (t.size == 1)
theorem covO_gd {a : TAtlas} {cell : Int} {t : ByteArray} (h : a.gd) : (covO a cell t).gd := ⟨h.1, h.2.1, h.2.2.1, by
  show (setB _ _ _).size ≤ maxLen
  rw [setB_size]
  exact h.2.2.2⟩
theorem covO_sm {a : TAtlas} {cell : Int} {t : ByteArray} (h : a.sm) : (covO a cell t).sm := h
theorem one_get {t : ByteArray} (h : t.size = 1) : ∃ b, t[0]? = some b ∧ t = ⟨#[b]⟩ := by
  obtain ⟨d⟩ := t
  have h : d.size = 1 := h
  obtain ⟨b, rfl⟩ : ∃ b, d = #[b] := Array.size_eq_one_iff.1 h
  exact ⟨b, rfl, rfl⟩
theorem cov_f {a : TAtlas} {cell : Int} {t : ByteArray} (h : (decide (cell < 0) || decide (cell ≥ (a.cover.cells.size : Int)) || (t.size : Int) != 1) = true) : covK a cell t = false := by
  unfold covK
  simp only [Bool.or_eq_true, decide_eq_true_eq, bne_iff_ne, ne_eq] at h
  rcases h with (h | h) | h
  · rw [decide_eq_false (by omega : ¬ 0 ≤ cell)]; rfl
  · rw [decide_eq_false (by omega : ¬ cell < (a.cover.cells.size : Int))]; simp
  · have : (t.size == 1) = false := by simp; omega
    rw [this, Bool.and_false]
theorem cov_t {a : TAtlas} {cell : Int} {t : ByteArray} (h : (decide (cell < 0) || decide (cell ≥ (a.cover.cells.size : Int)) || (t.size : Int) != 1) = false) : 0 ≤ cell ∧ cell.toNat < a.cover.cells.data.toList.length ∧ t.size = 1 ∧ covK a cell t = true := by
  simp only [Bool.or_eq_false_iff, decide_eq_false_iff_not, bne_eq_false_iff_eq] at h
  obtain ⟨⟨h1, h2⟩, h3⟩ := h
  have e : a.cover.cells.data.toList.length = a.cover.cells.size := by rw [Array.length_toList]; rfl
  refine ⟨by omega, by rw [e]; omega, by omega, ?_⟩
  unfold covK
  rw [decide_eq_true (by omega), decide_eq_true (by omega), show t.size = 1 by omega]
  rfl
theorem setB_get {s t : ByteArray} {i : Nat} {b : UInt8} (h : t[0]? = some b) (hi : i < s.size) : (setB s i t)[i]? = some b := by
  rw [setB_one h]
  have hl : i < (s.data.toList.set i b).toArray.size := by simpa using hi
  have e : (⟨(s.data.toList.set i b).toArray⟩ : ByteArray)[i]? = (s.data.toList.set i b).toArray[i]? := by
    have hs : i < (⟨(s.data.toList.set i b).toArray⟩ : ByteArray).size := hl
    rw [getElem?_pos _ i hs, getElem?_pos _ i hl]
    rfl
  rw [e, List.getElem?_toArray, List.getElem?_set_self (by simpa using hi)]
theorem setB_cut {s t : ByteArray} {i : Nat} (h1 : t.size = 1) (hi : i < s.size) : s.extract 0 i ++ t ++ s.extract (i + 1) s.size = setB s i t := by
  obtain ⟨b, hb, rfl⟩ := one_get h1
  rw [setB_one hb]
  obtain ⟨d⟩ := s
  have hi : i < d.size := hi
  apply ByteArray.ext
  simp only [ByteArray.data_append, ByteArray.data_extract]
  apply Array.ext'
  simp only [Array.toList_append, Array.toList_extract]
  rw [List.set_eq_take_append_cons_drop, if_pos (by simpa using hi)]
  simp [ByteArray.size]
  exact List.take_of_length_le (by simp)
theorem nm_one {t : ByteArray} {b : UInt8} (h : t[0]? = some b) (h1 : t.size = 1) : isName t = nmAt t 0 := by
  unfold isName
  rw [h1]
  simp [nmTo, inr]
theorem cov_name {a : TAtlas} {cell : Int} {t : ByteArray} {ok : Bool} (h1 : t.size = 1) (hc : 0 ≤ cell) (hi : cell < (a.cover.cells.size : Int)) (hn : isName t = false) : stpB a (covO a cell t) ok = false := by
  obtain ⟨b, hb, _⟩ := one_get h1
  rw [nm_one hb h1, nmAt_some hb] at hn
  have hg := setB_get (s := a.cover.cells) (i := cell.toNat) hb (by omega)
  have h2 : covTo (setB a.cover.cells cell.toNat t) (setB a.cover.cells cell.toNat t).size = false := covTo_not (i := cell.toNat) (by rw [covAt_some hg]; exact hn) (by rw [setB_size]; omega)
  unfold stpB isAtl atlIn isCover covO
  rw [h2]
  simp
theorem covS_cases {a : TAtlas} {cell : Int} {t : ByteArray} (hsz : a.cover.cells.size ≤ maxLen) (hts : t.size ≤ maxLen) :
    ((!inr cell 0 (IntKind.i64.wrap ((a.cover.cells.size : Int) - 1)) || (t.size : Int) != 1 || !isName t) = true ∧ stpB a (covO a cell t) (covK a cell t) = false) ∨
    ((!inr cell 0 (IntKind.i64.wrap ((a.cover.cells.size : Int) - 1)) || (t.size : Int) != 1 || !isName t) = false ∧ covK a cell t = true ∧ 0 ≤ cell ∧ cell ≤ (a.cover.cells.size : Int) ∧ 0 ≤ IntKind.i64.wrap (cell + 1) ∧ IntKind.i64.wrap (cell + 1) ≤ (a.cover.cells.size : Int) ∧
      (a.cover.cells.extract 0 cell.toNat).size + t.size ≤ 9223372036854775807 ∧ (a.cover.cells.extract 0 cell.toNat ++ t).size + (a.cover.cells.extract (IntKind.i64.wrap (cell + 1)).toNat a.cover.cells.size).size ≤ 9223372036854775807 ∧
      a.cover.cells.extract 0 cell.toNat ++ t ++ a.cover.cells.extract (IntKind.i64.wrap (cell + 1)).toNat a.cover.cells.size = setB a.cover.cells cell.toNat t) := by
  rw [maxLen_eq] at hsz hts
  have e1 : IntKind.i64.wrap ((a.cover.cells.size : Int) - 1) = (a.cover.cells.size : Int) - 1 := w64 (by omega) (by omega)
  rw [e1]
  by_cases hr : 0 ≤ cell ∧ cell < (a.cover.cells.size : Int)
  · have hi : inr cell 0 ((a.cover.cells.size : Int) - 1) = true := by simp [inr]; omega
    rw [hi]
    by_cases h1 : t.size = 1
    · have e2 : ((t.size : Int) != 1) = false := by rw [h1]; rfl
      have hK : covK a cell t = true := by
        unfold covK
        rw [decide_eq_true hr.1, decide_eq_true hr.2, h1]
        rfl
      rw [e2]
      cases hn : isName t
      · exact .inl ⟨rfl, cov_name h1 hr.1 hr.2 hn⟩
      · have e3 : IntKind.i64.wrap (cell + 1) = cell + 1 := w64 (by omega) (by omega)
        rw [e3]
        refine .inr ⟨rfl, hK, hr.1, by omega, by omega, by omega, ?_, ?_, ?_⟩
        · rw [ByteArray.size_extract]; omega
        · rw [ByteArray.size_append, ByteArray.size_extract, ByteArray.size_extract]; omega
        · rw [show (cell + 1).toNat = cell.toNat + 1 by omega]
          exact setB_cut h1 (by omega)
    · have e2 : ((t.size : Int) != 1) = true := by simp; omega
      rw [e2]
      refine .inl ⟨by simp, ?_⟩
      have : (t.size == 1) = false := by simp; exact h1
      unfold stpB covK
      rw [this]
      simp
  · have hi : inr cell 0 ((a.cover.cells.size : Int) - 1) = false := by simp [inr]; omega
    rw [hi]
    refine .inl ⟨by simp, ?_⟩
    have : (decide (0 ≤ cell) && decide (cell < (a.cover.cells.size : Int))) = false := by simp; omega
    unfold stpB covK
    rw [this]
    simp

set_option maxRecDepth 100000 in
set_option maxHeartbeats 2000000 in
theorem cov_i (a : TAtlas) (hgd : a.gd) (cell : Int) (t : ByteArray) (hts : t.size ≤ maxLen) : VCalls Tryz.prog 31 [.agg a.en, I cell, S t] (fun r M => r = .tup [.agg (stp a (covO a cell t) (covK a cell t)).eo, B (stpB a (covO a cell t) (covK a cell t))] ∧ M = (stp a (covO a cell t) (covK a cell t)).rw) := by
  refine VCalls.body Tryz.func31 rfl 43 rfl (fun E => ?_)
  simp only [List.reduceReplicate, List.cons_append, List.nil_append]
  have hgs := hgd.gs
  have hclA : Clo (.agg a.en) := Clo.agg a.clo_en
  have hclL : Clo (.ro 8 (a.log.map TEntry.en)) := clo_list TEntry.clo_en
  have hclV : Clo (.ro 3 (a.levels.map TLevel.en)) := clo_list TLevel.clo_en
  have hclE : Clo (.ro 3 (a.editions.map TEdition.en)) := clo_list TEdition.clo_en
  dsimp only [TAtlas.en]
  repeat' ((first
    | ((with_reducible show AL _ _ _ _ _ _ _); first | refine AL.any ?_ | refine AL.any (h := POp.O Tryz.func75 (hc := cpA_iX a (by assumption))) ?_ | refine AL.any (h := POp.G [2, 3, 4] Tryz.func76 (hc := stepped_iX a (covO a cell t) true hgd (covO_gd hgd))) ?_ | refine AL.U ?_ | refine AL.F ?_ | refine AL.T ?_ | refine AL.W ?_ | refine AL.nil ?_)
    | ((with_reducible show AW _ _ _ _ _ _); first | (refine AW.raw (fun Q hQ => WC.seq (WC.region (id := 4) ?_)); obtain ⟨hc0, hc1, hc2, hk⟩ := cov_t h; obtain ⟨b, hb, hb2⟩ := one_get hc2; refine WA.q rfl (by exact POp.qt) (by exact nrm) ?_; refine WA.q rfl (by exact POp.qt) (by exact nrm) ?_; refine WA.q rfl (by exact POp.qt) (by exact nrm) ?_; refine WA.bytes rfl Tryz.underlying9 Tryz.underlying110 Tryz.underlying5 (by rfl) rfl rfl rfl (by exact nrm) ?_; refine WA.mvB (.inl rfl) rfl rfl rfl rfl (by exact nrm) ?_; refine WA.nilS ?_; refine WC.seq (WC.region ?_); refine WA.mvB (.inr rfl) rfl rfl rfl rfl (by exact nrm) ?_; refine WA.qB rfl rfl rfl (QOp.quietA TT_ok (by rfl)) (by exact nrm) ?_; refine WA.qB rfl rfl rfl (QOp.quietA TT_ok (by rfl)) (by exact nrm) ?_; refine WA.qB rfl rfl rfl (QOp.index_str (by rfl) Tryz.underlying9 (by rfl) (by rfl) (by decide) hb) (by exact nrm) ?_; refine WA.setB rfl rfl rfl slk110 rfl (by rfl) hc0 hc1 rfl rfl rfl rfl (by obtain ⟨d, _, _, h3⟩ := ldk_inv ldk5; exact h3) (by exact nrm) (by rfl) rfl rfl ?_; refine WA.nilS ?_; refine WC.seq (WC.region ?_); refine WA.mvB (.inr rfl) rfl rfl rfl rfl (by exact nrm) ?_; refine WA.back (setB_one hb).symm rfl Tryz.underlying110 Tryz.underlying5 Tryz.underlying9 rfl rfl (by exact nrm) ?_; refine WA.ofS hQ ?_) | refine AW.seq ?_ | refine AW.region ?_ | refine AW.skip ?_ | refine AW.cT ?_ | refine AW.cF ?_ | (refine AW.c2 ?_ ?_ <;> (intro h; try simp only [Bool.not_eq_true', Bool.not_eq_false'] at h)) | refine AW.block ?_ | refine AW.exit ?_ | refine AW.ret ?_)
    | with_reducible refine (if_pos rfl).mpr ?_
    | with_reducible refine (if_neg (by decide)).mpr ?_) <;> (try dsimp only))
  all_goals first
    | (rw [hk]; exact Fin.rows2 [6, 7, 8] rfl (RV.cell (QOp.quietA TT_ok (by rfl))) (RV.tmp (by rfl)) (by decide) (by repeat' (first | exact trivial | refine ⟨⟨_, rfl, ?_⟩, ?_⟩ | exact DCl.b rfl | exact DCl.map (fun _ => rfl))) (by repeat' (first | exact all_nil | refine all_cons ?_ ?_ | exact ⟨⟨_, rfl, rfl⟩, rfl⟩ | (show Clo _; exact clo_of (by rfl)))) ⟨rfl, rfl⟩)
    | ((have hk := cov_f h); rw [stp_f (by rw [hk]; rfl), (by rw [hk]; rfl : stpB a (covO a cell t) (covK a cell t) = false)]; exact Fin.rows2 [2, 3, 4] rfl (RV.cell (QOp.quietA TT_ok (by rfl))) (RV.tmp (by rfl)) (by decide) (by repeat' (first | exact trivial | refine ⟨⟨_, rfl, ?_⟩, ?_⟩ | exact DCl.b rfl | exact DCl.map (fun _ => rfl))) (by repeat' (first | exact all_nil | refine all_cons ?_ ?_ | exact ⟨⟨_, rfl, rfl⟩, rfl⟩ | (show Clo _; exact clo_of (by rfl)))) ⟨rfl, rfl⟩)

set_option maxRecDepth 100000 in
set_option maxHeartbeats 2000000 in
theorem cov_s (a : TAtlas) (hgd : a.gd) (cell : Int) (t : ByteArray) (hts : t.size ≤ maxLen) : VCalls Tryz.prog 30 [.agg a.en, I cell, S t] (fun r M => r = .tup [.agg (stp a (covO a cell t) (covK a cell t)).eo, B (stpB a (covO a cell t) (covK a cell t))] ∧ M = (stp a (covO a cell t) (covK a cell t)).rw) := by
  refine VCalls.body Tryz.func30 rfl 48 rfl (fun E => ?_)
  simp only [List.reduceReplicate, List.cons_append, List.nil_append]
  have hgs := hgd.gs
  have hclA : Clo (.agg a.en) := Clo.agg a.clo_en
  have hclL : Clo (.ro 8 (a.log.map TEntry.en)) := clo_list TEntry.clo_en
  have hclV : Clo (.ro 3 (a.levels.map TLevel.en)) := clo_list TLevel.clo_en
  have hclE : Clo (.ro 3 (a.editions.map TEdition.en)) := clo_list TEdition.clo_en
  rcases covS_cases (a := a) (cell := cell) (t := t) hgd.2.2.2 hts with ⟨hcn, hst⟩ | ⟨hcn, hk, hc0, hc1, hw0, hw1, hs1, hs2, hset⟩
  dsimp only [TAtlas.en]
  repeat' ((first
    | ((with_reducible show AL _ _ _ _ _ _ _); first | refine AL.any ?_ | refine AL.any (h := POp.O Tryz.func60 (hc := cpA_sX a (by assumption))) ?_ | refine AL.any (h := POp.G [2, 3, 4] Tryz.func73 (hc := stepped_sX a (covO a cell t) true hgd (covO_gd hgd))) ?_ | refine AL.any (h := POp.k Tryz.func77 (hc := inr_s _ _ _)) ?_ | refine AL.U ?_ | refine AL.F ?_ | refine AL.T ?_ | refine AL.T (h := POp.k Tryz.func79 (hc := isName_s t hts)) ?_ | refine AL.W ?_ | refine AL.W (h := fun h => by (try rw [h]); exact POp.k Tryz.func79 (hc := isName_s t hts)) ?_ | refine AL.nil ?_)
    | ((with_reducible show DL _ _ _ _ _ _ _); first | refine DL.any ?_ | refine DL.nil ?_)
    | ((with_reducible show AW _ _ _ _ _ _); first | (rw [hset]) | refine AW.seq ?_ | refine AW.region ?_ | refine AW.skip ?_ | refine AW.dr (id := 4) 13 ?_ | refine AW.cT ?_ | refine AW.cF ?_ | (refine AW.c2 ?_ ?_ <;> (intro h; try simp only [Bool.not_eq_true', Bool.not_eq_false'] at h)) | refine AW.block ?_ | refine AW.exit ?_ | refine AW.ret ?_)
    | ((with_reducible show DL _ _ _ _ _ _ _); first | refine DL.any (h := POp.quiet (QOp.slice_h (by rfl) Tryz.underlying9 (by rfl) (by rfl) (by assumption) (by assumption))) ?_ | refine DL.any (h := POp.quiet (QOp.slice_l (by rfl) Tryz.underlying9 (by rfl) (by rfl) (by assumption) (by assumption))) ?_)
    | with_reducible refine (if_pos rfl).mpr ?_
    | with_reducible refine (if_neg (by decide)).mpr ?_) <;> (try dsimp only))
  all_goals first
    | (rw [hk]; exact Fin.rows2 [6, 7, 8] rfl (RV.cell (QOp.quietA TT_ok (by rfl))) (RV.tmp (by rfl)) (by decide) (by repeat' (first | exact trivial | refine ⟨⟨_, rfl, ?_⟩, ?_⟩ | exact DCl.b rfl | exact DCl.map (fun _ => rfl))) (by repeat' (first | exact all_nil | refine all_cons ?_ ?_ | exact ⟨⟨_, rfl, rfl⟩, rfl⟩ | (show Clo _; exact clo_of (by rfl)))) ⟨rfl, rfl⟩)
    | (rw [stp_f hst, hst]; exact Fin.rows2 [2, 3, 4] rfl (RV.cell (QOp.quietA TT_ok (by rfl))) (RV.tmp (by rfl)) (by decide) (by repeat' (first | exact trivial | refine ⟨⟨_, rfl, ?_⟩, ?_⟩ | exact DCl.b rfl | exact DCl.map (fun _ => rfl))) (by repeat' (first | exact all_nil | refine all_cons ?_ ?_ | exact ⟨⟨_, rfl, rfl⟩, rfl⟩ | (show Clo _; exact clo_of (by rfl)))) ⟨rfl, rfl⟩)

theorem cov_i' (a : TAtlas) (hgd : a.gd) (cell : Int) (t : ByteArray) (hts : t.size ≤ maxLen) : VCalls Tryz.prog 31 [.agg a.en, I cell, S t] (fun r M => r = .tup [.agg (stp a (covO a cell t) (covK a cell t)).en, B (stpB a (covO a cell t) (covK a cell t))] ∧ M = []) := VCalls.frz (cov_i a hgd cell t hts) (by refine VwL.cons (View.tup' ?_) VwL.nil; repeat' (first | exact VwL.nil | refine VwL.cons ?_ ?_ | (refine View.own (by rfl) (by rfl) (by rfl) (by rfl) ?_ ?_ <;> first | exact DCl.b rfl | exact DCl.map (fun _ => rfl) | assumption | rfl | exact TPoint.und | exact TSegment.und | exact TBox.und | exact TFeature.und | exact TMeet.und | exact TPlace.und | exact TCover.und | exact TLabel.und | exact TPiece.und | exact TLevel.und | exact TChart.und | exact TReason.und | exact TEdit.und | exact TEntry.und | exact TEdition.und | exact TListing.und | exact TAtlas.und | exact TEvent.und | exact TWindow.und | exact und_nil | exact und_I | assumption) | refine View.agg' ?_ | exact View.same (by first | exact clo_of (by rfl) | assumption | exact clo_fn _) | exact View.nil))
theorem cov_s' (a : TAtlas) (hgd : a.gd) (cell : Int) (t : ByteArray) (hts : t.size ≤ maxLen) : VCalls Tryz.prog 30 [.agg a.en, I cell, S t] (fun r M => r = .tup [.agg (stp a (covO a cell t) (covK a cell t)).en, B (stpB a (covO a cell t) (covK a cell t))] ∧ M = []) := VCalls.frz (cov_s a hgd cell t hts) (by refine VwL.cons (View.tup' ?_) VwL.nil; repeat' (first | exact VwL.nil | refine VwL.cons ?_ ?_ | (refine View.own (by rfl) (by rfl) (by rfl) (by rfl) ?_ ?_ <;> first | exact DCl.b rfl | exact DCl.map (fun _ => rfl) | assumption | rfl | exact TPoint.und | exact TSegment.und | exact TBox.und | exact TFeature.und | exact TMeet.und | exact TPlace.und | exact TCover.und | exact TLabel.und | exact TPiece.und | exact TLevel.und | exact TChart.und | exact TReason.und | exact TEdit.und | exact TEntry.und | exact TEdition.und | exact TListing.und | exact TAtlas.und | exact TEvent.und | exact TWindow.und | exact und_nil | exact und_I | assumption) | refine View.agg' ?_ | exact View.same (by first | exact clo_of (by rfl) | assumption | exact clo_fn _) | exact View.nil))
end Go.Proofs.YtacbpfbelcdeiaaGreat.Abs

/- The walks of the marks of structs and of their tests. -/
namespace Go.Proofs.YtacbpfbelcdeiaaGreat.Abs
open Go.Proofs Go.RowKit
set_option linter.unusedVariables false
set_option linter.unusedSimpArgs false
attribute [local irreducible] OpA AL AW DL DLM DLR DLS QOp POp VCalls VCallsI
def TFeature.cs (x : TFeature) : Nat := ctL TPoint.ct x.points
def TFeature.ms (k : Int) (x : TFeature) : TFeature := ⟨x.id, x.kind, x.rank, x.name, mkL TPoint.mrk TPoint.ct (k) x.points⟩
set_option maxRecDepth 100000 in
set_option maxHeartbeats 2000000 in
theorem markFeature (x : TFeature) (k : Int) (h0 : 0 ≤ k) (hb : k + ((x.cs : Nat) : Int) ≤ 4611686018427387904) : ACalls Tryz.prog 45 [.agg x.eo, I k] x.rw (fun r M => r = I (k + ((x.cs : Nat) : Int)) ∧ ∃ Mx, M = [(⟨152, 2, 0, false, (x.ms k).points.map TPoint.en⟩ : Blk)].map some ++ Mx) := by
  have hcs : x.cs = ctL TPoint.ct x.points := rfl
  have hend : k + ((ctL TPoint.ct x.points : Nat) : Int) = k + ((x.cs : Nat) : Int) := by omega
  refine ACalls.body Tryz.func45 rfl 8 rfl (fun E hE => ?_)
  dsimp only [TFeature.eo, TFeature.rw]
  simp only [List.reduceReplicate, List.cons_append, List.nil_append]
  repeat' ((first
    | ((with_reducible show AL _ _ _ _ _ _ _); first | refine AL.any ?_ | refine AL.any (h := POp.H [0] Tryz.func92 (hc := markPointS 152 x.points (k) (by omega) (by omega))) ?_ | refine AL.nil ?_)
    | ((with_reducible show AW _ _ _ _ _ _); first | refine AW.seq ?_ | refine AW.region ?_ | refine AW.skip ?_ | refine AW.block ?_ | refine AW.exit ?_ | refine AW.ret ?_)
    | with_reducible refine (if_pos rfl).mpr ?_
    | with_reducible refine (if_neg (by decide)).mpr ?_) <;> (try dsimp only))
  all_goals exact FinA.one rfl (RV.tmp (by rfl)) ⟨by rw [← hend], [_], rfl⟩

def TAtlas.cs (x : TAtlas) : Nat := ctL TEntry.ct x.log + ctL TLevel.ct x.levels + ctL TEdition.ct x.editions
def TAtlas.ms (k : Int) (x : TAtlas) : TAtlas := ⟨mkL TEntry.mrk TEntry.ct (k) x.log, mkL TLevel.mrk TLevel.ct (k + ((ctL TEntry.ct x.log : Nat) : Int)) x.levels, mkL TEdition.mrk TEdition.ct (k + ((ctL TEntry.ct x.log : Nat) : Int) + ((ctL TLevel.ct x.levels : Nat) : Int)) x.editions, x.cover, x.now⟩
set_option maxRecDepth 100000 in
set_option maxHeartbeats 2000000 in
theorem markAtlas (x : TAtlas) (k : Int) (h0 : 0 ≤ k) (hb : k + ((x.cs : Nat) : Int) ≤ 4611686018427387904) : ACalls Tryz.prog 22 [.agg x.eo, I k] x.rw (fun r M => r = I (k + ((x.cs : Nat) : Int)) ∧ ∃ Mx, M = [(⟨121, 8, 0, false, (x.ms k).log.map TEntry.ed⟩ : Blk), (⟨97, 3, 0, false, (x.ms k).levels.map TLevel.en⟩ : Blk), (⟨136, 3, 0, false, (x.ms k).editions.map TEdition.ed⟩ : Blk)].map some ++ Mx) := by
  have hcs : x.cs = ctL TEntry.ct x.log + ctL TLevel.ct x.levels + ctL TEdition.ct x.editions := rfl
  have hend : k + ((ctL TEntry.ct x.log : Nat) : Int) + ((ctL TLevel.ct x.levels : Nat) : Int) + ((ctL TEdition.ct x.editions : Nat) : Int) = k + ((x.cs : Nat) : Int) := by omega
  refine ACalls.body Tryz.func22 rfl 16 rfl (fun E hE => ?_)
  dsimp only [TAtlas.eo, TAtlas.rw]
  simp only [List.reduceReplicate, List.cons_append, List.nil_append]
  repeat' ((first
    | ((with_reducible show AL _ _ _ _ _ _ _); first | refine AL.any ?_ | refine AL.any (h := POp.H [1] Tryz.func21 (hc := markLevelS 97 x.levels (k + ((ctL TEntry.ct x.log : Nat) : Int)) (by omega) (by omega))) ?_ | refine AL.any (h := POp.H [0] Tryz.func39 (hc := markEntryS 121 x.log (k) (by omega) (by omega))) ?_ | refine AL.any (h := POp.H [2] Tryz.func68 (hc := markEditionS 136 x.editions (k + ((ctL TEntry.ct x.log : Nat) : Int) + ((ctL TLevel.ct x.levels : Nat) : Int)) (by omega) (by omega))) ?_ | refine AL.nil ?_)
    | ((with_reducible show AW _ _ _ _ _ _); first | refine AW.seq ?_ | refine AW.region ?_ | refine AW.skip ?_ | refine AW.block ?_ | refine AW.exit ?_ | refine AW.ret ?_)
    | with_reducible refine (if_pos rfl).mpr ?_
    | with_reducible refine (if_neg (by decide)).mpr ?_) <;> (try dsimp only))
  all_goals exact FinA.one rfl (RV.tmp (by rfl)) ⟨by rw [← hend], [_], rfl⟩

set_option maxRecDepth 100000 in
set_option maxHeartbeats 2000000 in
theorem heldAtlas (x : TAtlas) (k : Int) (h0 : 0 ≤ k) (hb : k + ((x.cs : Nat) : Int) ≤ 4611686018427387904) : VCalls Tryz.prog 23 [.agg (x.ms k).en, I k] (fun r M => r = I (k + ((x.cs : Nat) : Int)) ∧ M = []) := by
  have hcs : x.cs = ctL TEntry.ct x.log + ctL TLevel.ct x.levels + ctL TEdition.ct x.editions := rfl
  have hend : k + ((ctL TEntry.ct x.log : Nat) : Int) + ((ctL TLevel.ct x.levels : Nat) : Int) + ((ctL TEdition.ct x.editions : Nat) : Int) = k + ((x.cs : Nat) : Int) := by omega
  have hnn0 : decide (k + ((ctL TEntry.ct x.log : Nat) : Int) < 0) = false := by simp; omega
  have hcr0 : Clo (.ro 8 ((mkL TEntry.mrk TEntry.ct (k) x.log).map TEntry.en)) := clo_list TEntry.clo_en
  have hnn1 : decide (k + ((ctL TEntry.ct x.log : Nat) : Int) + ((ctL TLevel.ct x.levels : Nat) : Int) < 0) = false := by simp; omega
  have hcr1 : Clo (.ro 3 ((mkL TLevel.mrk TLevel.ct (k + ((ctL TEntry.ct x.log : Nat) : Int)) x.levels).map TLevel.en)) := clo_list TLevel.clo_en
  have hnn2 : decide (k + ((ctL TEntry.ct x.log : Nat) : Int) + ((ctL TLevel.ct x.levels : Nat) : Int) + ((ctL TEdition.ct x.editions : Nat) : Int) < 0) = false := by simp; omega
  have hcr2 : Clo (.ro 3 ((mkL TEdition.mrk TEdition.ct (k + ((ctL TEntry.ct x.log : Nat) : Int) + ((ctL TLevel.ct x.levels : Nat) : Int)) x.editions).map TEdition.en)) := clo_list TEdition.clo_en
  refine VCalls.body Tryz.func23 rfl 22 rfl (fun E => ?_)
  dsimp only [TAtlas.en, TAtlas.ms]
  simp only [List.reduceReplicate, List.cons_append, List.nil_append]
  repeat' ((first
    | ((with_reducible show AL _ _ _ _ _ _ _); first | refine AL.any ?_ | refine AL.any (h := POp.k Tryz.func69 (hc := heldEntryS x.log (k) (by omega) (by omega))) ?_ | refine AL.any (h := POp.k Tryz.func70 (hc := heldLevelS x.levels (k + ((ctL TEntry.ct x.log : Nat) : Int)) (by omega) (by omega))) ?_ | refine AL.any (h := POp.k Tryz.func71 (hc := heldEditionS x.editions (k + ((ctL TEntry.ct x.log : Nat) : Int) + ((ctL TLevel.ct x.levels : Nat) : Int)) (by omega) (by omega))) ?_ | refine AL.nil ?_)
    | ((with_reducible show AW _ _ _ _ _ _); first | refine AW.seq ?_ | refine AW.region ?_ | refine AW.skip ?_ | refine AW.cT ?_ | refine AW.cF ?_ | (refine AW.c2 ?_ ?_ <;> (intro h; try simp only [Bool.not_eq_true', Bool.not_eq_false'] at h)) | refine AW.block ?_ | refine AW.exit ?_ | refine AW.ret ?_)
    | with_reducible refine (if_pos rfl).mpr ?_
    | with_reducible refine (if_neg (by decide)).mpr ?_) <;> (try dsimp only))
  all_goals exact Fin.one rfl (RV.tmp (by rfl)) (clo_c _) ⟨by rw [← hend], rfl⟩

end Go.Proofs.YtacbpfbelcdeiaaGreat.Abs

/- Bounds of the marks. -/
namespace Go.Proofs.YtacbpfbelcdeiaaGreat.Abs
open Go.Proofs Go.RowKit
set_option linter.unusedVariables false
set_option linter.unusedSimpArgs false
attribute [local irreducible] OpA AL AW DL DLM DLR DLS QOp POp VCalls VCallsI
theorem stp_ind {a o : TAtlas} {ok : Bool} {p : TAtlas → Prop} (ha : p a) (ho : p o) : p (stp a o ok) := by unfold stp; split <;> assumption
theorem ctL_en {l : List TEntry} (hl : l.length ≤ 1048576) (hp : ∀ x ∈ l, x.feature.points.length ≤ 1048576) : ctL TEntry.ct l ≤ 2199030595584 := by
  have h := ctL_bd (ct := TEntry.ct) (c := 2097159) (l := l) fun x hx => by
    have h1 := ctL_pt x.feature.points
    have h2 := hp x hx
    unfold TEntry.ct
    omega
  omega
theorem ctL_lv (l : List TLevel) : ctL TLevel.ct l ≤ l.length * 3 := ctL_bd fun _ _ => Nat.le_refl 3
theorem ctL_ed {l : List TEdition} (hl : l.length ≤ 1048576) (hp : ∀ e ∈ l, e.source.length ≤ 1048576 ∧ ∀ x ∈ e.source, x.points.length ≤ 1048576) : ctL TEdition.ct l ≤ 2305847407260205056 + 2097152 := by
  have h := ctL_bd (ct := TEdition.ct) (c := 2199027449858) (l := l) fun x hx => by
    have h2 := hp x hx
    have h1 := ctL_ft h2.1 h2.2
    unfold TEdition.ct
    omega
  omega
theorem TAtlas.cs_le {a : TAtlas} (h : a.sm) : a.cs ≤ 3000000000000000000 := by
  obtain ⟨⟨h1, h2⟩, h3, h4, h5⟩ := h
  have e1 := ctL_en h1 (fun x hx => h2 x hx)
  have e2 := ctL_lv a.levels
  have e3 := ctL_ed h4 (fun x hx => ⟨(h5 x hx).1, fun y hy => (h5 x hx).2 y hy⟩)
  unfold TAtlas.cs
  omega

theorem toAtlas_oX (a : TAtlas) (hs : a.sm) : VCalls Tryz.prog 26 [.agg [.ro 8 (a.log.map TEntry.en), .ro 3 (a.levels.map TLevel.en), .ro 3 (a.editions.map TEdition.en), I a.cover.w, I a.cover.h, S a.cover.cells, I a.now]] (fun r M => r = .agg [.own 0 0, .own 1 0, .own 2 0, I a.cover.w, I a.cover.h, S a.cover.cells, I a.now] ∧ M = [some ⟨121, 8, 0, false, a.log.map TEntry.ed⟩, some ⟨97, 3, 0, false, a.levels.map TLevel.en⟩, some ⟨136, 3, 0, false, a.editions.map TEdition.ed⟩]) := toAtlas_o a hs
end Go.Proofs.YtacbpfbelcdeiaaGreat.Abs

/- The walk of the law on StepCover. -/
namespace Go.Proofs.YtacbpfbelcdeiaaGreat.Abs
open Go.Proofs Go.RowKit
set_option linter.unusedVariables false
set_option linter.unusedSimpArgs false
attribute [local irreducible] OpA AL AW DL DLM DLR DLS QOp POp VCalls VCallsI
set_option maxRecDepth 100000 in
set_option maxHeartbeats 2000000 in
theorem law_FnExactStepCover (a : TAtlas) (cell : Int) (t : ByteArray) (h0 : a.ok) (h1 : i64 cell) (h2 : t.size ≤ maxLen) : VCalls Tryz.prog 6 [.agg a.en, I cell, S t] (fun r M => r = B true ∧ M = []) := by
  refine VCalls.body Tryz.func6 rfl 106 rfl (fun E => ?_)
  simp only [List.reduceReplicate, List.cons_append, List.nil_append]
  have hclo_a : Clo (.agg a.en) := Clo.agg a.clo_en
  rcases Szs.split (TAtlas.szs) a 1048576 h0 (by decide) (by decide) with hz | ⟨hz, hsm0, hz0, hz1⟩
  all_goals try (have hsmO : (stp a (covO a cell t) (covK a cell t)).sm := stp_ind (p := TAtlas.sm) (by assumption) (covO_sm (by assumption)))
  all_goals try (have hcb := TAtlas.cs_le hsmO)
  all_goals try (have hclX : Clo (.agg (stp a (covO a cell t) (covK a cell t)).en) := Clo.agg (TAtlas.clo_en _))
  all_goals try (have hclT : Clo (.tup [.agg (stp a (covO a cell t) (covK a cell t)).en, B (stpB a (covO a cell t) (covK a cell t))]) := Clo.tup (clo_cons hclX (clo_cons (clo_c _) clo_nil)))
  all_goals try (have hca_a := TAtlas.cs_le (a := a) (by assumption))
  all_goals try (have hclA0 : Clo (.ro 8 (a.log.map TEntry.en)) := clo_list TEntry.clo_en)
  all_goals try (have hclA1 : Clo (.ro 3 (a.levels.map TLevel.en)) := clo_list TLevel.clo_en)
  all_goals try (have hclA2 : Clo (.ro 3 (a.editions.map TEdition.en)) := clo_list TEdition.clo_en)
  all_goals try (have hclX0 : Clo (.ro 8 ((stp a (covO a cell t) (covK a cell t)).log.map TEntry.en)) := clo_list TEntry.clo_en)
  all_goals try (have hclX1 : Clo (.ro 3 ((stp a (covO a cell t) (covK a cell t)).levels.map TLevel.en)) := clo_list TLevel.clo_en)
  all_goals try (have hclX2 : Clo (.ro 3 ((stp a (covO a cell t) (covK a cell t)).editions.map TEdition.en)) := clo_list TEdition.clo_en)
  all_goals try (have hclM0 : Clo (.ro 8 ((TAtlas.ms 1 (stp a (covO a cell t) (covK a cell t))).log.map TEntry.en)) := clo_list TEntry.clo_en)
  all_goals try (have hclM1 : Clo (.ro 3 ((TAtlas.ms 1 (stp a (covO a cell t) (covK a cell t))).levels.map TLevel.en)) := clo_list TLevel.clo_en)
  all_goals try (have hclM2 : Clo (.ro 3 ((TAtlas.ms 1 (stp a (covO a cell t) (covK a cell t))).editions.map TEdition.en)) := clo_list TEdition.clo_en)
  all_goals try (have hk2 : decide (1 + (((stp a (covO a cell t) (covK a cell t)).cs : Nat) : Int) < 0) = false := by simp; omega)
  all_goals try (have hk1 : decide (1 + ((a.cs : Nat) : Int) < 0) = false := by simp; omega)
  repeat' ((first
    | ((with_reducible show AL _ _ _ _ _ _ _); first | refine AL.at 35 (h := POp.O Tryz.func26 (hc := toAtlas_oX a (by assumption))) ?_ | refine AL.at 40 (h := POp.O Tryz.func31 (hc := (show VCalls Tryz.prog 31 [.agg [.ro 8 (a.log.map TEntry.en), .ro 3 (a.levels.map TLevel.en), .ro 3 (a.editions.map TEdition.en), I a.cover.w, I a.cover.h, S a.cover.cells, I a.now], I cell, S t] (fun r M => r = .tup [.agg [.own 0 0, .own 1 0, .own 2 0, I (stp a (covO a cell t) (covK a cell t)).cover.w, I (stp a (covO a cell t) (covK a cell t)).cover.h, S (stp a (covO a cell t) (covK a cell t)).cover.cells, I (stp a (covO a cell t) (covK a cell t)).now], B (stpB a (covO a cell t) (covK a cell t))] ∧ M = [some ⟨121, 8, 0, false, (stp a (covO a cell t) (covK a cell t)).log.map TEntry.ed⟩, some ⟨97, 3, 0, false, (stp a (covO a cell t) (covK a cell t)).levels.map TLevel.en⟩, some ⟨136, 3, 0, false, (stp a (covO a cell t) (covK a cell t)).editions.map TEdition.ed⟩]) from cov_i a (gdA_of (by assumption) (by assumption)) cell t (by assumption)))) ?_ | refine AL.any ?_ | refine AL.any (h := POp.D Tryz.func19 (hc := eqAtlas_self a (by assumption)) (hvw := by first | ((repeat' (first | exact VwL.nil | refine VwL.cons ?_ ?_ | (refine View.own (by rfl) (by rfl) (by rfl) (by rfl) ?_ ?_ <;> first | exact DCl.b rfl | exact DCl.map (fun _ => rfl) | assumption | rfl | exact TPoint.und | exact TSegment.und | exact TBox.und | exact TFeature.und | exact TMeet.und | exact TPlace.und | exact TCover.und | exact TLabel.und | exact TPiece.und | exact TLevel.und | exact TChart.und | exact TReason.und | exact TEdit.und | exact TEntry.und | exact TEdition.und | exact TListing.und | exact TAtlas.und | exact TEvent.und | exact TWindow.und | exact und_nil | exact und_I | assumption) | refine View.agg' ?_ | exact View.same (by first | exact clo_of (by rfl) | assumption | exact clo_fn _) | exact View.nil)); done) | fail)) ?_ | refine AL.any (h := POp.D Tryz.func19 (hc := eqAtlas_self (stp a (covO a cell t) (covK a cell t)) (by assumption)) (hvw := by first | ((repeat' (first | exact VwL.nil | refine VwL.cons ?_ ?_ | (refine View.own (by rfl) (by rfl) (by rfl) (by rfl) ?_ ?_ <;> first | exact DCl.b rfl | exact DCl.map (fun _ => rfl) | assumption | rfl | exact TPoint.und | exact TSegment.und | exact TBox.und | exact TFeature.und | exact TMeet.und | exact TPlace.und | exact TCover.und | exact TLabel.und | exact TPiece.und | exact TLevel.und | exact TChart.und | exact TReason.und | exact TEdit.und | exact TEntry.und | exact TEdition.und | exact TListing.und | exact TAtlas.und | exact TEvent.und | exact TWindow.und | exact und_nil | exact und_I | assumption) | refine View.agg' ?_ | exact View.same (by first | exact clo_of (by rfl) | assumption | exact clo_fn _) | exact View.nil)); done) | fail)) ?_ | refine AL.any (h := POp.H [2, 3, 4] Tryz.func22 (hc := markAtlas a (1) (by omega) (by omega))) ?_ | refine AL.any (h := POp.H [6, 7, 8] Tryz.func22 (hc := markAtlas (stp a (covO a cell t) (covK a cell t)) 1 (by omega) (by omega))) ?_ | refine AL.any (h := POp.D Tryz.func23 (hc := heldAtlas (stp a (covO a cell t) (covK a cell t)) 1 (by omega) (by omega))) ?_ | refine AL.any (h := POp.k Tryz.func24 (hc := szAtlas a _ (by assumption))) ?_ | refine AL.any (h := POp.k Tryz.func26 (hc := toAtlas a (by assumption))) ?_ | refine AL.any (h := POp.k Tryz.func30 (hc := cov_s' a (gdA_of (by assumption) (by assumption)) cell t (by assumption))) ?_ | refine AL.any (h := POp.k Tryz.func31 (hc := cov_i' a (gdA_of (by assumption) (by assumption)) cell t (by assumption))) ?_ | refine AL.U ?_ | refine AL.F ?_ | refine AL.T ?_ | refine AL.T (h := POp.D Tryz.func19 (hc := eqAtlas_self a (by assumption)) (hvw := by first | ((repeat' (first | exact VwL.nil | refine VwL.cons ?_ ?_ | (refine View.own (by rfl) (by rfl) (by rfl) (by rfl) ?_ ?_ <;> first | exact DCl.b rfl | exact DCl.map (fun _ => rfl) | assumption | rfl | exact TPoint.und | exact TSegment.und | exact TBox.und | exact TFeature.und | exact TMeet.und | exact TPlace.und | exact TCover.und | exact TLabel.und | exact TPiece.und | exact TLevel.und | exact TChart.und | exact TReason.und | exact TEdit.und | exact TEntry.und | exact TEdition.und | exact TListing.und | exact TAtlas.und | exact TEvent.und | exact TWindow.und | exact und_nil | exact und_I | assumption) | refine View.agg' ?_ | exact View.same (by first | exact clo_of (by rfl) | assumption | exact clo_fn _) | exact View.nil)); done) | fail)) ?_ | refine AL.T (h := POp.D Tryz.func19 (hc := eqAtlas_self (stp a (covO a cell t) (covK a cell t)) (by assumption)) (hvw := by first | ((repeat' (first | exact VwL.nil | refine VwL.cons ?_ ?_ | (refine View.own (by rfl) (by rfl) (by rfl) (by rfl) ?_ ?_ <;> first | exact DCl.b rfl | exact DCl.map (fun _ => rfl) | assumption | rfl | exact TPoint.und | exact TSegment.und | exact TBox.und | exact TFeature.und | exact TMeet.und | exact TPlace.und | exact TCover.und | exact TLabel.und | exact TPiece.und | exact TLevel.und | exact TChart.und | exact TReason.und | exact TEdit.und | exact TEntry.und | exact TEdition.und | exact TListing.und | exact TAtlas.und | exact TEvent.und | exact TWindow.und | exact und_nil | exact und_I | assumption) | refine View.agg' ?_ | exact View.same (by first | exact clo_of (by rfl) | assumption | exact clo_fn _) | exact View.nil)); done) | fail)) ?_ | refine AL.W ?_ | refine AL.W (h := fun h => by (try rw [h]); exact POp.D Tryz.func19 (hc := eqAtlas_self a (by assumption)) (hvw := by first | ((repeat' (first | exact VwL.nil | refine VwL.cons ?_ ?_ | (refine View.own (by rfl) (by rfl) (by rfl) (by rfl) ?_ ?_ <;> first | exact DCl.b rfl | exact DCl.map (fun _ => rfl) | assumption | rfl | exact TPoint.und | exact TSegment.und | exact TBox.und | exact TFeature.und | exact TMeet.und | exact TPlace.und | exact TCover.und | exact TLabel.und | exact TPiece.und | exact TLevel.und | exact TChart.und | exact TReason.und | exact TEdit.und | exact TEntry.und | exact TEdition.und | exact TListing.und | exact TAtlas.und | exact TEvent.und | exact TWindow.und | exact und_nil | exact und_I | assumption) | refine View.agg' ?_ | exact View.same (by first | exact clo_of (by rfl) | assumption | exact clo_fn _) | exact View.nil)); done) | fail)) ?_ | refine AL.W (h := fun h => by (try rw [h]); exact POp.D Tryz.func19 (hc := eqAtlas_self (stp a (covO a cell t) (covK a cell t)) (by assumption)) (hvw := by first | ((repeat' (first | exact VwL.nil | refine VwL.cons ?_ ?_ | (refine View.own (by rfl) (by rfl) (by rfl) (by rfl) ?_ ?_ <;> first | exact DCl.b rfl | exact DCl.map (fun _ => rfl) | assumption | rfl | exact TPoint.und | exact TSegment.und | exact TBox.und | exact TFeature.und | exact TMeet.und | exact TPlace.und | exact TCover.und | exact TLabel.und | exact TPiece.und | exact TLevel.und | exact TChart.und | exact TReason.und | exact TEdit.und | exact TEntry.und | exact TEdition.und | exact TListing.und | exact TAtlas.und | exact TEvent.und | exact TWindow.und | exact und_nil | exact und_I | assumption) | refine View.agg' ?_ | exact View.same (by first | exact clo_of (by rfl) | assumption | exact clo_fn _) | exact View.nil)); done) | fail)) ?_ | refine AL.nil ?_)
    | ((with_reducible show DL _ _ _ _ _ _ _); first | refine DL.any ?_ | refine DL.any (h := POp.k Tryz.func26 (hc := toAtlas a (by assumption))) ?_ | refine DL.nil ?_)
    | ((with_reducible show AW _ _ _ _ _ _); first | refine AW.seq ?_ | refine AW.region ?_ | refine AW.skip ?_ | refine AW.dr (id := 12) 3 ?_ | refine AW.cT ?_ | refine AW.cF ?_ | (refine AW.c2 ?_ ?_ <;> (intro h; try simp only [Bool.not_eq_true', Bool.not_eq_false'] at h)) | refine AW.block ?_ | refine AW.exit ?_ | refine AW.ret ?_)
    | with_reducible refine (if_pos rfl).mpr ?_
    | with_reducible refine (if_neg (by decide)).mpr ?_) <;> (try dsimp only))
  all_goals exact Fin.one rfl (RV.tmp (by rfl)) (clo_c _) ⟨by first | rfl | (simp_all; done), rfl⟩

end Go.Proofs.YtacbpfbelcdeiaaGreat.Abs
