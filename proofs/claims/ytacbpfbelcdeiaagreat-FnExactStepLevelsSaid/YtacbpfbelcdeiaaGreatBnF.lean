/- Part F of the walk over abstract states and of the functions' walks. -/
import Derived.Test.YtacbpfbelcdeiaaGreatWkStep
import Derived.Test.YtacbpfbelcdeiaaGreatWkMark
import Derived.Test.YtacbpfbelcdeiaaGreatBnE
/- The walks of AreEditions. -/
namespace Go.Proofs.YtacbpfbelcdeiaaGreat.Abs
open Go.Proofs Go.RowKit
set_option linter.unusedVariables false
set_option linter.unusedSimpArgs false
attribute [local irreducible] OpA AL AW DL DLM DLR DLS QOp POp VCalls VCallsI
set_option maxRecDepth 100000 in
set_option maxHeartbeats 2000000 in
theorem areEd_s (l : List TEdition) (hl : l.length ≤ 1048576) (hp : ∀ e ∈ l, e.source.length ≤ 1048576 ∧ ∀ x ∈ e.source, x.gd) : VCalls Tryz.prog 104 [.ro 3 (l.map TEdition.en)] (fun r M => r = B (areEd l) ∧ M = []) := by
  refine VCalls.bodyE Tryz.func104 rfl 73 rfl (fun E hE => ?_)
  simp only [List.reduceReplicate, List.cons_append, List.nil_append]
  have hclo : Clo (.ro 3 (l.map TEdition.en)) := clo_list TEdition.clo_en
  repeat' ((first
    | ((with_reducible show AL _ _ _ _ _ _ _); first | refine AL.any ?_ | refine AL.any (h := POp.k Tryz.func118 (hc := seal_s (prevSeal l i) x.tick x.source (by assumption) (by assumption))) ?_ | refine AL.U ?_ | refine AL.F ?_ | refine AL.T ?_ | refine AL.W ?_ | refine AL.nil ?_)
    | ((with_reducible show DL _ _ _ _ _ _ _); first | refine DL.any ?_ | refine DL.any (h := POp.k Tryz.func77 (hc := inr_s _ _ _)) ?_ | refine DL.U ?_ | refine DL.F ?_ | refine DL.T ?_ | refine DL.T (h := POp.k Tryz.func133 (hc := isSource_s x.source (by assumption) (by assumption))) ?_ | refine DL.W ?_ | refine DL.W (h := fun h => by (try rw [h]); exact POp.k Tryz.func133 (hc := isSource_s x.source (by assumption) (by assumption))) ?_ | refine DL.nil ?_)
    | ((with_reducible show AW _ _ _ _ _ _); first | refine AW.seq ?_ | refine AW.region ?_ | refine AW.skip ?_ | (refine AW.loopD hE (fun i : Nat => [.ro 3 (l.map TEdition.en), .any, .any, I (prevSeal l i), I (i : Int), .any, .any, .any, .any, .any, .any, .any, .any, .any, .any, .any, .any, .any, .any, .any, .any, .any, .any, .any, .any, .any, .any, .any, .any, .any, .any, .any, .any, .any, .any, .any, .any, .any, .any, .any, .any, .any, .any, .any, .any, .any, .any, .any, .any, .any, .any, .any, .any, .any, .any, .any, .any, .any, .any, .any, .any, .any, .any, .any, .any, .any, .any, .any, .any, .any, .any, .any, .any, .any]) (fun i => []) (fun i => nEd l - i) (fun i => i ≤ nEd l ∧ edTo l i = true) 0 ⟨Nat.zero_le _, by simp [edTo]⟩ ?_ (by first | rfl | (simp [fil_zero]; done)) ?_) | refine AW.dr (id := 5) 11 ?_ | refine AW.dr (id := 6) 40 ?_ | refine AW.cT ?_ | refine AW.cF ?_ | (refine AW.c2 ?_ ?_ <;> (intro h; try simp only [Bool.not_eq_true', Bool.not_eq_false'] at h)) | refine AW.block ?_ | refine AW.exit ?_ | refine AW.ret ?_)
    | with_reducible refine (if_pos rfl).mpr ?_
    | with_reducible refine (if_neg (by decide)).mpr ?_) <;> (try dsimp only))
  · (repeat' (first | exact Wk.nil | refine Wk.any ?_ | (with_reducible refine Wk.same ?_) | refine Wk.of ?_ ?_)) <;> first | rfl | (simp [prevSeal])
  · intro i hi
    have hclo : Clo (.ro 3 (l.map TEdition.en)) := clo_list TEdition.clo_en
    by_cases hlt : i < nEd l
    · skip
      obtain ⟨hN, hE6⟩ := nEd_t hlt
      obtain ⟨x, hx⟩ : ∃ x, l[i]? = some x := ⟨_, List.getElem?_eq_getElem (by omega)⟩
      have hg := map_get (f := TEdition.en) hx
      have ht : (decide ((i : Int) < ((l.map TEdition.en).length : Int)) && decide (((l.map TEdition.en).length : Int) ≤ 6)) = true := by simp; omega
      have hn := next_ix hlt (by omega)
      obtain ⟨hsl, hsx⟩ := hp x (List.mem_of_getElem? hx)
      have hsu := edTo_succ l i
      have hps := prevSeal_succ hx
      have hclS : Clo (.ro 5 (x.source.map TFeature.en)) := clo_list TFeature.clo_en
      have hcle : Clo (.agg x.en) := Clo.agg x.clo_en
      rcases ed_cases hx hl with ⟨q1, hk⟩ | ⟨q1, hz, ⟨q2, hk⟩ | ⟨q2, q3, hk⟩ | ⟨q2, q3, hk⟩⟩ | ⟨p, q1, hz, h0, hp0, ⟨q4, hk, q2 | ⟨q2, q3⟩ | ⟨q2, q3⟩⟩ | ⟨q4, ⟨q2, hk⟩ | ⟨q2, q3, hk⟩ | ⟨q2, q3, hk⟩⟩⟩
      repeat' ((first
        | ((with_reducible show AL _ _ _ _ _ _ _); first | refine AL.any ?_ | refine AL.any (h := POp.k Tryz.func118 (hc := seal_s (prevSeal l i) x.tick x.source (by assumption) (by assumption))) ?_ | refine AL.U ?_ | refine AL.F ?_ | refine AL.T ?_ | refine AL.W ?_ | refine AL.nil ?_)
        | ((with_reducible show DL _ _ _ _ _ _ _); first | refine DL.any ?_ | refine DL.any (h := POp.k Tryz.func77 (hc := inr_s _ _ _)) ?_ | refine DL.U ?_ | refine DL.F ?_ | refine DL.T ?_ | refine DL.T (h := POp.k Tryz.func133 (hc := isSource_s x.source (by assumption) (by assumption))) ?_ | refine DL.W ?_ | refine DL.W (h := fun h => by (try rw [h]); exact POp.k Tryz.func133 (hc := isSource_s x.source (by assumption) (by assumption))) ?_ | refine DL.nil ?_)
        | ((with_reducible show AW _ _ _ _ _ _); first | refine AW.seq ?_ | refine AW.region ?_ | refine AW.skip ?_ | refine AW.dr (id := 5) 11 ?_ | refine AW.dr (id := 6) 40 ?_ | refine AW.cT ?_ | refine AW.cF ?_ | (refine AW.c2 ?_ ?_ <;> (intro h; try simp only [Bool.not_eq_true', Bool.not_eq_false'] at h)) | refine AW.block ?_ | refine AW.exit ?_ | refine AW.ret ?_)
        | with_reducible refine (if_pos rfl).mpr ?_
        | with_reducible refine (if_neg (by decide)).mpr ?_) <;> (try dsimp only))
      all_goals first
        | (refine ⟨i + 1, _, ⟨hlt, by simp_all⟩, by omega, ?_, rfl, ?_, ?_⟩; (focus ((repeat' (first | exact Wk.nil | refine Wk.any ?_ | (with_reducible refine Wk.same ?_) | refine Wk.of ?_ ?_)) <;> (first | rfl | (simp_all [hps]; done) | simp_all))); (focus ((repeat' (first | exact Fits.nil _ | refine Fits.cons ?_ ?_ | exact Fits.any _ | exact Fits.c _ _ | exact Fits.own (by rfl) | exact Fits.ref (by rfl) | exact Fits.clo (by assumption) | exact Fits.clo (clo_of (by rfl)) | exact Fits.clo (clo_fn _))))); (focus (exact FitsM.nil _)))
        | exact Fin.one rfl (RV.tmp (by rfl)) (clo_c _) ⟨by have hn := edTo_not (n := l.length) (by simp_all : edAt l i = false) (by omega); simp_all [areEd], rfl⟩
    · have e : i = nEd l := by omega
      have ht : (decide ((i : Int) < ((l.map TEdition.en).length : Int)) && decide (((l.map TEdition.en).length : Int) ≤ 6)) = false := by
        rw [e]
        unfold nEd
        split
        · simp
        · simp; omega
      subst e
      repeat' ((first
        | ((with_reducible show AL _ _ _ _ _ _ _); first | refine AL.any ?_ | refine AL.any (h := POp.k Tryz.func118 (hc := seal_s (prevSeal l i) x.tick x.source (by assumption) (by assumption))) ?_ | refine AL.U ?_ | refine AL.F ?_ | refine AL.T ?_ | refine AL.W ?_ | refine AL.nil ?_)
        | ((with_reducible show DL _ _ _ _ _ _ _); first | refine DL.any ?_ | refine DL.any (h := POp.k Tryz.func77 (hc := inr_s _ _ _)) ?_ | refine DL.U ?_ | refine DL.F ?_ | refine DL.T ?_ | refine DL.T (h := POp.k Tryz.func133 (hc := isSource_s x.source (by assumption) (by assumption))) ?_ | refine DL.W ?_ | refine DL.W (h := fun h => by (try rw [h]); exact POp.k Tryz.func133 (hc := isSource_s x.source (by assumption) (by assumption))) ?_ | refine DL.nil ?_)
        | ((with_reducible show AW _ _ _ _ _ _); first | refine AW.seq ?_ | refine AW.region ?_ | refine AW.skip ?_ | refine AW.dr (id := 5) 11 ?_ | refine AW.dr (id := 6) 40 ?_ | refine AW.cT ?_ | refine AW.cF ?_ | (refine AW.c2 ?_ ?_ <;> (intro h; try simp only [Bool.not_eq_true', Bool.not_eq_false'] at h)) | refine AW.block ?_ | refine AW.exit ?_ | refine AW.ret ?_)
        | with_reducible refine (if_pos rfl).mpr ?_
        | with_reducible refine (if_neg (by decide)).mpr ?_) <;> (try dsimp only))
      all_goals exact Fin.one rfl (RV.tmp (by rfl)) (clo_c _) ⟨by have h2 := hi.2; unfold nEd at h2; unfold areEd; split at h2 <;> simp_all <;> omega, rfl⟩

set_option maxRecDepth 100000 in
set_option maxHeartbeats 2000000 in
theorem areEd_i (l : List TEdition) (hl : l.length ≤ 1048576) (hp : ∀ e ∈ l, e.source.length ≤ 1048576 ∧ ∀ x ∈ e.source, x.gd) : VCalls Tryz.prog 107 [.ro 3 (l.map TEdition.en)] (fun r M => r = B (areEd l) ∧ M = []) := by
  refine VCalls.bodyE Tryz.func107 rfl 54 rfl (fun E hE => ?_)
  simp only [List.reduceReplicate, List.cons_append, List.nil_append]
  have hclo : Clo (.ro 3 (l.map TEdition.en)) := clo_list TEdition.clo_en
  repeat' ((first
    | ((with_reducible show AL _ _ _ _ _ _ _); first | refine AL.any ?_ | refine AL.U ?_ | refine AL.F ?_ | refine AL.T ?_ | refine AL.W ?_ | refine AL.nil ?_)
    | ((with_reducible show DL _ _ _ _ _ _ _); first | refine DL.any ?_ | refine DL.any (h := POp.k Tryz.func78 (hc := inr_v _ _ _)) ?_ | refine DL.U ?_ | refine DL.F ?_ | refine DL.T ?_ | refine DL.T (h := POp.k Tryz.func121 (hc := seal_i (prevSeal l i) x.tick x.source (by assumption) (by assumption))) ?_ | refine DL.T (h := POp.k Tryz.func135 (hc := isSource_i x.source (by assumption) (by assumption))) ?_ | refine DL.W ?_ | refine DL.W (h := fun h => by (try rw [h]); exact POp.k Tryz.func121 (hc := seal_i (prevSeal l i) x.tick x.source (by assumption) (by assumption))) ?_ | refine DL.W (h := fun h => by (try rw [h]); exact POp.k Tryz.func135 (hc := isSource_i x.source (by assumption) (by assumption))) ?_ | refine DL.nil ?_)
    | ((with_reducible show AW _ _ _ _ _ _); first | refine AW.seq ?_ | refine AW.region ?_ | refine AW.skip ?_ | (refine AW.loopD hE (fun i : Nat => [.ro 3 (l.map TEdition.en), .any, .any, I (prevSeal l i), .any, .any, .any, .any, .any, .ro 3 (l.map TEdition.en), I ((l.map TEdition.en).length : Int), I (i : Int), .any, .any, .any, .any, .any, .any, .any, .any, .any, .any, .any, .any, .any, .any, .any, .any, .any, .any, .any, .any, .any, .any, .any, .any, .any, .any, .any, .any, .any, .any, .any, .any, .any, .any, .any, .any, .any, .any, .any, .any, .any, .any, .any]) (fun i => []) (fun i => l.length - i) (fun i => i ≤ l.length ∧ edTo l i = true) 0 (by simp [edTo]) ?_ (by first | rfl | (simp [fil_zero]; done)) ?_) | refine AW.dr (id := 7) 34 ?_ | refine AW.cT ?_ | refine AW.cF ?_ | (refine AW.c2 ?_ ?_ <;> (intro h; try simp only [Bool.not_eq_true', Bool.not_eq_false'] at h)) | refine AW.block ?_ | refine AW.exit ?_ | refine AW.ret ?_)
    | with_reducible refine (if_pos rfl).mpr ?_
    | with_reducible refine (if_neg (by decide)).mpr ?_) <;> (try dsimp only))
  · exact Fin.one rfl (RV.tmp (by rfl)) (clo_c _) ⟨by simp_all [areEd] <;> omega, rfl⟩
  · (repeat' (first | exact Wk.nil | refine Wk.any ?_ | (with_reducible refine Wk.same ?_) | refine Wk.of ?_ ?_)) <;> first | rfl | (simp [prevSeal])
  · intro i hi
    have hclo : Clo (.ro 3 (l.map TEdition.en)) := clo_list TEdition.clo_en
    by_cases hlt : i < l.length
    · obtain ⟨x, hx⟩ : ∃ x, l[i]? = some x := ⟨_, List.getElem?_eq_getElem hlt⟩
      have hg := map_get (f := TEdition.en) hx
      have ht := lt_true (f := TEdition.en) hlt
      have hn := next_ix hlt (by omega)
      obtain ⟨hsl, hsx⟩ := hp x (List.mem_of_getElem? hx)
      have hsu := edTo_succ l i
      have hps := prevSeal_succ hx
      have hclS : Clo (.ro 5 (x.source.map TFeature.en)) := clo_list TFeature.clo_en
      have hcle : Clo (.agg x.en) := Clo.agg x.clo_en
      rcases ed_cases hx hl with ⟨q1, hk⟩ | ⟨q1, hz, ⟨q2, hk⟩ | ⟨q2, q3, hk⟩ | ⟨q2, q3, hk⟩⟩ | ⟨p, q1, hz, h0, hp0, ⟨q4, hk, q2 | ⟨q2, q3⟩ | ⟨q2, q3⟩⟩ | ⟨q4, ⟨q2, hk⟩ | ⟨q2, q3, hk⟩ | ⟨q2, q3, hk⟩⟩⟩
      repeat' ((first
        | ((with_reducible show AL _ _ _ _ _ _ _); first | refine AL.any ?_ | refine AL.U ?_ | refine AL.F ?_ | refine AL.T ?_ | refine AL.W ?_ | refine AL.nil ?_)
        | ((with_reducible show DL _ _ _ _ _ _ _); first | refine DL.any ?_ | refine DL.any (h := POp.k Tryz.func78 (hc := inr_v _ _ _)) ?_ | refine DL.U ?_ | refine DL.F ?_ | refine DL.T ?_ | refine DL.T (h := POp.k Tryz.func121 (hc := seal_i (prevSeal l i) x.tick x.source (by assumption) (by assumption))) ?_ | refine DL.T (h := POp.k Tryz.func135 (hc := isSource_i x.source (by assumption) (by assumption))) ?_ | refine DL.W ?_ | refine DL.W (h := fun h => by (try rw [h]); exact POp.k Tryz.func121 (hc := seal_i (prevSeal l i) x.tick x.source (by assumption) (by assumption))) ?_ | refine DL.W (h := fun h => by (try rw [h]); exact POp.k Tryz.func135 (hc := isSource_i x.source (by assumption) (by assumption))) ?_ | refine DL.nil ?_)
        | ((with_reducible show AW _ _ _ _ _ _); first | refine AW.seq ?_ | refine AW.region ?_ | refine AW.skip ?_ | refine AW.dr (id := 7) 34 ?_ | refine AW.cT ?_ | refine AW.cF ?_ | (refine AW.c2 ?_ ?_ <;> (intro h; try simp only [Bool.not_eq_true', Bool.not_eq_false'] at h)) | refine AW.block ?_ | refine AW.exit ?_ | refine AW.ret ?_)
        | with_reducible refine (if_pos rfl).mpr ?_
        | with_reducible refine (if_neg (by decide)).mpr ?_) <;> (try dsimp only))
      all_goals first
        | (refine ⟨i + 1, _, ⟨hlt, by simp_all⟩, by omega, ?_, rfl, ?_, ?_⟩; (focus ((repeat' (first | exact Wk.nil | refine Wk.any ?_ | (with_reducible refine Wk.same ?_) | refine Wk.of ?_ ?_)) <;> (first | rfl | (simp_all [hps]; done) | simp_all))); (focus ((repeat' (first | exact Fits.nil _ | refine Fits.cons ?_ ?_ | exact Fits.any _ | exact Fits.c _ _ | exact Fits.own (by rfl) | exact Fits.ref (by rfl) | exact Fits.clo (by assumption) | exact Fits.clo (clo_of (by rfl)) | exact Fits.clo (clo_fn _))))); (focus (exact FitsM.nil _)))
        | exact Fin.one rfl (RV.tmp (by rfl)) (clo_c _) ⟨by have hn := edTo_not (n := l.length) (by simp_all : edAt l i = false) (by omega); simp_all [areEd], rfl⟩
    · have ht := lt_false (f := TEdition.en) hlt
      have e : i = l.length := by omega
      subst e
      try rw [List.take_length]
      repeat' ((first
        | ((with_reducible show AL _ _ _ _ _ _ _); first | refine AL.any ?_ | refine AL.U ?_ | refine AL.F ?_ | refine AL.T ?_ | refine AL.W ?_ | refine AL.nil ?_)
        | ((with_reducible show DL _ _ _ _ _ _ _); first | refine DL.any ?_ | refine DL.any (h := POp.k Tryz.func78 (hc := inr_v _ _ _)) ?_ | refine DL.U ?_ | refine DL.F ?_ | refine DL.T ?_ | refine DL.T (h := POp.k Tryz.func121 (hc := seal_i (prevSeal l i) x.tick x.source (by assumption) (by assumption))) ?_ | refine DL.T (h := POp.k Tryz.func135 (hc := isSource_i x.source (by assumption) (by assumption))) ?_ | refine DL.W ?_ | refine DL.W (h := fun h => by (try rw [h]); exact POp.k Tryz.func121 (hc := seal_i (prevSeal l i) x.tick x.source (by assumption) (by assumption))) ?_ | refine DL.W (h := fun h => by (try rw [h]); exact POp.k Tryz.func135 (hc := isSource_i x.source (by assumption) (by assumption))) ?_ | refine DL.nil ?_)
        | ((with_reducible show AW _ _ _ _ _ _); first | refine AW.seq ?_ | refine AW.region ?_ | refine AW.skip ?_ | refine AW.dr (id := 7) 34 ?_ | refine AW.cT ?_ | refine AW.cF ?_ | (refine AW.c2 ?_ ?_ <;> (intro h; try simp only [Bool.not_eq_true', Bool.not_eq_false'] at h)) | refine AW.block ?_ | refine AW.exit ?_ | refine AW.ret ?_)
        | with_reducible refine (if_pos rfl).mpr ?_
        | with_reducible refine (if_neg (by decide)).mpr ?_) <;> (try dsimp only))
      all_goals exact Fin.one rfl (RV.tmp (by rfl)) (clo_c _) ⟨by first | (simp_all [areEd]; done) | (simp_all [areEd] <;> omega), rfl⟩

end Go.Proofs.YtacbpfbelcdeiaaGreat.Abs

/- The walks of IsAtlas and FaultOf. -/
namespace Go.Proofs.YtacbpfbelcdeiaaGreat.Abs
open Go.Proofs Go.RowKit
set_option linter.unusedVariables false
set_option linter.unusedSimpArgs false
attribute [local irreducible] OpA AL AW DL DLM DLR DLS QOp POp VCalls VCallsI
set_option maxRecDepth 100000 in
set_option maxHeartbeats 2000000 in
theorem isAtl_s (a : TAtlas) (hgd : a.gd) : VCalls Tryz.prog 61 [.agg a.en] (fun r M => r = B (isAtl a) ∧ M = []) := by
  refine VCalls.bodyE Tryz.func61 rfl 59 rfl (fun E hE => ?_)
  simp only [List.reduceReplicate, List.cons_append, List.nil_append]
  have hclL : Clo (.ro 8 (a.log.map TEntry.en)) := clo_list TEntry.clo_en
  have hclV : Clo (.ro 3 (a.levels.map TLevel.en)) := clo_list TLevel.clo_en
  have hclE : Clo (.ro 3 (a.editions.map TEdition.en)) := clo_list TEdition.clo_en
  have hclA : Clo (.agg a.en) := Clo.agg a.clo_en
  obtain ⟨⟨g1, g2⟩, g3, ⟨g4, g5⟩, g6⟩ := id hgd
  dsimp only [TAtlas.en]
  repeat' ((first
    | ((with_reducible show AL _ _ _ _ _ _ _); first | refine AL.any ?_ | refine AL.any (h := POp.k Tryz.func86 (hc := isLog_s a.log g1 g2)) ?_ | refine AL.U ?_ | refine AL.F ?_ | refine AL.T ?_ | refine AL.T (h := POp.k Tryz.func77 (hc := inr_s _ _ _)) ?_ | refine AL.T (h := POp.k Tryz.func103 (hc := isLadder_s a.levels g3)) ?_ | refine AL.T (h := POp.k Tryz.func104 (hc := areEd_s a.editions g4 g5)) ?_ | refine AL.T (h := POp.k Tryz.func105 (hc := isCover_s a.cover.w a.cover.h a.cover.cells g6)) ?_ | refine AL.W ?_ | refine AL.W (h := fun h => by (try rw [h]); exact POp.k Tryz.func77 (hc := inr_s _ _ _)) ?_ | refine AL.W (h := fun h => by (try rw [h]); exact POp.k Tryz.func103 (hc := isLadder_s a.levels g3)) ?_ | refine AL.W (h := fun h => by (try rw [h]); exact POp.k Tryz.func104 (hc := areEd_s a.editions g4 g5)) ?_ | refine AL.W (h := fun h => by (try rw [h]); exact POp.k Tryz.func105 (hc := isCover_s a.cover.w a.cover.h a.cover.cells g6)) ?_ | refine AL.nil ?_)
    | ((with_reducible show DL _ _ _ _ _ _ _); first | refine DL.any ?_ | refine DL.nil ?_)
    | ((with_reducible show AW _ _ _ _ _ _); first | refine AW.seq ?_ | refine AW.region ?_ | refine AW.skip ?_ | (refine AW.loopD hE (fun i : Nat => [.any, .ref 0 0 7 0 0, .any, I (i : Int), .any, .any, .any, .any, .any, .any, .any, .any, .any, .any, .any, .any, .any, .any, .any, .any, .any, .any, .any, .any, .any, .any, .any, .any, .any, .any, .any, .any, .any, .any, .any, .any, .any, .any, .any, .any, .any, .any, .any, .any, .any, .any, .any, .any, .any, .any, .any, .any, .any, .any, .any, .any, .any, .any, .any, .any]) (fun i => [some ⟨32, 7, 0, true, [a.en]⟩]) (fun i => a.log.length - i) (fun i => i ≤ a.log.length ∧ ticks TEntry.tick a.now a.log i = true) 0 ⟨Nat.zero_le _, by simp [ticks]⟩ ?_ (by first | rfl | (simp; done)) ?_) | refine AW.dr (id := 4) 8 ?_ | refine AW.dr (id := 9) 8 ?_ | refine AW.cT ?_ | refine AW.cF ?_ | (refine AW.c2 ?_ ?_ <;> (intro h; try simp only [Bool.not_eq_true', Bool.not_eq_false'] at h)) | refine AW.block ?_ | refine AW.exit ?_ | refine AW.ret ?_)
    | with_reducible refine (if_pos rfl).mpr ?_
    | with_reducible refine (if_neg (by decide)).mpr ?_) <;> (try dsimp only))
  · (repeat' (first | exact Wk.nil | refine Wk.any ?_ | (with_reducible refine Wk.same ?_) | refine Wk.of ?_ ?_)) <;> first | rfl | (simp; done)
  · intro i hv_i
    by_cases hlt_i : i < a.log.length
    · skip
      obtain ⟨x, hx⟩ : ∃ x, a.log[i]? = some x := ⟨_, List.getElem?_eq_getElem hlt_i⟩
      have hg := map_get (f := TEntry.en) hx
      have ht := lt_true (f := TEntry.en) hlt_i
      have hn := next_ix hlt_i (by omega)
      have hsu := ticks_succ (tk := TEntry.tick) (now := a.now) hx
      have hno := ticks_not (tk := TEntry.tick) (now := a.now) hx
      have hcle : Clo (.agg x.en) := Clo.agg x.clo_en
      repeat' ((first
        | ((with_reducible show AL _ _ _ _ _ _ _); first | refine AL.any ?_ | refine AL.any (h := POp.k Tryz.func86 (hc := isLog_s a.log g1 g2)) ?_ | refine AL.U ?_ | refine AL.F ?_ | refine AL.T ?_ | refine AL.T (h := POp.k Tryz.func77 (hc := inr_s _ _ _)) ?_ | refine AL.T (h := POp.k Tryz.func103 (hc := isLadder_s a.levels g3)) ?_ | refine AL.T (h := POp.k Tryz.func104 (hc := areEd_s a.editions g4 g5)) ?_ | refine AL.T (h := POp.k Tryz.func105 (hc := isCover_s a.cover.w a.cover.h a.cover.cells g6)) ?_ | refine AL.W ?_ | refine AL.W (h := fun h => by (try rw [h]); exact POp.k Tryz.func77 (hc := inr_s _ _ _)) ?_ | refine AL.W (h := fun h => by (try rw [h]); exact POp.k Tryz.func103 (hc := isLadder_s a.levels g3)) ?_ | refine AL.W (h := fun h => by (try rw [h]); exact POp.k Tryz.func104 (hc := areEd_s a.editions g4 g5)) ?_ | refine AL.W (h := fun h => by (try rw [h]); exact POp.k Tryz.func105 (hc := isCover_s a.cover.w a.cover.h a.cover.cells g6)) ?_ | refine AL.nil ?_)
        | ((with_reducible show DL _ _ _ _ _ _ _); first | refine DL.any ?_ | refine DL.nil ?_)
        | ((with_reducible show AW _ _ _ _ _ _); first | refine AW.seq ?_ | refine AW.region ?_ | refine AW.skip ?_ | refine AW.dr (id := 4) 8 ?_ | refine AW.dr (id := 9) 8 ?_ | refine AW.cT ?_ | refine AW.cF ?_ | (refine AW.c2 ?_ ?_ <;> (intro h; try simp only [Bool.not_eq_true', Bool.not_eq_false'] at h)) | refine AW.block ?_ | refine AW.exit ?_ | refine AW.ret ?_)
        | with_reducible refine (if_pos rfl).mpr ?_
        | with_reducible refine (if_neg (by decide)).mpr ?_) <;> (try dsimp only))
      all_goals first
        | (refine ⟨i + 1, _, ⟨hlt_i, by simp_all⟩, by omega, ?_, rfl, ?_, ?_⟩; (focus ((repeat' (first | exact Wk.nil | refine Wk.any ?_ | (with_reducible refine Wk.same ?_) | refine Wk.of ?_ ?_)) <;> (simp_all))); (focus ((repeat' (first | exact Fits.nil _ | refine Fits.cons ?_ ?_ | exact Fits.any _ | exact Fits.c _ _ | exact Fits.own (by rfl) | exact Fits.ref (by rfl) | exact Fits.clo (by assumption) | exact Fits.clo (clo_of (by rfl)) | exact Fits.clo (clo_fn _))))); (focus (exact fitsM_cons (clo_one a.clo_en) (FitsM.nil _))))
        | exact Fin.one rfl (RV.tmp (by rfl)) (clo_c _) ⟨by have hf := hno (by assumption); simp_all [isAtl], rfl⟩
    · have e_i : i = a.log.length := by omega
      have ht := lt_false (f := TEntry.en) (show ¬ i < a.log.length by omega)
      subst e_i
      repeat' ((first
        | ((with_reducible show AL _ _ _ _ _ _ _); first | refine AL.any ?_ | refine AL.any (h := POp.k Tryz.func86 (hc := isLog_s a.log g1 g2)) ?_ | refine AL.U ?_ | refine AL.F ?_ | refine AL.T ?_ | refine AL.T (h := POp.k Tryz.func77 (hc := inr_s _ _ _)) ?_ | refine AL.T (h := POp.k Tryz.func103 (hc := isLadder_s a.levels g3)) ?_ | refine AL.T (h := POp.k Tryz.func104 (hc := areEd_s a.editions g4 g5)) ?_ | refine AL.T (h := POp.k Tryz.func105 (hc := isCover_s a.cover.w a.cover.h a.cover.cells g6)) ?_ | refine AL.W ?_ | refine AL.W (h := fun h => by (try rw [h]); exact POp.k Tryz.func77 (hc := inr_s _ _ _)) ?_ | refine AL.W (h := fun h => by (try rw [h]); exact POp.k Tryz.func103 (hc := isLadder_s a.levels g3)) ?_ | refine AL.W (h := fun h => by (try rw [h]); exact POp.k Tryz.func104 (hc := areEd_s a.editions g4 g5)) ?_ | refine AL.W (h := fun h => by (try rw [h]); exact POp.k Tryz.func105 (hc := isCover_s a.cover.w a.cover.h a.cover.cells g6)) ?_ | refine AL.nil ?_)
        | ((with_reducible show DL _ _ _ _ _ _ _); first | refine DL.any ?_ | refine DL.nil ?_)
        | ((with_reducible show AW _ _ _ _ _ _); first | refine AW.seq ?_ | refine AW.region ?_ | refine AW.skip ?_ | (refine AW.loopD hE (fun k : Nat => [.any, .ref 0 0 7 0 0, .any, .any, I (k : Int), .any, .any, .any, .any, .any, .any, .any, .any, .any, .any, .any, .any, .any, .any, .any, .any, .any, .any, .any, .any, .any, .any, .any, .any, .any, .any, .any, .any, .any, .any, .any, .any, .any, .any, .any, .any, .any, .any, .any, .any, .any, .any, .any, .any, .any, .any, .any, .any, .any, .any, .any, .any, .any, .any, .any]) (fun k => [some ⟨32, 7, 0, true, [a.en]⟩]) (fun k => a.editions.length - k) (fun k => k ≤ a.editions.length ∧ ticks TEdition.tick a.now a.editions k = true) 0 ⟨Nat.zero_le _, by simp [ticks]⟩ ?_ (by first | rfl | (simp; done)) ?_) | refine AW.dr (id := 4) 8 ?_ | refine AW.dr (id := 9) 8 ?_ | refine AW.cT ?_ | refine AW.cF ?_ | (refine AW.c2 ?_ ?_ <;> (intro h; try simp only [Bool.not_eq_true', Bool.not_eq_false'] at h)) | refine AW.block ?_ | refine AW.exit ?_ | refine AW.ret ?_)
        | with_reducible refine (if_pos rfl).mpr ?_
        | with_reducible refine (if_neg (by decide)).mpr ?_) <;> (try dsimp only))
      · (repeat' (first | exact Wk.nil | refine Wk.any ?_ | (with_reducible refine Wk.same ?_) | refine Wk.of ?_ ?_)) <;> first | rfl | (simp; done)
      · intro k hv_k
        by_cases hlt_k : k < a.editions.length
        · skip
          obtain ⟨x, hx⟩ : ∃ x, a.editions[k]? = some x := ⟨_, List.getElem?_eq_getElem hlt_k⟩
          have hg := map_get (f := TEdition.en) hx
          have ht := lt_true (f := TEdition.en) hlt_k
          have hn := next_ix hlt_k (by omega)
          have hsu := ticks_succ (tk := TEdition.tick) (now := a.now) hx
          have hno := ticks_not (tk := TEdition.tick) (now := a.now) hx
          have hcle : Clo (.agg x.en) := Clo.agg x.clo_en
          repeat' ((first
            | ((with_reducible show AL _ _ _ _ _ _ _); first | refine AL.any ?_ | refine AL.any (h := POp.k Tryz.func86 (hc := isLog_s a.log g1 g2)) ?_ | refine AL.U ?_ | refine AL.F ?_ | refine AL.T ?_ | refine AL.T (h := POp.k Tryz.func77 (hc := inr_s _ _ _)) ?_ | refine AL.T (h := POp.k Tryz.func103 (hc := isLadder_s a.levels g3)) ?_ | refine AL.T (h := POp.k Tryz.func104 (hc := areEd_s a.editions g4 g5)) ?_ | refine AL.T (h := POp.k Tryz.func105 (hc := isCover_s a.cover.w a.cover.h a.cover.cells g6)) ?_ | refine AL.W ?_ | refine AL.W (h := fun h => by (try rw [h]); exact POp.k Tryz.func77 (hc := inr_s _ _ _)) ?_ | refine AL.W (h := fun h => by (try rw [h]); exact POp.k Tryz.func103 (hc := isLadder_s a.levels g3)) ?_ | refine AL.W (h := fun h => by (try rw [h]); exact POp.k Tryz.func104 (hc := areEd_s a.editions g4 g5)) ?_ | refine AL.W (h := fun h => by (try rw [h]); exact POp.k Tryz.func105 (hc := isCover_s a.cover.w a.cover.h a.cover.cells g6)) ?_ | refine AL.nil ?_)
            | ((with_reducible show DL _ _ _ _ _ _ _); first | refine DL.any ?_ | refine DL.nil ?_)
            | ((with_reducible show AW _ _ _ _ _ _); first | refine AW.seq ?_ | refine AW.region ?_ | refine AW.skip ?_ | refine AW.dr (id := 4) 8 ?_ | refine AW.dr (id := 9) 8 ?_ | refine AW.cT ?_ | refine AW.cF ?_ | (refine AW.c2 ?_ ?_ <;> (intro h; try simp only [Bool.not_eq_true', Bool.not_eq_false'] at h)) | refine AW.block ?_ | refine AW.exit ?_ | refine AW.ret ?_)
            | with_reducible refine (if_pos rfl).mpr ?_
            | with_reducible refine (if_neg (by decide)).mpr ?_) <;> (try dsimp only))
          all_goals first
            | (refine ⟨k + 1, _, ⟨hlt_k, by simp_all⟩, by omega, ?_, rfl, ?_, ?_⟩; (focus ((repeat' (first | exact Wk.nil | refine Wk.any ?_ | (with_reducible refine Wk.same ?_) | refine Wk.of ?_ ?_)) <;> (simp_all))); (focus ((repeat' (first | exact Fits.nil _ | refine Fits.cons ?_ ?_ | exact Fits.any _ | exact Fits.c _ _ | exact Fits.own (by rfl) | exact Fits.ref (by rfl) | exact Fits.clo (by assumption) | exact Fits.clo (clo_of (by rfl)) | exact Fits.clo (clo_fn _))))); (focus (exact fitsM_cons (clo_one a.clo_en) (FitsM.nil _))))
            | exact Fin.one rfl (RV.tmp (by rfl)) (clo_c _) ⟨by have hf := hno (by assumption); simp_all [isAtl], rfl⟩
        · have e_k : k = a.editions.length := by omega
          have ht := lt_false (f := TEdition.en) (show ¬ k < a.editions.length by omega)
          subst e_k
          repeat' ((first
            | ((with_reducible show AL _ _ _ _ _ _ _); first | refine AL.any ?_ | refine AL.any (h := POp.k Tryz.func86 (hc := isLog_s a.log g1 g2)) ?_ | refine AL.U ?_ | refine AL.F ?_ | refine AL.T ?_ | refine AL.T (h := POp.k Tryz.func77 (hc := inr_s _ _ _)) ?_ | refine AL.T (h := POp.k Tryz.func103 (hc := isLadder_s a.levels g3)) ?_ | refine AL.T (h := POp.k Tryz.func104 (hc := areEd_s a.editions g4 g5)) ?_ | refine AL.T (h := POp.k Tryz.func105 (hc := isCover_s a.cover.w a.cover.h a.cover.cells g6)) ?_ | refine AL.W ?_ | refine AL.W (h := fun h => by (try rw [h]); exact POp.k Tryz.func77 (hc := inr_s _ _ _)) ?_ | refine AL.W (h := fun h => by (try rw [h]); exact POp.k Tryz.func103 (hc := isLadder_s a.levels g3)) ?_ | refine AL.W (h := fun h => by (try rw [h]); exact POp.k Tryz.func104 (hc := areEd_s a.editions g4 g5)) ?_ | refine AL.W (h := fun h => by (try rw [h]); exact POp.k Tryz.func105 (hc := isCover_s a.cover.w a.cover.h a.cover.cells g6)) ?_ | refine AL.nil ?_)
            | ((with_reducible show DL _ _ _ _ _ _ _); first | refine DL.any ?_ | refine DL.nil ?_)
            | ((with_reducible show AW _ _ _ _ _ _); first | refine AW.seq ?_ | refine AW.region ?_ | refine AW.skip ?_ | refine AW.dr (id := 4) 8 ?_ | refine AW.dr (id := 9) 8 ?_ | refine AW.cT ?_ | refine AW.cF ?_ | (refine AW.c2 ?_ ?_ <;> (intro h; try simp only [Bool.not_eq_true', Bool.not_eq_false'] at h)) | refine AW.block ?_ | refine AW.exit ?_ | refine AW.ret ?_)
            | with_reducible refine (if_pos rfl).mpr ?_
            | with_reducible refine (if_neg (by decide)).mpr ?_) <;> (try dsimp only))
          all_goals first
            | exact Fin.one rfl (RV.tmp (by rfl)) (clo_c _) ⟨by simp_all [isAtl, atlIn], rfl⟩

set_option maxRecDepth 100000 in
set_option maxHeartbeats 2000000 in
theorem isAtl_i (a : TAtlas) (hgd : a.gd) : VCalls Tryz.prog 64 [.agg a.en] (fun r M => r = B (isAtl a) ∧ M = []) := by
  refine VCalls.bodyE Tryz.func64 rfl 60 rfl (fun E hE => ?_)
  simp only [List.reduceReplicate, List.cons_append, List.nil_append]
  have hclL : Clo (.ro 8 (a.log.map TEntry.en)) := clo_list TEntry.clo_en
  have hclV : Clo (.ro 3 (a.levels.map TLevel.en)) := clo_list TLevel.clo_en
  have hclE : Clo (.ro 3 (a.editions.map TEdition.en)) := clo_list TEdition.clo_en
  have hclA : Clo (.agg a.en) := Clo.agg a.clo_en
  obtain ⟨⟨g1, g2⟩, g3, ⟨g4, g5⟩, g6⟩ := id hgd
  dsimp only [TAtlas.en]
  repeat' ((first
    | ((with_reducible show AL _ _ _ _ _ _ _); first | refine AL.any ?_ | refine AL.any (h := POp.k Tryz.func89 (hc := isLog_i a.log g1 g2)) ?_ | refine AL.U ?_ | refine AL.F ?_ | refine AL.T ?_ | refine AL.T (h := POp.k Tryz.func78 (hc := inr_v _ _ _)) ?_ | refine AL.T (h := POp.k Tryz.func106 (hc := isLadder_i a.levels g3)) ?_ | refine AL.T (h := POp.k Tryz.func107 (hc := areEd_i a.editions g4 g5)) ?_ | refine AL.T (h := POp.k Tryz.func108 (hc := isCover_i a.cover.w a.cover.h a.cover.cells g6)) ?_ | refine AL.W ?_ | refine AL.W (h := fun h => by (try rw [h]); exact POp.k Tryz.func78 (hc := inr_v _ _ _)) ?_ | refine AL.W (h := fun h => by (try rw [h]); exact POp.k Tryz.func106 (hc := isLadder_i a.levels g3)) ?_ | refine AL.W (h := fun h => by (try rw [h]); exact POp.k Tryz.func107 (hc := areEd_i a.editions g4 g5)) ?_ | refine AL.W (h := fun h => by (try rw [h]); exact POp.k Tryz.func108 (hc := isCover_i a.cover.w a.cover.h a.cover.cells g6)) ?_ | refine AL.nil ?_)
    | ((with_reducible show AW _ _ _ _ _ _); first | refine AW.seq ?_ | refine AW.region ?_ | refine AW.skip ?_ | (refine AW.loopD hE (fun i : Nat => [.any, .ref 0 0 7 0 0, .any, .any, .any, .any, .any, .any, .any, .any, .any, .any, .any, .any, .any, .any, .any, .any, .any, .any, .any, .any, .any, .any, .any, .any, .any, .any, .any, .any, .any, .any, .any, .any, .any, .any, .ro 8 (a.log.map TEntry.en), I ((a.log.map TEntry.en).length : Int), I (i : Int), .any, .any, .any, .any, .any, .any, .any, .any, .any, .any, .any, .any, .any, .any, .any, .any, .any, .any, .any, .any, .any, .any]) (fun i => [some ⟨32, 7, 0, true, [a.en]⟩]) (fun i => a.log.length - i) (fun i => i ≤ a.log.length ∧ ticks TEntry.tick a.now a.log i = true) 0 ⟨Nat.zero_le _, by simp [ticks]⟩ ?_ (by first | rfl | (simp; done)) ?_) | refine AW.cT ?_ | refine AW.cF ?_ | (refine AW.c2 ?_ ?_ <;> (intro h; try simp only [Bool.not_eq_true', Bool.not_eq_false'] at h)) | refine AW.block ?_ | refine AW.exit ?_ | refine AW.ret ?_)
    | with_reducible refine (if_pos rfl).mpr ?_
    | with_reducible refine (if_neg (by decide)).mpr ?_) <;> (try dsimp only))
  any_goals first | exact Fin.one rfl (RV.tmp (by rfl)) (clo_c _) ⟨by rw [atl_f (by assumption)], rfl⟩
  · (repeat' (first | exact Wk.nil | refine Wk.any ?_ | (with_reducible refine Wk.same ?_) | refine Wk.of ?_ ?_)) <;> first | rfl | (simp; done)
  · intro i hv_i
    by_cases hlt_i : i < a.log.length
    · skip
      obtain ⟨x, hx⟩ : ∃ x, a.log[i]? = some x := ⟨_, List.getElem?_eq_getElem hlt_i⟩
      have hg := map_get (f := TEntry.en) hx
      have ht := lt_true (f := TEntry.en) hlt_i
      have hn := next_ix hlt_i (by omega)
      have hsu := ticks_succ (tk := TEntry.tick) (now := a.now) hx
      have hno := ticks_not (tk := TEntry.tick) (now := a.now) hx
      have hcle : Clo (.agg x.en) := Clo.agg x.clo_en
      repeat' ((first
        | ((with_reducible show AL _ _ _ _ _ _ _); first | refine AL.any ?_ | refine AL.any (h := POp.k Tryz.func89 (hc := isLog_i a.log g1 g2)) ?_ | refine AL.U ?_ | refine AL.F ?_ | refine AL.T ?_ | refine AL.T (h := POp.k Tryz.func78 (hc := inr_v _ _ _)) ?_ | refine AL.T (h := POp.k Tryz.func106 (hc := isLadder_i a.levels g3)) ?_ | refine AL.T (h := POp.k Tryz.func107 (hc := areEd_i a.editions g4 g5)) ?_ | refine AL.T (h := POp.k Tryz.func108 (hc := isCover_i a.cover.w a.cover.h a.cover.cells g6)) ?_ | refine AL.W ?_ | refine AL.W (h := fun h => by (try rw [h]); exact POp.k Tryz.func78 (hc := inr_v _ _ _)) ?_ | refine AL.W (h := fun h => by (try rw [h]); exact POp.k Tryz.func106 (hc := isLadder_i a.levels g3)) ?_ | refine AL.W (h := fun h => by (try rw [h]); exact POp.k Tryz.func107 (hc := areEd_i a.editions g4 g5)) ?_ | refine AL.W (h := fun h => by (try rw [h]); exact POp.k Tryz.func108 (hc := isCover_i a.cover.w a.cover.h a.cover.cells g6)) ?_ | refine AL.nil ?_)
        | ((with_reducible show AW _ _ _ _ _ _); first | refine AW.seq ?_ | refine AW.region ?_ | refine AW.skip ?_ | refine AW.cT ?_ | refine AW.cF ?_ | (refine AW.c2 ?_ ?_ <;> (intro h; try simp only [Bool.not_eq_true', Bool.not_eq_false'] at h)) | refine AW.block ?_ | refine AW.exit ?_ | refine AW.ret ?_)
        | with_reducible refine (if_pos rfl).mpr ?_
        | with_reducible refine (if_neg (by decide)).mpr ?_) <;> (try dsimp only))
      all_goals first
        | (refine ⟨i + 1, _, ⟨hlt_i, by simp_all⟩, by omega, ?_, rfl, ?_, ?_⟩; (focus ((repeat' (first | exact Wk.nil | refine Wk.any ?_ | (with_reducible refine Wk.same ?_) | refine Wk.of ?_ ?_)) <;> (simp_all))); (focus ((repeat' (first | exact Fits.nil _ | refine Fits.cons ?_ ?_ | exact Fits.any _ | exact Fits.c _ _ | exact Fits.own (by rfl) | exact Fits.ref (by rfl) | exact Fits.clo (by assumption) | exact Fits.clo (clo_of (by rfl)) | exact Fits.clo (clo_fn _))))); (focus (exact fitsM_cons (clo_one a.clo_en) (FitsM.nil _))))
        | exact Fin.one rfl (RV.tmp (by rfl)) (clo_c _) ⟨by have hf := hno (by assumption); simp_all [isAtl], rfl⟩
    · have e_i : i = a.log.length := by omega
      have ht := lt_false (f := TEntry.en) (show ¬ i < a.log.length by omega)
      subst e_i
      repeat' ((first
        | ((with_reducible show AL _ _ _ _ _ _ _); first | refine AL.any ?_ | refine AL.any (h := POp.k Tryz.func89 (hc := isLog_i a.log g1 g2)) ?_ | refine AL.U ?_ | refine AL.F ?_ | refine AL.T ?_ | refine AL.T (h := POp.k Tryz.func78 (hc := inr_v _ _ _)) ?_ | refine AL.T (h := POp.k Tryz.func106 (hc := isLadder_i a.levels g3)) ?_ | refine AL.T (h := POp.k Tryz.func107 (hc := areEd_i a.editions g4 g5)) ?_ | refine AL.T (h := POp.k Tryz.func108 (hc := isCover_i a.cover.w a.cover.h a.cover.cells g6)) ?_ | refine AL.W ?_ | refine AL.W (h := fun h => by (try rw [h]); exact POp.k Tryz.func78 (hc := inr_v _ _ _)) ?_ | refine AL.W (h := fun h => by (try rw [h]); exact POp.k Tryz.func106 (hc := isLadder_i a.levels g3)) ?_ | refine AL.W (h := fun h => by (try rw [h]); exact POp.k Tryz.func107 (hc := areEd_i a.editions g4 g5)) ?_ | refine AL.W (h := fun h => by (try rw [h]); exact POp.k Tryz.func108 (hc := isCover_i a.cover.w a.cover.h a.cover.cells g6)) ?_ | refine AL.nil ?_)
        | ((with_reducible show AW _ _ _ _ _ _); first | refine AW.seq ?_ | refine AW.region ?_ | refine AW.skip ?_ | (refine AW.loopD hE (fun k : Nat => [.any, .ref 0 0 7 0 0, .any, .any, .any, .any, .any, .any, .any, .any, .any, .any, .any, .any, .any, .any, .any, .any, .any, .any, .any, .any, .any, .any, .any, .any, .any, .any, .any, .any, .any, .any, .any, .any, .any, .any, .any, .any, .any, .any, .any, .any, .any, .any, .any, .any, .any, .any, .any, .ro 3 (a.editions.map TEdition.en), I ((a.editions.map TEdition.en).length : Int), I (k : Int), .any, .any, .any, .any, .any, .any, .any, .any, .any]) (fun k => [some ⟨32, 7, 0, true, [a.en]⟩]) (fun k => a.editions.length - k) (fun k => k ≤ a.editions.length ∧ ticks TEdition.tick a.now a.editions k = true) 0 ⟨Nat.zero_le _, by simp [ticks]⟩ ?_ (by first | rfl | (simp; done)) ?_) | refine AW.cT ?_ | refine AW.cF ?_ | (refine AW.c2 ?_ ?_ <;> (intro h; try simp only [Bool.not_eq_true', Bool.not_eq_false'] at h)) | refine AW.block ?_ | refine AW.exit ?_ | refine AW.ret ?_)
        | with_reducible refine (if_pos rfl).mpr ?_
        | with_reducible refine (if_neg (by decide)).mpr ?_) <;> (try dsimp only))
      · (repeat' (first | exact Wk.nil | refine Wk.any ?_ | (with_reducible refine Wk.same ?_) | refine Wk.of ?_ ?_)) <;> first | rfl | (simp; done)
      · intro k hv_k
        by_cases hlt_k : k < a.editions.length
        · skip
          obtain ⟨x, hx⟩ : ∃ x, a.editions[k]? = some x := ⟨_, List.getElem?_eq_getElem hlt_k⟩
          have hg := map_get (f := TEdition.en) hx
          have ht := lt_true (f := TEdition.en) hlt_k
          have hn := next_ix hlt_k (by omega)
          have hsu := ticks_succ (tk := TEdition.tick) (now := a.now) hx
          have hno := ticks_not (tk := TEdition.tick) (now := a.now) hx
          have hcle : Clo (.agg x.en) := Clo.agg x.clo_en
          repeat' ((first
            | ((with_reducible show AL _ _ _ _ _ _ _); first | refine AL.any ?_ | refine AL.any (h := POp.k Tryz.func89 (hc := isLog_i a.log g1 g2)) ?_ | refine AL.U ?_ | refine AL.F ?_ | refine AL.T ?_ | refine AL.T (h := POp.k Tryz.func78 (hc := inr_v _ _ _)) ?_ | refine AL.T (h := POp.k Tryz.func106 (hc := isLadder_i a.levels g3)) ?_ | refine AL.T (h := POp.k Tryz.func107 (hc := areEd_i a.editions g4 g5)) ?_ | refine AL.T (h := POp.k Tryz.func108 (hc := isCover_i a.cover.w a.cover.h a.cover.cells g6)) ?_ | refine AL.W ?_ | refine AL.W (h := fun h => by (try rw [h]); exact POp.k Tryz.func78 (hc := inr_v _ _ _)) ?_ | refine AL.W (h := fun h => by (try rw [h]); exact POp.k Tryz.func106 (hc := isLadder_i a.levels g3)) ?_ | refine AL.W (h := fun h => by (try rw [h]); exact POp.k Tryz.func107 (hc := areEd_i a.editions g4 g5)) ?_ | refine AL.W (h := fun h => by (try rw [h]); exact POp.k Tryz.func108 (hc := isCover_i a.cover.w a.cover.h a.cover.cells g6)) ?_ | refine AL.nil ?_)
            | ((with_reducible show AW _ _ _ _ _ _); first | refine AW.seq ?_ | refine AW.region ?_ | refine AW.skip ?_ | refine AW.cT ?_ | refine AW.cF ?_ | (refine AW.c2 ?_ ?_ <;> (intro h; try simp only [Bool.not_eq_true', Bool.not_eq_false'] at h)) | refine AW.block ?_ | refine AW.exit ?_ | refine AW.ret ?_)
            | with_reducible refine (if_pos rfl).mpr ?_
            | with_reducible refine (if_neg (by decide)).mpr ?_) <;> (try dsimp only))
          all_goals first
            | (refine ⟨k + 1, _, ⟨hlt_k, by simp_all⟩, by omega, ?_, rfl, ?_, ?_⟩; (focus ((repeat' (first | exact Wk.nil | refine Wk.any ?_ | (with_reducible refine Wk.same ?_) | refine Wk.of ?_ ?_)) <;> (simp_all))); (focus ((repeat' (first | exact Fits.nil _ | refine Fits.cons ?_ ?_ | exact Fits.any _ | exact Fits.c _ _ | exact Fits.own (by rfl) | exact Fits.ref (by rfl) | exact Fits.clo (by assumption) | exact Fits.clo (clo_of (by rfl)) | exact Fits.clo (clo_fn _))))); (focus (exact fitsM_cons (clo_one a.clo_en) (FitsM.nil _))))
            | exact Fin.one rfl (RV.tmp (by rfl)) (clo_c _) ⟨by have hf := hno (by assumption); simp_all [isAtl], rfl⟩
        · have e_k : k = a.editions.length := by omega
          have ht := lt_false (f := TEdition.en) (show ¬ k < a.editions.length by omega)
          subst e_k
          repeat' ((first
            | ((with_reducible show AL _ _ _ _ _ _ _); first | refine AL.any ?_ | refine AL.any (h := POp.k Tryz.func89 (hc := isLog_i a.log g1 g2)) ?_ | refine AL.U ?_ | refine AL.F ?_ | refine AL.T ?_ | refine AL.T (h := POp.k Tryz.func78 (hc := inr_v _ _ _)) ?_ | refine AL.T (h := POp.k Tryz.func106 (hc := isLadder_i a.levels g3)) ?_ | refine AL.T (h := POp.k Tryz.func107 (hc := areEd_i a.editions g4 g5)) ?_ | refine AL.T (h := POp.k Tryz.func108 (hc := isCover_i a.cover.w a.cover.h a.cover.cells g6)) ?_ | refine AL.W ?_ | refine AL.W (h := fun h => by (try rw [h]); exact POp.k Tryz.func78 (hc := inr_v _ _ _)) ?_ | refine AL.W (h := fun h => by (try rw [h]); exact POp.k Tryz.func106 (hc := isLadder_i a.levels g3)) ?_ | refine AL.W (h := fun h => by (try rw [h]); exact POp.k Tryz.func107 (hc := areEd_i a.editions g4 g5)) ?_ | refine AL.W (h := fun h => by (try rw [h]); exact POp.k Tryz.func108 (hc := isCover_i a.cover.w a.cover.h a.cover.cells g6)) ?_ | refine AL.nil ?_)
            | ((with_reducible show AW _ _ _ _ _ _); first | refine AW.seq ?_ | refine AW.region ?_ | refine AW.skip ?_ | refine AW.cT ?_ | refine AW.cF ?_ | (refine AW.c2 ?_ ?_ <;> (intro h; try simp only [Bool.not_eq_true', Bool.not_eq_false'] at h)) | refine AW.block ?_ | refine AW.exit ?_ | refine AW.ret ?_)
            | with_reducible refine (if_pos rfl).mpr ?_
            | with_reducible refine (if_neg (by decide)).mpr ?_) <;> (try dsimp only))
          all_goals first
            | exact Fin.one rfl (RV.tmp (by rfl)) (clo_c _) ⟨by simp_all [isAtl, atlIn], rfl⟩

end Go.Proofs.YtacbpfbelcdeiaaGreat.Abs

/- The walks of the end of every step. -/
namespace Go.Proofs.YtacbpfbelcdeiaaGreat.Abs
open Go.Proofs Go.RowKit
set_option linter.unusedVariables false
set_option linter.unusedSimpArgs false
attribute [local irreducible] OpA AL AW DL DLM DLR DLS QOp POp VCalls VCallsI
theorem TAtlas.gd.gs {a : TAtlas} (h : a.gd) : a.gs := ⟨⟨h.1.1, fun e he => (h.1.2 e he).1⟩, h.2.1, ⟨h.2.2.1.1, fun e he => ⟨(h.2.2.1.2 e he).1, fun x hx => ((h.2.2.1.2 e he).2 x hx).1⟩⟩⟩
def stp (a o : TAtlas) (ok : Bool) : TAtlas := if (ok && isAtl a && isAtl o) = true then o else a
def stpB (a o : TAtlas) (ok : Bool) : Bool := ok && isAtl a && isAtl o
theorem stp_f {a o : TAtlas} {ok : Bool} (h : stpB a o ok = false) : stp a o ok = a := by unfold stp; unfold stpB at h; rw [h]; rfl
theorem stp_t {a o : TAtlas} {ok : Bool} (h : stpB a o ok = true) : stp a o ok = o := by unfold stp; unfold stpB at h; rw [if_pos h]
set_option maxRecDepth 100000 in
set_option maxHeartbeats 2000000 in
theorem stepped_i (a o : TAtlas) (ok : Bool) (hgd : a.gd) (hgo : o.gd) : HCalls Tryz.prog 76 [.agg a.en, .agg o.eo, B ok] o.rw (fun r M => r = .tup [.agg (stp a o ok).eo, B (stpB a o ok)] ∧ M = (stp a o ok).rw) := by
  have hgs := hgd.gs
  have hclA : Clo (.agg a.en) := Clo.agg a.clo_en
  have hclL : Clo (.ro 8 (a.log.map TEntry.en)) := clo_list TEntry.clo_en
  have hclV : Clo (.ro 3 (a.levels.map TLevel.en)) := clo_list TLevel.clo_en
  have hclE : Clo (.ro 3 (a.editions.map TEdition.en)) := clo_list TEdition.clo_en
  refine HCalls.body Tryz.func76 rfl 20 rfl (fun E hE => ?_)
  dsimp only [TAtlas.en, TAtlas.eo, TAtlas.rw]
  simp only [List.reduceReplicate, List.cons_append, List.nil_append]
  repeat' ((first
    | ((with_reducible show AL _ _ _ _ _ _ _); first | refine AL.any ?_ | refine AL.any (h := POp.O Tryz.func75 (hc := cpA_i a (by assumption))) ?_ | refine AL.U ?_ | refine AL.F ?_ | refine AL.T ?_ | refine AL.T (h := POp.k Tryz.func64 (hc := isAtl_i a (by assumption))) ?_ | refine AL.T (h := POp.D Tryz.func64 (hc := isAtl_i o (by assumption))) ?_ | refine AL.W ?_ | refine AL.W (h := fun h => by (try rw [h]); exact POp.k Tryz.func64 (hc := isAtl_i a (by assumption))) ?_ | refine AL.W (h := fun h => by (try rw [h]); exact POp.D Tryz.func64 (hc := isAtl_i o (by assumption))) ?_ | refine AL.nil ?_)
    | ((with_reducible show AW _ _ _ _ _ _); first | refine AW.seq ?_ | refine AW.region ?_ | refine AW.skip ?_ | refine AW.cT ?_ | refine AW.cF ?_ | (refine AW.c2 ?_ ?_ <;> (intro h; try simp only [Bool.not_eq_true', Bool.not_eq_false'] at h)) | refine AW.block ?_ | refine AW.exit ?_ | refine AW.ret ?_)
    | with_reducible refine (if_pos rfl).mpr ?_
    | with_reducible refine (if_neg (by decide)).mpr ?_) <;> (try dsimp only))
  all_goals first
    | (have hst : stpB a o ok = true := by (unfold stpB; cases ok <;> cases h1 : isAtl a <;> cases h2 : isAtl o <;> simp_all)); rw [stp_t hst, hst]; exact Fin.rows2 [0, 1, 2] rfl (RV.cell (QOp.quietA TT_ok (by rfl))) (RV.tmp (by rfl)) (by decide) (by repeat' (first | exact trivial | refine ⟨⟨_, rfl, ?_⟩, ?_⟩ | exact DCl.b rfl | exact DCl.map (fun _ => rfl))) (by repeat' (first | exact all_nil | refine all_cons ?_ ?_ | exact ⟨⟨_, rfl, rfl⟩, rfl⟩ | (show Clo _; exact clo_of (by rfl)))) ⟨rfl, rfl⟩
    | (have hst : stpB a o ok = false := by (unfold stpB; cases ok <;> cases h1 : isAtl a <;> cases h2 : isAtl o <;> simp_all)); rw [stp_f hst, hst]; exact Fin.rows2 [6, 7, 8] rfl (RV.cell (QOp.quietA TT_ok (by rfl))) (RV.tmp (by rfl)) (by decide) (by repeat' (first | exact trivial | refine ⟨⟨_, rfl, ?_⟩, ?_⟩ | exact DCl.b rfl | exact DCl.map (fun _ => rfl))) (by repeat' (first | exact all_nil | refine all_cons ?_ ?_ | exact ⟨⟨_, rfl, rfl⟩, rfl⟩ | (show Clo _; exact clo_of (by rfl)))) ⟨rfl, rfl⟩

set_option maxRecDepth 100000 in
set_option maxHeartbeats 2000000 in
theorem stepped_s (a o : TAtlas) (ok : Bool) (hgd : a.gd) (hgo : o.gd) : HCalls Tryz.prog 73 [.agg a.en, .agg o.eo, B ok] o.rw (fun r M => r = .tup [.agg (stp a o ok).eo, B (stpB a o ok)] ∧ M = (stp a o ok).rw) := by
  have hgs := hgd.gs
  have hclA : Clo (.agg a.en) := Clo.agg a.clo_en
  have hclL : Clo (.ro 8 (a.log.map TEntry.en)) := clo_list TEntry.clo_en
  have hclV : Clo (.ro 3 (a.levels.map TLevel.en)) := clo_list TLevel.clo_en
  have hclE : Clo (.ro 3 (a.editions.map TEdition.en)) := clo_list TEdition.clo_en
  refine HCalls.body Tryz.func73 rfl 20 rfl (fun E hE => ?_)
  dsimp only [TAtlas.en, TAtlas.eo, TAtlas.rw]
  simp only [List.reduceReplicate, List.cons_append, List.nil_append]
  repeat' ((first
    | ((with_reducible show AL _ _ _ _ _ _ _); first | refine AL.any ?_ | refine AL.any (h := POp.O Tryz.func60 (hc := cpA_s a (by assumption))) ?_ | refine AL.U ?_ | refine AL.F ?_ | refine AL.T ?_ | refine AL.T (h := POp.k Tryz.func61 (hc := isAtl_s a (by assumption))) ?_ | refine AL.T (h := POp.D Tryz.func61 (hc := isAtl_s o (by assumption))) ?_ | refine AL.W ?_ | refine AL.W (h := fun h => by (try rw [h]); exact POp.k Tryz.func61 (hc := isAtl_s a (by assumption))) ?_ | refine AL.W (h := fun h => by (try rw [h]); exact POp.D Tryz.func61 (hc := isAtl_s o (by assumption))) ?_ | refine AL.nil ?_)
    | ((with_reducible show AW _ _ _ _ _ _); first | refine AW.seq ?_ | refine AW.region ?_ | refine AW.skip ?_ | refine AW.cT ?_ | refine AW.cF ?_ | (refine AW.c2 ?_ ?_ <;> (intro h; try simp only [Bool.not_eq_true', Bool.not_eq_false'] at h)) | refine AW.block ?_ | refine AW.exit ?_ | refine AW.ret ?_)
    | with_reducible refine (if_pos rfl).mpr ?_
    | with_reducible refine (if_neg (by decide)).mpr ?_) <;> (try dsimp only))
  all_goals first
    | (have hst : stpB a o ok = true := by (unfold stpB; cases ok <;> cases h1 : isAtl a <;> cases h2 : isAtl o <;> simp_all)); rw [stp_t hst, hst]; exact Fin.rows2 [0, 1, 2] rfl (RV.cell (QOp.quietA TT_ok (by rfl))) (RV.tmp (by rfl)) (by decide) (by repeat' (first | exact trivial | refine ⟨⟨_, rfl, ?_⟩, ?_⟩ | exact DCl.b rfl | exact DCl.map (fun _ => rfl))) (by repeat' (first | exact all_nil | refine all_cons ?_ ?_ | exact ⟨⟨_, rfl, rfl⟩, rfl⟩ | (show Clo _; exact clo_of (by rfl)))) ⟨rfl, rfl⟩
    | (have hst : stpB a o ok = false := by (unfold stpB; cases ok <;> cases h1 : isAtl a <;> cases h2 : isAtl o <;> simp_all)); rw [stp_f hst, hst]; exact Fin.rows2 [6, 7, 8] rfl (RV.cell (QOp.quietA TT_ok (by rfl))) (RV.tmp (by rfl)) (by decide) (by repeat' (first | exact trivial | refine ⟨⟨_, rfl, ?_⟩, ?_⟩ | exact DCl.b rfl | exact DCl.map (fun _ => rfl))) (by repeat' (first | exact all_nil | refine all_cons ?_ ?_ | exact ⟨⟨_, rfl, rfl⟩, rfl⟩ | (show Clo _; exact clo_of (by rfl)))) ⟨rfl, rfl⟩

end Go.Proofs.YtacbpfbelcdeiaaGreat.Abs

/- The ends of steps, spelled out. -/
namespace Go.Proofs.YtacbpfbelcdeiaaGreat.Abs
open Go.Proofs Go.RowKit
set_option linter.unusedVariables false
set_option linter.unusedSimpArgs false
attribute [local irreducible] OpA AL AW DL DLM DLR DLS QOp POp VCalls VCallsI
theorem stepped_iX (a o : TAtlas) (ok : Bool) (hgd : a.gd) (hgo : o.gd) : HCalls Tryz.prog 76 [.agg [.ro 8 (a.log.map TEntry.en), .ro 3 (a.levels.map TLevel.en), .ro 3 (a.editions.map TEdition.en), I a.cover.w, I a.cover.h, S a.cover.cells, I a.now], .agg [.own 0 0, .own 1 0, .own 2 0, I o.cover.w, I o.cover.h, S o.cover.cells, I o.now], B ok] [some ⟨121, 8, 0, false, o.log.map TEntry.ed⟩, some ⟨97, 3, 0, false, o.levels.map TLevel.en⟩, some ⟨136, 3, 0, false, o.editions.map TEdition.ed⟩] (fun r M => r = .tup [.agg [.own 0 0, .own 1 0, .own 2 0, I (stp a o ok).cover.w, I (stp a o ok).cover.h, S (stp a o ok).cover.cells, I (stp a o ok).now], B (stpB a o ok)] ∧ M = [some ⟨121, 8, 0, false, (stp a o ok).log.map TEntry.ed⟩, some ⟨97, 3, 0, false, (stp a o ok).levels.map TLevel.en⟩, some ⟨136, 3, 0, false, (stp a o ok).editions.map TEdition.ed⟩]) := stepped_i a o ok hgd hgo
theorem cpA_iX (a : TAtlas) (hgs : a.gs) : VCalls Tryz.prog 75 [.agg [.ro 8 (a.log.map TEntry.en), .ro 3 (a.levels.map TLevel.en), .ro 3 (a.editions.map TEdition.en), I a.cover.w, I a.cover.h, S a.cover.cells, I a.now]] (fun r M => r = .agg [.own 0 0, .own 1 0, .own 2 0, I a.cover.w, I a.cover.h, S a.cover.cells, I a.now] ∧ M = [some ⟨121, 8, 0, false, a.log.map TEntry.ed⟩, some ⟨97, 3, 0, false, a.levels.map TLevel.en⟩, some ⟨136, 3, 0, false, a.editions.map TEdition.ed⟩]) := cpA_i a hgs
theorem stepped_sX (a o : TAtlas) (ok : Bool) (hgd : a.gd) (hgo : o.gd) : HCalls Tryz.prog 73 [.agg [.ro 8 (a.log.map TEntry.en), .ro 3 (a.levels.map TLevel.en), .ro 3 (a.editions.map TEdition.en), I a.cover.w, I a.cover.h, S a.cover.cells, I a.now], .agg [.own 0 0, .own 1 0, .own 2 0, I o.cover.w, I o.cover.h, S o.cover.cells, I o.now], B ok] [some ⟨121, 8, 0, false, o.log.map TEntry.ed⟩, some ⟨97, 3, 0, false, o.levels.map TLevel.en⟩, some ⟨136, 3, 0, false, o.editions.map TEdition.ed⟩] (fun r M => r = .tup [.agg [.own 0 0, .own 1 0, .own 2 0, I (stp a o ok).cover.w, I (stp a o ok).cover.h, S (stp a o ok).cover.cells, I (stp a o ok).now], B (stpB a o ok)] ∧ M = [some ⟨121, 8, 0, false, (stp a o ok).log.map TEntry.ed⟩, some ⟨97, 3, 0, false, (stp a o ok).levels.map TLevel.en⟩, some ⟨136, 3, 0, false, (stp a o ok).editions.map TEdition.ed⟩]) := stepped_s a o ok hgd hgo
theorem cpA_sX (a : TAtlas) (hgs : a.gs) : VCalls Tryz.prog 60 [.agg [.ro 8 (a.log.map TEntry.en), .ro 3 (a.levels.map TLevel.en), .ro 3 (a.editions.map TEdition.en), I a.cover.w, I a.cover.h, S a.cover.cells, I a.now]] (fun r M => r = .agg [.own 0 0, .own 1 0, .own 2 0, I a.cover.w, I a.cover.h, S a.cover.cells, I a.now] ∧ M = [some ⟨121, 8, 0, false, a.log.map TEntry.ed⟩, some ⟨97, 3, 0, false, a.levels.map TLevel.en⟩, some ⟨136, 3, 0, false, a.editions.map TEdition.ed⟩]) := cpA_s a hgs
theorem View.tup' {M : Mem} {cs cs' : List AV} (h : VwL M cs cs') : View M (.tup cs) (.tup cs') := fun base w0 w Fx β Fc u hh hF hown hr => by
  have hl := h.get.1
  cases hr with
  | tup hl2 h3 => exact .tup (by rw [hl2, hl]) (fun i x' u hx hu => by
      have hlt : i < cs.length := by rw [← hl]; exact (List.getElem?_eq_some_iff.1 hx).1
      exact h.get.2 i _ x' (List.getElem?_eq_getElem hlt) hx _ _ _ _ _ _ _ hh hF hown (h3 i _ u (List.getElem?_eq_getElem hlt) hu))

end Go.Proofs.YtacbpfbelcdeiaaGreat.Abs

/- The walks of StepLevels. -/
namespace Go.Proofs.YtacbpfbelcdeiaaGreat.Abs
open Go.Proofs Go.RowKit
set_option linter.unusedVariables false
set_option linter.unusedSimpArgs false
attribute [local irreducible] OpA AL AW DL DLM DLR DLS QOp POp VCalls VCallsI
def levO (a : TAtlas) (v : List TLevel) : TAtlas := { a with levels := v }
theorem levO_gd {a : TAtlas} {v : List TLevel} (h : a.gd) (hv : v.length ≤ 1048576) : (levO a v).gd := ⟨h.1, hv, h.2.2⟩
set_option maxRecDepth 100000 in
set_option maxHeartbeats 2000000 in
theorem lev_i (a : TAtlas) (hgd : a.gd) (v : List TLevel) (hv : v.length ≤ 1048576) : VCalls Tryz.prog 27 [.agg a.en, .ro 3 (v.map TLevel.en)] (fun r M => r = .tup [.agg (stp a (levO a v) true).eo, B (stpB a (levO a v) true)] ∧ M = (stp a (levO a v) true).rw) := by
  refine VCalls.body Tryz.func27 rfl 15 rfl (fun E => ?_)
  simp only [List.reduceReplicate, List.cons_append, List.nil_append]
  have hgs := hgd.gs
  have hclA : Clo (.agg a.en) := Clo.agg a.clo_en
  have hclL : Clo (.ro 8 (a.log.map TEntry.en)) := clo_list TEntry.clo_en
  have hclV : Clo (.ro 3 (a.levels.map TLevel.en)) := clo_list TLevel.clo_en
  have hclE : Clo (.ro 3 (a.editions.map TEdition.en)) := clo_list TEdition.clo_en
  have hclW : Clo (.ro 3 (v.map TLevel.en)) := clo_list TLevel.clo_en
  dsimp only [TAtlas.en]
  repeat' ((first
    | ((with_reducible show AL _ _ _ _ _ _ _); first | refine AL.any ?_ | refine AL.any (h := POp.O Tryz.func63 (hc := cloneLevel _ (by assumption))) ?_ | refine AL.any (h := POp.O Tryz.func75 (hc := cpA_iX a (by assumption))) ?_ | refine AL.any (h := POp.G [2, 6, 4] Tryz.func76 (hc := stepped_iX a (levO a v) true hgd (levO_gd hgd hv))) ?_ | refine AL.nil ?_)
    | ((with_reducible show AW _ _ _ _ _ _); first | refine AW.seq ?_ | refine AW.region ?_ | refine AW.skip ?_ | refine AW.block ?_ | refine AW.exit ?_ | refine AW.ret ?_)
    | with_reducible refine (if_pos rfl).mpr ?_
    | with_reducible refine (if_neg (by decide)).mpr ?_) <;> (try dsimp only))
  all_goals first
    | (exact Fin.rows2 [7, 8, 9] rfl (RV.cell (QOp.quietA TT_ok (by rfl))) (RV.tmp (by rfl)) (by decide) (by repeat' (first | exact trivial | refine ⟨⟨_, rfl, ?_⟩, ?_⟩ | exact DCl.b rfl | exact DCl.map (fun _ => rfl))) (by repeat' (first | exact all_nil | refine all_cons ?_ ?_ | exact ⟨⟨_, rfl, rfl⟩, rfl⟩ | (show Clo _; exact clo_of (by rfl)))) ⟨rfl, rfl⟩)

set_option maxRecDepth 100000 in
set_option maxHeartbeats 2000000 in
theorem lev_s (a : TAtlas) (hgd : a.gd) (v : List TLevel) (hv : v.length ≤ 1048576) : VCalls Tryz.prog 25 [.agg a.en, .ro 3 (v.map TLevel.en)] (fun r M => r = .tup [.agg (stp a (levO a v) true).eo, B (stpB a (levO a v) true)] ∧ M = (stp a (levO a v) true).rw) := by
  refine VCalls.body Tryz.func25 rfl 16 rfl (fun E => ?_)
  simp only [List.reduceReplicate, List.cons_append, List.nil_append]
  have hgs := hgd.gs
  have hclA : Clo (.agg a.en) := Clo.agg a.clo_en
  have hclL : Clo (.ro 8 (a.log.map TEntry.en)) := clo_list TEntry.clo_en
  have hclV : Clo (.ro 3 (a.levels.map TLevel.en)) := clo_list TLevel.clo_en
  have hclE : Clo (.ro 3 (a.editions.map TEdition.en)) := clo_list TEdition.clo_en
  have hclW : Clo (.ro 3 (v.map TLevel.en)) := clo_list TLevel.clo_en
  dsimp only [TAtlas.en]
  repeat' ((first
    | ((with_reducible show AL _ _ _ _ _ _ _); first | refine AL.any ?_ | refine AL.any (h := POp.O Tryz.func60 (hc := cpA_sX a (by assumption))) ?_ | refine AL.any (h := POp.G [2, 6, 4] Tryz.func73 (hc := stepped_sX a (levO a v) true hgd (levO_gd hgd hv))) ?_ | refine AL.nil ?_)
    | ((with_reducible show AW _ _ _ _ _ _); first | refine AW.seq ?_ | refine AW.region ?_ | refine AW.skip ?_ | refine AW.block ?_ | refine AW.exit ?_ | refine AW.ret ?_)
    | with_reducible refine (if_pos rfl).mpr ?_
    | with_reducible refine (if_neg (by decide)).mpr ?_) <;> (try dsimp only))
  all_goals first
    | (exact Fin.rows2 [7, 8, 9] rfl (RV.cell (QOp.quietA TT_ok (by rfl))) (RV.tmp (by rfl)) (by decide) (by repeat' (first | exact trivial | refine ⟨⟨_, rfl, ?_⟩, ?_⟩ | exact DCl.b rfl | exact DCl.map (fun _ => rfl))) (by repeat' (first | exact all_nil | refine all_cons ?_ ?_ | exact ⟨⟨_, rfl, rfl⟩, rfl⟩ | (show Clo _; exact clo_of (by rfl)))) ⟨rfl, rfl⟩)

theorem lev_i' (a : TAtlas) (hgd : a.gd) (v : List TLevel) (hv : v.length ≤ 1048576) : VCalls Tryz.prog 27 [.agg a.en, .ro 3 (v.map TLevel.en)] (fun r M => r = .tup [.agg (stp a (levO a v) true).en, B (stpB a (levO a v) true)] ∧ M = []) := VCalls.frz (lev_i a hgd v hv) (by refine VwL.cons (View.tup' ?_) VwL.nil; repeat' (first | exact VwL.nil | refine VwL.cons ?_ ?_ | (refine View.own (by rfl) (by rfl) (by rfl) (by rfl) ?_ ?_ <;> first | exact DCl.b rfl | exact DCl.map (fun _ => rfl) | assumption | rfl | exact TPoint.und | exact TSegment.und | exact TBox.und | exact TFeature.und | exact TMeet.und | exact TPlace.und | exact TCover.und | exact TLabel.und | exact TPiece.und | exact TLevel.und | exact TChart.und | exact TReason.und | exact TEdit.und | exact TEntry.und | exact TEdition.und | exact TListing.und | exact TAtlas.und | exact TEvent.und | exact TWindow.und | exact und_nil | exact und_I | assumption) | refine View.agg' ?_ | exact View.same (by first | exact clo_of (by rfl) | assumption | exact clo_fn _) | exact View.nil))
theorem lev_s' (a : TAtlas) (hgd : a.gd) (v : List TLevel) (hv : v.length ≤ 1048576) : VCalls Tryz.prog 25 [.agg a.en, .ro 3 (v.map TLevel.en)] (fun r M => r = .tup [.agg (stp a (levO a v) true).en, B (stpB a (levO a v) true)] ∧ M = []) := VCalls.frz (lev_s a hgd v hv) (by refine VwL.cons (View.tup' ?_) VwL.nil; repeat' (first | exact VwL.nil | refine VwL.cons ?_ ?_ | (refine View.own (by rfl) (by rfl) (by rfl) (by rfl) ?_ ?_ <;> first | exact DCl.b rfl | exact DCl.map (fun _ => rfl) | assumption | rfl | exact TPoint.und | exact TSegment.und | exact TBox.und | exact TFeature.und | exact TMeet.und | exact TPlace.und | exact TCover.und | exact TLabel.und | exact TPiece.und | exact TLevel.und | exact TChart.und | exact TReason.und | exact TEdit.und | exact TEntry.und | exact TEdition.und | exact TListing.und | exact TAtlas.und | exact TEvent.und | exact TWindow.und | exact und_nil | exact und_I | assumption) | refine View.agg' ?_ | exact View.same (by first | exact clo_of (by rfl) | assumption | exact clo_fn _) | exact View.nil))
theorem levO_sm {a : TAtlas} {v : List TLevel} (h : a.sm) (hv : v.length ≤ 1048576) : (levO a v).sm := ⟨h.1, hv, h.2.2⟩
end Go.Proofs.YtacbpfbelcdeiaaGreat.Abs

/- The walks of the marks of structs and of their tests. -/
namespace Go.Proofs.YtacbpfbelcdeiaaGreat.Abs
open Go.Proofs Go.RowKit
set_option linter.unusedVariables false
set_option linter.unusedSimpArgs false
attribute [local irreducible] OpA AL AW DL DLM DLR DLS QOp POp VCalls VCallsI
def TFeature.cs (x : TFeature) : Nat := ctL TPoint.ct x.points
def TFeature.ms (k : Int) (x : TFeature) : TFeature := ⟨x.id, x.kind, x.rank, x.name, mkL TPoint.mrk TPoint.ct (k) x.points⟩
set_option maxRecDepth 100000 in
set_option maxHeartbeats 2000000 in
theorem markFeature (x : TFeature) (k : Int) (h0 : 0 ≤ k) (hb : k + ((x.cs : Nat) : Int) ≤ 4611686018427387904) : ACalls Tryz.prog 45 [.agg x.eo, I k] x.rw (fun r M => r = I (k + ((x.cs : Nat) : Int)) ∧ ∃ Mx, M = [(⟨152, 2, 0, false, (x.ms k).points.map TPoint.en⟩ : Blk)].map some ++ Mx) := by
  have hcs : x.cs = ctL TPoint.ct x.points := rfl
  have hend : k + ((ctL TPoint.ct x.points : Nat) : Int) = k + ((x.cs : Nat) : Int) := by omega
  refine ACalls.body Tryz.func45 rfl 8 rfl (fun E hE => ?_)
  dsimp only [TFeature.eo, TFeature.rw]
  simp only [List.reduceReplicate, List.cons_append, List.nil_append]
  repeat' ((first
    | ((with_reducible show AL _ _ _ _ _ _ _); first | refine AL.any ?_ | refine AL.any (h := POp.H [0] Tryz.func92 (hc := markPointS 152 x.points (k) (by omega) (by omega))) ?_ | refine AL.nil ?_)
    | ((with_reducible show AW _ _ _ _ _ _); first | refine AW.seq ?_ | refine AW.region ?_ | refine AW.skip ?_ | refine AW.block ?_ | refine AW.exit ?_ | refine AW.ret ?_)
    | with_reducible refine (if_pos rfl).mpr ?_
    | with_reducible refine (if_neg (by decide)).mpr ?_) <;> (try dsimp only))
  all_goals exact FinA.one rfl (RV.tmp (by rfl)) ⟨by rw [← hend], [_], rfl⟩

def TAtlas.cs (x : TAtlas) : Nat := ctL TEntry.ct x.log + ctL TLevel.ct x.levels + ctL TEdition.ct x.editions
def TAtlas.ms (k : Int) (x : TAtlas) : TAtlas := ⟨mkL TEntry.mrk TEntry.ct (k) x.log, mkL TLevel.mrk TLevel.ct (k + ((ctL TEntry.ct x.log : Nat) : Int)) x.levels, mkL TEdition.mrk TEdition.ct (k + ((ctL TEntry.ct x.log : Nat) : Int) + ((ctL TLevel.ct x.levels : Nat) : Int)) x.editions, x.cover, x.now⟩
set_option maxRecDepth 100000 in
set_option maxHeartbeats 2000000 in
theorem markAtlas (x : TAtlas) (k : Int) (h0 : 0 ≤ k) (hb : k + ((x.cs : Nat) : Int) ≤ 4611686018427387904) : ACalls Tryz.prog 22 [.agg x.eo, I k] x.rw (fun r M => r = I (k + ((x.cs : Nat) : Int)) ∧ ∃ Mx, M = [(⟨121, 8, 0, false, (x.ms k).log.map TEntry.ed⟩ : Blk), (⟨97, 3, 0, false, (x.ms k).levels.map TLevel.en⟩ : Blk), (⟨136, 3, 0, false, (x.ms k).editions.map TEdition.ed⟩ : Blk)].map some ++ Mx) := by
  have hcs : x.cs = ctL TEntry.ct x.log + ctL TLevel.ct x.levels + ctL TEdition.ct x.editions := rfl
  have hend : k + ((ctL TEntry.ct x.log : Nat) : Int) + ((ctL TLevel.ct x.levels : Nat) : Int) + ((ctL TEdition.ct x.editions : Nat) : Int) = k + ((x.cs : Nat) : Int) := by omega
  refine ACalls.body Tryz.func22 rfl 16 rfl (fun E hE => ?_)
  dsimp only [TAtlas.eo, TAtlas.rw]
  simp only [List.reduceReplicate, List.cons_append, List.nil_append]
  repeat' ((first
    | ((with_reducible show AL _ _ _ _ _ _ _); first | refine AL.any ?_ | refine AL.any (h := POp.H [1] Tryz.func21 (hc := markLevelS 97 x.levels (k + ((ctL TEntry.ct x.log : Nat) : Int)) (by omega) (by omega))) ?_ | refine AL.any (h := POp.H [0] Tryz.func39 (hc := markEntryS 121 x.log (k) (by omega) (by omega))) ?_ | refine AL.any (h := POp.H [2] Tryz.func68 (hc := markEditionS 136 x.editions (k + ((ctL TEntry.ct x.log : Nat) : Int) + ((ctL TLevel.ct x.levels : Nat) : Int)) (by omega) (by omega))) ?_ | refine AL.nil ?_)
    | ((with_reducible show AW _ _ _ _ _ _); first | refine AW.seq ?_ | refine AW.region ?_ | refine AW.skip ?_ | refine AW.block ?_ | refine AW.exit ?_ | refine AW.ret ?_)
    | with_reducible refine (if_pos rfl).mpr ?_
    | with_reducible refine (if_neg (by decide)).mpr ?_) <;> (try dsimp only))
  all_goals exact FinA.one rfl (RV.tmp (by rfl)) ⟨by rw [← hend], [_], rfl⟩

set_option maxRecDepth 100000 in
set_option maxHeartbeats 2000000 in
theorem heldAtlas (x : TAtlas) (k : Int) (h0 : 0 ≤ k) (hb : k + ((x.cs : Nat) : Int) ≤ 4611686018427387904) : VCalls Tryz.prog 23 [.agg (x.ms k).en, I k] (fun r M => r = I (k + ((x.cs : Nat) : Int)) ∧ M = []) := by
  have hcs : x.cs = ctL TEntry.ct x.log + ctL TLevel.ct x.levels + ctL TEdition.ct x.editions := rfl
  have hend : k + ((ctL TEntry.ct x.log : Nat) : Int) + ((ctL TLevel.ct x.levels : Nat) : Int) + ((ctL TEdition.ct x.editions : Nat) : Int) = k + ((x.cs : Nat) : Int) := by omega
  have hnn0 : decide (k + ((ctL TEntry.ct x.log : Nat) : Int) < 0) = false := by simp; omega
  have hcr0 : Clo (.ro 8 ((mkL TEntry.mrk TEntry.ct (k) x.log).map TEntry.en)) := clo_list TEntry.clo_en
  have hnn1 : decide (k + ((ctL TEntry.ct x.log : Nat) : Int) + ((ctL TLevel.ct x.levels : Nat) : Int) < 0) = false := by simp; omega
  have hcr1 : Clo (.ro 3 ((mkL TLevel.mrk TLevel.ct (k + ((ctL TEntry.ct x.log : Nat) : Int)) x.levels).map TLevel.en)) := clo_list TLevel.clo_en
  have hnn2 : decide (k + ((ctL TEntry.ct x.log : Nat) : Int) + ((ctL TLevel.ct x.levels : Nat) : Int) + ((ctL TEdition.ct x.editions : Nat) : Int) < 0) = false := by simp; omega
  have hcr2 : Clo (.ro 3 ((mkL TEdition.mrk TEdition.ct (k + ((ctL TEntry.ct x.log : Nat) : Int) + ((ctL TLevel.ct x.levels : Nat) : Int)) x.editions).map TEdition.en)) := clo_list TEdition.clo_en
  refine VCalls.body Tryz.func23 rfl 22 rfl (fun E => ?_)
  dsimp only [TAtlas.en, TAtlas.ms]
  simp only [List.reduceReplicate, List.cons_append, List.nil_append]
  repeat' ((first
    | ((with_reducible show AL _ _ _ _ _ _ _); first | refine AL.any ?_ | refine AL.any (h := POp.k Tryz.func69 (hc := heldEntryS x.log (k) (by omega) (by omega))) ?_ | refine AL.any (h := POp.k Tryz.func70 (hc := heldLevelS x.levels (k + ((ctL TEntry.ct x.log : Nat) : Int)) (by omega) (by omega))) ?_ | refine AL.any (h := POp.k Tryz.func71 (hc := heldEditionS x.editions (k + ((ctL TEntry.ct x.log : Nat) : Int) + ((ctL TLevel.ct x.levels : Nat) : Int)) (by omega) (by omega))) ?_ | refine AL.nil ?_)
    | ((with_reducible show AW _ _ _ _ _ _); first | refine AW.seq ?_ | refine AW.region ?_ | refine AW.skip ?_ | refine AW.cT ?_ | refine AW.cF ?_ | (refine AW.c2 ?_ ?_ <;> (intro h; try simp only [Bool.not_eq_true', Bool.not_eq_false'] at h)) | refine AW.block ?_ | refine AW.exit ?_ | refine AW.ret ?_)
    | with_reducible refine (if_pos rfl).mpr ?_
    | with_reducible refine (if_neg (by decide)).mpr ?_) <;> (try dsimp only))
  all_goals exact Fin.one rfl (RV.tmp (by rfl)) (clo_c _) ⟨by rw [← hend], rfl⟩

end Go.Proofs.YtacbpfbelcdeiaaGreat.Abs

/- Bounds of the marks. -/
namespace Go.Proofs.YtacbpfbelcdeiaaGreat.Abs
open Go.Proofs Go.RowKit
set_option linter.unusedVariables false
set_option linter.unusedSimpArgs false
attribute [local irreducible] OpA AL AW DL DLM DLR DLS QOp POp VCalls VCallsI
theorem stp_ind {a o : TAtlas} {ok : Bool} {p : TAtlas → Prop} (ha : p a) (ho : p o) : p (stp a o ok) := by unfold stp; split <;> assumption
theorem ctL_en {l : List TEntry} (hl : l.length ≤ 1048576) (hp : ∀ x ∈ l, x.feature.points.length ≤ 1048576) : ctL TEntry.ct l ≤ 2199030595584 := by
  have h := ctL_bd (ct := TEntry.ct) (c := 2097159) (l := l) fun x hx => by
    have h1 := ctL_pt x.feature.points
    have h2 := hp x hx
    unfold TEntry.ct
    omega
  omega
theorem ctL_lv (l : List TLevel) : ctL TLevel.ct l ≤ l.length * 3 := ctL_bd fun _ _ => Nat.le_refl 3
theorem ctL_ed {l : List TEdition} (hl : l.length ≤ 1048576) (hp : ∀ e ∈ l, e.source.length ≤ 1048576 ∧ ∀ x ∈ e.source, x.points.length ≤ 1048576) : ctL TEdition.ct l ≤ 2305847407260205056 + 2097152 := by
  have h := ctL_bd (ct := TEdition.ct) (c := 2199027449858) (l := l) fun x hx => by
    have h2 := hp x hx
    have h1 := ctL_ft h2.1 h2.2
    unfold TEdition.ct
    omega
  omega
theorem TAtlas.cs_le {a : TAtlas} (h : a.sm) : a.cs ≤ 3000000000000000000 := by
  obtain ⟨⟨h1, h2⟩, h3, h4, h5⟩ := h
  have e1 := ctL_en h1 (fun x hx => h2 x hx)
  have e2 := ctL_lv a.levels
  have e3 := ctL_ed h4 (fun x hx => ⟨(h5 x hx).1, fun y hy => (h5 x hx).2 y hy⟩)
  unfold TAtlas.cs
  omega

theorem toAtlas_oX (a : TAtlas) (hs : a.sm) : VCalls Tryz.prog 26 [.agg [.ro 8 (a.log.map TEntry.en), .ro 3 (a.levels.map TLevel.en), .ro 3 (a.editions.map TEdition.en), I a.cover.w, I a.cover.h, S a.cover.cells, I a.now]] (fun r M => r = .agg [.own 0 0, .own 1 0, .own 2 0, I a.cover.w, I a.cover.h, S a.cover.cells, I a.now] ∧ M = [some ⟨121, 8, 0, false, a.log.map TEntry.ed⟩, some ⟨97, 3, 0, false, a.levels.map TLevel.en⟩, some ⟨136, 3, 0, false, a.editions.map TEdition.ed⟩]) := toAtlas_o a hs
end Go.Proofs.YtacbpfbelcdeiaaGreat.Abs

/- The walk of the law on StepLevels. -/
namespace Go.Proofs.YtacbpfbelcdeiaaGreat.Abs
open Go.Proofs Go.RowKit
set_option linter.unusedVariables false
set_option linter.unusedSimpArgs false
attribute [local irreducible] OpA AL AW DL DLM DLR DLS QOp POp VCalls VCallsI
set_option maxRecDepth 100000 in
set_option maxHeartbeats 2000000 in
theorem law_FnExactStepLevels (a : TAtlas) (v : List TLevel) (h0 : a.ok) (h1 : (v.length ≤ maxLen ∧ ∀ x ∈ v, x.ok)) : VCalls Tryz.prog 4 [.agg a.en, .ro 3 (v.map TLevel.en)] (fun r M => r = B true ∧ M = []) := by
  refine VCalls.body Tryz.func4 rfl 117 rfl (fun E => ?_)
  simp only [List.reduceReplicate, List.cons_append, List.nil_append]
  have hclo_a : Clo (.agg a.en) := Clo.agg a.clo_en
  have hclo_v : Clo (.ro 3 (v.map TLevel.en)) := clo_list TLevel.clo_en
  obtain ⟨hl1, hp1⟩ := id h1
  rw [maxLen_eq] at hl1
  rcases Szs.split (TAtlas.szs) a 1048576 h0 (by decide) (by decide) with hz | ⟨hz, hsm0, hz0, hz1⟩
  case' inr => (rcases Szs.split (Szs.flat (ok := TLevel.ok)) v (a.sz 1048576) h1 hz0 hz1 with hz' | ⟨hz', hl1', hz0', hz1'⟩)
  all_goals try (dsimp only at hz')
  all_goals try (have hsmO : (stp a (levO a v) true).sm := stp_ind (p := TAtlas.sm) (by assumption) (levO_sm (by assumption) (by assumption)))
  all_goals try (have hcb := TAtlas.cs_le hsmO)
  all_goals try (have hclX : Clo (.agg (stp a (levO a v) true).en) := Clo.agg (TAtlas.clo_en _))
  all_goals try (have hclT : Clo (.tup [.agg (stp a (levO a v) true).en, B (stpB a (levO a v) true)]) := Clo.tup (clo_cons hclX (clo_cons (clo_c _) clo_nil)))
  all_goals try (have hca_a := TAtlas.cs_le (a := a) (by assumption))
  all_goals try (have hclA0 : Clo (.ro 8 (a.log.map TEntry.en)) := clo_list TEntry.clo_en)
  all_goals try (have hclA1 : Clo (.ro 3 (a.levels.map TLevel.en)) := clo_list TLevel.clo_en)
  all_goals try (have hclA2 : Clo (.ro 3 (a.editions.map TEdition.en)) := clo_list TEdition.clo_en)
  all_goals try (have hclX0 : Clo (.ro 8 ((stp a (levO a v) true).log.map TEntry.en)) := clo_list TEntry.clo_en)
  all_goals try (have hclX1 : Clo (.ro 3 ((stp a (levO a v) true).levels.map TLevel.en)) := clo_list TLevel.clo_en)
  all_goals try (have hclX2 : Clo (.ro 3 ((stp a (levO a v) true).editions.map TEdition.en)) := clo_list TEdition.clo_en)
  all_goals try (have hclM0 : Clo (.ro 8 ((TAtlas.ms 1 (stp a (levO a v) true)).log.map TEntry.en)) := clo_list TEntry.clo_en)
  all_goals try (have hclM1 : Clo (.ro 3 ((TAtlas.ms 1 (stp a (levO a v) true)).levels.map TLevel.en)) := clo_list TLevel.clo_en)
  all_goals try (have hclM2 : Clo (.ro 3 ((TAtlas.ms 1 (stp a (levO a v) true)).editions.map TEdition.en)) := clo_list TEdition.clo_en)
  all_goals try (have hk2 : decide (1 + (((stp a (levO a v) true).cs : Nat) : Int) < 0) = false := by simp; omega)
  all_goals try (have hlv := ctL_lv v)
  all_goals try (have hk1 : decide (1 + ((a.cs : Nat) : Int) + ((ctL TLevel.ct v : Nat) : Int) < 0) = false := by simp; omega)
  repeat' ((first
    | ((with_reducible show AL _ _ _ _ _ _ _); first | refine AL.at 36 (h := POp.O Tryz.func26 (hc := toAtlas_oX a (by assumption))) ?_ | refine AL.at 38 (h := POp.O Tryz.func16 (hc := toLevelS_o v (by assumption))) ?_ | refine AL.at 42 (h := POp.O Tryz.func27 (hc := (show VCalls Tryz.prog 27 [.agg [.ro 8 (a.log.map TEntry.en), .ro 3 (a.levels.map TLevel.en), .ro 3 (a.editions.map TEdition.en), I a.cover.w, I a.cover.h, S a.cover.cells, I a.now], .ro 3 (v.map TLevel.en)] (fun r M => r = .tup [.agg [.own 0 0, .own 1 0, .own 2 0, I (stp a (levO a v) true).cover.w, I (stp a (levO a v) true).cover.h, S (stp a (levO a v) true).cover.cells, I (stp a (levO a v) true).now], B (stpB a (levO a v) true)] ∧ M = [some ⟨121, 8, 0, false, (stp a (levO a v) true).log.map TEntry.ed⟩, some ⟨97, 3, 0, false, (stp a (levO a v) true).levels.map TLevel.en⟩, some ⟨136, 3, 0, false, (stp a (levO a v) true).editions.map TEdition.ed⟩]) from lev_i a (gdA_of (by assumption) (by assumption)) v (by assumption)))) ?_ | refine AL.any ?_ | refine AL.any (h := POp.k Tryz.func13 (hc := szLevelS _ _)) ?_ | refine AL.any (h := POp.k Tryz.func16 (hc := toLevelS _ (by assumption))) ?_ | refine AL.any (h := POp.D Tryz.func19 (hc := eqAtlas_self a (by assumption)) (hvw := by first | ((repeat' (first | exact VwL.nil | refine VwL.cons ?_ ?_ | (refine View.own (by rfl) (by rfl) (by rfl) (by rfl) ?_ ?_ <;> first | exact DCl.b rfl | exact DCl.map (fun _ => rfl) | assumption | rfl | exact TPoint.und | exact TSegment.und | exact TBox.und | exact TFeature.und | exact TMeet.und | exact TPlace.und | exact TCover.und | exact TLabel.und | exact TPiece.und | exact TLevel.und | exact TChart.und | exact TReason.und | exact TEdit.und | exact TEntry.und | exact TEdition.und | exact TListing.und | exact TAtlas.und | exact TEvent.und | exact TWindow.und | exact und_nil | exact und_I | assumption) | refine View.agg' ?_ | exact View.same (by first | exact clo_of (by rfl) | assumption | exact clo_fn _) | exact View.nil)); done) | fail)) ?_ | refine AL.any (h := POp.D Tryz.func19 (hc := eqAtlas_self (stp a (levO a v) true) (by assumption)) (hvw := by first | ((repeat' (first | exact VwL.nil | refine VwL.cons ?_ ?_ | (refine View.own (by rfl) (by rfl) (by rfl) (by rfl) ?_ ?_ <;> first | exact DCl.b rfl | exact DCl.map (fun _ => rfl) | assumption | rfl | exact TPoint.und | exact TSegment.und | exact TBox.und | exact TFeature.und | exact TMeet.und | exact TPlace.und | exact TCover.und | exact TLabel.und | exact TPiece.und | exact TLevel.und | exact TChart.und | exact TReason.und | exact TEdit.und | exact TEntry.und | exact TEdition.und | exact TListing.und | exact TAtlas.und | exact TEvent.und | exact TWindow.und | exact und_nil | exact und_I | assumption) | refine View.agg' ?_ | exact View.same (by first | exact clo_of (by rfl) | assumption | exact clo_fn _) | exact View.nil)); done) | fail)) ?_ | refine AL.any (h := POp.D Tryz.func20 (hc := eqLevelS_self v (by assumption))) ?_ | refine AL.any (h := POp.H [6] Tryz.func21 (hc := markLevelS 97 v (1 + ((a.cs : Nat) : Int)) (by omega) (by omega))) ?_ | refine AL.any (h := POp.H [2, 3, 4] Tryz.func22 (hc := markAtlas a (1) (by omega) (by omega))) ?_ | refine AL.any (h := POp.H [7, 8, 9] Tryz.func22 (hc := markAtlas (stp a (levO a v) true) 1 (by omega) (by omega))) ?_ | refine AL.any (h := POp.D Tryz.func23 (hc := heldAtlas (stp a (levO a v) true) 1 (by omega) (by omega))) ?_ | refine AL.any (h := POp.k Tryz.func24 (hc := szAtlas a _ (by assumption))) ?_ | refine AL.any (h := POp.k Tryz.func25 (hc := lev_s' a (gdA_of (by assumption) (by assumption)) v (by assumption))) ?_ | refine AL.any (h := POp.k Tryz.func26 (hc := toAtlas a (by assumption))) ?_ | refine AL.any (h := POp.k Tryz.func27 (hc := lev_i' a (gdA_of (by assumption) (by assumption)) v (by assumption))) ?_ | refine AL.U ?_ | refine AL.F ?_ | refine AL.T ?_ | refine AL.T (h := POp.D Tryz.func19 (hc := eqAtlas_self a (by assumption)) (hvw := by first | ((repeat' (first | exact VwL.nil | refine VwL.cons ?_ ?_ | (refine View.own (by rfl) (by rfl) (by rfl) (by rfl) ?_ ?_ <;> first | exact DCl.b rfl | exact DCl.map (fun _ => rfl) | assumption | rfl | exact TPoint.und | exact TSegment.und | exact TBox.und | exact TFeature.und | exact TMeet.und | exact TPlace.und | exact TCover.und | exact TLabel.und | exact TPiece.und | exact TLevel.und | exact TChart.und | exact TReason.und | exact TEdit.und | exact TEntry.und | exact TEdition.und | exact TListing.und | exact TAtlas.und | exact TEvent.und | exact TWindow.und | exact und_nil | exact und_I | assumption) | refine View.agg' ?_ | exact View.same (by first | exact clo_of (by rfl) | assumption | exact clo_fn _) | exact View.nil)); done) | fail)) ?_ | refine AL.T (h := POp.D Tryz.func19 (hc := eqAtlas_self (stp a (levO a v) true) (by assumption)) (hvw := by first | ((repeat' (first | exact VwL.nil | refine VwL.cons ?_ ?_ | (refine View.own (by rfl) (by rfl) (by rfl) (by rfl) ?_ ?_ <;> first | exact DCl.b rfl | exact DCl.map (fun _ => rfl) | assumption | rfl | exact TPoint.und | exact TSegment.und | exact TBox.und | exact TFeature.und | exact TMeet.und | exact TPlace.und | exact TCover.und | exact TLabel.und | exact TPiece.und | exact TLevel.und | exact TChart.und | exact TReason.und | exact TEdit.und | exact TEntry.und | exact TEdition.und | exact TListing.und | exact TAtlas.und | exact TEvent.und | exact TWindow.und | exact und_nil | exact und_I | assumption) | refine View.agg' ?_ | exact View.same (by first | exact clo_of (by rfl) | assumption | exact clo_fn _) | exact View.nil)); done) | fail)) ?_ | refine AL.W ?_ | refine AL.W (h := fun h => by (try rw [h]); exact POp.D Tryz.func19 (hc := eqAtlas_self a (by assumption)) (hvw := by first | ((repeat' (first | exact VwL.nil | refine VwL.cons ?_ ?_ | (refine View.own (by rfl) (by rfl) (by rfl) (by rfl) ?_ ?_ <;> first | exact DCl.b rfl | exact DCl.map (fun _ => rfl) | assumption | rfl | exact TPoint.und | exact TSegment.und | exact TBox.und | exact TFeature.und | exact TMeet.und | exact TPlace.und | exact TCover.und | exact TLabel.und | exact TPiece.und | exact TLevel.und | exact TChart.und | exact TReason.und | exact TEdit.und | exact TEntry.und | exact TEdition.und | exact TListing.und | exact TAtlas.und | exact TEvent.und | exact TWindow.und | exact und_nil | exact und_I | assumption) | refine View.agg' ?_ | exact View.same (by first | exact clo_of (by rfl) | assumption | exact clo_fn _) | exact View.nil)); done) | fail)) ?_ | refine AL.W (h := fun h => by (try rw [h]); exact POp.D Tryz.func19 (hc := eqAtlas_self (stp a (levO a v) true) (by assumption)) (hvw := by first | ((repeat' (first | exact VwL.nil | refine VwL.cons ?_ ?_ | (refine View.own (by rfl) (by rfl) (by rfl) (by rfl) ?_ ?_ <;> first | exact DCl.b rfl | exact DCl.map (fun _ => rfl) | assumption | rfl | exact TPoint.und | exact TSegment.und | exact TBox.und | exact TFeature.und | exact TMeet.und | exact TPlace.und | exact TCover.und | exact TLabel.und | exact TPiece.und | exact TLevel.und | exact TChart.und | exact TReason.und | exact TEdit.und | exact TEntry.und | exact TEdition.und | exact TListing.und | exact TAtlas.und | exact TEvent.und | exact TWindow.und | exact und_nil | exact und_I | assumption) | refine View.agg' ?_ | exact View.same (by first | exact clo_of (by rfl) | assumption | exact clo_fn _) | exact View.nil)); done) | fail)) ?_ | refine AL.nil ?_)
    | ((with_reducible show DL _ _ _ _ _ _ _); first | refine DL.any ?_ | refine DL.any (h := POp.k Tryz.func26 (hc := toAtlas a (by assumption))) ?_ | refine DL.nil ?_)
    | ((with_reducible show AW _ _ _ _ _ _); first | refine AW.seq ?_ | refine AW.region ?_ | refine AW.skip ?_ | refine AW.dr (id := 14) 3 ?_ | refine AW.cT ?_ | refine AW.cF ?_ | (refine AW.c2 ?_ ?_ <;> (intro h; try simp only [Bool.not_eq_true', Bool.not_eq_false'] at h)) | refine AW.block ?_ | refine AW.exit ?_ | refine AW.ret ?_)
    | with_reducible refine (if_pos rfl).mpr ?_
    | with_reducible refine (if_neg (by decide)).mpr ?_) <;> (try dsimp only))
  all_goals exact Fin.one rfl (RV.tmp (by rfl)) (clo_c _) ⟨by first | rfl | (simp_all; done), rfl⟩

end Go.Proofs.YtacbpfbelcdeiaaGreat.Abs
