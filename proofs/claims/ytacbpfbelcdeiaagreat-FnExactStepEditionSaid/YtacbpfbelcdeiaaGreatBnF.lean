/- Part F of the walk over abstract states and of the functions' walks. -/
import Derived.Test.YtacbpfbelcdeiaaGreatWkStep
import Derived.Test.YtacbpfbelcdeiaaGreatBnE
/- The walks of AreEditions. -/
namespace Go.Proofs.YtacbpfbelcdeiaaGreat.Abs
open Go.Proofs Go.RowKit
set_option linter.unusedVariables false
set_option linter.unusedSimpArgs false
attribute [local irreducible] OpA AL AW DL DLM DLR DLS QOp POp VCalls VCallsI
set_option maxRecDepth 100000 in
set_option maxHeartbeats 2000000 in
theorem areEd_s (l : List TEdition) (hl : l.length ≤ 1048576) (hp : ∀ e ∈ l, e.source.length ≤ 1048576 ∧ ∀ x ∈ e.source, x.gd) : VCalls Tryz.prog 104 [.ro 3 (l.map TEdition.en)] (fun r M => r = B (areEd l) ∧ M = []) := by
  refine VCalls.bodyE Tryz.func104 rfl 73 rfl (fun E hE => ?_)
  simp only [List.reduceReplicate, List.cons_append, List.nil_append]
  have hclo : Clo (.ro 3 (l.map TEdition.en)) := clo_list TEdition.clo_en
  repeat' ((first
    | ((with_reducible show AL _ _ _ _ _ _ _); first | refine AL.any ?_ | refine AL.any (h := POp.k Tryz.func118 (hc := seal_s (prevSeal l i) x.tick x.source (by assumption) (by assumption))) ?_ | refine AL.U ?_ | refine AL.F ?_ | refine AL.T ?_ | refine AL.W ?_ | refine AL.nil ?_)
    | ((with_reducible show DL _ _ _ _ _ _ _); first | refine DL.any ?_ | refine DL.any (h := POp.k Tryz.func77 (hc := inr_s _ _ _)) ?_ | refine DL.U ?_ | refine DL.F ?_ | refine DL.T ?_ | refine DL.T (h := POp.k Tryz.func133 (hc := isSource_s x.source (by assumption) (by assumption))) ?_ | refine DL.W ?_ | refine DL.W (h := fun h => by (try rw [h]); exact POp.k Tryz.func133 (hc := isSource_s x.source (by assumption) (by assumption))) ?_ | refine DL.nil ?_)
    | ((with_reducible show AW _ _ _ _ _ _); first | refine AW.seq ?_ | refine AW.region ?_ | refine AW.skip ?_ | (refine AW.loopD hE (fun i : Nat => [.ro 3 (l.map TEdition.en), .any, .any, I (prevSeal l i), I (i : Int), .any, .any, .any, .any, .any, .any, .any, .any, .any, .any, .any, .any, .any, .any, .any, .any, .any, .any, .any, .any, .any, .any, .any, .any, .any, .any, .any, .any, .any, .any, .any, .any, .any, .any, .any, .any, .any, .any, .any, .any, .any, .any, .any, .any, .any, .any, .any, .any, .any, .any, .any, .any, .any, .any, .any, .any, .any, .any, .any, .any, .any, .any, .any, .any, .any, .any, .any, .any, .any]) (fun i => []) (fun i => nEd l - i) (fun i => i ≤ nEd l ∧ edTo l i = true) 0 ⟨Nat.zero_le _, by simp [edTo]⟩ ?_ (by first | rfl | (simp [fil_zero]; done)) ?_) | refine AW.dr (id := 5) 11 ?_ | refine AW.dr (id := 6) 40 ?_ | refine AW.cT ?_ | refine AW.cF ?_ | (refine AW.c2 ?_ ?_ <;> (intro h; try simp only [Bool.not_eq_true', Bool.not_eq_false'] at h)) | refine AW.block ?_ | refine AW.exit ?_ | refine AW.ret ?_)
    | with_reducible refine (if_pos rfl).mpr ?_
    | with_reducible refine (if_neg (by decide)).mpr ?_) <;> (try dsimp only))
  · (repeat' (first | exact Wk.nil | refine Wk.any ?_ | (with_reducible refine Wk.same ?_) | refine Wk.of ?_ ?_)) <;> first | rfl | (simp [prevSeal])
  · intro i hi
    have hclo : Clo (.ro 3 (l.map TEdition.en)) := clo_list TEdition.clo_en
    by_cases hlt : i < nEd l
    · skip
      obtain ⟨hN, hE6⟩ := nEd_t hlt
      obtain ⟨x, hx⟩ : ∃ x, l[i]? = some x := ⟨_, List.getElem?_eq_getElem (by omega)⟩
      have hg := map_get (f := TEdition.en) hx
      have ht : (decide ((i : Int) < ((l.map TEdition.en).length : Int)) && decide (((l.map TEdition.en).length : Int) ≤ 6)) = true := by simp; omega
      have hn := next_ix hlt (by omega)
      obtain ⟨hsl, hsx⟩ := hp x (List.mem_of_getElem? hx)
      have hsu := edTo_succ l i
      have hps := prevSeal_succ hx
      have hclS : Clo (.ro 5 (x.source.map TFeature.en)) := clo_list TFeature.clo_en
      have hcle : Clo (.agg x.en) := Clo.agg x.clo_en
      rcases ed_cases hx hl with ⟨q1, hk⟩ | ⟨q1, hz, ⟨q2, hk⟩ | ⟨q2, q3, hk⟩ | ⟨q2, q3, hk⟩⟩ | ⟨p, q1, hz, h0, hp0, ⟨q4, hk, q2 | ⟨q2, q3⟩ | ⟨q2, q3⟩⟩ | ⟨q4, ⟨q2, hk⟩ | ⟨q2, q3, hk⟩ | ⟨q2, q3, hk⟩⟩⟩
      repeat' ((first
        | ((with_reducible show AL _ _ _ _ _ _ _); first | refine AL.any ?_ | refine AL.any (h := POp.k Tryz.func118 (hc := seal_s (prevSeal l i) x.tick x.source (by assumption) (by assumption))) ?_ | refine AL.U ?_ | refine AL.F ?_ | refine AL.T ?_ | refine AL.W ?_ | refine AL.nil ?_)
        | ((with_reducible show DL _ _ _ _ _ _ _); first | refine DL.any ?_ | refine DL.any (h := POp.k Tryz.func77 (hc := inr_s _ _ _)) ?_ | refine DL.U ?_ | refine DL.F ?_ | refine DL.T ?_ | refine DL.T (h := POp.k Tryz.func133 (hc := isSource_s x.source (by assumption) (by assumption))) ?_ | refine DL.W ?_ | refine DL.W (h := fun h => by (try rw [h]); exact POp.k Tryz.func133 (hc := isSource_s x.source (by assumption) (by assumption))) ?_ | refine DL.nil ?_)
        | ((with_reducible show AW _ _ _ _ _ _); first | refine AW.seq ?_ | refine AW.region ?_ | refine AW.skip ?_ | refine AW.dr (id := 5) 11 ?_ | refine AW.dr (id := 6) 40 ?_ | refine AW.cT ?_ | refine AW.cF ?_ | (refine AW.c2 ?_ ?_ <;> (intro h; try simp only [Bool.not_eq_true', Bool.not_eq_false'] at h)) | refine AW.block ?_ | refine AW.exit ?_ | refine AW.ret ?_)
        | with_reducible refine (if_pos rfl).mpr ?_
        | with_reducible refine (if_neg (by decide)).mpr ?_) <;> (try dsimp only))
      all_goals first
        | (refine ⟨i + 1, _, ⟨hlt, by simp_all⟩, by omega, ?_, rfl, ?_, ?_⟩; (focus ((repeat' (first | exact Wk.nil | refine Wk.any ?_ | (with_reducible refine Wk.same ?_) | refine Wk.of ?_ ?_)) <;> (first | rfl | (simp_all [hps]; done) | simp_all))); (focus ((repeat' (first | exact Fits.nil _ | refine Fits.cons ?_ ?_ | exact Fits.any _ | exact Fits.c _ _ | exact Fits.own (by rfl) | exact Fits.ref (by rfl) | exact Fits.clo (by assumption) | exact Fits.clo (clo_of (by rfl)) | exact Fits.clo (clo_fn _))))); (focus (exact FitsM.nil _)))
        | exact Fin.one rfl (RV.tmp (by rfl)) (clo_c _) ⟨by have hn := edTo_not (n := l.length) (by simp_all : edAt l i = false) (by omega); simp_all [areEd], rfl⟩
    · have e : i = nEd l := by omega
      have ht : (decide ((i : Int) < ((l.map TEdition.en).length : Int)) && decide (((l.map TEdition.en).length : Int) ≤ 6)) = false := by
        rw [e]
        unfold nEd
        split
        · simp
        · simp; omega
      subst e
      repeat' ((first
        | ((with_reducible show AL _ _ _ _ _ _ _); first | refine AL.any ?_ | refine AL.any (h := POp.k Tryz.func118 (hc := seal_s (prevSeal l i) x.tick x.source (by assumption) (by assumption))) ?_ | refine AL.U ?_ | refine AL.F ?_ | refine AL.T ?_ | refine AL.W ?_ | refine AL.nil ?_)
        | ((with_reducible show DL _ _ _ _ _ _ _); first | refine DL.any ?_ | refine DL.any (h := POp.k Tryz.func77 (hc := inr_s _ _ _)) ?_ | refine DL.U ?_ | refine DL.F ?_ | refine DL.T ?_ | refine DL.T (h := POp.k Tryz.func133 (hc := isSource_s x.source (by assumption) (by assumption))) ?_ | refine DL.W ?_ | refine DL.W (h := fun h => by (try rw [h]); exact POp.k Tryz.func133 (hc := isSource_s x.source (by assumption) (by assumption))) ?_ | refine DL.nil ?_)
        | ((with_reducible show AW _ _ _ _ _ _); first | refine AW.seq ?_ | refine AW.region ?_ | refine AW.skip ?_ | refine AW.dr (id := 5) 11 ?_ | refine AW.dr (id := 6) 40 ?_ | refine AW.cT ?_ | refine AW.cF ?_ | (refine AW.c2 ?_ ?_ <;> (intro h; try simp only [Bool.not_eq_true', Bool.not_eq_false'] at h)) | refine AW.block ?_ | refine AW.exit ?_ | refine AW.ret ?_)
        | with_reducible refine (if_pos rfl).mpr ?_
        | with_reducible refine (if_neg (by decide)).mpr ?_) <;> (try dsimp only))
      all_goals exact Fin.one rfl (RV.tmp (by rfl)) (clo_c _) ⟨by have h2 := hi.2; unfold nEd at h2; unfold areEd; split at h2 <;> simp_all <;> omega, rfl⟩

set_option maxRecDepth 100000 in
set_option maxHeartbeats 2000000 in
theorem areEd_i (l : List TEdition) (hl : l.length ≤ 1048576) (hp : ∀ e ∈ l, e.source.length ≤ 1048576 ∧ ∀ x ∈ e.source, x.gd) : VCalls Tryz.prog 107 [.ro 3 (l.map TEdition.en)] (fun r M => r = B (areEd l) ∧ M = []) := by
  refine VCalls.bodyE Tryz.func107 rfl 54 rfl (fun E hE => ?_)
  simp only [List.reduceReplicate, List.cons_append, List.nil_append]
  have hclo : Clo (.ro 3 (l.map TEdition.en)) := clo_list TEdition.clo_en
  repeat' ((first
    | ((with_reducible show AL _ _ _ _ _ _ _); first | refine AL.any ?_ | refine AL.U ?_ | refine AL.F ?_ | refine AL.T ?_ | refine AL.W ?_ | refine AL.nil ?_)
    | ((with_reducible show DL _ _ _ _ _ _ _); first | refine DL.any ?_ | refine DL.any (h := POp.k Tryz.func78 (hc := inr_v _ _ _)) ?_ | refine DL.U ?_ | refine DL.F ?_ | refine DL.T ?_ | refine DL.T (h := POp.k Tryz.func121 (hc := seal_i (prevSeal l i) x.tick x.source (by assumption) (by assumption))) ?_ | refine DL.T (h := POp.k Tryz.func135 (hc := isSource_i x.source (by assumption) (by assumption))) ?_ | refine DL.W ?_ | refine DL.W (h := fun h => by (try rw [h]); exact POp.k Tryz.func121 (hc := seal_i (prevSeal l i) x.tick x.source (by assumption) (by assumption))) ?_ | refine DL.W (h := fun h => by (try rw [h]); exact POp.k Tryz.func135 (hc := isSource_i x.source (by assumption) (by assumption))) ?_ | refine DL.nil ?_)
    | ((with_reducible show AW _ _ _ _ _ _); first | refine AW.seq ?_ | refine AW.region ?_ | refine AW.skip ?_ | (refine AW.loopD hE (fun i : Nat => [.ro 3 (l.map TEdition.en), .any, .any, I (prevSeal l i), .any, .any, .any, .any, .any, .ro 3 (l.map TEdition.en), I ((l.map TEdition.en).length : Int), I (i : Int), .any, .any, .any, .any, .any, .any, .any, .any, .any, .any, .any, .any, .any, .any, .any, .any, .any, .any, .any, .any, .any, .any, .any, .any, .any, .any, .any, .any, .any, .any, .any, .any, .any, .any, .any, .any, .any, .any, .any, .any, .any, .any, .any]) (fun i => []) (fun i => l.length - i) (fun i => i ≤ l.length ∧ edTo l i = true) 0 (by simp [edTo]) ?_ (by first | rfl | (simp [fil_zero]; done)) ?_) | refine AW.dr (id := 7) 34 ?_ | refine AW.cT ?_ | refine AW.cF ?_ | (refine AW.c2 ?_ ?_ <;> (intro h; try simp only [Bool.not_eq_true', Bool.not_eq_false'] at h)) | refine AW.block ?_ | refine AW.exit ?_ | refine AW.ret ?_)
    | with_reducible refine (if_pos rfl).mpr ?_
    | with_reducible refine (if_neg (by decide)).mpr ?_) <;> (try dsimp only))
  · exact Fin.one rfl (RV.tmp (by rfl)) (clo_c _) ⟨by simp_all [areEd] <;> omega, rfl⟩
  · (repeat' (first | exact Wk.nil | refine Wk.any ?_ | (with_reducible refine Wk.same ?_) | refine Wk.of ?_ ?_)) <;> first | rfl | (simp [prevSeal])
  · intro i hi
    have hclo : Clo (.ro 3 (l.map TEdition.en)) := clo_list TEdition.clo_en
    by_cases hlt : i < l.length
    · obtain ⟨x, hx⟩ : ∃ x, l[i]? = some x := ⟨_, List.getElem?_eq_getElem hlt⟩
      have hg := map_get (f := TEdition.en) hx
      have ht := lt_true (f := TEdition.en) hlt
      have hn := next_ix hlt (by omega)
      obtain ⟨hsl, hsx⟩ := hp x (List.mem_of_getElem? hx)
      have hsu := edTo_succ l i
      have hps := prevSeal_succ hx
      have hclS : Clo (.ro 5 (x.source.map TFeature.en)) := clo_list TFeature.clo_en
      have hcle : Clo (.agg x.en) := Clo.agg x.clo_en
      rcases ed_cases hx hl with ⟨q1, hk⟩ | ⟨q1, hz, ⟨q2, hk⟩ | ⟨q2, q3, hk⟩ | ⟨q2, q3, hk⟩⟩ | ⟨p, q1, hz, h0, hp0, ⟨q4, hk, q2 | ⟨q2, q3⟩ | ⟨q2, q3⟩⟩ | ⟨q4, ⟨q2, hk⟩ | ⟨q2, q3, hk⟩ | ⟨q2, q3, hk⟩⟩⟩
      repeat' ((first
        | ((with_reducible show AL _ _ _ _ _ _ _); first | refine AL.any ?_ | refine AL.U ?_ | refine AL.F ?_ | refine AL.T ?_ | refine AL.W ?_ | refine AL.nil ?_)
        | ((with_reducible show DL _ _ _ _ _ _ _); first | refine DL.any ?_ | refine DL.any (h := POp.k Tryz.func78 (hc := inr_v _ _ _)) ?_ | refine DL.U ?_ | refine DL.F ?_ | refine DL.T ?_ | refine DL.T (h := POp.k Tryz.func121 (hc := seal_i (prevSeal l i) x.tick x.source (by assumption) (by assumption))) ?_ | refine DL.T (h := POp.k Tryz.func135 (hc := isSource_i x.source (by assumption) (by assumption))) ?_ | refine DL.W ?_ | refine DL.W (h := fun h => by (try rw [h]); exact POp.k Tryz.func121 (hc := seal_i (prevSeal l i) x.tick x.source (by assumption) (by assumption))) ?_ | refine DL.W (h := fun h => by (try rw [h]); exact POp.k Tryz.func135 (hc := isSource_i x.source (by assumption) (by assumption))) ?_ | refine DL.nil ?_)
        | ((with_reducible show AW _ _ _ _ _ _); first | refine AW.seq ?_ | refine AW.region ?_ | refine AW.skip ?_ | refine AW.dr (id := 7) 34 ?_ | refine AW.cT ?_ | refine AW.cF ?_ | (refine AW.c2 ?_ ?_ <;> (intro h; try simp only [Bool.not_eq_true', Bool.not_eq_false'] at h)) | refine AW.block ?_ | refine AW.exit ?_ | refine AW.ret ?_)
        | with_reducible refine (if_pos rfl).mpr ?_
        | with_reducible refine (if_neg (by decide)).mpr ?_) <;> (try dsimp only))
      all_goals first
        | (refine ⟨i + 1, _, ⟨hlt, by simp_all⟩, by omega, ?_, rfl, ?_, ?_⟩; (focus ((repeat' (first | exact Wk.nil | refine Wk.any ?_ | (with_reducible refine Wk.same ?_) | refine Wk.of ?_ ?_)) <;> (first | rfl | (simp_all [hps]; done) | simp_all))); (focus ((repeat' (first | exact Fits.nil _ | refine Fits.cons ?_ ?_ | exact Fits.any _ | exact Fits.c _ _ | exact Fits.own (by rfl) | exact Fits.ref (by rfl) | exact Fits.clo (by assumption) | exact Fits.clo (clo_of (by rfl)) | exact Fits.clo (clo_fn _))))); (focus (exact FitsM.nil _)))
        | exact Fin.one rfl (RV.tmp (by rfl)) (clo_c _) ⟨by have hn := edTo_not (n := l.length) (by simp_all : edAt l i = false) (by omega); simp_all [areEd], rfl⟩
    · have ht := lt_false (f := TEdition.en) hlt
      have e : i = l.length := by omega
      subst e
      try rw [List.take_length]
      repeat' ((first
        | ((with_reducible show AL _ _ _ _ _ _ _); first | refine AL.any ?_ | refine AL.U ?_ | refine AL.F ?_ | refine AL.T ?_ | refine AL.W ?_ | refine AL.nil ?_)
        | ((with_reducible show DL _ _ _ _ _ _ _); first | refine DL.any ?_ | refine DL.any (h := POp.k Tryz.func78 (hc := inr_v _ _ _)) ?_ | refine DL.U ?_ | refine DL.F ?_ | refine DL.T ?_ | refine DL.T (h := POp.k Tryz.func121 (hc := seal_i (prevSeal l i) x.tick x.source (by assumption) (by assumption))) ?_ | refine DL.T (h := POp.k Tryz.func135 (hc := isSource_i x.source (by assumption) (by assumption))) ?_ | refine DL.W ?_ | refine DL.W (h := fun h => by (try rw [h]); exact POp.k Tryz.func121 (hc := seal_i (prevSeal l i) x.tick x.source (by assumption) (by assumption))) ?_ | refine DL.W (h := fun h => by (try rw [h]); exact POp.k Tryz.func135 (hc := isSource_i x.source (by assumption) (by assumption))) ?_ | refine DL.nil ?_)
        | ((with_reducible show AW _ _ _ _ _ _); first | refine AW.seq ?_ | refine AW.region ?_ | refine AW.skip ?_ | refine AW.dr (id := 7) 34 ?_ | refine AW.cT ?_ | refine AW.cF ?_ | (refine AW.c2 ?_ ?_ <;> (intro h; try simp only [Bool.not_eq_true', Bool.not_eq_false'] at h)) | refine AW.block ?_ | refine AW.exit ?_ | refine AW.ret ?_)
        | with_reducible refine (if_pos rfl).mpr ?_
        | with_reducible refine (if_neg (by decide)).mpr ?_) <;> (try dsimp only))
      all_goals exact Fin.one rfl (RV.tmp (by rfl)) (clo_c _) ⟨by first | (simp_all [areEd]; done) | (simp_all [areEd] <;> omega), rfl⟩

end Go.Proofs.YtacbpfbelcdeiaaGreat.Abs

/- The walks of IsAtlas and FaultOf. -/
namespace Go.Proofs.YtacbpfbelcdeiaaGreat.Abs
open Go.Proofs Go.RowKit
set_option linter.unusedVariables false
set_option linter.unusedSimpArgs false
attribute [local irreducible] OpA AL AW DL DLM DLR DLS QOp POp VCalls VCallsI
set_option maxRecDepth 100000 in
set_option maxHeartbeats 2000000 in
theorem isAtl_s (a : TAtlas) (hgd : a.gd) : VCalls Tryz.prog 61 [.agg a.en] (fun r M => r = B (isAtl a) ∧ M = []) := by
  refine VCalls.bodyE Tryz.func61 rfl 59 rfl (fun E hE => ?_)
  simp only [List.reduceReplicate, List.cons_append, List.nil_append]
  have hclL : Clo (.ro 8 (a.log.map TEntry.en)) := clo_list TEntry.clo_en
  have hclV : Clo (.ro 3 (a.levels.map TLevel.en)) := clo_list TLevel.clo_en
  have hclE : Clo (.ro 3 (a.editions.map TEdition.en)) := clo_list TEdition.clo_en
  have hclA : Clo (.agg a.en) := Clo.agg a.clo_en
  obtain ⟨⟨g1, g2⟩, g3, ⟨g4, g5⟩, g6⟩ := id hgd
  dsimp only [TAtlas.en]
  repeat' ((first
    | ((with_reducible show AL _ _ _ _ _ _ _); first | refine AL.any ?_ | refine AL.any (h := POp.k Tryz.func86 (hc := isLog_s a.log g1 g2)) ?_ | refine AL.U ?_ | refine AL.F ?_ | refine AL.T ?_ | refine AL.T (h := POp.k Tryz.func77 (hc := inr_s _ _ _)) ?_ | refine AL.T (h := POp.k Tryz.func103 (hc := isLadder_s a.levels g3)) ?_ | refine AL.T (h := POp.k Tryz.func104 (hc := areEd_s a.editions g4 g5)) ?_ | refine AL.T (h := POp.k Tryz.func105 (hc := isCover_s a.cover.w a.cover.h a.cover.cells g6)) ?_ | refine AL.W ?_ | refine AL.W (h := fun h => by (try rw [h]); exact POp.k Tryz.func77 (hc := inr_s _ _ _)) ?_ | refine AL.W (h := fun h => by (try rw [h]); exact POp.k Tryz.func103 (hc := isLadder_s a.levels g3)) ?_ | refine AL.W (h := fun h => by (try rw [h]); exact POp.k Tryz.func104 (hc := areEd_s a.editions g4 g5)) ?_ | refine AL.W (h := fun h => by (try rw [h]); exact POp.k Tryz.func105 (hc := isCover_s a.cover.w a.cover.h a.cover.cells g6)) ?_ | refine AL.nil ?_)
    | ((with_reducible show DL _ _ _ _ _ _ _); first | refine DL.any ?_ | refine DL.nil ?_)
    | ((with_reducible show AW _ _ _ _ _ _); first | refine AW.seq ?_ | refine AW.region ?_ | refine AW.skip ?_ | (refine AW.loopD hE (fun i : Nat => [.any, .ref 0 0 7 0 0, .any, I (i : Int), .any, .any, .any, .any, .any, .any, .any, .any, .any, .any, .any, .any, .any, .any, .any, .any, .any, .any, .any, .any, .any, .any, .any, .any, .any, .any, .any, .any, .any, .any, .any, .any, .any, .any, .any, .any, .any, .any, .any, .any, .any, .any, .any, .any, .any, .any, .any, .any, .any, .any, .any, .any, .any, .any, .any, .any]) (fun i => [some ⟨32, 7, 0, true, [a.en]⟩]) (fun i => a.log.length - i) (fun i => i ≤ a.log.length ∧ ticks TEntry.tick a.now a.log i = true) 0 ⟨Nat.zero_le _, by simp [ticks]⟩ ?_ (by first | rfl | (simp; done)) ?_) | refine AW.dr (id := 4) 8 ?_ | refine AW.dr (id := 9) 8 ?_ | refine AW.cT ?_ | refine AW.cF ?_ | (refine AW.c2 ?_ ?_ <;> (intro h; try simp only [Bool.not_eq_true', Bool.not_eq_false'] at h)) | refine AW.block ?_ | refine AW.exit ?_ | refine AW.ret ?_)
    | with_reducible refine (if_pos rfl).mpr ?_
    | with_reducible refine (if_neg (by decide)).mpr ?_) <;> (try dsimp only))
  · (repeat' (first | exact Wk.nil | refine Wk.any ?_ | (with_reducible refine Wk.same ?_) | refine Wk.of ?_ ?_)) <;> first | rfl | (simp; done)
  · intro i hv_i
    by_cases hlt_i : i < a.log.length
    · skip
      obtain ⟨x, hx⟩ : ∃ x, a.log[i]? = some x := ⟨_, List.getElem?_eq_getElem hlt_i⟩
      have hg := map_get (f := TEntry.en) hx
      have ht := lt_true (f := TEntry.en) hlt_i
      have hn := next_ix hlt_i (by omega)
      have hsu := ticks_succ (tk := TEntry.tick) (now := a.now) hx
      have hno := ticks_not (tk := TEntry.tick) (now := a.now) hx
      have hcle : Clo (.agg x.en) := Clo.agg x.clo_en
      repeat' ((first
        | ((with_reducible show AL _ _ _ _ _ _ _); first | refine AL.any ?_ | refine AL.any (h := POp.k Tryz.func86 (hc := isLog_s a.log g1 g2)) ?_ | refine AL.U ?_ | refine AL.F ?_ | refine AL.T ?_ | refine AL.T (h := POp.k Tryz.func77 (hc := inr_s _ _ _)) ?_ | refine AL.T (h := POp.k Tryz.func103 (hc := isLadder_s a.levels g3)) ?_ | refine AL.T (h := POp.k Tryz.func104 (hc := areEd_s a.editions g4 g5)) ?_ | refine AL.T (h := POp.k Tryz.func105 (hc := isCover_s a.cover.w a.cover.h a.cover.cells g6)) ?_ | refine AL.W ?_ | refine AL.W (h := fun h => by (try rw [h]); exact POp.k Tryz.func77 (hc := inr_s _ _ _)) ?_ | refine AL.W (h := fun h => by (try rw [h]); exact POp.k Tryz.func103 (hc := isLadder_s a.levels g3)) ?_ | refine AL.W (h := fun h => by (try rw [h]); exact POp.k Tryz.func104 (hc := areEd_s a.editions g4 g5)) ?_ | refine AL.W (h := fun h => by (try rw [h]); exact POp.k Tryz.func105 (hc := isCover_s a.cover.w a.cover.h a.cover.cells g6)) ?_ | refine AL.nil ?_)
        | ((with_reducible show DL _ _ _ _ _ _ _); first | refine DL.any ?_ | refine DL.nil ?_)
        | ((with_reducible show AW _ _ _ _ _ _); first | refine AW.seq ?_ | refine AW.region ?_ | refine AW.skip ?_ | refine AW.dr (id := 4) 8 ?_ | refine AW.dr (id := 9) 8 ?_ | refine AW.cT ?_ | refine AW.cF ?_ | (refine AW.c2 ?_ ?_ <;> (intro h; try simp only [Bool.not_eq_true', Bool.not_eq_false'] at h)) | refine AW.block ?_ | refine AW.exit ?_ | refine AW.ret ?_)
        | with_reducible refine (if_pos rfl).mpr ?_
        | with_reducible refine (if_neg (by decide)).mpr ?_) <;> (try dsimp only))
      all_goals first
        | (refine ⟨i + 1, _, ⟨hlt_i, by simp_all⟩, by omega, ?_, rfl, ?_, ?_⟩; (focus ((repeat' (first | exact Wk.nil | refine Wk.any ?_ | (with_reducible refine Wk.same ?_) | refine Wk.of ?_ ?_)) <;> (simp_all))); (focus ((repeat' (first | exact Fits.nil _ | refine Fits.cons ?_ ?_ | exact Fits.any _ | exact Fits.c _ _ | exact Fits.own (by rfl) | exact Fits.ref (by rfl) | exact Fits.clo (by assumption) | exact Fits.clo (clo_of (by rfl)) | exact Fits.clo (clo_fn _))))); (focus (exact fitsM_cons (clo_one a.clo_en) (FitsM.nil _))))
        | exact Fin.one rfl (RV.tmp (by rfl)) (clo_c _) ⟨by have hf := hno (by assumption); simp_all [isAtl], rfl⟩
    · have e_i : i = a.log.length := by omega
      have ht := lt_false (f := TEntry.en) (show ¬ i < a.log.length by omega)
      subst e_i
      repeat' ((first
        | ((with_reducible show AL _ _ _ _ _ _ _); first | refine AL.any ?_ | refine AL.any (h := POp.k Tryz.func86 (hc := isLog_s a.log g1 g2)) ?_ | refine AL.U ?_ | refine AL.F ?_ | refine AL.T ?_ | refine AL.T (h := POp.k Tryz.func77 (hc := inr_s _ _ _)) ?_ | refine AL.T (h := POp.k Tryz.func103 (hc := isLadder_s a.levels g3)) ?_ | refine AL.T (h := POp.k Tryz.func104 (hc := areEd_s a.editions g4 g5)) ?_ | refine AL.T (h := POp.k Tryz.func105 (hc := isCover_s a.cover.w a.cover.h a.cover.cells g6)) ?_ | refine AL.W ?_ | refine AL.W (h := fun h => by (try rw [h]); exact POp.k Tryz.func77 (hc := inr_s _ _ _)) ?_ | refine AL.W (h := fun h => by (try rw [h]); exact POp.k Tryz.func103 (hc := isLadder_s a.levels g3)) ?_ | refine AL.W (h := fun h => by (try rw [h]); exact POp.k Tryz.func104 (hc := areEd_s a.editions g4 g5)) ?_ | refine AL.W (h := fun h => by (try rw [h]); exact POp.k Tryz.func105 (hc := isCover_s a.cover.w a.cover.h a.cover.cells g6)) ?_ | refine AL.nil ?_)
        | ((with_reducible show DL _ _ _ _ _ _ _); first | refine DL.any ?_ | refine DL.nil ?_)
        | ((with_reducible show AW _ _ _ _ _ _); first | refine AW.seq ?_ | refine AW.region ?_ | refine AW.skip ?_ | (refine AW.loopD hE (fun k : Nat => [.any, .ref 0 0 7 0 0, .any, .any, I (k : Int), .any, .any, .any, .any, .any, .any, .any, .any, .any, .any, .any, .any, .any, .any, .any, .any, .any, .any, .any, .any, .any, .any, .any, .any, .any, .any, .any, .any, .any, .any, .any, .any, .any, .any, .any, .any, .any, .any, .any, .any, .any, .any, .any, .any, .any, .any, .any, .any, .any, .any, .any, .any, .any, .any, .any]) (fun k => [some ⟨32, 7, 0, true, [a.en]⟩]) (fun k => a.editions.length - k) (fun k => k ≤ a.editions.length ∧ ticks TEdition.tick a.now a.editions k = true) 0 ⟨Nat.zero_le _, by simp [ticks]⟩ ?_ (by first | rfl | (simp; done)) ?_) | refine AW.dr (id := 4) 8 ?_ | refine AW.dr (id := 9) 8 ?_ | refine AW.cT ?_ | refine AW.cF ?_ | (refine AW.c2 ?_ ?_ <;> (intro h; try simp only [Bool.not_eq_true', Bool.not_eq_false'] at h)) | refine AW.block ?_ | refine AW.exit ?_ | refine AW.ret ?_)
        | with_reducible refine (if_pos rfl).mpr ?_
        | with_reducible refine (if_neg (by decide)).mpr ?_) <;> (try dsimp only))
      · (repeat' (first | exact Wk.nil | refine Wk.any ?_ | (with_reducible refine Wk.same ?_) | refine Wk.of ?_ ?_)) <;> first | rfl | (simp; done)
      · intro k hv_k
        by_cases hlt_k : k < a.editions.length
        · skip
          obtain ⟨x, hx⟩ : ∃ x, a.editions[k]? = some x := ⟨_, List.getElem?_eq_getElem hlt_k⟩
          have hg := map_get (f := TEdition.en) hx
          have ht := lt_true (f := TEdition.en) hlt_k
          have hn := next_ix hlt_k (by omega)
          have hsu := ticks_succ (tk := TEdition.tick) (now := a.now) hx
          have hno := ticks_not (tk := TEdition.tick) (now := a.now) hx
          have hcle : Clo (.agg x.en) := Clo.agg x.clo_en
          repeat' ((first
            | ((with_reducible show AL _ _ _ _ _ _ _); first | refine AL.any ?_ | refine AL.any (h := POp.k Tryz.func86 (hc := isLog_s a.log g1 g2)) ?_ | refine AL.U ?_ | refine AL.F ?_ | refine AL.T ?_ | refine AL.T (h := POp.k Tryz.func77 (hc := inr_s _ _ _)) ?_ | refine AL.T (h := POp.k Tryz.func103 (hc := isLadder_s a.levels g3)) ?_ | refine AL.T (h := POp.k Tryz.func104 (hc := areEd_s a.editions g4 g5)) ?_ | refine AL.T (h := POp.k Tryz.func105 (hc := isCover_s a.cover.w a.cover.h a.cover.cells g6)) ?_ | refine AL.W ?_ | refine AL.W (h := fun h => by (try rw [h]); exact POp.k Tryz.func77 (hc := inr_s _ _ _)) ?_ | refine AL.W (h := fun h => by (try rw [h]); exact POp.k Tryz.func103 (hc := isLadder_s a.levels g3)) ?_ | refine AL.W (h := fun h => by (try rw [h]); exact POp.k Tryz.func104 (hc := areEd_s a.editions g4 g5)) ?_ | refine AL.W (h := fun h => by (try rw [h]); exact POp.k Tryz.func105 (hc := isCover_s a.cover.w a.cover.h a.cover.cells g6)) ?_ | refine AL.nil ?_)
            | ((with_reducible show DL _ _ _ _ _ _ _); first | refine DL.any ?_ | refine DL.nil ?_)
            | ((with_reducible show AW _ _ _ _ _ _); first | refine AW.seq ?_ | refine AW.region ?_ | refine AW.skip ?_ | refine AW.dr (id := 4) 8 ?_ | refine AW.dr (id := 9) 8 ?_ | refine AW.cT ?_ | refine AW.cF ?_ | (refine AW.c2 ?_ ?_ <;> (intro h; try simp only [Bool.not_eq_true', Bool.not_eq_false'] at h)) | refine AW.block ?_ | refine AW.exit ?_ | refine AW.ret ?_)
            | with_reducible refine (if_pos rfl).mpr ?_
            | with_reducible refine (if_neg (by decide)).mpr ?_) <;> (try dsimp only))
          all_goals first
            | (refine ⟨k + 1, _, ⟨hlt_k, by simp_all⟩, by omega, ?_, rfl, ?_, ?_⟩; (focus ((repeat' (first | exact Wk.nil | refine Wk.any ?_ | (with_reducible refine Wk.same ?_) | refine Wk.of ?_ ?_)) <;> (simp_all))); (focus ((repeat' (first | exact Fits.nil _ | refine Fits.cons ?_ ?_ | exact Fits.any _ | exact Fits.c _ _ | exact Fits.own (by rfl) | exact Fits.ref (by rfl) | exact Fits.clo (by assumption) | exact Fits.clo (clo_of (by rfl)) | exact Fits.clo (clo_fn _))))); (focus (exact fitsM_cons (clo_one a.clo_en) (FitsM.nil _))))
            | exact Fin.one rfl (RV.tmp (by rfl)) (clo_c _) ⟨by have hf := hno (by assumption); simp_all [isAtl], rfl⟩
        · have e_k : k = a.editions.length := by omega
          have ht := lt_false (f := TEdition.en) (show ¬ k < a.editions.length by omega)
          subst e_k
          repeat' ((first
            | ((with_reducible show AL _ _ _ _ _ _ _); first | refine AL.any ?_ | refine AL.any (h := POp.k Tryz.func86 (hc := isLog_s a.log g1 g2)) ?_ | refine AL.U ?_ | refine AL.F ?_ | refine AL.T ?_ | refine AL.T (h := POp.k Tryz.func77 (hc := inr_s _ _ _)) ?_ | refine AL.T (h := POp.k Tryz.func103 (hc := isLadder_s a.levels g3)) ?_ | refine AL.T (h := POp.k Tryz.func104 (hc := areEd_s a.editions g4 g5)) ?_ | refine AL.T (h := POp.k Tryz.func105 (hc := isCover_s a.cover.w a.cover.h a.cover.cells g6)) ?_ | refine AL.W ?_ | refine AL.W (h := fun h => by (try rw [h]); exact POp.k Tryz.func77 (hc := inr_s _ _ _)) ?_ | refine AL.W (h := fun h => by (try rw [h]); exact POp.k Tryz.func103 (hc := isLadder_s a.levels g3)) ?_ | refine AL.W (h := fun h => by (try rw [h]); exact POp.k Tryz.func104 (hc := areEd_s a.editions g4 g5)) ?_ | refine AL.W (h := fun h => by (try rw [h]); exact POp.k Tryz.func105 (hc := isCover_s a.cover.w a.cover.h a.cover.cells g6)) ?_ | refine AL.nil ?_)
            | ((with_reducible show DL _ _ _ _ _ _ _); first | refine DL.any ?_ | refine DL.nil ?_)
            | ((with_reducible show AW _ _ _ _ _ _); first | refine AW.seq ?_ | refine AW.region ?_ | refine AW.skip ?_ | refine AW.dr (id := 4) 8 ?_ | refine AW.dr (id := 9) 8 ?_ | refine AW.cT ?_ | refine AW.cF ?_ | (refine AW.c2 ?_ ?_ <;> (intro h; try simp only [Bool.not_eq_true', Bool.not_eq_false'] at h)) | refine AW.block ?_ | refine AW.exit ?_ | refine AW.ret ?_)
            | with_reducible refine (if_pos rfl).mpr ?_
            | with_reducible refine (if_neg (by decide)).mpr ?_) <;> (try dsimp only))
          all_goals first
            | exact Fin.one rfl (RV.tmp (by rfl)) (clo_c _) ⟨by simp_all [isAtl, atlIn], rfl⟩

set_option maxRecDepth 100000 in
set_option maxHeartbeats 2000000 in
theorem isAtl_i (a : TAtlas) (hgd : a.gd) : VCalls Tryz.prog 64 [.agg a.en] (fun r M => r = B (isAtl a) ∧ M = []) := by
  refine VCalls.bodyE Tryz.func64 rfl 60 rfl (fun E hE => ?_)
  simp only [List.reduceReplicate, List.cons_append, List.nil_append]
  have hclL : Clo (.ro 8 (a.log.map TEntry.en)) := clo_list TEntry.clo_en
  have hclV : Clo (.ro 3 (a.levels.map TLevel.en)) := clo_list TLevel.clo_en
  have hclE : Clo (.ro 3 (a.editions.map TEdition.en)) := clo_list TEdition.clo_en
  have hclA : Clo (.agg a.en) := Clo.agg a.clo_en
  obtain ⟨⟨g1, g2⟩, g3, ⟨g4, g5⟩, g6⟩ := id hgd
  dsimp only [TAtlas.en]
  repeat' ((first
    | ((with_reducible show AL _ _ _ _ _ _ _); first | refine AL.any ?_ | refine AL.any (h := POp.k Tryz.func89 (hc := isLog_i a.log g1 g2)) ?_ | refine AL.U ?_ | refine AL.F ?_ | refine AL.T ?_ | refine AL.T (h := POp.k Tryz.func78 (hc := inr_v _ _ _)) ?_ | refine AL.T (h := POp.k Tryz.func106 (hc := isLadder_i a.levels g3)) ?_ | refine AL.T (h := POp.k Tryz.func107 (hc := areEd_i a.editions g4 g5)) ?_ | refine AL.T (h := POp.k Tryz.func108 (hc := isCover_i a.cover.w a.cover.h a.cover.cells g6)) ?_ | refine AL.W ?_ | refine AL.W (h := fun h => by (try rw [h]); exact POp.k Tryz.func78 (hc := inr_v _ _ _)) ?_ | refine AL.W (h := fun h => by (try rw [h]); exact POp.k Tryz.func106 (hc := isLadder_i a.levels g3)) ?_ | refine AL.W (h := fun h => by (try rw [h]); exact POp.k Tryz.func107 (hc := areEd_i a.editions g4 g5)) ?_ | refine AL.W (h := fun h => by (try rw [h]); exact POp.k Tryz.func108 (hc := isCover_i a.cover.w a.cover.h a.cover.cells g6)) ?_ | refine AL.nil ?_)
    | ((with_reducible show AW _ _ _ _ _ _); first | refine AW.seq ?_ | refine AW.region ?_ | refine AW.skip ?_ | (refine AW.loopD hE (fun i : Nat => [.any, .ref 0 0 7 0 0, .any, .any, .any, .any, .any, .any, .any, .any, .any, .any, .any, .any, .any, .any, .any, .any, .any, .any, .any, .any, .any, .any, .any, .any, .any, .any, .any, .any, .any, .any, .any, .any, .any, .any, .ro 8 (a.log.map TEntry.en), I ((a.log.map TEntry.en).length : Int), I (i : Int), .any, .any, .any, .any, .any, .any, .any, .any, .any, .any, .any, .any, .any, .any, .any, .any, .any, .any, .any, .any, .any, .any]) (fun i => [some ⟨32, 7, 0, true, [a.en]⟩]) (fun i => a.log.length - i) (fun i => i ≤ a.log.length ∧ ticks TEntry.tick a.now a.log i = true) 0 ⟨Nat.zero_le _, by simp [ticks]⟩ ?_ (by first | rfl | (simp; done)) ?_) | refine AW.cT ?_ | refine AW.cF ?_ | (refine AW.c2 ?_ ?_ <;> (intro h; try simp only [Bool.not_eq_true', Bool.not_eq_false'] at h)) | refine AW.block ?_ | refine AW.exit ?_ | refine AW.ret ?_)
    | with_reducible refine (if_pos rfl).mpr ?_
    | with_reducible refine (if_neg (by decide)).mpr ?_) <;> (try dsimp only))
  any_goals first | exact Fin.one rfl (RV.tmp (by rfl)) (clo_c _) ⟨by rw [atl_f (by assumption)], rfl⟩
  · (repeat' (first | exact Wk.nil | refine Wk.any ?_ | (with_reducible refine Wk.same ?_) | refine Wk.of ?_ ?_)) <;> first | rfl | (simp; done)
  · intro i hv_i
    by_cases hlt_i : i < a.log.length
    · skip
      obtain ⟨x, hx⟩ : ∃ x, a.log[i]? = some x := ⟨_, List.getElem?_eq_getElem hlt_i⟩
      have hg := map_get (f := TEntry.en) hx
      have ht := lt_true (f := TEntry.en) hlt_i
      have hn := next_ix hlt_i (by omega)
      have hsu := ticks_succ (tk := TEntry.tick) (now := a.now) hx
      have hno := ticks_not (tk := TEntry.tick) (now := a.now) hx
      have hcle : Clo (.agg x.en) := Clo.agg x.clo_en
      repeat' ((first
        | ((with_reducible show AL _ _ _ _ _ _ _); first | refine AL.any ?_ | refine AL.any (h := POp.k Tryz.func89 (hc := isLog_i a.log g1 g2)) ?_ | refine AL.U ?_ | refine AL.F ?_ | refine AL.T ?_ | refine AL.T (h := POp.k Tryz.func78 (hc := inr_v _ _ _)) ?_ | refine AL.T (h := POp.k Tryz.func106 (hc := isLadder_i a.levels g3)) ?_ | refine AL.T (h := POp.k Tryz.func107 (hc := areEd_i a.editions g4 g5)) ?_ | refine AL.T (h := POp.k Tryz.func108 (hc := isCover_i a.cover.w a.cover.h a.cover.cells g6)) ?_ | refine AL.W ?_ | refine AL.W (h := fun h => by (try rw [h]); exact POp.k Tryz.func78 (hc := inr_v _ _ _)) ?_ | refine AL.W (h := fun h => by (try rw [h]); exact POp.k Tryz.func106 (hc := isLadder_i a.levels g3)) ?_ | refine AL.W (h := fun h => by (try rw [h]); exact POp.k Tryz.func107 (hc := areEd_i a.editions g4 g5)) ?_ | refine AL.W (h := fun h => by (try rw [h]); exact POp.k Tryz.func108 (hc := isCover_i a.cover.w a.cover.h a.cover.cells g6)) ?_ | refine AL.nil ?_)
        | ((with_reducible show AW _ _ _ _ _ _); first | refine AW.seq ?_ | refine AW.region ?_ | refine AW.skip ?_ | refine AW.cT ?_ | refine AW.cF ?_ | (refine AW.c2 ?_ ?_ <;> (intro h; try simp only [Bool.not_eq_true', Bool.not_eq_false'] at h)) | refine AW.block ?_ | refine AW.exit ?_ | refine AW.ret ?_)
        | with_reducible refine (if_pos rfl).mpr ?_
        | with_reducible refine (if_neg (by decide)).mpr ?_) <;> (try dsimp only))
      all_goals first
        | (refine ⟨i + 1, _, ⟨hlt_i, by simp_all⟩, by omega, ?_, rfl, ?_, ?_⟩; (focus ((repeat' (first | exact Wk.nil | refine Wk.any ?_ | (with_reducible refine Wk.same ?_) | refine Wk.of ?_ ?_)) <;> (simp_all))); (focus ((repeat' (first | exact Fits.nil _ | refine Fits.cons ?_ ?_ | exact Fits.any _ | exact Fits.c _ _ | exact Fits.own (by rfl) | exact Fits.ref (by rfl) | exact Fits.clo (by assumption) | exact Fits.clo (clo_of (by rfl)) | exact Fits.clo (clo_fn _))))); (focus (exact fitsM_cons (clo_one a.clo_en) (FitsM.nil _))))
        | exact Fin.one rfl (RV.tmp (by rfl)) (clo_c _) ⟨by have hf := hno (by assumption); simp_all [isAtl], rfl⟩
    · have e_i : i = a.log.length := by omega
      have ht := lt_false (f := TEntry.en) (show ¬ i < a.log.length by omega)
      subst e_i
      repeat' ((first
        | ((with_reducible show AL _ _ _ _ _ _ _); first | refine AL.any ?_ | refine AL.any (h := POp.k Tryz.func89 (hc := isLog_i a.log g1 g2)) ?_ | refine AL.U ?_ | refine AL.F ?_ | refine AL.T ?_ | refine AL.T (h := POp.k Tryz.func78 (hc := inr_v _ _ _)) ?_ | refine AL.T (h := POp.k Tryz.func106 (hc := isLadder_i a.levels g3)) ?_ | refine AL.T (h := POp.k Tryz.func107 (hc := areEd_i a.editions g4 g5)) ?_ | refine AL.T (h := POp.k Tryz.func108 (hc := isCover_i a.cover.w a.cover.h a.cover.cells g6)) ?_ | refine AL.W ?_ | refine AL.W (h := fun h => by (try rw [h]); exact POp.k Tryz.func78 (hc := inr_v _ _ _)) ?_ | refine AL.W (h := fun h => by (try rw [h]); exact POp.k Tryz.func106 (hc := isLadder_i a.levels g3)) ?_ | refine AL.W (h := fun h => by (try rw [h]); exact POp.k Tryz.func107 (hc := areEd_i a.editions g4 g5)) ?_ | refine AL.W (h := fun h => by (try rw [h]); exact POp.k Tryz.func108 (hc := isCover_i a.cover.w a.cover.h a.cover.cells g6)) ?_ | refine AL.nil ?_)
        | ((with_reducible show AW _ _ _ _ _ _); first | refine AW.seq ?_ | refine AW.region ?_ | refine AW.skip ?_ | (refine AW.loopD hE (fun k : Nat => [.any, .ref 0 0 7 0 0, .any, .any, .any, .any, .any, .any, .any, .any, .any, .any, .any, .any, .any, .any, .any, .any, .any, .any, .any, .any, .any, .any, .any, .any, .any, .any, .any, .any, .any, .any, .any, .any, .any, .any, .any, .any, .any, .any, .any, .any, .any, .any, .any, .any, .any, .any, .any, .ro 3 (a.editions.map TEdition.en), I ((a.editions.map TEdition.en).length : Int), I (k : Int), .any, .any, .any, .any, .any, .any, .any, .any, .any]) (fun k => [some ⟨32, 7, 0, true, [a.en]⟩]) (fun k => a.editions.length - k) (fun k => k ≤ a.editions.length ∧ ticks TEdition.tick a.now a.editions k = true) 0 ⟨Nat.zero_le _, by simp [ticks]⟩ ?_ (by first | rfl | (simp; done)) ?_) | refine AW.cT ?_ | refine AW.cF ?_ | (refine AW.c2 ?_ ?_ <;> (intro h; try simp only [Bool.not_eq_true', Bool.not_eq_false'] at h)) | refine AW.block ?_ | refine AW.exit ?_ | refine AW.ret ?_)
        | with_reducible refine (if_pos rfl).mpr ?_
        | with_reducible refine (if_neg (by decide)).mpr ?_) <;> (try dsimp only))
      · (repeat' (first | exact Wk.nil | refine Wk.any ?_ | (with_reducible refine Wk.same ?_) | refine Wk.of ?_ ?_)) <;> first | rfl | (simp; done)
      · intro k hv_k
        by_cases hlt_k : k < a.editions.length
        · skip
          obtain ⟨x, hx⟩ : ∃ x, a.editions[k]? = some x := ⟨_, List.getElem?_eq_getElem hlt_k⟩
          have hg := map_get (f := TEdition.en) hx
          have ht := lt_true (f := TEdition.en) hlt_k
          have hn := next_ix hlt_k (by omega)
          have hsu := ticks_succ (tk := TEdition.tick) (now := a.now) hx
          have hno := ticks_not (tk := TEdition.tick) (now := a.now) hx
          have hcle : Clo (.agg x.en) := Clo.agg x.clo_en
          repeat' ((first
            | ((with_reducible show AL _ _ _ _ _ _ _); first | refine AL.any ?_ | refine AL.any (h := POp.k Tryz.func89 (hc := isLog_i a.log g1 g2)) ?_ | refine AL.U ?_ | refine AL.F ?_ | refine AL.T ?_ | refine AL.T (h := POp.k Tryz.func78 (hc := inr_v _ _ _)) ?_ | refine AL.T (h := POp.k Tryz.func106 (hc := isLadder_i a.levels g3)) ?_ | refine AL.T (h := POp.k Tryz.func107 (hc := areEd_i a.editions g4 g5)) ?_ | refine AL.T (h := POp.k Tryz.func108 (hc := isCover_i a.cover.w a.cover.h a.cover.cells g6)) ?_ | refine AL.W ?_ | refine AL.W (h := fun h => by (try rw [h]); exact POp.k Tryz.func78 (hc := inr_v _ _ _)) ?_ | refine AL.W (h := fun h => by (try rw [h]); exact POp.k Tryz.func106 (hc := isLadder_i a.levels g3)) ?_ | refine AL.W (h := fun h => by (try rw [h]); exact POp.k Tryz.func107 (hc := areEd_i a.editions g4 g5)) ?_ | refine AL.W (h := fun h => by (try rw [h]); exact POp.k Tryz.func108 (hc := isCover_i a.cover.w a.cover.h a.cover.cells g6)) ?_ | refine AL.nil ?_)
            | ((with_reducible show AW _ _ _ _ _ _); first | refine AW.seq ?_ | refine AW.region ?_ | refine AW.skip ?_ | refine AW.cT ?_ | refine AW.cF ?_ | (refine AW.c2 ?_ ?_ <;> (intro h; try simp only [Bool.not_eq_true', Bool.not_eq_false'] at h)) | refine AW.block ?_ | refine AW.exit ?_ | refine AW.ret ?_)
            | with_reducible refine (if_pos rfl).mpr ?_
            | with_reducible refine (if_neg (by decide)).mpr ?_) <;> (try dsimp only))
          all_goals first
            | (refine ⟨k + 1, _, ⟨hlt_k, by simp_all⟩, by omega, ?_, rfl, ?_, ?_⟩; (focus ((repeat' (first | exact Wk.nil | refine Wk.any ?_ | (with_reducible refine Wk.same ?_) | refine Wk.of ?_ ?_)) <;> (simp_all))); (focus ((repeat' (first | exact Fits.nil _ | refine Fits.cons ?_ ?_ | exact Fits.any _ | exact Fits.c _ _ | exact Fits.own (by rfl) | exact Fits.ref (by rfl) | exact Fits.clo (by assumption) | exact Fits.clo (clo_of (by rfl)) | exact Fits.clo (clo_fn _))))); (focus (exact fitsM_cons (clo_one a.clo_en) (FitsM.nil _))))
            | exact Fin.one rfl (RV.tmp (by rfl)) (clo_c _) ⟨by have hf := hno (by assumption); simp_all [isAtl], rfl⟩
        · have e_k : k = a.editions.length := by omega
          have ht := lt_false (f := TEdition.en) (show ¬ k < a.editions.length by omega)
          subst e_k
          repeat' ((first
            | ((with_reducible show AL _ _ _ _ _ _ _); first | refine AL.any ?_ | refine AL.any (h := POp.k Tryz.func89 (hc := isLog_i a.log g1 g2)) ?_ | refine AL.U ?_ | refine AL.F ?_ | refine AL.T ?_ | refine AL.T (h := POp.k Tryz.func78 (hc := inr_v _ _ _)) ?_ | refine AL.T (h := POp.k Tryz.func106 (hc := isLadder_i a.levels g3)) ?_ | refine AL.T (h := POp.k Tryz.func107 (hc := areEd_i a.editions g4 g5)) ?_ | refine AL.T (h := POp.k Tryz.func108 (hc := isCover_i a.cover.w a.cover.h a.cover.cells g6)) ?_ | refine AL.W ?_ | refine AL.W (h := fun h => by (try rw [h]); exact POp.k Tryz.func78 (hc := inr_v _ _ _)) ?_ | refine AL.W (h := fun h => by (try rw [h]); exact POp.k Tryz.func106 (hc := isLadder_i a.levels g3)) ?_ | refine AL.W (h := fun h => by (try rw [h]); exact POp.k Tryz.func107 (hc := areEd_i a.editions g4 g5)) ?_ | refine AL.W (h := fun h => by (try rw [h]); exact POp.k Tryz.func108 (hc := isCover_i a.cover.w a.cover.h a.cover.cells g6)) ?_ | refine AL.nil ?_)
            | ((with_reducible show AW _ _ _ _ _ _); first | refine AW.seq ?_ | refine AW.region ?_ | refine AW.skip ?_ | refine AW.cT ?_ | refine AW.cF ?_ | (refine AW.c2 ?_ ?_ <;> (intro h; try simp only [Bool.not_eq_true', Bool.not_eq_false'] at h)) | refine AW.block ?_ | refine AW.exit ?_ | refine AW.ret ?_)
            | with_reducible refine (if_pos rfl).mpr ?_
            | with_reducible refine (if_neg (by decide)).mpr ?_) <;> (try dsimp only))
          all_goals first
            | exact Fin.one rfl (RV.tmp (by rfl)) (clo_c _) ⟨by simp_all [isAtl, atlIn], rfl⟩

end Go.Proofs.YtacbpfbelcdeiaaGreat.Abs

/- The walks of SourceOf. -/
namespace Go.Proofs.YtacbpfbelcdeiaaGreat.Abs
open Go.Proofs Go.RowKit
set_option linter.unusedVariables false
set_option linter.unusedSimpArgs false
attribute [local irreducible] OpA AL AW DL DLM DLR DLS QOp POp VCalls VCallsI
/-! ### Sources of logs -/
def srcTo (l : List TEntry) (i : Nat) : List TFeature := ((l.take i).filter fun e => !e.gone).map TEntry.feature
def srcOf (l : List TEntry) : List TFeature := if isLog l = true then srcTo l l.length else []
theorem srcOf_t {l : List TEntry} (h : isLog l = true) : srcOf l = srcTo l l.length := if_pos h
theorem srcOf_f {l : List TEntry} (h : isLog l = false) : srcOf l = [] := if_neg (by rw [h]; decide)
theorem srcOf_cases {l : List TEntry} {i : Nat} {x : TEntry} (h : l[i]? = some x) : (x.gone = true ∧ srcTo l (i + 1) = srcTo l i) ∨ (x.gone = false ∧ srcTo l (i + 1) = srcTo l i ++ [x.feature]) := by
  unfold srcTo
  rw [take_succ_of h, List.filter_append, List.map_append]
  cases hgo : x.gone <;> simp [hgo]
theorem srcTo_len (l : List TEntry) (i : Nat) : (srcTo l i).length ≤ i := by
  unfold srcTo
  rw [List.length_map]
  exact Nat.le_trans (List.length_filter_le _ _) (by rw [List.length_take]; omega)
theorem srcTo_mem {l : List TEntry} {i : Nat} {p : TFeature → Prop} (hp : ∀ e ∈ l, p e.feature) : ∀ y ∈ srcTo l i, p y := fun y hy => by
  unfold srcTo at hy
  obtain ⟨e, he, rfl⟩ := List.mem_map.1 hy
  exact hp e (List.mem_of_mem_take (List.mem_filter.1 he).1)
theorem srcOf_len {l : List TEntry} (hl : l.length ≤ 1048576) : (srcOf l).length ≤ 1048576 := by
  unfold srcOf
  split
  · exact Nat.le_trans (srcTo_len l _) hl
  · exact Nat.zero_le _
theorem srcOf_mem {l : List TEntry} {p : TFeature → Prop} (hp : ∀ e ∈ l, p e.feature) : ∀ y ∈ srcOf l, p y := by
  unfold srcOf
  split
  · exact srcTo_mem hp
  · intro y hy; simp at hy
def nLog (l : List TEntry) : Nat := if isLog l = true then l.length else 0
theorem nLog_t {l : List TEntry} {i : Nat} (h : i < nLog l) : isLog l = true ∧ i < l.length := by
  unfold nLog at h
  split at h
  · exact ⟨by assumption, h⟩
  · omega
theorem srcOf_n (l : List TEntry) : srcTo l (nLog l) = srcOf l := by
  unfold nLog srcOf
  split
  · rfl
  · simp [srcTo]

set_option maxRecDepth 100000 in
set_option maxHeartbeats 2000000 in
theorem src_i (l : List TEntry) (hl : l.length ≤ 1048576) (hp : ∀ e ∈ l, e.feature.gd) : VCalls Tryz.prog 83 [.ro 8 (l.map TEntry.en)] (fun r M => r = .own 0 0 ∧ M = [some ⟨69, 5, 0, false, (srcOf l).map TFeature.ed⟩]) := by
  refine VCalls.bodyE Tryz.func83 rfl 27 rfl (fun E hE => ?_)
  simp only [List.reduceReplicate, List.cons_append, List.nil_append]
  have hclo : Clo (.ro 8 (l.map TEntry.en)) := clo_list TEntry.clo_en
  repeat' ((first
    | ((with_reducible show AL _ _ _ _ _ _ _); first | refine AL.any (h := POp.gh POp.mk (Gh.absorbA (q := 0) (id := 2) (j := 4) rfl rfl rfl rfl rfl rfl (DCl.map (fun _ => rfl)) TPoint.und)) ?_ | refine AL.any ?_ | refine AL.any (h := POp.k Tryz.func89 (hc := isLog_i _ (by assumption) (by assumption))) ?_ | refine AL.any (h := POp.O Tryz.func122 (hc := cloneF x.feature (by assumption))) ?_ | refine AL.nil ?_)
    | ((with_reducible show AW _ _ _ _ _ _); first | refine AW.seq ?_ | refine AW.region ?_ | refine AW.skip ?_ | (refine AW.loopD hE (fun i : Nat => [.any, .any, .any, .own 0 (srcTo l i).length, .any, .any, .any, .any, .any, .any, .any, .ro 8 (l.map TEntry.en), I ((l.map TEntry.en).length : Int), I (i : Int), .any, .any, .any, .any, .any, .any, .any, .any, .any, .any, .any, .any, .any, .any]) (fun i => [some ⟨69, 5, (srcTo l i).length, false, (srcTo l i).map TFeature.ed⟩]) (fun i => l.length - i) (fun i => i ≤ l.length) 0 (by simp) ?_ (by first | rfl | (simp [fil_zero]; done)) ?_) | refine AW.cT ?_ | refine AW.cF ?_ | (refine AW.c2 ?_ ?_ <;> (intro h; try simp only [Bool.not_eq_true', Bool.not_eq_false'] at h)) | refine AW.block ?_ | refine AW.exit ?_ | refine AW.ret ?_)
    | with_reducible refine (if_pos rfl).mpr ?_
    | with_reducible refine (if_neg (by decide)).mpr ?_) <;> (try dsimp only))
  · (rw [srcOf_f (by assumption)]); exact Fin.rows1 [0] rfl (RV.tmp (by rfl)) (by decide) (by repeat' (first | exact trivial | refine ⟨⟨_, rfl, ?_⟩, ?_⟩ | exact DCl.b rfl | exact DCl.map (fun _ => rfl))) (by repeat' (first | exact all_nil | refine all_cons ?_ ?_ | exact ⟨⟨_, rfl, rfl⟩, rfl⟩ | (show Clo _; exact clo_of (by rfl)))) ⟨rfl, rfl⟩
  · (repeat' (first | exact Wk.nil | refine Wk.any ?_ | (with_reducible refine Wk.same ?_) | refine Wk.of ?_ ?_)) <;> first | rfl | (rfl)
  · intro i hi
    have hclo : Clo (.ro 8 (l.map TEntry.en)) := clo_list TEntry.clo_en
    by_cases hlt : i < l.length
    · obtain ⟨x, hx⟩ : ∃ x, l[i]? = some x := ⟨_, List.getElem?_eq_getElem hlt⟩
      have hg := map_get (f := TEntry.en) hx
      have ht := lt_true (f := TEntry.en) hlt
      have hn := next_ix hlt (by omega)
      have hgx := hp x (List.mem_of_getElem? hx)
      have hgs := hgx.1
      have hln := srcTo_len l i
      have hclP : Clo (.ro 2 (x.feature.points.map TPoint.en)) := clo_list TPoint.clo_en
      have hclF : Clo (.agg x.feature.en) := Clo.agg x.feature.clo_en
      have hcle : Clo (.agg x.en) := Clo.agg x.clo_en
      rcases srcOf_cases hx with ⟨hgo, hsr⟩ | ⟨hgo, hsr⟩
      rotate_left 1
      have hm : (srcTo l (i + 1)).map TFeature.ed = (srcTo l i).map TFeature.ed ++ [x.feature.ed] := by rw [hsr, List.map_append]; rfl
      have hlen : (srcTo l (i + 1)).length = (srcTo l i).length + 1 := by rw [hsr, List.length_append]; rfl
      rotate_left 1
      repeat' ((first
        | ((with_reducible show AL _ _ _ _ _ _ _); first | refine AL.any (h := POp.gh POp.mk (Gh.absorbA (q := 0) (id := 2) (j := 4) rfl rfl rfl rfl rfl rfl (DCl.map (fun _ => rfl)) TPoint.und)) ?_ | refine AL.any ?_ | refine AL.any (h := POp.k Tryz.func89 (hc := isLog_i _ (by assumption) (by assumption))) ?_ | refine AL.any (h := POp.O Tryz.func122 (hc := cloneF x.feature (by assumption))) ?_ | refine AL.nil ?_)
        | ((with_reducible show AW _ _ _ _ _ _); first | refine AW.seq ?_ | refine AW.region ?_ | refine AW.skip ?_ | refine AW.cT ?_ | refine AW.cF ?_ | (refine AW.c2 ?_ ?_ <;> (intro h; try simp only [Bool.not_eq_true', Bool.not_eq_false'] at h)) | refine AW.block ?_ | refine AW.exit ?_ | refine AW.ret ?_)
        | with_reducible refine (if_pos rfl).mpr ?_
        | with_reducible refine (if_neg (by decide)).mpr ?_) <;> (try dsimp only))
      all_goals first
        | (refine ⟨i + 1, _, hlt, by omega, ?_, by first | (rw [hm, hlen] <;> rfl) | (rw [hsr] <;> rfl), ?_, ?_⟩; (focus ((repeat' (first | exact Wk.nil | refine Wk.any ?_ | (with_reducible refine Wk.same ?_) | refine Wk.of ?_ ?_)) <;> (first | rfl | (rw [hlen]; done) | (rw [hsr]; done) | simp_all))); (focus ((repeat' (first | exact Fits.nil _ | refine Fits.cons ?_ ?_ | exact Fits.any _ | exact Fits.c _ _ | exact Fits.own (by rfl) | exact Fits.ref (by rfl) | exact Fits.clo (by assumption) | exact Fits.clo (clo_of (by rfl)) | exact Fits.clo (clo_fn _))))); (focus (exact fits_dcl (DCl.map (fun _ => rfl)))))
    · have ht := lt_false (f := TEntry.en) hlt
      have e : i = l.length := by omega
      subst e
      try rw [List.take_length]
      repeat' ((first
        | ((with_reducible show AL _ _ _ _ _ _ _); first | refine AL.any (h := POp.gh POp.mk (Gh.absorbA (q := 0) (id := 2) (j := 4) rfl rfl rfl rfl rfl rfl (DCl.map (fun _ => rfl)) TPoint.und)) ?_ | refine AL.any ?_ | refine AL.any (h := POp.k Tryz.func89 (hc := isLog_i _ (by assumption) (by assumption))) ?_ | refine AL.any (h := POp.O Tryz.func122 (hc := cloneF x.feature (by assumption))) ?_ | refine AL.nil ?_)
        | ((with_reducible show AW _ _ _ _ _ _); first | refine AW.seq ?_ | refine AW.region ?_ | refine AW.skip ?_ | refine AW.cT ?_ | refine AW.cF ?_ | (refine AW.c2 ?_ ?_ <;> (intro h; try simp only [Bool.not_eq_true', Bool.not_eq_false'] at h)) | refine AW.block ?_ | refine AW.exit ?_ | refine AW.ret ?_)
        | with_reducible refine (if_pos rfl).mpr ?_
        | with_reducible refine (if_neg (by decide)).mpr ?_) <;> (try dsimp only))
      all_goals (rw [srcOf_t (by assumption)]); exact Fin.rows1 [0] rfl (RV.tmp (by rfl)) (by decide) (by repeat' (first | exact trivial | refine ⟨⟨_, rfl, ?_⟩, ?_⟩ | exact DCl.b rfl | exact DCl.map (fun _ => rfl))) (by repeat' (first | exact all_nil | refine all_cons ?_ ?_ | exact ⟨⟨_, rfl, rfl⟩, rfl⟩ | (show Clo _; exact clo_of (by rfl)))) ⟨rfl, rfl⟩

set_option maxRecDepth 100000 in
set_option maxHeartbeats 2000000 in
theorem src_s (l : List TEntry) (hl : l.length ≤ 1048576) (hp : ∀ e ∈ l, e.feature.gd) : VCalls Tryz.prog 81 [.ro 8 (l.map TEntry.en)] (fun r M => r = .own 0 0 ∧ M = [some ⟨69, 5, 0, false, (srcOf l).map TFeature.ed⟩]) := by
  refine VCalls.bodyE Tryz.func81 rfl 31 rfl (fun E hE => ?_)
  simp only [List.reduceReplicate, List.cons_append, List.nil_append]
  have hclo : Clo (.ro 8 (l.map TEntry.en)) := clo_list TEntry.clo_en
  repeat' ((first
    | ((with_reducible show AL _ _ _ _ _ _ _); first | refine AL.any (h := POp.gh POp.mk (Gh.absorbA (q := 0) (id := 1) (j := 4) rfl rfl rfl rfl rfl rfl (DCl.map (fun _ => rfl)) TPoint.und)) ?_ | refine AL.any ?_ | refine AL.any (h := POp.O Tryz.func119 (hc := cloneF_s x.feature (by assumption))) ?_ | refine AL.U ?_ | refine AL.F ?_ | refine AL.T ?_ | refine AL.T (h := POp.k Tryz.func86 (hc := isLog_s _ (by assumption) (by assumption))) ?_ | refine AL.W ?_ | refine AL.W (h := fun h => by (try rw [h]); exact POp.k Tryz.func86 (hc := isLog_s _ (by assumption) (by assumption))) ?_ | refine AL.nil ?_)
    | ((with_reducible show AW _ _ _ _ _ _); first | refine AW.seq ?_ | refine AW.region ?_ | refine AW.skip ?_ | (refine AW.loopD hE (fun i : Nat => [.ro 8 (l.map TEntry.en), .any, .any, .own 0 (srcTo l i).length, I (i : Int), .any, .any, .any, .any, .any, .any, .any, .any, .any, .any, .any, .any, .any, .any, .any, .any, .any, .any, .any, .any, .any, .any, .any, .any, .any, .any, .any]) (fun i => [some ⟨69, 5, (srcTo l i).length, false, (srcTo l i).map TFeature.ed⟩]) (fun i => nLog l - i) (fun i => i ≤ nLog l) 0 (by simp) ?_ (by first | rfl | (simp [fil_zero]; done)) ?_) | refine AW.cT ?_ | refine AW.cF ?_ | (refine AW.c2 ?_ ?_ <;> (intro h; try simp only [Bool.not_eq_true', Bool.not_eq_false'] at h)) | refine AW.block ?_ | refine AW.exit ?_ | refine AW.ret ?_)
    | with_reducible refine (if_pos rfl).mpr ?_
    | with_reducible refine (if_neg (by decide)).mpr ?_) <;> (try dsimp only))
  · (repeat' (first | exact Wk.nil | refine Wk.any ?_ | (with_reducible refine Wk.same ?_) | refine Wk.of ?_ ?_)) <;> first | rfl | (rfl)
  · intro i hi
    have hclo : Clo (.ro 8 (l.map TEntry.en)) := clo_list TEntry.clo_en
    by_cases hlt : i < nLog l
    · skip
      obtain ⟨hIL, hN⟩ := nLog_t hlt
      obtain ⟨x, hx⟩ : ∃ x, l[i]? = some x := ⟨_, List.getElem?_eq_getElem hN⟩
      have hg := map_get (f := TEntry.en) hx
      have ht : (decide ((i : Int) < ((l.map TEntry.en).length : Int)) && isLog l) = true := by rw [hIL]; simp; omega
      have hn := next_ix hN (by omega)
      have hgx := hp x (List.mem_of_getElem? hx)
      have hgs := hgx.1
      have hln := srcTo_len l i
      have hclP : Clo (.ro 2 (x.feature.points.map TPoint.en)) := clo_list TPoint.clo_en
      have hclF : Clo (.agg x.feature.en) := Clo.agg x.feature.clo_en
      have hcle : Clo (.agg x.en) := Clo.agg x.clo_en
      rcases srcOf_cases hx with ⟨hgo, hsr⟩ | ⟨hgo, hsr⟩
      rotate_left 1
      have hm : (srcTo l (i + 1)).map TFeature.ed = (srcTo l i).map TFeature.ed ++ [x.feature.ed] := by rw [hsr, List.map_append]; rfl
      have hlen : (srcTo l (i + 1)).length = (srcTo l i).length + 1 := by rw [hsr, List.length_append]; rfl
      rotate_left 1
      repeat' ((first
        | ((with_reducible show AL _ _ _ _ _ _ _); first | refine AL.any (h := POp.gh POp.mk (Gh.absorbA (q := 0) (id := 1) (j := 4) rfl rfl rfl rfl rfl rfl (DCl.map (fun _ => rfl)) TPoint.und)) ?_ | refine AL.any ?_ | refine AL.any (h := POp.O Tryz.func119 (hc := cloneF_s x.feature (by assumption))) ?_ | refine AL.U ?_ | refine AL.F ?_ | refine AL.T ?_ | refine AL.T (h := POp.k Tryz.func86 (hc := isLog_s _ (by assumption) (by assumption))) ?_ | refine AL.W ?_ | refine AL.W (h := fun h => by (try rw [h]); exact POp.k Tryz.func86 (hc := isLog_s _ (by assumption) (by assumption))) ?_ | refine AL.nil ?_)
        | ((with_reducible show AW _ _ _ _ _ _); first | refine AW.seq ?_ | refine AW.region ?_ | refine AW.skip ?_ | refine AW.cT ?_ | refine AW.cF ?_ | (refine AW.c2 ?_ ?_ <;> (intro h; try simp only [Bool.not_eq_true', Bool.not_eq_false'] at h)) | refine AW.block ?_ | refine AW.exit ?_ | refine AW.ret ?_)
        | with_reducible refine (if_pos rfl).mpr ?_
        | with_reducible refine (if_neg (by decide)).mpr ?_) <;> (try dsimp only))
      all_goals first
        | (refine ⟨i + 1, _, hlt, by omega, ?_, by first | (rw [hm, hlen] <;> rfl) | (rw [hsr] <;> rfl), ?_, ?_⟩; (focus ((repeat' (first | exact Wk.nil | refine Wk.any ?_ | (with_reducible refine Wk.same ?_) | refine Wk.of ?_ ?_)) <;> (first | rfl | (rw [hlen]; done) | (rw [hsr]; done) | simp_all))); (focus ((repeat' (first | exact Fits.nil _ | refine Fits.cons ?_ ?_ | exact Fits.any _ | exact Fits.c _ _ | exact Fits.own (by rfl) | exact Fits.ref (by rfl) | exact Fits.clo (by assumption) | exact Fits.clo (clo_of (by rfl)) | exact Fits.clo (clo_fn _))))); (focus (exact fits_dcl (DCl.map (fun _ => rfl)))))
    · have e : i = nLog l := by omega
      have ht : (decide ((i : Int) < ((l.map TEntry.en).length : Int)) && isLog l) = false := by
        rw [e]
        unfold nLog
        split
        · simp
        · simp_all
      subst e
      repeat' ((first
        | ((with_reducible show AL _ _ _ _ _ _ _); first | refine AL.any (h := POp.gh POp.mk (Gh.absorbA (q := 0) (id := 1) (j := 4) rfl rfl rfl rfl rfl rfl (DCl.map (fun _ => rfl)) TPoint.und)) ?_ | refine AL.any ?_ | refine AL.any (h := POp.O Tryz.func119 (hc := cloneF_s x.feature (by assumption))) ?_ | refine AL.U ?_ | refine AL.F ?_ | refine AL.T ?_ | refine AL.T (h := POp.k Tryz.func86 (hc := isLog_s _ (by assumption) (by assumption))) ?_ | refine AL.W ?_ | refine AL.W (h := fun h => by (try rw [h]); exact POp.k Tryz.func86 (hc := isLog_s _ (by assumption) (by assumption))) ?_ | refine AL.nil ?_)
        | ((with_reducible show AW _ _ _ _ _ _); first | refine AW.seq ?_ | refine AW.region ?_ | refine AW.skip ?_ | refine AW.cT ?_ | refine AW.cF ?_ | (refine AW.c2 ?_ ?_ <;> (intro h; try simp only [Bool.not_eq_true', Bool.not_eq_false'] at h)) | refine AW.block ?_ | refine AW.exit ?_ | refine AW.ret ?_)
        | with_reducible refine (if_pos rfl).mpr ?_
        | with_reducible refine (if_neg (by decide)).mpr ?_) <;> (try dsimp only))
      all_goals (simp only [srcOf_n]); exact Fin.rows1 [0] rfl (RV.tmp (by rfl)) (by decide) (by repeat' (first | exact trivial | refine ⟨⟨_, rfl, ?_⟩, ?_⟩ | exact DCl.b rfl | exact DCl.map (fun _ => rfl))) (by repeat' (first | exact all_nil | refine all_cons ?_ ?_ | exact ⟨⟨_, rfl, rfl⟩, rfl⟩ | (show Clo _; exact clo_of (by rfl)))) ⟨rfl, rfl⟩

theorem src_i' (l : List TEntry) (hl : l.length ≤ 1048576) (hp : ∀ e ∈ l, e.feature.gd) : VCalls Tryz.prog 83 [.ro 8 (l.map TEntry.en)] (fun r M => r = .ro 5 ((srcOf l).map TFeature.en) ∧ M = []) := VCalls.frz (src_i l hl hp) (by repeat' (first | exact VwL.nil | refine VwL.cons ?_ ?_ | (refine View.own (by rfl) (by rfl) (by rfl) (by rfl) ?_ ?_ <;> first | exact DCl.b rfl | exact DCl.map (fun _ => rfl) | assumption | rfl | exact TPoint.und | exact TSegment.und | exact TBox.und | exact TFeature.und | exact TMeet.und | exact TPlace.und | exact TCover.und | exact TLabel.und | exact TPiece.und | exact TLevel.und | exact TChart.und | exact TReason.und | exact TEdit.und | exact TEntry.und | exact TEdition.und | exact TListing.und | exact TAtlas.und | exact TEvent.und | exact TWindow.und | exact und_nil | exact und_I | assumption) | refine View.agg' ?_ | exact View.same (by first | exact clo_of (by rfl) | assumption | exact clo_fn _) | exact View.nil))
theorem src_s' (l : List TEntry) (hl : l.length ≤ 1048576) (hp : ∀ e ∈ l, e.feature.gd) : VCalls Tryz.prog 81 [.ro 8 (l.map TEntry.en)] (fun r M => r = .ro 5 ((srcOf l).map TFeature.en) ∧ M = []) := VCalls.frz (src_s l hl hp) (by repeat' (first | exact VwL.nil | refine VwL.cons ?_ ?_ | (refine View.own (by rfl) (by rfl) (by rfl) (by rfl) ?_ ?_ <;> first | exact DCl.b rfl | exact DCl.map (fun _ => rfl) | assumption | rfl | exact TPoint.und | exact TSegment.und | exact TBox.und | exact TFeature.und | exact TMeet.und | exact TPlace.und | exact TCover.und | exact TLabel.und | exact TPiece.und | exact TLevel.und | exact TChart.und | exact TReason.und | exact TEdit.und | exact TEntry.und | exact TEdition.und | exact TListing.und | exact TAtlas.und | exact TEvent.und | exact TWindow.und | exact und_nil | exact und_I | assumption) | refine View.agg' ?_ | exact View.same (by first | exact clo_of (by rfl) | assumption | exact clo_fn _) | exact View.nil))
end Go.Proofs.YtacbpfbelcdeiaaGreat.Abs

/- The walks of AddEdition. -/
namespace Go.Proofs.YtacbpfbelcdeiaaGreat.Abs
open Go.Proofs Go.RowKit
set_option linter.unusedVariables false
set_option linter.unusedSimpArgs false
attribute [local irreducible] OpA AL AW DL DLM DLR DLS QOp POp VCalls VCallsI
theorem areEd_long {l : List TEdition} (h : 6 < l.length) : areEd l = false := by
  unfold areEd
  rw [decide_eq_false (by omega), Bool.and_false]
def edNew (l : List TEdition) (t : Int) (s : List TFeature) : TEdition := ⟨t, s, sealOf (prevSeal l l.length) t s⟩
def addOk (l : List TEdition) (t : Int) (s : List TFeature) : Bool := areEd (l ++ [edNew l t s])
def addEd (l : List TEdition) (t : Int) (s : List TFeature) : List TEdition := if addOk l t s = true then l ++ [edNew l t s] else l
theorem addEd_t {l : List TEdition} {t : Int} {s : List TFeature} (h : addOk l t s = true) : addEd l t s = l ++ [edNew l t s] := if_pos h
theorem addEd_f {l : List TEdition} {t : Int} {s : List TFeature} (h : addOk l t s = false) : addEd l t s = l := if_neg (by rw [h]; decide)
theorem edNew_all {l : List TEdition} {t : Int} {s : List TFeature} {p : TFeature → Prop} (hp : ∀ e ∈ l, e.source.length ≤ 1048576 ∧ ∀ x ∈ e.source, p x) (hs : s.length ≤ 1048576) (hq : ∀ x ∈ s, p x) : ∀ e ∈ l ++ [edNew l t s], e.source.length ≤ 1048576 ∧ ∀ x ∈ e.source, p x := fun e he => by
  rcases List.mem_append.1 he with h | h
  · exact hp e h
  · obtain rfl := List.mem_singleton.1 h
    exact ⟨hs, hq⟩
theorem addEd_all {l : List TEdition} {t : Int} {s : List TFeature} {p : TFeature → Prop} (hp : ∀ e ∈ l, e.source.length ≤ 1048576 ∧ ∀ x ∈ e.source, p x) (hs : s.length ≤ 1048576) (hq : ∀ x ∈ s, p x) : ∀ e ∈ addEd l t s, e.source.length ≤ 1048576 ∧ ∀ x ∈ e.source, p x := by
  unfold addEd
  split
  · exact edNew_all hp hs hq
  · exact hp
theorem areEd_len {l : List TEdition} (h : areEd l = true) : l.length ≤ 6 := by
  unfold areEd at h
  simp only [Bool.and_eq_true, decide_eq_true_eq] at h
  omega
theorem addEd_len {l : List TEdition} {t : Int} {s : List TFeature} (hl : l.length ≤ 1048576) : (addEd l t s).length ≤ 1048576 := by
  unfold addEd
  split
  · rename_i h
    have := areEd_len h
    omega
  · exact hl
theorem lastEd_cases (l : List TEdition) (hl : l.length ≤ 1048576) : (prevSeal l l.length = 0 ∧ decide (((l.map TEdition.en).length : Int) > 0) = false) ∨
    ∃ p : TEdition, decide (((l.map TEdition.en).length : Int) > 0) = true ∧ 0 ≤ IntKind.i64.wrap (((l.map TEdition.en).length : Int) - 1) ∧ (l.map TEdition.en)[(IntKind.i64.wrap (((l.map TEdition.en).length : Int) - 1)).toNat]? = some p.en ∧ prevSeal l l.length = p.seal_ := by
  rw [List.length_map]
  rcases Nat.eq_zero_or_pos l.length with h0 | h0
  · exact .inl ⟨by rw [h0]; rfl, decide_eq_false (by omega)⟩
  · have e : IntKind.i64.wrap ((l.length : Int) - 1) = ((l.length - 1 : Nat) : Int) := by rw [w64 (by omega) (by omega)]; omega
    refine .inr ⟨l.getD (l.length - 1) edD, decide_eq_true (by omega), by omega, ?_, ?_⟩
    · rw [e, Int.toNat_natCast, List.getElem?_map, List.getElem?_eq_getElem (show l.length - 1 < l.length by omega)]
      simp [List.getD_eq_getElem?_getD, List.getElem?_eq_getElem (show l.length - 1 < l.length by omega)]
    · rw [prevSeal, if_neg (by omega)]
theorem AW.row0 {P : Program} {E : Env} {tm : List AV} {c : Code} {Qx : XPost} {A R X : List (List AV)} {ty : TypeId} {sz g : Nat} {bx : Bool} {Mr : Mem} (hx : A ++ R = X) (h : AW P c E tm (some ⟨ty, sz, g, bx, X⟩ :: Mr) Qx) : AW P c E tm (some ⟨ty, sz, g, bx, A ++ R⟩ :: Mr) Qx := by
  subst hx
  exact h

set_option maxRecDepth 100000 in
set_option maxHeartbeats 2000000 in
theorem areEd_iL (l : List TEdition) (hl : l.length ≤ 1048577) (h6 : 6 < l.length) : VCalls Tryz.prog 107 [.ro 3 (l.map TEdition.en)] (fun r M => r = B false ∧ M = []) := by
  refine VCalls.body Tryz.func107 rfl 54 rfl (fun E => ?_)
  simp only [List.reduceReplicate, List.cons_append, List.nil_append]
  have hclo : Clo (.ro 3 (l.map TEdition.en)) := clo_list TEdition.clo_en
  have h7 : decide (((l.map TEdition.en).length : Int) > 6) = true := by simp; omega
  repeat' ((first
    | ((with_reducible show AL _ _ _ _ _ _ _); first | refine AL.any ?_ | refine AL.U ?_ | refine AL.F ?_ | refine AL.T ?_ | refine AL.W ?_ | refine AL.nil ?_)
    | ((with_reducible show DL _ _ _ _ _ _ _); first | refine DL.any ?_ | refine DL.any (h := POp.k Tryz.func78 (hc := inr_v _ _ _)) ?_ | refine DL.U ?_ | refine DL.F ?_ | refine DL.T ?_ | refine DL.T (h := POp.k Tryz.func121 (hc := seal_i _ _ _ (by assumption) (by assumption))) ?_ | refine DL.T (h := POp.k Tryz.func135 (hc := isSource_i _ (by assumption) (by assumption))) ?_ | refine DL.W ?_ | refine DL.W (h := fun h => by (try rw [h]); exact POp.k Tryz.func121 (hc := seal_i _ _ _ (by assumption) (by assumption))) ?_ | refine DL.W (h := fun h => by (try rw [h]); exact POp.k Tryz.func135 (hc := isSource_i _ (by assumption) (by assumption))) ?_ | refine DL.nil ?_)
    | ((with_reducible show AW _ _ _ _ _ _); first | refine AW.seq ?_ | refine AW.region ?_ | refine AW.skip ?_ | refine AW.dr (id := 7) 34 ?_ | refine AW.cT ?_ | refine AW.cF ?_ | (refine AW.c2 ?_ ?_ <;> (intro h; try simp only [Bool.not_eq_true', Bool.not_eq_false'] at h)) | refine AW.block ?_ | refine AW.exit ?_ | refine AW.ret ?_)
    | with_reducible refine (if_pos rfl).mpr ?_
    | with_reducible refine (if_neg (by decide)).mpr ?_) <;> (try dsimp only))
  all_goals exact Fin.one rfl (RV.tmp (by rfl)) (clo_c _) ⟨by first | rfl | (simp_all; done), rfl⟩

set_option maxRecDepth 100000 in
set_option maxHeartbeats 2000000 in
theorem areEd_sL (l : List TEdition) (hl : l.length ≤ 1048577) (h6 : 6 < l.length) : VCalls Tryz.prog 104 [.ro 3 (l.map TEdition.en)] (fun r M => r = B false ∧ M = []) := by
  refine VCalls.bodyE Tryz.func104 rfl 73 rfl (fun E hE => ?_)
  simp only [List.reduceReplicate, List.cons_append, List.nil_append]
  have hclo : Clo (.ro 3 (l.map TEdition.en)) := clo_list TEdition.clo_en
  repeat' ((first
    | ((with_reducible show AL _ _ _ _ _ _ _); first | refine AL.any ?_ | refine AL.any (h := POp.k Tryz.func118 (hc := seal_s _ _ _ (by assumption) (by assumption))) ?_ | refine AL.U ?_ | refine AL.F ?_ | refine AL.T ?_ | refine AL.W ?_ | refine AL.nil ?_)
    | ((with_reducible show DL _ _ _ _ _ _ _); first | refine DL.any ?_ | refine DL.any (h := POp.k Tryz.func77 (hc := inr_s _ _ _)) ?_ | refine DL.U ?_ | refine DL.F ?_ | refine DL.T ?_ | refine DL.T (h := POp.k Tryz.func133 (hc := isSource_s _ (by assumption) (by assumption))) ?_ | refine DL.W ?_ | refine DL.W (h := fun h => by (try rw [h]); exact POp.k Tryz.func133 (hc := isSource_s _ (by assumption) (by assumption))) ?_ | refine DL.nil ?_)
    | ((with_reducible show AW _ _ _ _ _ _); first | refine AW.seq ?_ | refine AW.region ?_ | refine AW.skip ?_ | (refine AW.loopD hE (fun i : Nat => [.ro 3 (l.map TEdition.en), .any, .any, I 0, I (i : Int), .any, .any, .any, .any, .any, .any, .any, .any, .any, .any, .any, .any, .any, .any, .any, .any, .any, .any, .any, .any, .any, .any, .any, .any, .any, .any, .any, .any, .any, .any, .any, .any, .any, .any, .any, .any, .any, .any, .any, .any, .any, .any, .any, .any, .any, .any, .any, .any, .any, .any, .any, .any, .any, .any, .any, .any, .any, .any, .any, .any, .any, .any, .any, .any, .any, .any, .any, .any, .any]) (fun i => []) (fun i => 0 - i) (fun i => i ≤ 0) 0 (by simp) ?_ (by first | rfl | (simp [fil_zero]; done)) ?_) | refine AW.dr (id := 5) 11 ?_ | refine AW.dr (id := 6) 40 ?_ | refine AW.cT ?_ | refine AW.cF ?_ | (refine AW.c2 ?_ ?_ <;> (intro h; try simp only [Bool.not_eq_true', Bool.not_eq_false'] at h)) | refine AW.block ?_ | refine AW.exit ?_ | refine AW.ret ?_)
    | with_reducible refine (if_pos rfl).mpr ?_
    | with_reducible refine (if_neg (by decide)).mpr ?_) <;> (try dsimp only))
  · (repeat' (first | exact Wk.nil | refine Wk.any ?_ | (with_reducible refine Wk.same ?_) | refine Wk.of ?_ ?_)) <;> first | rfl | (simp)
  · intro i hi
    have hclo : Clo (.ro 3 (l.map TEdition.en)) := clo_list TEdition.clo_en
    by_cases hlt : i < 0
    · skip
      exact absurd hlt (by omega)
      repeat' ((first
        | ((with_reducible show AL _ _ _ _ _ _ _); first | refine AL.any ?_ | refine AL.any (h := POp.k Tryz.func118 (hc := seal_s _ _ _ (by assumption) (by assumption))) ?_ | refine AL.U ?_ | refine AL.F ?_ | refine AL.T ?_ | refine AL.W ?_ | refine AL.nil ?_)
        | ((with_reducible show DL _ _ _ _ _ _ _); first | refine DL.any ?_ | refine DL.any (h := POp.k Tryz.func77 (hc := inr_s _ _ _)) ?_ | refine DL.U ?_ | refine DL.F ?_ | refine DL.T ?_ | refine DL.T (h := POp.k Tryz.func133 (hc := isSource_s _ (by assumption) (by assumption))) ?_ | refine DL.W ?_ | refine DL.W (h := fun h => by (try rw [h]); exact POp.k Tryz.func133 (hc := isSource_s _ (by assumption) (by assumption))) ?_ | refine DL.nil ?_)
        | ((with_reducible show AW _ _ _ _ _ _); first | refine AW.seq ?_ | refine AW.region ?_ | refine AW.skip ?_ | refine AW.dr (id := 5) 11 ?_ | refine AW.dr (id := 6) 40 ?_ | refine AW.cT ?_ | refine AW.cF ?_ | (refine AW.c2 ?_ ?_ <;> (intro h; try simp only [Bool.not_eq_true', Bool.not_eq_false'] at h)) | refine AW.block ?_ | refine AW.exit ?_ | refine AW.ret ?_)
        | with_reducible refine (if_pos rfl).mpr ?_
        | with_reducible refine (if_neg (by decide)).mpr ?_) <;> (try dsimp only))
      all_goals first
        | (refine ⟨i + 1, _, hlt, by omega, ?_, rfl, ?_, ?_⟩; (focus ((repeat' (first | exact Wk.nil | refine Wk.any ?_ | (with_reducible refine Wk.same ?_) | refine Wk.of ?_ ?_)) <;> (simp_all))); (focus ((repeat' (first | exact Fits.nil _ | refine Fits.cons ?_ ?_ | exact Fits.any _ | exact Fits.c _ _ | exact Fits.own (by rfl) | exact Fits.ref (by rfl) | exact Fits.clo (by assumption) | exact Fits.clo (clo_of (by rfl)) | exact Fits.clo (clo_fn _))))); (focus (exact FitsM.nil _)))
    · have e : i = 0 := by omega
      subst e
      have ht : (decide (((0 : Nat) : Int) < ((l.map TEdition.en).length : Int)) && decide (((l.map TEdition.en).length : Int) ≤ 6)) = false := by simp; omega
      have h7 : decide (((l.map TEdition.en).length : Int) ≤ 6) = false := by simp; omega
      repeat' ((first
        | ((with_reducible show AL _ _ _ _ _ _ _); first | refine AL.any ?_ | refine AL.any (h := POp.k Tryz.func118 (hc := seal_s _ _ _ (by assumption) (by assumption))) ?_ | refine AL.U ?_ | refine AL.F ?_ | refine AL.T ?_ | refine AL.W ?_ | refine AL.nil ?_)
        | ((with_reducible show DL _ _ _ _ _ _ _); first | refine DL.any ?_ | refine DL.any (h := POp.k Tryz.func77 (hc := inr_s _ _ _)) ?_ | refine DL.U ?_ | refine DL.F ?_ | refine DL.T ?_ | refine DL.T (h := POp.k Tryz.func133 (hc := isSource_s _ (by assumption) (by assumption))) ?_ | refine DL.W ?_ | refine DL.W (h := fun h => by (try rw [h]); exact POp.k Tryz.func133 (hc := isSource_s _ (by assumption) (by assumption))) ?_ | refine DL.nil ?_)
        | ((with_reducible show AW _ _ _ _ _ _); first | refine AW.seq ?_ | refine AW.region ?_ | refine AW.skip ?_ | refine AW.dr (id := 5) 11 ?_ | refine AW.dr (id := 6) 40 ?_ | refine AW.cT ?_ | refine AW.cF ?_ | (refine AW.c2 ?_ ?_ <;> (intro h; try simp only [Bool.not_eq_true', Bool.not_eq_false'] at h)) | refine AW.block ?_ | refine AW.exit ?_ | refine AW.ret ?_)
        | with_reducible refine (if_pos rfl).mpr ?_
        | with_reducible refine (if_neg (by decide)).mpr ?_) <;> (try dsimp only))
      all_goals exact Fin.one rfl (RV.tmp (by rfl)) (clo_c _) ⟨by first | rfl | (simp_all; done), rfl⟩

theorem areEd_i1 (l : List TEdition) (hl : l.length ≤ 1048577) (hp : ∀ e ∈ l, e.source.length ≤ 1048576 ∧ ∀ x ∈ e.source, x.gd) : VCalls Tryz.prog 107 [.ro 3 (l.map TEdition.en)] (fun r M => r = B (areEd l) ∧ M = []) := by
  rcases Nat.lt_or_ge 6 l.length with h | h
  · rw [areEd_long h]
    exact areEd_iL l hl h
  · exact areEd_i l (by omega) hp
theorem areEd_s1 (l : List TEdition) (hl : l.length ≤ 1048577) (hp : ∀ e ∈ l, e.source.length ≤ 1048576 ∧ ∀ x ∈ e.source, x.gd) : VCalls Tryz.prog 104 [.ro 3 (l.map TEdition.en)] (fun r M => r = B (areEd l) ∧ M = []) := by
  rcases Nat.lt_or_ge 6 l.length with h | h
  · rw [areEd_long h]
    exact areEd_sL l hl h
  · exact areEd_s l (by omega) hp
set_option maxRecDepth 100000 in
set_option maxHeartbeats 2000000 in
theorem addEd_i (l : List TEdition) (t : Int) (s : List TFeature) (hl : l.length ≤ 1048576) (hp : ∀ e ∈ l, e.source.length ≤ 1048576 ∧ ∀ x ∈ e.source, x.gd) (hs : s.length ≤ 1048576) (hq : ∀ x ∈ s, x.gd) : VCalls Tryz.prog 82 [.ro 3 (l.map TEdition.en), I t, .ro 5 (s.map TFeature.en)] (fun r M => r = .tup [.own 0 0, B (addOk l t s)] ∧ M = [some ⟨136, 3, 0, false, (addEd l t s).map TEdition.ed⟩]) := by
  refine VCalls.body Tryz.func82 rfl 35 rfl (fun E => ?_)
  simp only [List.reduceReplicate, List.cons_append, List.nil_append]
  have hclo : Clo (.ro 3 (l.map TEdition.en)) := clo_list TEdition.clo_en
  have hclS : Clo (.ro 5 (s.map TFeature.en)) := clo_list TFeature.clo_en
  have hq' : ∀ x ∈ s, x.sm := fun x hx => (hq x hx).1
  have hp' : ∀ e ∈ l, e.source.length ≤ 1048576 ∧ ∀ x ∈ e.source, x.sm := fun e he => ⟨(hp e he).1, fun x hx => ((hp e he).2 x hx).1⟩
  rcases lastEd_cases l hl with ⟨h0, hk⟩ | ⟨p, hk, hz, hgp, h0⟩
  have happ : l.map TEdition.ed ++ [[I t, .dp (.ro 5 (s.map TFeature.en)), I (sealOf 0 t s)]] = (l ++ [edNew l t s]).map TEdition.ed := by rw [List.map_append, edNew, h0]; rfl
  rotate_left 1
  have happ : l.map TEdition.ed ++ [[I t, .dp (.ro 5 (s.map TFeature.en)), I (sealOf p.seal_ t s)]] = (l ++ [edNew l t s]).map TEdition.ed := by rw [List.map_append, edNew, h0]; rfl
  rotate_left 1
  repeat' ((first
    | ((with_reducible show AL _ _ _ _ _ _ _); first | refine AL.any (h := POp.gh POp.mk (Gh.absorbA (q := 0) (id := 1) (j := 1) rfl rfl rfl rfl rfl rfl (DCl.map (fun _ => rfl)) TFeature.und)) ?_ | refine AL.any ?_ | refine AL.any (h := POp.D Tryz.func107 (hc := areEd_i1 (l ++ [edNew l t s]) (by simp; omega) (edNew_all hp hs hq))) ?_ | refine AL.any (h := POp.O Tryz.func116 (hc := cpD_i _ (by assumption) (by assumption))) ?_ | refine AL.any (h := POp.O Tryz.func120 (hc := cpS_i _ (by assumption) (by assumption))) ?_ | refine AL.any (h := POp.k Tryz.func121 (hc := seal_i _ t s (by assumption) (by assumption))) ?_ | refine AL.nil ?_)
    | ((with_reducible show AW _ _ _ _ _ _); first | (refine AW.row0 (A := l.map TEdition.ed) (X := (l ++ [edNew l t s]).map TEdition.ed) (by rw [← happ] <;> rfl) ?_) | refine AW.seq ?_ | refine AW.region ?_ | refine AW.skip ?_ | refine AW.cT ?_ | refine AW.cF ?_ | (refine AW.c2 ?_ ?_ <;> (intro h; try simp only [Bool.not_eq_true', Bool.not_eq_false'] at h)) | refine AW.block ?_ | refine AW.exit ?_ | refine AW.ret ?_)
    | with_reducible refine (if_pos rfl).mpr ?_
    | with_reducible refine (if_neg (by decide)).mpr ?_) <;> (try dsimp only))
  all_goals first
    | ((have hok : addOk l t s = true := h); rw [addEd_t hok, hok]; exact Fin.rows2 [0] rfl (RV.tmp (by rfl)) (RV.tmp (by rfl)) (by decide) (by repeat' (first | exact trivial | refine ⟨⟨_, rfl, ?_⟩, ?_⟩ | exact DCl.b rfl | exact DCl.map (fun _ => rfl))) (by repeat' (first | exact all_nil | refine all_cons ?_ ?_ | exact ⟨⟨_, rfl, rfl⟩, rfl⟩ | (show Clo _; exact clo_of (by rfl)))) ⟨rfl, rfl⟩)
    | ((have hok : addOk l t s = false := h); rw [addEd_f hok, hok]; exact Fin.rows2 [3] rfl (RV.tmp (by rfl)) (RV.tmp (by rfl)) (by decide) (by repeat' (first | exact trivial | refine ⟨⟨_, rfl, ?_⟩, ?_⟩ | exact DCl.b rfl | exact DCl.map (fun _ => rfl))) (by repeat' (first | exact all_nil | refine all_cons ?_ ?_ | exact ⟨⟨_, rfl, rfl⟩, rfl⟩ | (show Clo _; exact clo_of (by rfl)))) ⟨rfl, rfl⟩)

set_option maxRecDepth 100000 in
set_option maxHeartbeats 2000000 in
theorem addEd_s (l : List TEdition) (t : Int) (s : List TFeature) (hl : l.length ≤ 1048576) (hp : ∀ e ∈ l, e.source.length ≤ 1048576 ∧ ∀ x ∈ e.source, x.gd) (hs : s.length ≤ 1048576) (hq : ∀ x ∈ s, x.gd) : VCalls Tryz.prog 80 [.ro 3 (l.map TEdition.en), I t, .ro 5 (s.map TFeature.en)] (fun r M => r = .tup [.own 0 0, B (addOk l t s)] ∧ M = [some ⟨136, 3, 0, false, (addEd l t s).map TEdition.ed⟩]) := by
  refine VCalls.body Tryz.func80 rfl 35 rfl (fun E => ?_)
  simp only [List.reduceReplicate, List.cons_append, List.nil_append]
  have hclo : Clo (.ro 3 (l.map TEdition.en)) := clo_list TEdition.clo_en
  have hclS : Clo (.ro 5 (s.map TFeature.en)) := clo_list TFeature.clo_en
  have hq' : ∀ x ∈ s, x.sm := fun x hx => (hq x hx).1
  have hp' : ∀ e ∈ l, e.source.length ≤ 1048576 ∧ ∀ x ∈ e.source, x.sm := fun e he => ⟨(hp e he).1, fun x hx => ((hp e he).2 x hx).1⟩
  rcases lastEd_cases l hl with ⟨h0, hk⟩ | ⟨p, hk, hz, hgp, h0⟩
  have happ : l.map TEdition.ed ++ [[I t, .dp (.ro 5 (s.map TFeature.en)), I (sealOf 0 t s)]] = (l ++ [edNew l t s]).map TEdition.ed := by rw [List.map_append, edNew, h0]; rfl
  rotate_left 1
  have happ : l.map TEdition.ed ++ [[I t, .dp (.ro 5 (s.map TFeature.en)), I (sealOf p.seal_ t s)]] = (l ++ [edNew l t s]).map TEdition.ed := by rw [List.map_append, edNew, h0]; rfl
  rotate_left 1
  repeat' ((first
    | ((with_reducible show AL _ _ _ _ _ _ _); first | refine AL.any (h := POp.gh POp.mk (Gh.absorbA (q := 0) (id := 1) (j := 1) rfl rfl rfl rfl rfl rfl (DCl.map (fun _ => rfl)) TFeature.und)) ?_ | refine AL.any ?_ | refine AL.any (h := POp.O Tryz.func102 (hc := cpD_s _ (by assumption) (by assumption))) ?_ | refine AL.any (h := POp.D Tryz.func104 (hc := areEd_s1 (l ++ [edNew l t s]) (by simp; omega) (edNew_all hp hs hq))) ?_ | refine AL.any (h := POp.O Tryz.func117 (hc := cpS_s _ (by assumption) (by assumption))) ?_ | refine AL.any (h := POp.k Tryz.func118 (hc := seal_s _ t s (by assumption) (by assumption))) ?_ | refine AL.nil ?_)
    | ((with_reducible show AW _ _ _ _ _ _); first | (refine AW.row0 (A := l.map TEdition.ed) (X := (l ++ [edNew l t s]).map TEdition.ed) (by rw [← happ] <;> rfl) ?_) | refine AW.seq ?_ | refine AW.region ?_ | refine AW.skip ?_ | refine AW.cT ?_ | refine AW.cF ?_ | (refine AW.c2 ?_ ?_ <;> (intro h; try simp only [Bool.not_eq_true', Bool.not_eq_false'] at h)) | refine AW.block ?_ | refine AW.exit ?_ | refine AW.ret ?_)
    | with_reducible refine (if_pos rfl).mpr ?_
    | with_reducible refine (if_neg (by decide)).mpr ?_) <;> (try dsimp only))
  all_goals first
    | ((have hok : addOk l t s = true := h); rw [addEd_t hok, hok]; exact Fin.rows2 [0] rfl (RV.tmp (by rfl)) (RV.tmp (by rfl)) (by decide) (by repeat' (first | exact trivial | refine ⟨⟨_, rfl, ?_⟩, ?_⟩ | exact DCl.b rfl | exact DCl.map (fun _ => rfl))) (by repeat' (first | exact all_nil | refine all_cons ?_ ?_ | exact ⟨⟨_, rfl, rfl⟩, rfl⟩ | (show Clo _; exact clo_of (by rfl)))) ⟨rfl, rfl⟩)
    | ((have hok : addOk l t s = false := h); rw [addEd_f hok, hok]; exact Fin.rows2 [3] rfl (RV.tmp (by rfl)) (RV.tmp (by rfl)) (by decide) (by repeat' (first | exact trivial | refine ⟨⟨_, rfl, ?_⟩, ?_⟩ | exact DCl.b rfl | exact DCl.map (fun _ => rfl))) (by repeat' (first | exact all_nil | refine all_cons ?_ ?_ | exact ⟨⟨_, rfl, rfl⟩, rfl⟩ | (show Clo _; exact clo_of (by rfl)))) ⟨rfl, rfl⟩)

end Go.Proofs.YtacbpfbelcdeiaaGreat.Abs

/- The walks of the end of every step. -/
namespace Go.Proofs.YtacbpfbelcdeiaaGreat.Abs
open Go.Proofs Go.RowKit
set_option linter.unusedVariables false
set_option linter.unusedSimpArgs false
attribute [local irreducible] OpA AL AW DL DLM DLR DLS QOp POp VCalls VCallsI
theorem TAtlas.gd.gs {a : TAtlas} (h : a.gd) : a.gs := ⟨⟨h.1.1, fun e he => (h.1.2 e he).1⟩, h.2.1, ⟨h.2.2.1.1, fun e he => ⟨(h.2.2.1.2 e he).1, fun x hx => ((h.2.2.1.2 e he).2 x hx).1⟩⟩⟩
def stp (a o : TAtlas) (ok : Bool) : TAtlas := if (ok && isAtl a && isAtl o) = true then o else a
def stpB (a o : TAtlas) (ok : Bool) : Bool := ok && isAtl a && isAtl o
theorem stp_f {a o : TAtlas} {ok : Bool} (h : stpB a o ok = false) : stp a o ok = a := by unfold stp; unfold stpB at h; rw [h]; rfl
theorem stp_t {a o : TAtlas} {ok : Bool} (h : stpB a o ok = true) : stp a o ok = o := by unfold stp; unfold stpB at h; rw [if_pos h]
set_option maxRecDepth 100000 in
set_option maxHeartbeats 2000000 in
theorem stepped_i (a o : TAtlas) (ok : Bool) (hgd : a.gd) (hgo : o.gd) : HCalls Tryz.prog 76 [.agg a.en, .agg o.eo, B ok] o.rw (fun r M => r = .tup [.agg (stp a o ok).eo, B (stpB a o ok)] ∧ M = (stp a o ok).rw) := by
  have hgs := hgd.gs
  have hclA : Clo (.agg a.en) := Clo.agg a.clo_en
  have hclL : Clo (.ro 8 (a.log.map TEntry.en)) := clo_list TEntry.clo_en
  have hclV : Clo (.ro 3 (a.levels.map TLevel.en)) := clo_list TLevel.clo_en
  have hclE : Clo (.ro 3 (a.editions.map TEdition.en)) := clo_list TEdition.clo_en
  refine HCalls.body Tryz.func76 rfl 20 rfl (fun E hE => ?_)
  dsimp only [TAtlas.en, TAtlas.eo, TAtlas.rw]
  simp only [List.reduceReplicate, List.cons_append, List.nil_append]
  repeat' ((first
    | ((with_reducible show AL _ _ _ _ _ _ _); first | refine AL.any ?_ | refine AL.any (h := POp.O Tryz.func75 (hc := cpA_i a (by assumption))) ?_ | refine AL.U ?_ | refine AL.F ?_ | refine AL.T ?_ | refine AL.T (h := POp.k Tryz.func64 (hc := isAtl_i a (by assumption))) ?_ | refine AL.T (h := POp.D Tryz.func64 (hc := isAtl_i o (by assumption))) ?_ | refine AL.W ?_ | refine AL.W (h := fun h => by (try rw [h]); exact POp.k Tryz.func64 (hc := isAtl_i a (by assumption))) ?_ | refine AL.W (h := fun h => by (try rw [h]); exact POp.D Tryz.func64 (hc := isAtl_i o (by assumption))) ?_ | refine AL.nil ?_)
    | ((with_reducible show AW _ _ _ _ _ _); first | refine AW.seq ?_ | refine AW.region ?_ | refine AW.skip ?_ | refine AW.cT ?_ | refine AW.cF ?_ | (refine AW.c2 ?_ ?_ <;> (intro h; try simp only [Bool.not_eq_true', Bool.not_eq_false'] at h)) | refine AW.block ?_ | refine AW.exit ?_ | refine AW.ret ?_)
    | with_reducible refine (if_pos rfl).mpr ?_
    | with_reducible refine (if_neg (by decide)).mpr ?_) <;> (try dsimp only))
  all_goals first
    | (have hst : stpB a o ok = true := by (unfold stpB; cases ok <;> cases h1 : isAtl a <;> cases h2 : isAtl o <;> simp_all)); rw [stp_t hst, hst]; exact Fin.rows2 [0, 1, 2] rfl (RV.cell (QOp.quietA TT_ok (by rfl))) (RV.tmp (by rfl)) (by decide) (by repeat' (first | exact trivial | refine ⟨⟨_, rfl, ?_⟩, ?_⟩ | exact DCl.b rfl | exact DCl.map (fun _ => rfl))) (by repeat' (first | exact all_nil | refine all_cons ?_ ?_ | exact ⟨⟨_, rfl, rfl⟩, rfl⟩ | (show Clo _; exact clo_of (by rfl)))) ⟨rfl, rfl⟩
    | (have hst : stpB a o ok = false := by (unfold stpB; cases ok <;> cases h1 : isAtl a <;> cases h2 : isAtl o <;> simp_all)); rw [stp_f hst, hst]; exact Fin.rows2 [6, 7, 8] rfl (RV.cell (QOp.quietA TT_ok (by rfl))) (RV.tmp (by rfl)) (by decide) (by repeat' (first | exact trivial | refine ⟨⟨_, rfl, ?_⟩, ?_⟩ | exact DCl.b rfl | exact DCl.map (fun _ => rfl))) (by repeat' (first | exact all_nil | refine all_cons ?_ ?_ | exact ⟨⟨_, rfl, rfl⟩, rfl⟩ | (show Clo _; exact clo_of (by rfl)))) ⟨rfl, rfl⟩

set_option maxRecDepth 100000 in
set_option maxHeartbeats 2000000 in
theorem stepped_s (a o : TAtlas) (ok : Bool) (hgd : a.gd) (hgo : o.gd) : HCalls Tryz.prog 73 [.agg a.en, .agg o.eo, B ok] o.rw (fun r M => r = .tup [.agg (stp a o ok).eo, B (stpB a o ok)] ∧ M = (stp a o ok).rw) := by
  have hgs := hgd.gs
  have hclA : Clo (.agg a.en) := Clo.agg a.clo_en
  have hclL : Clo (.ro 8 (a.log.map TEntry.en)) := clo_list TEntry.clo_en
  have hclV : Clo (.ro 3 (a.levels.map TLevel.en)) := clo_list TLevel.clo_en
  have hclE : Clo (.ro 3 (a.editions.map TEdition.en)) := clo_list TEdition.clo_en
  refine HCalls.body Tryz.func73 rfl 20 rfl (fun E hE => ?_)
  dsimp only [TAtlas.en, TAtlas.eo, TAtlas.rw]
  simp only [List.reduceReplicate, List.cons_append, List.nil_append]
  repeat' ((first
    | ((with_reducible show AL _ _ _ _ _ _ _); first | refine AL.any ?_ | refine AL.any (h := POp.O Tryz.func60 (hc := cpA_s a (by assumption))) ?_ | refine AL.U ?_ | refine AL.F ?_ | refine AL.T ?_ | refine AL.T (h := POp.k Tryz.func61 (hc := isAtl_s a (by assumption))) ?_ | refine AL.T (h := POp.D Tryz.func61 (hc := isAtl_s o (by assumption))) ?_ | refine AL.W ?_ | refine AL.W (h := fun h => by (try rw [h]); exact POp.k Tryz.func61 (hc := isAtl_s a (by assumption))) ?_ | refine AL.W (h := fun h => by (try rw [h]); exact POp.D Tryz.func61 (hc := isAtl_s o (by assumption))) ?_ | refine AL.nil ?_)
    | ((with_reducible show AW _ _ _ _ _ _); first | refine AW.seq ?_ | refine AW.region ?_ | refine AW.skip ?_ | refine AW.cT ?_ | refine AW.cF ?_ | (refine AW.c2 ?_ ?_ <;> (intro h; try simp only [Bool.not_eq_true', Bool.not_eq_false'] at h)) | refine AW.block ?_ | refine AW.exit ?_ | refine AW.ret ?_)
    | with_reducible refine (if_pos rfl).mpr ?_
    | with_reducible refine (if_neg (by decide)).mpr ?_) <;> (try dsimp only))
  all_goals first
    | (have hst : stpB a o ok = true := by (unfold stpB; cases ok <;> cases h1 : isAtl a <;> cases h2 : isAtl o <;> simp_all)); rw [stp_t hst, hst]; exact Fin.rows2 [0, 1, 2] rfl (RV.cell (QOp.quietA TT_ok (by rfl))) (RV.tmp (by rfl)) (by decide) (by repeat' (first | exact trivial | refine ⟨⟨_, rfl, ?_⟩, ?_⟩ | exact DCl.b rfl | exact DCl.map (fun _ => rfl))) (by repeat' (first | exact all_nil | refine all_cons ?_ ?_ | exact ⟨⟨_, rfl, rfl⟩, rfl⟩ | (show Clo _; exact clo_of (by rfl)))) ⟨rfl, rfl⟩
    | (have hst : stpB a o ok = false := by (unfold stpB; cases ok <;> cases h1 : isAtl a <;> cases h2 : isAtl o <;> simp_all)); rw [stp_f hst, hst]; exact Fin.rows2 [6, 7, 8] rfl (RV.cell (QOp.quietA TT_ok (by rfl))) (RV.tmp (by rfl)) (by decide) (by repeat' (first | exact trivial | refine ⟨⟨_, rfl, ?_⟩, ?_⟩ | exact DCl.b rfl | exact DCl.map (fun _ => rfl))) (by repeat' (first | exact all_nil | refine all_cons ?_ ?_ | exact ⟨⟨_, rfl, rfl⟩, rfl⟩ | (show Clo _; exact clo_of (by rfl)))) ⟨rfl, rfl⟩

end Go.Proofs.YtacbpfbelcdeiaaGreat.Abs

/- The ends of steps, spelled out. -/
namespace Go.Proofs.YtacbpfbelcdeiaaGreat.Abs
open Go.Proofs Go.RowKit
set_option linter.unusedVariables false
set_option linter.unusedSimpArgs false
attribute [local irreducible] OpA AL AW DL DLM DLR DLS QOp POp VCalls VCallsI
theorem stepped_iX (a o : TAtlas) (ok : Bool) (hgd : a.gd) (hgo : o.gd) : HCalls Tryz.prog 76 [.agg [.ro 8 (a.log.map TEntry.en), .ro 3 (a.levels.map TLevel.en), .ro 3 (a.editions.map TEdition.en), I a.cover.w, I a.cover.h, S a.cover.cells, I a.now], .agg [.own 0 0, .own 1 0, .own 2 0, I o.cover.w, I o.cover.h, S o.cover.cells, I o.now], B ok] [some ⟨121, 8, 0, false, o.log.map TEntry.ed⟩, some ⟨97, 3, 0, false, o.levels.map TLevel.en⟩, some ⟨136, 3, 0, false, o.editions.map TEdition.ed⟩] (fun r M => r = .tup [.agg [.own 0 0, .own 1 0, .own 2 0, I (stp a o ok).cover.w, I (stp a o ok).cover.h, S (stp a o ok).cover.cells, I (stp a o ok).now], B (stpB a o ok)] ∧ M = [some ⟨121, 8, 0, false, (stp a o ok).log.map TEntry.ed⟩, some ⟨97, 3, 0, false, (stp a o ok).levels.map TLevel.en⟩, some ⟨136, 3, 0, false, (stp a o ok).editions.map TEdition.ed⟩]) := stepped_i a o ok hgd hgo
theorem cpA_iX (a : TAtlas) (hgs : a.gs) : VCalls Tryz.prog 75 [.agg [.ro 8 (a.log.map TEntry.en), .ro 3 (a.levels.map TLevel.en), .ro 3 (a.editions.map TEdition.en), I a.cover.w, I a.cover.h, S a.cover.cells, I a.now]] (fun r M => r = .agg [.own 0 0, .own 1 0, .own 2 0, I a.cover.w, I a.cover.h, S a.cover.cells, I a.now] ∧ M = [some ⟨121, 8, 0, false, a.log.map TEntry.ed⟩, some ⟨97, 3, 0, false, a.levels.map TLevel.en⟩, some ⟨136, 3, 0, false, a.editions.map TEdition.ed⟩]) := cpA_i a hgs
theorem stepped_sX (a o : TAtlas) (ok : Bool) (hgd : a.gd) (hgo : o.gd) : HCalls Tryz.prog 73 [.agg [.ro 8 (a.log.map TEntry.en), .ro 3 (a.levels.map TLevel.en), .ro 3 (a.editions.map TEdition.en), I a.cover.w, I a.cover.h, S a.cover.cells, I a.now], .agg [.own 0 0, .own 1 0, .own 2 0, I o.cover.w, I o.cover.h, S o.cover.cells, I o.now], B ok] [some ⟨121, 8, 0, false, o.log.map TEntry.ed⟩, some ⟨97, 3, 0, false, o.levels.map TLevel.en⟩, some ⟨136, 3, 0, false, o.editions.map TEdition.ed⟩] (fun r M => r = .tup [.agg [.own 0 0, .own 1 0, .own 2 0, I (stp a o ok).cover.w, I (stp a o ok).cover.h, S (stp a o ok).cover.cells, I (stp a o ok).now], B (stpB a o ok)] ∧ M = [some ⟨121, 8, 0, false, (stp a o ok).log.map TEntry.ed⟩, some ⟨97, 3, 0, false, (stp a o ok).levels.map TLevel.en⟩, some ⟨136, 3, 0, false, (stp a o ok).editions.map TEdition.ed⟩]) := stepped_s a o ok hgd hgo
theorem cpA_sX (a : TAtlas) (hgs : a.gs) : VCalls Tryz.prog 60 [.agg [.ro 8 (a.log.map TEntry.en), .ro 3 (a.levels.map TLevel.en), .ro 3 (a.editions.map TEdition.en), I a.cover.w, I a.cover.h, S a.cover.cells, I a.now]] (fun r M => r = .agg [.own 0 0, .own 1 0, .own 2 0, I a.cover.w, I a.cover.h, S a.cover.cells, I a.now] ∧ M = [some ⟨121, 8, 0, false, a.log.map TEntry.ed⟩, some ⟨97, 3, 0, false, a.levels.map TLevel.en⟩, some ⟨136, 3, 0, false, a.editions.map TEdition.ed⟩]) := cpA_s a hgs
theorem View.tup' {M : Mem} {cs cs' : List AV} (h : VwL M cs cs') : View M (.tup cs) (.tup cs') := fun base w0 w Fx β Fc u hh hF hown hr => by
  have hl := h.get.1
  cases hr with
  | tup hl2 h3 => exact .tup (by rw [hl2, hl]) (fun i x' u hx hu => by
      have hlt : i < cs.length := by rw [← hl]; exact (List.getElem?_eq_some_iff.1 hx).1
      exact h.get.2 i _ x' (List.getElem?_eq_getElem hlt) hx _ _ _ _ _ _ _ hh hF hown (h3 i _ u (List.getElem?_eq_getElem hlt) hu))

end Go.Proofs.YtacbpfbelcdeiaaGreat.Abs
