/- The walks of IsRing. -/
import Derived.Test.YtolmophnimngjaaGreatWkStep
import Derived.Test.YtolmophnimngjaaGreatWkRing
import Derived.Test.YtolmophnimngjaaGreatWkMeet
import Derived.Test.YtolmophnimngjaaGreatWkMeetS
namespace Go.Proofs.YtolmophnimngjaaGreat.Abs
open Go.Proofs Go.RowKit
set_option linter.unusedVariables false
set_option linter.unusedSimpArgs false
attribute [local irreducible] OpA AL AW DL DLM DLR DLS QOp POp VCalls VCallsI
set_option maxRecDepth 100000 in
set_option maxHeartbeats 2000000 in
theorem isRing_s (l : List TPoint) (hl : l.length ≤ 1048576) : VCalls Tryz.prog 55 [.ro 2 (l.map TPoint.en)] (fun r M => r = B (isRing l) ∧ M = []) := by
  refine VCalls.bodyE Tryz.func55 rfl 55 rfl (fun E hE => ?_)
  simp only [List.reduceReplicate, List.cons_append, List.nil_append]
  have hclo : Clo (.ro 2 (l.map TPoint.en)) := clo_list TPoint.clo_en
  have hclA : Clo (.ro 4 ((arnd l).map TSegment.en)) := clo_list TSegment.clo_en
  have hal := arnd_len l
  have hclo : Clo (.ro 2 (l.map TPoint.en)) := clo_list TPoint.clo_en
  have hclA : Clo (.ro 4 ((arnd l).map TSegment.en)) := clo_list TSegment.clo_en
  have hal := arnd_len l
  repeat' ((first
    | ((with_reducible show AL _ _ _ _ _ _ _); first | refine AL.any ?_ | refine AL.any (h := POp.k Tryz.func20 (hc := inr_s _ _ _)) ?_ | refine AL.any (h := POp.k Tryz.func73 (hc := meet_s x y)) ?_ | refine AL.any (h := POp.k Tryz.func75 (hc := arnd_s _ (by assumption))) ?_ | refine AL.any (h := POp.k Tryz.func76 (hc := isSeg_s x)) ?_ | refine AL.U ?_ | refine AL.F ?_ | refine AL.T ?_ | refine AL.T (h := POp.k Tryz.func20 (hc := inr_s _ _ _)) ?_ | refine AL.T (h := POp.k Tryz.func73 (hc := meet_s x y)) ?_ | refine AL.T (h := POp.k Tryz.func75 (hc := arnd_s _ (by assumption))) ?_ | refine AL.T (h := POp.k Tryz.func76 (hc := isSeg_s x)) ?_ | refine AL.W ?_ | refine AL.W (h := fun h => by (try rw [h]); exact POp.k Tryz.func20 (hc := inr_s _ _ _)) ?_ | refine AL.W (h := fun h => by (try rw [h]); exact POp.k Tryz.func73 (hc := meet_s x y)) ?_ | refine AL.W (h := fun h => by (try rw [h]); exact POp.k Tryz.func75 (hc := arnd_s _ (by assumption))) ?_ | refine AL.W (h := fun h => by (try rw [h]); exact POp.k Tryz.func76 (hc := isSeg_s x)) ?_ | refine AL.nil ?_)
    | ((with_reducible show DL _ _ _ _ _ _ _); first | refine DL.any ?_ | refine DL.any (h := POp.k Tryz.func20 (hc := inr_s _ _ _)) ?_ | refine DL.any (h := POp.k Tryz.func73 (hc := meet_s x y)) ?_ | refine DL.any (h := POp.k Tryz.func75 (hc := arnd_s _ (by assumption))) ?_ | refine DL.any (h := POp.k Tryz.func76 (hc := isSeg_s x)) ?_ | refine DL.nil ?_)
    | ((with_reducible show AW _ _ _ _ _ _); first | refine AW.seq ?_ | refine AW.region ?_ | refine AW.skip ?_ | (refine AW.loopD hE (fun i : Nat => [.ro 2 (l.map TPoint.en), .any, .any, .ro 4 ((arnd l).map TSegment.en), I (i : Int), .any, .any, .any, .any, .any, .any, .any, .any, .any, .any, .any, .any, .any, .any, .any, .any, .any, .any, .any, .any, .any, .any, .any, .any, .any, .any, .any, .any, .any, .any, .any, .any, .any, .any, .any, .any, .any, .any, .any, .any, .any, .any, .any, .any, .any, .any, .any, .any, .any, .any, .any]) (fun i => []) (fun i => (arnd l).length - i) (fun i => i ≤ (arnd l).length ∧ rgOk l i = true) 0 ⟨Nat.zero_le _, by simp [rgOk]⟩ ?_ (by first | rfl | (simp; done)) ?_) | refine AW.dr (id := 15) 10 ?_ | refine AW.cT ?_ | refine AW.cF ?_ | (refine AW.c2 ?_ ?_ <;> (intro h; try simp only [Bool.not_eq_true', Bool.not_eq_false'] at h)) | refine AW.block ?_ | refine AW.exit ?_ | refine AW.ret ?_)
    | with_reducible refine (if_pos rfl).mpr ?_
    | with_reducible refine (if_neg (by decide)).mpr ?_) <;> (try dsimp only))
  any_goals first | exact Fin.one rfl (RV.tmp (by rfl)) (clo_c _) ⟨by simp_all [isRing, inr] <;> omega, rfl⟩
  · (repeat' (first | exact Wk.nil | refine Wk.any ?_ | (with_reducible refine Wk.same ?_) | refine Wk.of ?_ ?_)) <;> first | rfl | (simp; done)
  · intro i hv_i
    have hclo : Clo (.ro 2 (l.map TPoint.en)) := clo_list TPoint.clo_en
    have hclA : Clo (.ro 4 ((arnd l).map TSegment.en)) := clo_list TSegment.clo_en
    have hal := arnd_len l
    by_cases hlt_i : i < (arnd l).length
    · skip
      obtain ⟨x, hx⟩ : ∃ x, (arnd l)[i]? = some x := ⟨_, List.getElem?_eq_getElem hlt_i⟩
      have hgx := map_get (f := TSegment.en) hx
      have hti := lt_true (f := TSegment.en) hlt_i
      have hni := next_ix hlt_i (by omega)
      have hro := rgOk_succ l i
      have hsx := sAt_of hx
      have hra : rgAt l i = (isSeg x && rgIn l i i) := by unfold rgAt; rw [hsx]
      repeat' ((first
        | ((with_reducible show AL _ _ _ _ _ _ _); first | refine AL.any ?_ | refine AL.any (h := POp.k Tryz.func20 (hc := inr_s _ _ _)) ?_ | refine AL.any (h := POp.k Tryz.func73 (hc := meet_s x y)) ?_ | refine AL.any (h := POp.k Tryz.func75 (hc := arnd_s _ (by assumption))) ?_ | refine AL.any (h := POp.k Tryz.func76 (hc := isSeg_s x)) ?_ | refine AL.U ?_ | refine AL.F ?_ | refine AL.T ?_ | refine AL.T (h := POp.k Tryz.func20 (hc := inr_s _ _ _)) ?_ | refine AL.T (h := POp.k Tryz.func73 (hc := meet_s x y)) ?_ | refine AL.T (h := POp.k Tryz.func75 (hc := arnd_s _ (by assumption))) ?_ | refine AL.T (h := POp.k Tryz.func76 (hc := isSeg_s x)) ?_ | refine AL.W ?_ | refine AL.W (h := fun h => by (try rw [h]); exact POp.k Tryz.func20 (hc := inr_s _ _ _)) ?_ | refine AL.W (h := fun h => by (try rw [h]); exact POp.k Tryz.func73 (hc := meet_s x y)) ?_ | refine AL.W (h := fun h => by (try rw [h]); exact POp.k Tryz.func75 (hc := arnd_s _ (by assumption))) ?_ | refine AL.W (h := fun h => by (try rw [h]); exact POp.k Tryz.func76 (hc := isSeg_s x)) ?_ | refine AL.nil ?_)
        | ((with_reducible show DL _ _ _ _ _ _ _); first | refine DL.any ?_ | refine DL.any (h := POp.k Tryz.func20 (hc := inr_s _ _ _)) ?_ | refine DL.any (h := POp.k Tryz.func73 (hc := meet_s x y)) ?_ | refine DL.any (h := POp.k Tryz.func75 (hc := arnd_s _ (by assumption))) ?_ | refine DL.any (h := POp.k Tryz.func76 (hc := isSeg_s x)) ?_ | refine DL.nil ?_)
        | ((with_reducible show AW _ _ _ _ _ _); first | refine AW.seq ?_ | refine AW.region ?_ | refine AW.skip ?_ | (refine AW.loopD hE (fun k : Nat => [.ro 2 (l.map TPoint.en), .any, .any, .ro 4 ((arnd l).map TSegment.en), I (i : Int), I (k : Int), .any, .any, .any, .any, .any, .any, .any, .any, .any, .any, .any, .any, .any, .any, .any, .any, .any, .any, .any, .any, .any, .any, .any, .any, .any, .any, .any, .any, .any, .any, .any, .any, .any, .any, .any, .any, .any, .any, .any, .any, .any, .any, .any, .any, .any, .any, .any, .any, .any, .any]) (fun k => []) (fun k => i - k) (fun k => k ≤ i ∧ rgIn l i k = true) 0 ⟨Nat.zero_le _, by simp [rgIn]⟩ ?_ (by first | rfl | (simp; done)) ?_) | refine AW.dr (id := 15) 10 ?_ | refine AW.cT ?_ | refine AW.cF ?_ | (refine AW.c2 ?_ ?_ <;> (intro h; try simp only [Bool.not_eq_true', Bool.not_eq_false'] at h)) | refine AW.block ?_ | refine AW.exit ?_ | refine AW.ret ?_)
        | with_reducible refine (if_pos rfl).mpr ?_
        | with_reducible refine (if_neg (by decide)).mpr ?_) <;> (try dsimp only))
      any_goals first | exact Fin.one rfl (RV.tmp (by rfl)) (clo_c _) ⟨by have e2 := rgOk_not (l := l) (i := i) (n := l.length) (by simp_all) (by omega); simp_all [isRing], rfl⟩
      · (repeat' (first | exact Wk.nil | refine Wk.any ?_ | (with_reducible refine Wk.same ?_) | refine Wk.of ?_ ?_)) <;> first | rfl | (simp; done)
      · intro k hv_k
        have hclo : Clo (.ro 2 (l.map TPoint.en)) := clo_list TPoint.clo_en
        have hclA : Clo (.ro 4 ((arnd l).map TSegment.en)) := clo_list TSegment.clo_en
        have hal := arnd_len l
        by_cases hlt_k : k < i
        · skip
          obtain ⟨y, hy⟩ : ∃ y, (arnd l)[k]? = some y := ⟨_, List.getElem?_eq_getElem (by omega)⟩
          have hgy := map_get (f := TSegment.en) hy
          have htk : decide ((k : Int) < (i : Int)) = true := by simp; omega
          have hnk := next_ix hlt_k (by omega)
          have hsy := sAt_of hy
          have hrk : rgIn l i (k + 1) = (rgIn l i k && (hmI x y == wantN l.length i k)) := by rw [rgIn_succ, hsx, hsy]
          have hen : ((arnd l).map TSegment.en).length = l.length := by simp [hal]
          rcases want_s (n := l.length) (i := i) (k := k) (by omega) hlt_k hl with ⟨w1, wN⟩ | ⟨w1, w2, wN⟩ | ⟨w1, w2, w3, wN⟩ | ⟨w1, w2, w3, wN⟩
          all_goals try rw [← hen] at w3
          all_goals
            repeat' ((first
              | ((with_reducible show AL _ _ _ _ _ _ _); first | refine AL.any ?_ | refine AL.any (h := POp.k Tryz.func20 (hc := inr_s _ _ _)) ?_ | refine AL.any (h := POp.k Tryz.func73 (hc := meet_s x y)) ?_ | refine AL.any (h := POp.k Tryz.func75 (hc := arnd_s _ (by assumption))) ?_ | refine AL.any (h := POp.k Tryz.func76 (hc := isSeg_s x)) ?_ | refine AL.U ?_ | refine AL.F ?_ | refine AL.T ?_ | refine AL.T (h := POp.k Tryz.func20 (hc := inr_s _ _ _)) ?_ | refine AL.T (h := POp.k Tryz.func73 (hc := meet_s x y)) ?_ | refine AL.T (h := POp.k Tryz.func75 (hc := arnd_s _ (by assumption))) ?_ | refine AL.T (h := POp.k Tryz.func76 (hc := isSeg_s x)) ?_ | refine AL.W ?_ | refine AL.W (h := fun h => by (try rw [h]); exact POp.k Tryz.func20 (hc := inr_s _ _ _)) ?_ | refine AL.W (h := fun h => by (try rw [h]); exact POp.k Tryz.func73 (hc := meet_s x y)) ?_ | refine AL.W (h := fun h => by (try rw [h]); exact POp.k Tryz.func75 (hc := arnd_s _ (by assumption))) ?_ | refine AL.W (h := fun h => by (try rw [h]); exact POp.k Tryz.func76 (hc := isSeg_s x)) ?_ | refine AL.nil ?_)
              | ((with_reducible show DL _ _ _ _ _ _ _); first | refine DL.any ?_ | refine DL.any (h := POp.k Tryz.func20 (hc := inr_s _ _ _)) ?_ | refine DL.any (h := POp.k Tryz.func73 (hc := meet_s x y)) ?_ | refine DL.any (h := POp.k Tryz.func75 (hc := arnd_s _ (by assumption))) ?_ | refine DL.any (h := POp.k Tryz.func76 (hc := isSeg_s x)) ?_ | refine DL.nil ?_)
              | ((with_reducible show AW _ _ _ _ _ _); first | refine AW.seq ?_ | refine AW.region ?_ | refine AW.skip ?_ | refine AW.dr (id := 15) 10 ?_ | refine AW.cT ?_ | refine AW.cF ?_ | (refine AW.c2 ?_ ?_ <;> (intro h; try simp only [Bool.not_eq_true', Bool.not_eq_false'] at h)) | refine AW.block ?_ | refine AW.exit ?_ | refine AW.ret ?_)
              | with_reducible refine (if_pos rfl).mpr ?_
              | with_reducible refine (if_neg (by decide)).mpr ?_) <;> (try dsimp only))
            all_goals first
              | (refine ⟨k + 1, _, ⟨hlt_k, by simp_all⟩, by omega, ?_, rfl, ?_, ?_⟩; (focus ((repeat' (first | exact Wk.nil | refine Wk.any ?_ | (with_reducible refine Wk.same ?_) | refine Wk.of ?_ ?_)) <;> (simp_all))); (focus ((repeat' (first | exact Fits.nil _ | refine Fits.cons ?_ ?_ | exact Fits.any _ | exact Fits.c _ _ | exact Fits.own (by rfl) | exact Fits.ref (by rfl) | exact Fits.clo (by assumption) | exact Fits.clo (clo_of (by rfl)) | exact Fits.clo (clo_fn _))))); (focus (exact FitsM.nil _)))
              | exact Fin.one rfl (RV.tmp (by rfl)) (clo_c _) ⟨by have e1 := rgIn_not (l := l) (i := i) (k := k) (n := i) (by simp_all) hlt_k; have e2 := rgOk_not (l := l) (i := i) (n := l.length) (by simp_all) (by omega); simp_all [isRing], rfl⟩
        · have e_k : k = i := by omega
          have htk : decide ((k : Int) < (i : Int)) = false := by simp; omega
          have e2 := e_k.symm
          subst e2
          repeat' ((first
            | ((with_reducible show AL _ _ _ _ _ _ _); first | refine AL.any ?_ | refine AL.any (h := POp.k Tryz.func20 (hc := inr_s _ _ _)) ?_ | refine AL.any (h := POp.k Tryz.func73 (hc := meet_s x y)) ?_ | refine AL.any (h := POp.k Tryz.func75 (hc := arnd_s _ (by assumption))) ?_ | refine AL.any (h := POp.k Tryz.func76 (hc := isSeg_s x)) ?_ | refine AL.U ?_ | refine AL.F ?_ | refine AL.T ?_ | refine AL.T (h := POp.k Tryz.func20 (hc := inr_s _ _ _)) ?_ | refine AL.T (h := POp.k Tryz.func73 (hc := meet_s x y)) ?_ | refine AL.T (h := POp.k Tryz.func75 (hc := arnd_s _ (by assumption))) ?_ | refine AL.T (h := POp.k Tryz.func76 (hc := isSeg_s x)) ?_ | refine AL.W ?_ | refine AL.W (h := fun h => by (try rw [h]); exact POp.k Tryz.func20 (hc := inr_s _ _ _)) ?_ | refine AL.W (h := fun h => by (try rw [h]); exact POp.k Tryz.func73 (hc := meet_s x y)) ?_ | refine AL.W (h := fun h => by (try rw [h]); exact POp.k Tryz.func75 (hc := arnd_s _ (by assumption))) ?_ | refine AL.W (h := fun h => by (try rw [h]); exact POp.k Tryz.func76 (hc := isSeg_s x)) ?_ | refine AL.nil ?_)
            | ((with_reducible show DL _ _ _ _ _ _ _); first | refine DL.any ?_ | refine DL.any (h := POp.k Tryz.func20 (hc := inr_s _ _ _)) ?_ | refine DL.any (h := POp.k Tryz.func73 (hc := meet_s x y)) ?_ | refine DL.any (h := POp.k Tryz.func75 (hc := arnd_s _ (by assumption))) ?_ | refine DL.any (h := POp.k Tryz.func76 (hc := isSeg_s x)) ?_ | refine DL.nil ?_)
            | ((with_reducible show AW _ _ _ _ _ _); first | refine AW.seq ?_ | refine AW.region ?_ | refine AW.skip ?_ | refine AW.dr (id := 15) 10 ?_ | refine AW.cT ?_ | refine AW.cF ?_ | (refine AW.c2 ?_ ?_ <;> (intro h; try simp only [Bool.not_eq_true', Bool.not_eq_false'] at h)) | refine AW.block ?_ | refine AW.exit ?_ | refine AW.ret ?_)
            | with_reducible refine (if_pos rfl).mpr ?_
            | with_reducible refine (if_neg (by decide)).mpr ?_) <;> (try dsimp only))
          all_goals first
            | (refine ⟨i + 1, _, ⟨hlt_i, by simp_all⟩, by omega, ?_, rfl, ?_, ?_⟩; (focus ((repeat' (first | exact Wk.nil | refine Wk.any ?_ | (with_reducible refine Wk.same ?_) | refine Wk.of ?_ ?_)) <;> (simp_all))); (focus ((repeat' (first | exact Fits.nil _ | refine Fits.cons ?_ ?_ | exact Fits.any _ | exact Fits.c _ _ | exact Fits.own (by rfl) | exact Fits.ref (by rfl) | exact Fits.clo (by assumption) | exact Fits.clo (clo_of (by rfl)) | exact Fits.clo (clo_fn _))))); (focus (exact FitsM.nil _)))
    · have e_i : i = (arnd l).length := by omega
      have hti := lt_false (f := TSegment.en) (show ¬ i < (arnd l).length by omega)
      subst e_i
      repeat' ((first
        | ((with_reducible show AL _ _ _ _ _ _ _); first | refine AL.any ?_ | refine AL.any (h := POp.k Tryz.func20 (hc := inr_s _ _ _)) ?_ | refine AL.any (h := POp.k Tryz.func73 (hc := meet_s x y)) ?_ | refine AL.any (h := POp.k Tryz.func75 (hc := arnd_s _ (by assumption))) ?_ | refine AL.any (h := POp.k Tryz.func76 (hc := isSeg_s x)) ?_ | refine AL.U ?_ | refine AL.F ?_ | refine AL.T ?_ | refine AL.T (h := POp.k Tryz.func20 (hc := inr_s _ _ _)) ?_ | refine AL.T (h := POp.k Tryz.func73 (hc := meet_s x y)) ?_ | refine AL.T (h := POp.k Tryz.func75 (hc := arnd_s _ (by assumption))) ?_ | refine AL.T (h := POp.k Tryz.func76 (hc := isSeg_s x)) ?_ | refine AL.W ?_ | refine AL.W (h := fun h => by (try rw [h]); exact POp.k Tryz.func20 (hc := inr_s _ _ _)) ?_ | refine AL.W (h := fun h => by (try rw [h]); exact POp.k Tryz.func73 (hc := meet_s x y)) ?_ | refine AL.W (h := fun h => by (try rw [h]); exact POp.k Tryz.func75 (hc := arnd_s _ (by assumption))) ?_ | refine AL.W (h := fun h => by (try rw [h]); exact POp.k Tryz.func76 (hc := isSeg_s x)) ?_ | refine AL.nil ?_)
        | ((with_reducible show DL _ _ _ _ _ _ _); first | refine DL.any ?_ | refine DL.any (h := POp.k Tryz.func20 (hc := inr_s _ _ _)) ?_ | refine DL.any (h := POp.k Tryz.func73 (hc := meet_s x y)) ?_ | refine DL.any (h := POp.k Tryz.func75 (hc := arnd_s _ (by assumption))) ?_ | refine DL.any (h := POp.k Tryz.func76 (hc := isSeg_s x)) ?_ | refine DL.nil ?_)
        | ((with_reducible show AW _ _ _ _ _ _); first | refine AW.seq ?_ | refine AW.region ?_ | refine AW.skip ?_ | refine AW.dr (id := 15) 10 ?_ | refine AW.cT ?_ | refine AW.cF ?_ | (refine AW.c2 ?_ ?_ <;> (intro h; try simp only [Bool.not_eq_true', Bool.not_eq_false'] at h)) | refine AW.block ?_ | refine AW.exit ?_ | refine AW.ret ?_)
        | with_reducible refine (if_pos rfl).mpr ?_
        | with_reducible refine (if_neg (by decide)).mpr ?_) <;> (try dsimp only))
      all_goals first
        | exact Fin.one rfl (RV.tmp (by rfl)) (clo_c _) ⟨by first | (simp_all [isRing]; done) | (simp_all [isRing, inr] <;> omega), rfl⟩

set_option maxRecDepth 100000 in
set_option maxHeartbeats 2000000 in
theorem isRing_i (l : List TPoint) (hl : l.length ≤ 1048576) : VCalls Tryz.prog 65 [.ro 2 (l.map TPoint.en)] (fun r M => r = B (isRing l) ∧ M = []) := by
  refine VCalls.bodyE Tryz.func65 rfl 59 rfl (fun E hE => ?_)
  simp only [List.reduceReplicate, List.cons_append, List.nil_append]
  have hclo : Clo (.ro 2 (l.map TPoint.en)) := clo_list TPoint.clo_en
  have hclA : Clo (.ro 4 ((arnd l).map TSegment.en)) := clo_list TSegment.clo_en
  have hal := arnd_len l
  have hclo : Clo (.ro 2 (l.map TPoint.en)) := clo_list TPoint.clo_en
  have hclA : Clo (.ro 4 ((arnd l).map TSegment.en)) := clo_list TSegment.clo_en
  have hal := arnd_len l
  repeat' ((first
    | ((with_reducible show AL _ _ _ _ _ _ _); first | refine AL.any ?_ | refine AL.any (h := POp.k Tryz.func82 (hc := meet_i x y)) ?_ | refine AL.any (h := POp.k Tryz.func83 (hc := arnd_i _ (by assumption))) ?_ | refine AL.any (h := POp.k Tryz.func84 (hc := isSeg_i x)) ?_ | refine AL.U ?_ | refine AL.F ?_ | refine AL.T ?_ | refine AL.T (h := POp.k Tryz.func82 (hc := meet_i x y)) ?_ | refine AL.T (h := POp.k Tryz.func83 (hc := arnd_i _ (by assumption))) ?_ | refine AL.T (h := POp.k Tryz.func84 (hc := isSeg_i x)) ?_ | refine AL.W ?_ | refine AL.W (h := fun h => by (try rw [h]); exact POp.k Tryz.func82 (hc := meet_i x y)) ?_ | refine AL.W (h := fun h => by (try rw [h]); exact POp.k Tryz.func83 (hc := arnd_i _ (by assumption))) ?_ | refine AL.W (h := fun h => by (try rw [h]); exact POp.k Tryz.func84 (hc := isSeg_i x)) ?_ | refine AL.nil ?_)
    | ((with_reducible show DL _ _ _ _ _ _ _); first | refine DL.any ?_ | refine DL.any (h := POp.k Tryz.func82 (hc := meet_i x y)) ?_ | refine DL.any (h := POp.k Tryz.func83 (hc := arnd_i _ (by assumption))) ?_ | refine DL.any (h := POp.k Tryz.func84 (hc := isSeg_i x)) ?_ | refine DL.nil ?_)
    | ((with_reducible show AW _ _ _ _ _ _); first | refine AW.seq ?_ | refine AW.region ?_ | refine AW.skip ?_ | (refine AW.loopD hE (fun i : Nat => [.ro 2 (l.map TPoint.en), .any, .any, .ro 4 ((arnd l).map TSegment.en), .any, .any, .any, .any, .any, .any, .any, .any, .any, .any, .any, .any, .any, .any, I (((arnd l).map TSegment.en).length : Int), I (i : Int), .any, .any, .any, .any, .any, .any, .any, .any, .any, .any, .any, .any, .any, .any, .any, .any, .any, .any, .any, .any, .any, .any, .any, .any, .any, .any, .any, .any, .any, .any, .any, .any, .any, .any, .any, .any, .any, .any, .any, .any]) (fun i => []) (fun i => (arnd l).length - i) (fun i => i ≤ (arnd l).length ∧ rgOk l i = true) 0 ⟨Nat.zero_le _, by simp [rgOk]⟩ ?_ (by first | rfl | (simp; done)) ?_) | refine AW.dr (id := 15) 10 ?_ | refine AW.cT ?_ | refine AW.cF ?_ | (refine AW.c2 ?_ ?_ <;> (intro h; try simp only [Bool.not_eq_true', Bool.not_eq_false'] at h)) | refine AW.block ?_ | refine AW.exit ?_ | refine AW.ret ?_)
    | with_reducible refine (if_pos rfl).mpr ?_
    | with_reducible refine (if_neg (by decide)).mpr ?_) <;> (try dsimp only))
  any_goals first | exact Fin.one rfl (RV.tmp (by rfl)) (clo_c _) ⟨by simp_all [isRing, inr] <;> omega, rfl⟩
  · (repeat' (first | exact Wk.nil | refine Wk.any ?_ | (with_reducible refine Wk.same ?_) | refine Wk.of ?_ ?_)) <;> first | rfl | (simp; done)
  · intro i hv_i
    have hclo : Clo (.ro 2 (l.map TPoint.en)) := clo_list TPoint.clo_en
    have hclA : Clo (.ro 4 ((arnd l).map TSegment.en)) := clo_list TSegment.clo_en
    have hal := arnd_len l
    by_cases hlt_i : i < (arnd l).length
    · skip
      obtain ⟨x, hx⟩ : ∃ x, (arnd l)[i]? = some x := ⟨_, List.getElem?_eq_getElem hlt_i⟩
      have hgx := map_get (f := TSegment.en) hx
      have hti := lt_true (f := TSegment.en) hlt_i
      have hni := next_ix hlt_i (by omega)
      have hro := rgOk_succ l i
      have hsx := sAt_of hx
      have hra : rgAt l i = (isSeg x && rgIn l i i) := by unfold rgAt; rw [hsx]
      repeat' ((first
        | ((with_reducible show AL _ _ _ _ _ _ _); first | refine AL.any ?_ | refine AL.any (h := POp.k Tryz.func82 (hc := meet_i x y)) ?_ | refine AL.any (h := POp.k Tryz.func83 (hc := arnd_i _ (by assumption))) ?_ | refine AL.any (h := POp.k Tryz.func84 (hc := isSeg_i x)) ?_ | refine AL.U ?_ | refine AL.F ?_ | refine AL.T ?_ | refine AL.T (h := POp.k Tryz.func82 (hc := meet_i x y)) ?_ | refine AL.T (h := POp.k Tryz.func83 (hc := arnd_i _ (by assumption))) ?_ | refine AL.T (h := POp.k Tryz.func84 (hc := isSeg_i x)) ?_ | refine AL.W ?_ | refine AL.W (h := fun h => by (try rw [h]); exact POp.k Tryz.func82 (hc := meet_i x y)) ?_ | refine AL.W (h := fun h => by (try rw [h]); exact POp.k Tryz.func83 (hc := arnd_i _ (by assumption))) ?_ | refine AL.W (h := fun h => by (try rw [h]); exact POp.k Tryz.func84 (hc := isSeg_i x)) ?_ | refine AL.nil ?_)
        | ((with_reducible show DL _ _ _ _ _ _ _); first | refine DL.any ?_ | refine DL.any (h := POp.k Tryz.func82 (hc := meet_i x y)) ?_ | refine DL.any (h := POp.k Tryz.func83 (hc := arnd_i _ (by assumption))) ?_ | refine DL.any (h := POp.k Tryz.func84 (hc := isSeg_i x)) ?_ | refine DL.nil ?_)
        | ((with_reducible show AW _ _ _ _ _ _); first | refine AW.seq ?_ | refine AW.region ?_ | refine AW.skip ?_ | (refine AW.loopD hE (fun k : Nat => [.ro 2 (l.map TPoint.en), .any, .any, .ro 4 ((arnd l).map TSegment.en), I (i : Int), .any, .any, .any, .any, .any, .any, .any, .any, .any, .any, .any, .any, .any, I (((arnd l).map TSegment.en).length : Int), I (i : Int), .any, .any, .any, .any, .any, .any, .any, .any, I (i : Int), I (k : Int), .any, .any, .any, .any, .any, .any, .any, .any, .any, .any, .any, .any, .any, .any, .any, .any, .any, .any, .any, .any, .any, .any, .any, .any, .any, .any, .any, .any, .any, .any]) (fun k => []) (fun k => i - k) (fun k => k ≤ i ∧ rgIn l i k = true) 0 ⟨Nat.zero_le _, by simp [rgIn]⟩ ?_ (by first | rfl | (simp; done)) ?_) | refine AW.dr (id := 15) 10 ?_ | refine AW.cT ?_ | refine AW.cF ?_ | (refine AW.c2 ?_ ?_ <;> (intro h; try simp only [Bool.not_eq_true', Bool.not_eq_false'] at h)) | refine AW.block ?_ | refine AW.exit ?_ | refine AW.ret ?_)
        | with_reducible refine (if_pos rfl).mpr ?_
        | with_reducible refine (if_neg (by decide)).mpr ?_) <;> (try dsimp only))
      any_goals first | exact Fin.one rfl (RV.tmp (by rfl)) (clo_c _) ⟨by have e2 := rgOk_not (l := l) (i := i) (n := l.length) (by simp_all) (by omega); simp_all [isRing], rfl⟩
      · (repeat' (first | exact Wk.nil | refine Wk.any ?_ | (with_reducible refine Wk.same ?_) | refine Wk.of ?_ ?_)) <;> first | rfl | (simp; done)
      · intro k hv_k
        have hclo : Clo (.ro 2 (l.map TPoint.en)) := clo_list TPoint.clo_en
        have hclA : Clo (.ro 4 ((arnd l).map TSegment.en)) := clo_list TSegment.clo_en
        have hal := arnd_len l
        by_cases hlt_k : k < i
        · skip
          obtain ⟨y, hy⟩ : ∃ y, (arnd l)[k]? = some y := ⟨_, List.getElem?_eq_getElem (by omega)⟩
          have hgy := map_get (f := TSegment.en) hy
          have htk : decide ((k : Int) < (i : Int)) = true := by simp; omega
          have hnk := next_ix hlt_k (by omega)
          have hsy := sAt_of hy
          have hrk : rgIn l i (k + 1) = (rgIn l i k && (hmI x y == wantN l.length i k)) := by rw [rgIn_succ, hsx, hsy]
          have hen : ((arnd l).map TSegment.en).length = l.length := by simp [hal]
          rcases want_i (n := l.length) (i := i) (k := k) (by omega) hlt_k hl with ⟨w1, wN⟩ | ⟨w1, w2, wN⟩ | ⟨w1, w2, w3, wN⟩ | ⟨w1, w2, w3, wN⟩
          all_goals try rw [← hen] at w3
          all_goals
            repeat' ((first
              | ((with_reducible show AL _ _ _ _ _ _ _); first | refine AL.any ?_ | refine AL.any (h := POp.k Tryz.func82 (hc := meet_i x y)) ?_ | refine AL.any (h := POp.k Tryz.func83 (hc := arnd_i _ (by assumption))) ?_ | refine AL.any (h := POp.k Tryz.func84 (hc := isSeg_i x)) ?_ | refine AL.U ?_ | refine AL.F ?_ | refine AL.T ?_ | refine AL.T (h := POp.k Tryz.func82 (hc := meet_i x y)) ?_ | refine AL.T (h := POp.k Tryz.func83 (hc := arnd_i _ (by assumption))) ?_ | refine AL.T (h := POp.k Tryz.func84 (hc := isSeg_i x)) ?_ | refine AL.W ?_ | refine AL.W (h := fun h => by (try rw [h]); exact POp.k Tryz.func82 (hc := meet_i x y)) ?_ | refine AL.W (h := fun h => by (try rw [h]); exact POp.k Tryz.func83 (hc := arnd_i _ (by assumption))) ?_ | refine AL.W (h := fun h => by (try rw [h]); exact POp.k Tryz.func84 (hc := isSeg_i x)) ?_ | refine AL.nil ?_)
              | ((with_reducible show DL _ _ _ _ _ _ _); first | refine DL.any ?_ | refine DL.any (h := POp.k Tryz.func82 (hc := meet_i x y)) ?_ | refine DL.any (h := POp.k Tryz.func83 (hc := arnd_i _ (by assumption))) ?_ | refine DL.any (h := POp.k Tryz.func84 (hc := isSeg_i x)) ?_ | refine DL.nil ?_)
              | ((with_reducible show AW _ _ _ _ _ _); first | refine AW.seq ?_ | refine AW.region ?_ | refine AW.skip ?_ | refine AW.dr (id := 15) 10 ?_ | refine AW.cT ?_ | refine AW.cF ?_ | (refine AW.c2 ?_ ?_ <;> (intro h; try simp only [Bool.not_eq_true', Bool.not_eq_false'] at h)) | refine AW.block ?_ | refine AW.exit ?_ | refine AW.ret ?_)
              | with_reducible refine (if_pos rfl).mpr ?_
              | with_reducible refine (if_neg (by decide)).mpr ?_) <;> (try dsimp only))
            all_goals first
              | (refine ⟨k + 1, _, ⟨hlt_k, by simp_all⟩, by omega, ?_, rfl, ?_, ?_⟩; (focus ((repeat' (first | exact Wk.nil | refine Wk.any ?_ | (with_reducible refine Wk.same ?_) | refine Wk.of ?_ ?_)) <;> (simp_all))); (focus ((repeat' (first | exact Fits.nil _ | refine Fits.cons ?_ ?_ | exact Fits.any _ | exact Fits.c _ _ | exact Fits.own (by rfl) | exact Fits.ref (by rfl) | exact Fits.clo (by assumption) | exact Fits.clo (clo_of (by rfl)) | exact Fits.clo (clo_fn _))))); (focus (exact FitsM.nil _)))
              | exact Fin.one rfl (RV.tmp (by rfl)) (clo_c _) ⟨by have e1 := rgIn_not (l := l) (i := i) (k := k) (n := i) (by simp_all) hlt_k; have e2 := rgOk_not (l := l) (i := i) (n := l.length) (by simp_all) (by omega); simp_all [isRing], rfl⟩
        · have e_k : k = i := by omega
          have htk : decide ((k : Int) < (i : Int)) = false := by simp; omega
          have e2 := e_k.symm
          subst e2
          repeat' ((first
            | ((with_reducible show AL _ _ _ _ _ _ _); first | refine AL.any ?_ | refine AL.any (h := POp.k Tryz.func82 (hc := meet_i x y)) ?_ | refine AL.any (h := POp.k Tryz.func83 (hc := arnd_i _ (by assumption))) ?_ | refine AL.any (h := POp.k Tryz.func84 (hc := isSeg_i x)) ?_ | refine AL.U ?_ | refine AL.F ?_ | refine AL.T ?_ | refine AL.T (h := POp.k Tryz.func82 (hc := meet_i x y)) ?_ | refine AL.T (h := POp.k Tryz.func83 (hc := arnd_i _ (by assumption))) ?_ | refine AL.T (h := POp.k Tryz.func84 (hc := isSeg_i x)) ?_ | refine AL.W ?_ | refine AL.W (h := fun h => by (try rw [h]); exact POp.k Tryz.func82 (hc := meet_i x y)) ?_ | refine AL.W (h := fun h => by (try rw [h]); exact POp.k Tryz.func83 (hc := arnd_i _ (by assumption))) ?_ | refine AL.W (h := fun h => by (try rw [h]); exact POp.k Tryz.func84 (hc := isSeg_i x)) ?_ | refine AL.nil ?_)
            | ((with_reducible show DL _ _ _ _ _ _ _); first | refine DL.any ?_ | refine DL.any (h := POp.k Tryz.func82 (hc := meet_i x y)) ?_ | refine DL.any (h := POp.k Tryz.func83 (hc := arnd_i _ (by assumption))) ?_ | refine DL.any (h := POp.k Tryz.func84 (hc := isSeg_i x)) ?_ | refine DL.nil ?_)
            | ((with_reducible show AW _ _ _ _ _ _); first | refine AW.seq ?_ | refine AW.region ?_ | refine AW.skip ?_ | refine AW.dr (id := 15) 10 ?_ | refine AW.cT ?_ | refine AW.cF ?_ | (refine AW.c2 ?_ ?_ <;> (intro h; try simp only [Bool.not_eq_true', Bool.not_eq_false'] at h)) | refine AW.block ?_ | refine AW.exit ?_ | refine AW.ret ?_)
            | with_reducible refine (if_pos rfl).mpr ?_
            | with_reducible refine (if_neg (by decide)).mpr ?_) <;> (try dsimp only))
          all_goals first
            | (refine ⟨i + 1, _, ⟨hlt_i, by simp_all⟩, by omega, ?_, rfl, ?_, ?_⟩; (focus ((repeat' (first | exact Wk.nil | refine Wk.any ?_ | (with_reducible refine Wk.same ?_) | refine Wk.of ?_ ?_)) <;> (simp_all))); (focus ((repeat' (first | exact Fits.nil _ | refine Fits.cons ?_ ?_ | exact Fits.any _ | exact Fits.c _ _ | exact Fits.own (by rfl) | exact Fits.ref (by rfl) | exact Fits.clo (by assumption) | exact Fits.clo (clo_of (by rfl)) | exact Fits.clo (clo_fn _))))); (focus (exact FitsM.nil _)))
    · have e_i : i = (arnd l).length := by omega
      have hti := lt_false (f := TSegment.en) (show ¬ i < (arnd l).length by omega)
      subst e_i
      repeat' ((first
        | ((with_reducible show AL _ _ _ _ _ _ _); first | refine AL.any ?_ | refine AL.any (h := POp.k Tryz.func82 (hc := meet_i x y)) ?_ | refine AL.any (h := POp.k Tryz.func83 (hc := arnd_i _ (by assumption))) ?_ | refine AL.any (h := POp.k Tryz.func84 (hc := isSeg_i x)) ?_ | refine AL.U ?_ | refine AL.F ?_ | refine AL.T ?_ | refine AL.T (h := POp.k Tryz.func82 (hc := meet_i x y)) ?_ | refine AL.T (h := POp.k Tryz.func83 (hc := arnd_i _ (by assumption))) ?_ | refine AL.T (h := POp.k Tryz.func84 (hc := isSeg_i x)) ?_ | refine AL.W ?_ | refine AL.W (h := fun h => by (try rw [h]); exact POp.k Tryz.func82 (hc := meet_i x y)) ?_ | refine AL.W (h := fun h => by (try rw [h]); exact POp.k Tryz.func83 (hc := arnd_i _ (by assumption))) ?_ | refine AL.W (h := fun h => by (try rw [h]); exact POp.k Tryz.func84 (hc := isSeg_i x)) ?_ | refine AL.nil ?_)
        | ((with_reducible show DL _ _ _ _ _ _ _); first | refine DL.any ?_ | refine DL.any (h := POp.k Tryz.func82 (hc := meet_i x y)) ?_ | refine DL.any (h := POp.k Tryz.func83 (hc := arnd_i _ (by assumption))) ?_ | refine DL.any (h := POp.k Tryz.func84 (hc := isSeg_i x)) ?_ | refine DL.nil ?_)
        | ((with_reducible show AW _ _ _ _ _ _); first | refine AW.seq ?_ | refine AW.region ?_ | refine AW.skip ?_ | refine AW.dr (id := 15) 10 ?_ | refine AW.cT ?_ | refine AW.cF ?_ | (refine AW.c2 ?_ ?_ <;> (intro h; try simp only [Bool.not_eq_true', Bool.not_eq_false'] at h)) | refine AW.block ?_ | refine AW.exit ?_ | refine AW.ret ?_)
        | with_reducible refine (if_pos rfl).mpr ?_
        | with_reducible refine (if_neg (by decide)).mpr ?_) <;> (try dsimp only))
      all_goals first
        | exact Fin.one rfl (RV.tmp (by rfl)) (clo_c _) ⟨by first | (simp_all [isRing]; done) | (simp_all [isRing, inr] <;> omega), rfl⟩

end Go.Proofs.YtolmophnimngjaaGreat.Abs
