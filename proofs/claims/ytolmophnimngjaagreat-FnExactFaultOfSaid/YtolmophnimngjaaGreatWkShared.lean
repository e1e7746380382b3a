/- The walk of the reference's HowMeet. -/
import Derived.Test.YtolmophnimngjaaGreatWkStep
import Derived.Test.YtolmophnimngjaaGreatWkHm
namespace Go.Proofs.YtolmophnimngjaaGreat.Abs
open Go.Proofs Go.RowKit
set_option linter.unusedVariables false
set_option linter.unusedSimpArgs false
attribute [local irreducible] OpA AL AW DL DLM DLR DLS QOp POp VCalls VCallsI
set_option maxRecDepth 100000 in
set_option maxHeartbeats 2000000 in
theorem shared_s (s t : TSegment) : VCalls Tryz.prog 92 [.agg s.en, .agg t.en] (fun r M => r = I ((shK s t 4).length) ∧ M = []) := by
  refine VCalls.bodyE Tryz.func92 rfl 72 rfl (fun E hE => ?_)
  simp only [List.reduceReplicate, List.cons_append, List.nil_append]
  repeat' ((first
    | ((with_reducible show AL _ _ _ _ _ _ _); first | refine AL.any ?_ | refine AL.any (h := POp.k Tryz.func107 (hc := by first | exact isOn_s s (endE s t i) | exact isOn_s t (endE s t i))) ?_ | refine AL.U ?_ | refine AL.F ?_ | refine AL.T ?_ | refine AL.T (h := POp.k Tryz.func107 (hc := by first | exact isOn_s s (endE s t i) | exact isOn_s t (endE s t i))) ?_ | refine AL.W ?_ | refine AL.W (h := fun h => by (try rw [h]); exact POp.k Tryz.func107 (hc := by first | exact isOn_s s (endE s t i) | exact isOn_s t (endE s t i))) ?_ | refine AL.nil ?_)
    | ((with_reducible show DL _ _ _ _ _ _ _); first | refine DL.any ?_ | refine DL.any (h := POp.k Tryz.func107 (hc := by first | exact isOn_s s (endE s t i) | exact isOn_s t (endE s t i))) ?_ | refine DL.U ?_ | refine DL.F ?_ | refine DL.T ?_ | refine DL.T (h := POp.k Tryz.func107 (hc := by first | exact isOn_s s (endE s t i) | exact isOn_s t (endE s t i))) ?_ | refine DL.W ?_ | refine DL.W (h := fun h => by (try rw [h]); exact POp.k Tryz.func107 (hc := by first | exact isOn_s s (endE s t i) | exact isOn_s t (endE s t i))) ?_ | refine DL.nil ?_)
    | ((with_reducible show AW _ _ _ _ _ _); first | refine AW.seq ?_ | refine AW.region ?_ | refine AW.skip ?_ | (refine AW.loopD hE (fun i : Nat => [.any, .any, .ref 0 0 4 0 0, .ref 1 0 4 0 0, .any, .own 2 (shK s t i).length, .own 3 0, I (i : Int), .any, .any, .any, .any, .any, .any, .any, .any, .any, .any, .any, .any, .any, .any, .any, .any, .any, .any, .any, .any, .any, .any, .any, .any, .any, .any, .any, .any, .any, .any, .any, .any, .any, .any, .any, .any, .any, .any, .any, .any, .any, .any, .any, .any, .any, .any, .any, .any, .any, .any, .any, .any, .any, .any, .any, .any, .any, .any, .any, .any, .any, .any, .any, .any, .any, .any]) (fun i => [some ⟨114, 4, 0, true, [s.en]⟩, some ⟨114, 4, 0, true, [t.en]⟩, some ⟨94, 2, (shK s t i).length, false, (shK s t i).map TPoint.en⟩, some ⟨94, 2, 0, false, (endsL s t).map TPoint.en⟩]) (fun i => 4 - i) (fun i => i ≤ 4) 0 (Nat.zero_le _) ?_ (by first | rfl | (simp; done)) ?_) | refine AW.dr (id := 6) 19 ?_ | refine AW.dr (id := 10) 10 ?_ | refine AW.cT ?_ | refine AW.cF ?_ | (refine AW.c2 ?_ ?_ <;> (intro h; try simp only [Bool.not_eq_true', Bool.not_eq_false'] at h)) | refine AW.block ?_ | refine AW.exit ?_ | refine AW.ret ?_)
    | with_reducible refine (if_pos rfl).mpr ?_
    | with_reducible refine (if_neg (by decide)).mpr ?_) <;> (try dsimp only))
  · (repeat' (first | exact Wk.nil | refine Wk.any ?_ | (with_reducible refine Wk.same ?_) | refine Wk.of ?_ ?_)) <;> first | rfl | (simp; done)
  · intro i hv_i
    by_cases hlt_i : i < 4
    · skip
      have hti : decide ((i : Int) < 4) = true := by simp; omega
      have hni : IntKind.i64.wrap ((i : Int) + 1) = ((i + 1 : Nat) : Int) := by rw [w64 (by omega) (by omega)]; omega
      have hge := end_get (s := s) (t := t) hlt_i
      have hix : ((i : Int)).toNat < ((endsL s t).map TPoint.en).length := by simp [endsL]; omega
      have hln := shK_len s t i
      have hz := onK_zero s t i
      have hm1 := sh_add (s := s) (t := t) (i := i)
      have hm0 := sh_not (s := s) (t := t) (i := i)
      have hc2 : (decide ((i : Int) < 2) = true ∧ decide ((i : Int) ≥ 2) = false ∧ onE s t i = onW t (endE s t i)) ∨ (decide ((i : Int) < 2) = false ∧ decide ((i : Int) ≥ 2) = true ∧ onE s t i = onW s (endE s t i)) := by
        rcases Nat.lt_or_ge i 2 with h2 | h2
        · exact .inl ⟨by simp; omega, by simp; omega, by simp [onE, h2]⟩
        · exact .inr ⟨by simp; omega, by simp; omega, by simp [onE]; omega⟩
      rcases hc2 with ⟨hA, hB, hon⟩ | ⟨hA, hB, hon⟩
      cases hw : onW t (endE s t i)
      all_goals
        repeat' ((first
          | ((with_reducible show AL _ _ _ _ _ _ _); first | refine AL.any ?_ | refine AL.any (h := POp.k Tryz.func107 (hc := by first | exact isOn_s s (endE s t i) | exact isOn_s t (endE s t i))) ?_ | refine AL.U ?_ | refine AL.F ?_ | refine AL.T ?_ | refine AL.T (h := POp.k Tryz.func107 (hc := by first | exact isOn_s s (endE s t i) | exact isOn_s t (endE s t i))) ?_ | refine AL.W ?_ | refine AL.W (h := fun h => by (try rw [h]); exact POp.k Tryz.func107 (hc := by first | exact isOn_s s (endE s t i) | exact isOn_s t (endE s t i))) ?_ | refine AL.nil ?_)
          | ((with_reducible show DL _ _ _ _ _ _ _); first | refine DL.any ?_ | refine DL.any (h := POp.k Tryz.func107 (hc := by first | exact isOn_s s (endE s t i) | exact isOn_s t (endE s t i))) ?_ | refine DL.U ?_ | refine DL.F ?_ | refine DL.T ?_ | refine DL.T (h := POp.k Tryz.func107 (hc := by first | exact isOn_s s (endE s t i) | exact isOn_s t (endE s t i))) ?_ | refine DL.W ?_ | refine DL.W (h := fun h => by (try rw [h]); exact POp.k Tryz.func107 (hc := by first | exact isOn_s s (endE s t i) | exact isOn_s t (endE s t i))) ?_ | refine DL.nil ?_)
          | ((with_reducible show AW _ _ _ _ _ _); first | refine AW.seq ?_ | refine AW.region ?_ | refine AW.skip ?_ | (refine AW.loopD hE (fun k : Nat => [.any, .any, .ref 0 0 4 0 0, .ref 1 0 4 0 0, .any, .own 2 (shK s t i).length, .own 3 0, I (i : Int), B (onK s t i k), I (k : Int), .any, .any, .any, .any, .any, .any, .any, .any, .any, .any, .any, .any, .any, .any, .any, .any, .any, .any, .any, .any, .any, .any, .any, .any, .any, .any, .any, .any, .any, .any, .any, .any, .any, .any, .any, .any, .any, .any, .any, .any, .any, .any, .any, .any, .any, .any, .any, .any, .any, .any, .any, .any, .any, .any, .any, .any, .any, .any, .any, .any, .any, .any, .any, .any]) (fun k => [some ⟨114, 4, 0, true, [s.en]⟩, some ⟨114, 4, 0, true, [t.en]⟩, some ⟨94, 2, (shK s t i).length, false, (shK s t i).map TPoint.en⟩, some ⟨94, 2, 0, false, (endsL s t).map TPoint.en⟩]) (fun k => (shK s t i).length - k) (fun k => k ≤ (shK s t i).length) 0 (Nat.zero_le _) ?_ (by first | rfl | (simp; done)) ?_) | refine AW.dr (id := 6) 19 ?_ | refine AW.dr (id := 10) 10 ?_ | refine AW.cT ?_ | refine AW.cF ?_ | (refine AW.c2 ?_ ?_ <;> (intro h; try simp only [Bool.not_eq_true', Bool.not_eq_false'] at h)) | refine AW.block ?_ | refine AW.exit ?_ | refine AW.ret ?_)
          | with_reducible refine (if_pos rfl).mpr ?_
          | with_reducible refine (if_neg (by decide)).mpr ?_) <;> (try dsimp only))
        · (repeat' (first | exact Wk.nil | refine Wk.any ?_ | (with_reducible refine Wk.same ?_) | refine Wk.of ?_ ?_)) <;> first | rfl | (simp_all)
        · intro k hv_k
          by_cases hlt_k : k < (shK s t i).length
          · skip
            obtain ⟨q, hq⟩ : ∃ q, (shK s t i)[k]? = some q := ⟨_, List.getElem?_eq_getElem hlt_k⟩
            have hgk := map_get (f := TPoint.en) hq
            have htk := lt_true (f := TPoint.en) hlt_k
            have hnk := next_ix hlt_k (by omega)
            have hkx : ((k : Int)).toNat < ((shK s t i).map TPoint.en).length := by simp; omega
            have hks := onK_succ hq
            repeat' ((first
              | ((with_reducible show AL _ _ _ _ _ _ _); first | refine AL.any ?_ | refine AL.any (h := POp.k Tryz.func107 (hc := by first | exact isOn_s s (endE s t i) | exact isOn_s t (endE s t i))) ?_ | refine AL.U ?_ | refine AL.F ?_ | refine AL.T ?_ | refine AL.T (h := POp.k Tryz.func107 (hc := by first | exact isOn_s s (endE s t i) | exact isOn_s t (endE s t i))) ?_ | refine AL.W ?_ | refine AL.W (h := fun h => by (try rw [h]); exact POp.k Tryz.func107 (hc := by first | exact isOn_s s (endE s t i) | exact isOn_s t (endE s t i))) ?_ | refine AL.nil ?_)
              | ((with_reducible show DL _ _ _ _ _ _ _); first | refine DL.any ?_ | refine DL.any (h := POp.k Tryz.func107 (hc := by first | exact isOn_s s (endE s t i) | exact isOn_s t (endE s t i))) ?_ | refine DL.U ?_ | refine DL.F ?_ | refine DL.T ?_ | refine DL.T (h := POp.k Tryz.func107 (hc := by first | exact isOn_s s (endE s t i) | exact isOn_s t (endE s t i))) ?_ | refine DL.W ?_ | refine DL.W (h := fun h => by (try rw [h]); exact POp.k Tryz.func107 (hc := by first | exact isOn_s s (endE s t i) | exact isOn_s t (endE s t i))) ?_ | refine DL.nil ?_)
              | ((with_reducible show AW _ _ _ _ _ _); first | refine AW.seq ?_ | refine AW.region ?_ | refine AW.skip ?_ | refine AW.dr (id := 6) 19 ?_ | refine AW.dr (id := 10) 10 ?_ | refine AW.cT ?_ | refine AW.cF ?_ | (refine AW.c2 ?_ ?_ <;> (intro h; try simp only [Bool.not_eq_true', Bool.not_eq_false'] at h)) | refine AW.block ?_ | refine AW.exit ?_ | refine AW.ret ?_)
              | with_reducible refine (if_pos rfl).mpr ?_
              | with_reducible refine (if_neg (by decide)).mpr ?_) <;> (try dsimp only))
            all_goals first
              | (refine ⟨k + 1, _, hlt_k, by omega, ?_, rfl, ?_, ?_⟩; (focus ((repeat' (first | exact Wk.nil | refine Wk.any ?_ | (with_reducible refine Wk.same ?_) | refine Wk.of ?_ ?_)) <;> (simp_all))); (focus ((repeat' (first | exact Fits.nil _ | refine Fits.cons ?_ ?_ | exact Fits.any _ | exact Fits.c _ _ | exact Fits.own (by rfl) | exact Fits.ref (by rfl) | exact Fits.clo (by assumption) | exact Fits.clo (clo_of (by rfl)) | exact Fits.clo (clo_fn _))))); (focus (exact fitsM_cons (clo_one s.clo_en) (fitsM_cons (clo_one t.clo_en) (fitsM_cons (clo_rows TPoint.clo_en) (fitsM_cons (clo_rows TPoint.clo_en) (FitsM.nil _)))))))
          · have e_k : k = (shK s t i).length := by omega
            have htk := lt_false (f := TPoint.en) (show ¬ k < (shK s t i).length by omega)
            subst e_k
            repeat' ((first
              | ((with_reducible show AL _ _ _ _ _ _ _); first | refine AL.any ?_ | refine AL.any (h := POp.k Tryz.func107 (hc := by first | exact isOn_s s (endE s t i) | exact isOn_s t (endE s t i))) ?_ | refine AL.U ?_ | refine AL.F ?_ | refine AL.T ?_ | refine AL.T (h := POp.k Tryz.func107 (hc := by first | exact isOn_s s (endE s t i) | exact isOn_s t (endE s t i))) ?_ | refine AL.W ?_ | refine AL.W (h := fun h => by (try rw [h]); exact POp.k Tryz.func107 (hc := by first | exact isOn_s s (endE s t i) | exact isOn_s t (endE s t i))) ?_ | refine AL.nil ?_)
              | ((with_reducible show DL _ _ _ _ _ _ _); first | refine DL.any ?_ | refine DL.any (h := POp.k Tryz.func107 (hc := by first | exact isOn_s s (endE s t i) | exact isOn_s t (endE s t i))) ?_ | refine DL.U ?_ | refine DL.F ?_ | refine DL.T ?_ | refine DL.T (h := POp.k Tryz.func107 (hc := by first | exact isOn_s s (endE s t i) | exact isOn_s t (endE s t i))) ?_ | refine DL.W ?_ | refine DL.W (h := fun h => by (try rw [h]); exact POp.k Tryz.func107 (hc := by first | exact isOn_s s (endE s t i) | exact isOn_s t (endE s t i))) ?_ | refine DL.nil ?_)
              | ((with_reducible show AW _ _ _ _ _ _); first | refine AW.seq ?_ | refine AW.region ?_ | refine AW.skip ?_ | refine AW.dr (id := 6) 19 ?_ | refine AW.dr (id := 10) 10 ?_ | refine AW.cT ?_ | refine AW.cF ?_ | (refine AW.c2 ?_ ?_ <;> (intro h; try simp only [Bool.not_eq_true', Bool.not_eq_false'] at h)) | refine AW.block ?_ | refine AW.exit ?_ | refine AW.ret ?_)
              | with_reducible refine (if_pos rfl).mpr ?_
              | with_reducible refine (if_neg (by decide)).mpr ?_) <;> (try dsimp only))
            all_goals first
              | (refine ⟨i + 1, _, hlt_i, by omega, ?_, by rw [(hm1 (by assumption)).1, (hm1 (by assumption)).2] <;> rfl, ?_, ?_⟩; (focus ((repeat' (first | exact Wk.nil | refine Wk.any ?_ | (with_reducible refine Wk.same ?_) | refine Wk.of ?_ ?_)) <;> (simp_all))); (focus ((repeat' (first | exact Fits.nil _ | refine Fits.cons ?_ ?_ | exact Fits.any _ | exact Fits.c _ _ | exact Fits.own (by rfl) | exact Fits.ref (by rfl) | exact Fits.clo (by assumption) | exact Fits.clo (clo_of (by rfl)) | exact Fits.clo (clo_fn _))))); (focus (exact fitsM_cons (clo_one s.clo_en) (fitsM_cons (clo_one t.clo_en) (fitsM_cons (clo_rows TPoint.clo_en) (fitsM_cons (clo_rows TPoint.clo_en) (FitsM.nil _)))))))
              | (refine ⟨i + 1, _, hlt_i, by omega, ?_, by rw [(hm0 (by assumption)).1, (hm0 (by assumption)).2] <;> rfl, ?_, ?_⟩; (focus ((repeat' (first | exact Wk.nil | refine Wk.any ?_ | (with_reducible refine Wk.same ?_) | refine Wk.of ?_ ?_)) <;> (simp_all))); (focus ((repeat' (first | exact Fits.nil _ | refine Fits.cons ?_ ?_ | exact Fits.any _ | exact Fits.c _ _ | exact Fits.own (by rfl) | exact Fits.ref (by rfl) | exact Fits.clo (by assumption) | exact Fits.clo (clo_of (by rfl)) | exact Fits.clo (clo_fn _))))); (focus (exact fitsM_cons (clo_one s.clo_en) (fitsM_cons (clo_one t.clo_en) (fitsM_cons (clo_rows TPoint.clo_en) (fitsM_cons (clo_rows TPoint.clo_en) (FitsM.nil _)))))))
    · have e_i : i = 4 := by omega
      have hti : decide ((i : Int) < 4) = false := by simp; omega
      subst e_i
      repeat' ((first
        | ((with_reducible show AL _ _ _ _ _ _ _); first | refine AL.any ?_ | refine AL.any (h := POp.k Tryz.func107 (hc := by first | exact isOn_s s (endE s t i) | exact isOn_s t (endE s t i))) ?_ | refine AL.U ?_ | refine AL.F ?_ | refine AL.T ?_ | refine AL.T (h := POp.k Tryz.func107 (hc := by first | exact isOn_s s (endE s t i) | exact isOn_s t (endE s t i))) ?_ | refine AL.W ?_ | refine AL.W (h := fun h => by (try rw [h]); exact POp.k Tryz.func107 (hc := by first | exact isOn_s s (endE s t i) | exact isOn_s t (endE s t i))) ?_ | refine AL.nil ?_)
        | ((with_reducible show DL _ _ _ _ _ _ _); first | refine DL.any ?_ | refine DL.any (h := POp.k Tryz.func107 (hc := by first | exact isOn_s s (endE s t i) | exact isOn_s t (endE s t i))) ?_ | refine DL.U ?_ | refine DL.F ?_ | refine DL.T ?_ | refine DL.T (h := POp.k Tryz.func107 (hc := by first | exact isOn_s s (endE s t i) | exact isOn_s t (endE s t i))) ?_ | refine DL.W ?_ | refine DL.W (h := fun h => by (try rw [h]); exact POp.k Tryz.func107 (hc := by first | exact isOn_s s (endE s t i) | exact isOn_s t (endE s t i))) ?_ | refine DL.nil ?_)
        | ((with_reducible show AW _ _ _ _ _ _); first | refine AW.seq ?_ | refine AW.region ?_ | refine AW.skip ?_ | refine AW.dr (id := 6) 19 ?_ | refine AW.dr (id := 10) 10 ?_ | refine AW.cT ?_ | refine AW.cF ?_ | (refine AW.c2 ?_ ?_ <;> (intro h; try simp only [Bool.not_eq_true', Bool.not_eq_false'] at h)) | refine AW.block ?_ | refine AW.exit ?_ | refine AW.ret ?_)
        | with_reducible refine (if_pos rfl).mpr ?_
        | with_reducible refine (if_neg (by decide)).mpr ?_) <;> (try dsimp only))
      all_goals first
        | exact Fin.one rfl (RV.tmp (by rfl)) (clo_c _) ⟨by first | rfl | (simp_all; done), rfl⟩

end Go.Proofs.YtolmophnimngjaaGreat.Abs
