/- Part B of the walk over abstract states and of the functions' walks. -/
import Derived.Test.YtacbpfbelcdeiaaWkStep
import Derived.Test.YtacbpfbelcdeiaaBnA
/- The walk of the reference's HowMeet. -/
namespace Go.Proofs.Ytacbpfbelcdeiaa.Abs
open Go.Proofs Go.RowKit
set_option linter.unusedVariables false
set_option linter.unusedSimpArgs false
attribute [local irreducible] OpA AL AW DL DLM DLR DLS QOp POp VCalls VCallsI
set_option maxRecDepth 100000 in
set_option maxHeartbeats 2000000 in
theorem meet_s0 (s t : TSegment) : VCalls Try.prog 85 [.agg s.en, .agg t.en] (fun r M => r = I (hmS s t) ∧ M = []) := by
  refine VCalls.body Try.func85 rfl 118 rfl (fun E => ?_)
  simp only [List.reduceReplicate, List.cons_append, List.nil_append]
  dsimp only [TPoint.en, TSegment.en]
  repeat' ((first
    | ((with_reducible show AL _ _ _ _ _ _ _); first | refine AL.any ?_ | refine AL.any (h := POp.k Try.func70 (hc := by first | exact isSeg_s s | exact isSeg_s t)) ?_ | refine AL.any (h := POp.k Try.func72 (hc := by first | exact side_s s.a s.b t.a | exact side_s s.a s.b t.b | exact side_s t.a t.b s.a | exact side_s t.a t.b s.b)) ?_ | refine AL.any (h := POp.k Try.func86 (hc := min_s _ _)) ?_ | refine AL.any (h := POp.k Try.func87 (hc := max_s _ _)) ?_ | refine AL.any (h := POp.k Try.func95 (hc := shared_s s t)) ?_ | refine AL.U ?_ | refine AL.F ?_ | refine AL.T ?_ | refine AL.T (h := POp.k Try.func70 (hc := by first | exact isSeg_s s | exact isSeg_s t)) ?_ | refine AL.T (h := POp.k Try.func72 (hc := by first | exact side_s s.a s.b t.a | exact side_s s.a s.b t.b | exact side_s t.a t.b s.a | exact side_s t.a t.b s.b)) ?_ | refine AL.T (h := POp.k Try.func86 (hc := min_s _ _)) ?_ | refine AL.T (h := POp.k Try.func87 (hc := max_s _ _)) ?_ | refine AL.T (h := POp.k Try.func95 (hc := shared_s s t)) ?_ | refine AL.W ?_ | refine AL.W (h := fun h => by (try rw [h]); exact POp.k Try.func70 (hc := by first | exact isSeg_s s | exact isSeg_s t)) ?_ | refine AL.W (h := fun h => by (try rw [h]); exact POp.k Try.func72 (hc := by first | exact side_s s.a s.b t.a | exact side_s s.a s.b t.b | exact side_s t.a t.b s.a | exact side_s t.a t.b s.b)) ?_ | refine AL.W (h := fun h => by (try rw [h]); exact POp.k Try.func86 (hc := min_s _ _)) ?_ | refine AL.W (h := fun h => by (try rw [h]); exact POp.k Try.func87 (hc := max_s _ _)) ?_ | refine AL.W (h := fun h => by (try rw [h]); exact POp.k Try.func95 (hc := shared_s s t)) ?_ | refine AL.nil ?_)
    | ((with_reducible show DL _ _ _ _ _ _ _); first | refine DL.any ?_ | refine DL.any (h := POp.k Try.func70 (hc := by first | exact isSeg_s s | exact isSeg_s t)) ?_ | refine DL.any (h := POp.k Try.func72 (hc := by first | exact side_s s.a s.b t.a | exact side_s s.a s.b t.b | exact side_s t.a t.b s.a | exact side_s t.a t.b s.b)) ?_ | refine DL.any (h := POp.k Try.func86 (hc := min_s _ _)) ?_ | refine DL.any (h := POp.k Try.func87 (hc := max_s _ _)) ?_ | refine DL.any (h := POp.k Try.func95 (hc := shared_s s t)) ?_ | refine DL.U ?_ | refine DL.F ?_ | refine DL.T ?_ | refine DL.T (h := POp.k Try.func70 (hc := by first | exact isSeg_s s | exact isSeg_s t)) ?_ | refine DL.T (h := POp.k Try.func72 (hc := by first | exact side_s s.a s.b t.a | exact side_s s.a s.b t.b | exact side_s t.a t.b s.a | exact side_s t.a t.b s.b)) ?_ | refine DL.T (h := POp.k Try.func86 (hc := min_s _ _)) ?_ | refine DL.T (h := POp.k Try.func87 (hc := max_s _ _)) ?_ | refine DL.T (h := POp.k Try.func95 (hc := shared_s s t)) ?_ | refine DL.W ?_ | refine DL.W (h := fun h => by (try rw [h]); exact POp.k Try.func70 (hc := by first | exact isSeg_s s | exact isSeg_s t)) ?_ | refine DL.W (h := fun h => by (try rw [h]); exact POp.k Try.func72 (hc := by first | exact side_s s.a s.b t.a | exact side_s s.a s.b t.b | exact side_s t.a t.b s.a | exact side_s t.a t.b s.b)) ?_ | refine DL.W (h := fun h => by (try rw [h]); exact POp.k Try.func86 (hc := min_s _ _)) ?_ | refine DL.W (h := fun h => by (try rw [h]); exact POp.k Try.func87 (hc := max_s _ _)) ?_ | refine DL.W (h := fun h => by (try rw [h]); exact POp.k Try.func95 (hc := shared_s s t)) ?_ | refine DL.nil ?_)
    | ((with_reducible show AW _ _ _ _ _ _); first | refine AW.seq ?_ | refine AW.region ?_ | refine AW.skip ?_ | refine AW.dr (id := 3) 63 ?_ | refine AW.dr (id := 7) 30 ?_ | refine AW.cT ?_ | refine AW.cF ?_ | (refine AW.c2 ?_ ?_ <;> (intro h; try simp only [Bool.not_eq_true', Bool.not_eq_false'] at h)) | refine AW.block ?_ | refine AW.exit ?_ | refine AW.ret ?_)
    | with_reducible refine (if_pos rfl).mpr ?_
    | with_reducible refine (if_neg (by decide)).mpr ?_) <;> (try dsimp only))
  all_goals exact Fin.one rfl (RV.tmp (by rfl)) (clo_c _) ⟨by first | (simp only [hmS, apW]; simp_all; done) | (unfold hmS apW wmul; simp only [*, Bool.false_eq_true, if_false, if_true]; done), rfl⟩

theorem meet_s (s t : TSegment) : VCalls Try.prog 85 [.agg s.en, .agg t.en] (fun r M => r = I (hmI s t) ∧ M = []) := hmS_eq s t ▸ meet_s0 s t
end Go.Proofs.Ytacbpfbelcdeiaa.Abs

/- The walks of IsRing. -/
namespace Go.Proofs.Ytacbpfbelcdeiaa.Abs
open Go.Proofs Go.RowKit
set_option linter.unusedVariables false
set_option linter.unusedSimpArgs false
attribute [local irreducible] OpA AL AW DL DLM DLR DLS QOp POp VCalls VCallsI
set_option maxRecDepth 100000 in
set_option maxHeartbeats 2000000 in
theorem isRing_s (l : List TPoint) (hl : l.length ≤ 1048576) : VCalls Try.prog 67 [.ro 2 (l.map TPoint.en)] (fun r M => r = B (isRing l) ∧ M = []) := by
  refine VCalls.bodyE Try.func67 rfl 55 rfl (fun E hE => ?_)
  simp only [List.reduceReplicate, List.cons_append, List.nil_append]
  have hclo : Clo (.ro 2 (l.map TPoint.en)) := clo_list TPoint.clo_en
  have hclA : Clo (.ro 4 ((arnd l).map TSegment.en)) := clo_list TSegment.clo_en
  have hal := arnd_len l
  have hclo : Clo (.ro 2 (l.map TPoint.en)) := clo_list TPoint.clo_en
  have hclA : Clo (.ro 4 ((arnd l).map TSegment.en)) := clo_list TSegment.clo_en
  have hal := arnd_len l
  repeat' ((first
    | ((with_reducible show AL _ _ _ _ _ _ _); first | refine AL.any ?_ | refine AL.any (h := POp.k Try.func51 (hc := inr_s _ _ _)) ?_ | refine AL.any (h := POp.k Try.func70 (hc := isSeg_s x)) ?_ | refine AL.any (h := POp.k Try.func74 (hc := arnd_s _ (by assumption))) ?_ | refine AL.any (h := POp.k Try.func85 (hc := meet_s x y)) ?_ | refine AL.U ?_ | refine AL.F ?_ | refine AL.T ?_ | refine AL.T (h := POp.k Try.func51 (hc := inr_s _ _ _)) ?_ | refine AL.T (h := POp.k Try.func70 (hc := isSeg_s x)) ?_ | refine AL.T (h := POp.k Try.func74 (hc := arnd_s _ (by assumption))) ?_ | refine AL.T (h := POp.k Try.func85 (hc := meet_s x y)) ?_ | refine AL.W ?_ | refine AL.W (h := fun h => by (try rw [h]); exact POp.k Try.func51 (hc := inr_s _ _ _)) ?_ | refine AL.W (h := fun h => by (try rw [h]); exact POp.k Try.func70 (hc := isSeg_s x)) ?_ | refine AL.W (h := fun h => by (try rw [h]); exact POp.k Try.func74 (hc := arnd_s _ (by assumption))) ?_ | refine AL.W (h := fun h => by (try rw [h]); exact POp.k Try.func85 (hc := meet_s x y)) ?_ | refine AL.nil ?_)
    | ((with_reducible show DL _ _ _ _ _ _ _); first | refine DL.any ?_ | refine DL.any (h := POp.k Try.func51 (hc := inr_s _ _ _)) ?_ | refine DL.any (h := POp.k Try.func70 (hc := isSeg_s x)) ?_ | refine DL.any (h := POp.k Try.func74 (hc := arnd_s _ (by assumption))) ?_ | refine DL.any (h := POp.k Try.func85 (hc := meet_s x y)) ?_ | refine DL.nil ?_)
    | ((with_reducible show AW _ _ _ _ _ _); first | refine AW.seq ?_ | refine AW.region ?_ | refine AW.skip ?_ | (refine AW.loopD hE (fun i : Nat => [.ro 2 (l.map TPoint.en), .any, .any, .ro 4 ((arnd l).map TSegment.en), I (i : Int), .any, .any, .any, .any, .any, .any, .any, .any, .any, .any, .any, .any, .any, .any, .any, .any, .any, .any, .any, .any, .any, .any, .any, .any, .any, .any, .any, .any, .any, .any, .any, .any, .any, .any, .any, .any, .any, .any, .any, .any, .any, .any, .any, .any, .any, .any, .any, .any, .any, .any, .any]) (fun i => []) (fun i => (arnd l).length - i) (fun i => i ≤ (arnd l).length ∧ rgOk l i = true) 0 ⟨Nat.zero_le _, by simp [rgOk]⟩ ?_ (by first | rfl | (simp; done)) ?_) | refine AW.dr (id := 15) 10 ?_ | refine AW.cT ?_ | refine AW.cF ?_ | (refine AW.c2 ?_ ?_ <;> (intro h; try simp only [Bool.not_eq_true', Bool.not_eq_false'] at h)) | refine AW.block ?_ | refine AW.exit ?_ | refine AW.ret ?_)
    | with_reducible refine (if_pos rfl).mpr ?_
    | with_reducible refine (if_neg (by decide)).mpr ?_) <;> (try dsimp only))
  any_goals first | exact Fin.one rfl (RV.tmp (by rfl)) (clo_c _) ⟨by simp_all [isRing, inr] <;> omega, rfl⟩
  · (repeat' (first | exact Wk.nil | refine Wk.any ?_ | (with_reducible refine Wk.same ?_) | refine Wk.of ?_ ?_)) <;> first | rfl | (simp; done)
  · intro i hv_i
    have hclo : Clo (.ro 2 (l.map TPoint.en)) := clo_list TPoint.clo_en
    have hclA : Clo (.ro 4 ((arnd l).map TSegment.en)) := clo_list TSegment.clo_en
    have hal := arnd_len l
    by_cases hlt_i : i < (arnd l).length
    · skip
      obtain ⟨x, hx⟩ : ∃ x, (arnd l)[i]? = some x := ⟨_, List.getElem?_eq_getElem hlt_i⟩
      have hgx := map_get (f := TSegment.en) hx
      have hti := lt_true (f := TSegment.en) hlt_i
      have hni := next_ix hlt_i (by omega)
      have hro := rgOk_succ l i
      have hsx := sAt_of hx
      have hra : rgAt l i = (isSeg x && rgIn l i i) := by unfold rgAt; rw [hsx]
      repeat' ((first
        | ((with_reducible show AL _ _ _ _ _ _ _); first | refine AL.any ?_ | refine AL.any (h := POp.k Try.func51 (hc := inr_s _ _ _)) ?_ | refine AL.any (h := POp.k Try.func70 (hc := isSeg_s x)) ?_ | refine AL.any (h := POp.k Try.func74 (hc := arnd_s _ (by assumption))) ?_ | refine AL.any (h := POp.k Try.func85 (hc := meet_s x y)) ?_ | refine AL.U ?_ | refine AL.F ?_ | refine AL.T ?_ | refine AL.T (h := POp.k Try.func51 (hc := inr_s _ _ _)) ?_ | refine AL.T (h := POp.k Try.func70 (hc := isSeg_s x)) ?_ | refine AL.T (h := POp.k Try.func74 (hc := arnd_s _ (by assumption))) ?_ | refine AL.T (h := POp.k Try.func85 (hc := meet_s x y)) ?_ | refine AL.W ?_ | refine AL.W (h := fun h => by (try rw [h]); exact POp.k Try.func51 (hc := inr_s _ _ _)) ?_ | refine AL.W (h := fun h => by (try rw [h]); exact POp.k Try.func70 (hc := isSeg_s x)) ?_ | refine AL.W (h := fun h => by (try rw [h]); exact POp.k Try.func74 (hc := arnd_s _ (by assumption))) ?_ | refine AL.W (h := fun h => by (try rw [h]); exact POp.k Try.func85 (hc := meet_s x y)) ?_ | refine AL.nil ?_)
        | ((with_reducible show DL _ _ _ _ _ _ _); first | refine DL.any ?_ | refine DL.any (h := POp.k Try.func51 (hc := inr_s _ _ _)) ?_ | refine DL.any (h := POp.k Try.func70 (hc := isSeg_s x)) ?_ | refine DL.any (h := POp.k Try.func74 (hc := arnd_s _ (by assumption))) ?_ | refine DL.any (h := POp.k Try.func85 (hc := meet_s x y)) ?_ | refine DL.nil ?_)
        | ((with_reducible show AW _ _ _ _ _ _); first | refine AW.seq ?_ | refine AW.region ?_ | refine AW.skip ?_ | (refine AW.loopD hE (fun k : Nat => [.ro 2 (l.map TPoint.en), .any, .any, .ro 4 ((arnd l).map TSegment.en), I (i : Int), I (k : Int), .any, .any, .any, .any, .any, .any, .any, .any, .any, .any, .any, .any, .any, .any, .any, .any, .any, .any, .any, .any, .any, .any, .any, .any, .any, .any, .any, .any, .any, .any, .any, .any, .any, .any, .any, .any, .any, .any, .any, .any, .any, .any, .any, .any, .any, .any, .any, .any, .any, .any]) (fun k => []) (fun k => i - k) (fun k => k ≤ i ∧ rgIn l i k = true) 0 ⟨Nat.zero_le _, by simp [rgIn]⟩ ?_ (by first | rfl | (simp; done)) ?_) | refine AW.dr (id := 15) 10 ?_ | refine AW.cT ?_ | refine AW.cF ?_ | (refine AW.c2 ?_ ?_ <;> (intro h; try simp only [Bool.not_eq_true', Bool.not_eq_false'] at h)) | refine AW.block ?_ | refine AW.exit ?_ | refine AW.ret ?_)
        | with_reducible refine (if_pos rfl).mpr ?_
        | with_reducible refine (if_neg (by decide)).mpr ?_) <;> (try dsimp only))
      any_goals first | exact Fin.one rfl (RV.tmp (by rfl)) (clo_c _) ⟨by have e2 := rgOk_not (l := l) (i := i) (n := l.length) (by simp_all) (by omega); simp_all [isRing], rfl⟩
      · (repeat' (first | exact Wk.nil | refine Wk.any ?_ | (with_reducible refine Wk.same ?_) | refine Wk.of ?_ ?_)) <;> first | rfl | (simp; done)
      · intro k hv_k
        have hclo : Clo (.ro 2 (l.map TPoint.en)) := clo_list TPoint.clo_en
        have hclA : Clo (.ro 4 ((arnd l).map TSegment.en)) := clo_list TSegment.clo_en
        have hal := arnd_len l
        by_cases hlt_k : k < i
        · skip
          obtain ⟨y, hy⟩ : ∃ y, (arnd l)[k]? = some y := ⟨_, List.getElem?_eq_getElem (by omega)⟩
          have hgy := map_get (f := TSegment.en) hy
          have htk : decide ((k : Int) < (i : Int)) = true := by simp; omega
          have hnk := next_ix hlt_k (by omega)
          have hsy := sAt_of hy
          have hrk : rgIn l i (k + 1) = (rgIn l i k && (hmI x y == wantN l.length i k)) := by rw [rgIn_succ, hsx, hsy]
          have hen : ((arnd l).map TSegment.en).length = l.length := by simp [hal]
          rcases want_s (n := l.length) (i := i) (k := k) (by omega) hlt_k hl with ⟨w1, wN⟩ | ⟨w1, w2, wN⟩ | ⟨w1, w2, w3, wN⟩ | ⟨w1, w2, w3, wN⟩
          all_goals try rw [← hen] at w3
          all_goals
            repeat' ((first
              | ((with_reducible show AL _ _ _ _ _ _ _); first | refine AL.any ?_ | refine AL.any (h := POp.k Try.func51 (hc := inr_s _ _ _)) ?_ | refine AL.any (h := POp.k Try.func70 (hc := isSeg_s x)) ?_ | refine AL.any (h := POp.k Try.func74 (hc := arnd_s _ (by assumption))) ?_ | refine AL.any (h := POp.k Try.func85 (hc := meet_s x y)) ?_ | refine AL.U ?_ | refine AL.F ?_ | refine AL.T ?_ | refine AL.T (h := POp.k Try.func51 (hc := inr_s _ _ _)) ?_ | refine AL.T (h := POp.k Try.func70 (hc := isSeg_s x)) ?_ | refine AL.T (h := POp.k Try.func74 (hc := arnd_s _ (by assumption))) ?_ | refine AL.T (h := POp.k Try.func85 (hc := meet_s x y)) ?_ | refine AL.W ?_ | refine AL.W (h := fun h => by (try rw [h]); exact POp.k Try.func51 (hc := inr_s _ _ _)) ?_ | refine AL.W (h := fun h => by (try rw [h]); exact POp.k Try.func70 (hc := isSeg_s x)) ?_ | refine AL.W (h := fun h => by (try rw [h]); exact POp.k Try.func74 (hc := arnd_s _ (by assumption))) ?_ | refine AL.W (h := fun h => by (try rw [h]); exact POp.k Try.func85 (hc := meet_s x y)) ?_ | refine AL.nil ?_)
              | ((with_reducible show DL _ _ _ _ _ _ _); first | refine DL.any ?_ | refine DL.any (h := POp.k Try.func51 (hc := inr_s _ _ _)) ?_ | refine DL.any (h := POp.k Try.func70 (hc := isSeg_s x)) ?_ | refine DL.any (h := POp.k Try.func74 (hc := arnd_s _ (by assumption))) ?_ | refine DL.any (h := POp.k Try.func85 (hc := meet_s x y)) ?_ | refine DL.nil ?_)
              | ((with_reducible show AW _ _ _ _ _ _); first | refine AW.seq ?_ | refine AW.region ?_ | refine AW.skip ?_ | refine AW.dr (id := 15) 10 ?_ | refine AW.cT ?_ | refine AW.cF ?_ | (refine AW.c2 ?_ ?_ <;> (intro h; try simp only [Bool.not_eq_true', Bool.not_eq_false'] at h)) | refine AW.block ?_ | refine AW.exit ?_ | refine AW.ret ?_)
              | with_reducible refine (if_pos rfl).mpr ?_
              | with_reducible refine (if_neg (by decide)).mpr ?_) <;> (try dsimp only))
            all_goals first
              | (refine ⟨k + 1, _, ⟨hlt_k, by simp_all⟩, by omega, ?_, rfl, ?_, ?_⟩; (focus ((repeat' (first | exact Wk.nil | refine Wk.any ?_ | (with_reducible refine Wk.same ?_) | refine Wk.of ?_ ?_)) <;> (simp_all))); (focus ((repeat' (first | exact Fits.nil _ | refine Fits.cons ?_ ?_ | exact Fits.any _ | exact Fits.c _ _ | exact Fits.own (by rfl) | exact Fits.ref (by rfl) | exact Fits.clo (by assumption) | exact Fits.clo (clo_of (by rfl)) | exact Fits.clo (clo_fn _))))); (focus (exact FitsM.nil _)))
              | exact Fin.one rfl (RV.tmp (by rfl)) (clo_c _) ⟨by have e1 := rgIn_not (l := l) (i := i) (k := k) (n := i) (by simp_all) hlt_k; have e2 := rgOk_not (l := l) (i := i) (n := l.length) (by simp_all) (by omega); simp_all [isRing], rfl⟩
        · have e_k : k = i := by omega
          have htk : decide ((k : Int) < (i : Int)) = false := by simp; omega
          have e2 := e_k.symm
          subst e2
          repeat' ((first
            | ((with_reducible show AL _ _ _ _ _ _ _); first | refine AL.any ?_ | refine AL.any (h := POp.k Try.func51 (hc := inr_s _ _ _)) ?_ | refine AL.any (h := POp.k Try.func70 (hc := isSeg_s x)) ?_ | refine AL.any (h := POp.k Try.func74 (hc := arnd_s _ (by assumption))) ?_ | refine AL.any (h := POp.k Try.func85 (hc := meet_s x y)) ?_ | refine AL.U ?_ | refine AL.F ?_ | refine AL.T ?_ | refine AL.T (h := POp.k Try.func51 (hc := inr_s _ _ _)) ?_ | refine AL.T (h := POp.k Try.func70 (hc := isSeg_s x)) ?_ | refine AL.T (h := POp.k Try.func74 (hc := arnd_s _ (by assumption))) ?_ | refine AL.T (h := POp.k Try.func85 (hc := meet_s x y)) ?_ | refine AL.W ?_ | refine AL.W (h := fun h => by (try rw [h]); exact POp.k Try.func51 (hc := inr_s _ _ _)) ?_ | refine AL.W (h := fun h => by (try rw [h]); exact POp.k Try.func70 (hc := isSeg_s x)) ?_ | refine AL.W (h := fun h => by (try rw [h]); exact POp.k Try.func74 (hc := arnd_s _ (by assumption))) ?_ | refine AL.W (h := fun h => by (try rw [h]); exact POp.k Try.func85 (hc := meet_s x y)) ?_ | refine AL.nil ?_)
            | ((with_reducible show DL _ _ _ _ _ _ _); first | refine DL.any ?_ | refine DL.any (h := POp.k Try.func51 (hc := inr_s _ _ _)) ?_ | refine DL.any (h := POp.k Try.func70 (hc := isSeg_s x)) ?_ | refine DL.any (h := POp.k Try.func74 (hc := arnd_s _ (by assumption))) ?_ | refine DL.any (h := POp.k Try.func85 (hc := meet_s x y)) ?_ | refine DL.nil ?_)
            | ((with_reducible show AW _ _ _ _ _ _); first | refine AW.seq ?_ | refine AW.region ?_ | refine AW.skip ?_ | refine AW.dr (id := 15) 10 ?_ | refine AW.cT ?_ | refine AW.cF ?_ | (refine AW.c2 ?_ ?_ <;> (intro h; try simp only [Bool.not_eq_true', Bool.not_eq_false'] at h)) | refine AW.block ?_ | refine AW.exit ?_ | refine AW.ret ?_)
            | with_reducible refine (if_pos rfl).mpr ?_
            | with_reducible refine (if_neg (by decide)).mpr ?_) <;> (try dsimp only))
          all_goals first
            | (refine ⟨i + 1, _, ⟨hlt_i, by simp_all⟩, by omega, ?_, rfl, ?_, ?_⟩; (focus ((repeat' (first | exact Wk.nil | refine Wk.any ?_ | (with_reducible refine Wk.same ?_) | refine Wk.of ?_ ?_)) <;> (simp_all))); (focus ((repeat' (first | exact Fits.nil _ | refine Fits.cons ?_ ?_ | exact Fits.any _ | exact Fits.c _ _ | exact Fits.own (by rfl) | exact Fits.ref (by rfl) | exact Fits.clo (by assumption) | exact Fits.clo (clo_of (by rfl)) | exact Fits.clo (clo_fn _))))); (focus (exact FitsM.nil _)))
    · have e_i : i = (arnd l).length := by omega
      have hti := lt_false (f := TSegment.en) (show ¬ i < (arnd l).length by omega)
      subst e_i
      repeat' ((first
        | ((with_reducible show AL _ _ _ _ _ _ _); first | refine AL.any ?_ | refine AL.any (h := POp.k Try.func51 (hc := inr_s _ _ _)) ?_ | refine AL.any (h := POp.k Try.func70 (hc := isSeg_s x)) ?_ | refine AL.any (h := POp.k Try.func74 (hc := arnd_s _ (by assumption))) ?_ | refine AL.any (h := POp.k Try.func85 (hc := meet_s x y)) ?_ | refine AL.U ?_ | refine AL.F ?_ | refine AL.T ?_ | refine AL.T (h := POp.k Try.func51 (hc := inr_s _ _ _)) ?_ | refine AL.T (h := POp.k Try.func70 (hc := isSeg_s x)) ?_ | refine AL.T (h := POp.k Try.func74 (hc := arnd_s _ (by assumption))) ?_ | refine AL.T (h := POp.k Try.func85 (hc := meet_s x y)) ?_ | refine AL.W ?_ | refine AL.W (h := fun h => by (try rw [h]); exact POp.k Try.func51 (hc := inr_s _ _ _)) ?_ | refine AL.W (h := fun h => by (try rw [h]); exact POp.k Try.func70 (hc := isSeg_s x)) ?_ | refine AL.W (h := fun h => by (try rw [h]); exact POp.k Try.func74 (hc := arnd_s _ (by assumption))) ?_ | refine AL.W (h := fun h => by (try rw [h]); exact POp.k Try.func85 (hc := meet_s x y)) ?_ | refine AL.nil ?_)
        | ((with_reducible show DL _ _ _ _ _ _ _); first | refine DL.any ?_ | refine DL.any (h := POp.k Try.func51 (hc := inr_s _ _ _)) ?_ | refine DL.any (h := POp.k Try.func70 (hc := isSeg_s x)) ?_ | refine DL.any (h := POp.k Try.func74 (hc := arnd_s _ (by assumption))) ?_ | refine DL.any (h := POp.k Try.func85 (hc := meet_s x y)) ?_ | refine DL.nil ?_)
        | ((with_reducible show AW _ _ _ _ _ _); first | refine AW.seq ?_ | refine AW.region ?_ | refine AW.skip ?_ | refine AW.dr (id := 15) 10 ?_ | refine AW.cT ?_ | refine AW.cF ?_ | (refine AW.c2 ?_ ?_ <;> (intro h; try simp only [Bool.not_eq_true', Bool.not_eq_false'] at h)) | refine AW.block ?_ | refine AW.exit ?_ | refine AW.ret ?_)
        | with_reducible refine (if_pos rfl).mpr ?_
        | with_reducible refine (if_neg (by decide)).mpr ?_) <;> (try dsimp only))
      all_goals first
        | exact Fin.one rfl (RV.tmp (by rfl)) (clo_c _) ⟨by first | (simp_all [isRing]; done) | (simp_all [isRing, inr] <;> omega), rfl⟩

set_option maxRecDepth 100000 in
set_option maxHeartbeats 2000000 in
theorem isRing_i (l : List TPoint) (hl : l.length ≤ 1048576) : VCalls Try.prog 77 [.ro 2 (l.map TPoint.en)] (fun r M => r = B (isRing l) ∧ M = []) := by
  refine VCalls.bodyE Try.func77 rfl 59 rfl (fun E hE => ?_)
  simp only [List.reduceReplicate, List.cons_append, List.nil_append]
  have hclo : Clo (.ro 2 (l.map TPoint.en)) := clo_list TPoint.clo_en
  have hclA : Clo (.ro 4 ((arnd l).map TSegment.en)) := clo_list TSegment.clo_en
  have hal := arnd_len l
  have hclo : Clo (.ro 2 (l.map TPoint.en)) := clo_list TPoint.clo_en
  have hclA : Clo (.ro 4 ((arnd l).map TSegment.en)) := clo_list TSegment.clo_en
  have hal := arnd_len l
  repeat' ((first
    | ((with_reducible show AL _ _ _ _ _ _ _); first | refine AL.any ?_ | refine AL.any (h := POp.k Try.func81 (hc := isSeg_i x)) ?_ | refine AL.any (h := POp.k Try.func90 (hc := meet_i x y)) ?_ | refine AL.any (h := POp.k Try.func91 (hc := arnd_i _ (by assumption))) ?_ | refine AL.U ?_ | refine AL.F ?_ | refine AL.T ?_ | refine AL.T (h := POp.k Try.func81 (hc := isSeg_i x)) ?_ | refine AL.T (h := POp.k Try.func90 (hc := meet_i x y)) ?_ | refine AL.T (h := POp.k Try.func91 (hc := arnd_i _ (by assumption))) ?_ | refine AL.W ?_ | refine AL.W (h := fun h => by (try rw [h]); exact POp.k Try.func81 (hc := isSeg_i x)) ?_ | refine AL.W (h := fun h => by (try rw [h]); exact POp.k Try.func90 (hc := meet_i x y)) ?_ | refine AL.W (h := fun h => by (try rw [h]); exact POp.k Try.func91 (hc := arnd_i _ (by assumption))) ?_ | refine AL.nil ?_)
    | ((with_reducible show DL _ _ _ _ _ _ _); first | refine DL.any ?_ | refine DL.any (h := POp.k Try.func81 (hc := isSeg_i x)) ?_ | refine DL.any (h := POp.k Try.func90 (hc := meet_i x y)) ?_ | refine DL.any (h := POp.k Try.func91 (hc := arnd_i _ (by assumption))) ?_ | refine DL.nil ?_)
    | ((with_reducible show AW _ _ _ _ _ _); first | refine AW.seq ?_ | refine AW.region ?_ | refine AW.skip ?_ | (refine AW.loopD hE (fun i : Nat => [.ro 2 (l.map TPoint.en), .any, .any, .ro 4 ((arnd l).map TSegment.en), .any, .any, .any, .any, .any, .any, .any, .any, .any, .any, .any, .any, .any, .any, I (((arnd l).map TSegment.en).length : Int), I (i : Int), .any, .any, .any, .any, .any, .any, .any, .any, .any, .any, .any, .any, .any, .any, .any, .any, .any, .any, .any, .any, .any, .any, .any, .any, .any, .any, .any, .any, .any, .any, .any, .any, .any, .any, .any, .any, .any, .any, .any, .any]) (fun i => []) (fun i => (arnd l).length - i) (fun i => i ≤ (arnd l).length ∧ rgOk l i = true) 0 ⟨Nat.zero_le _, by simp [rgOk]⟩ ?_ (by first | rfl | (simp; done)) ?_) | refine AW.dr (id := 15) 10 ?_ | refine AW.cT ?_ | refine AW.cF ?_ | (refine AW.c2 ?_ ?_ <;> (intro h; try simp only [Bool.not_eq_true', Bool.not_eq_false'] at h)) | refine AW.block ?_ | refine AW.exit ?_ | refine AW.ret ?_)
    | with_reducible refine (if_pos rfl).mpr ?_
    | with_reducible refine (if_neg (by decide)).mpr ?_) <;> (try dsimp only))
  any_goals first | exact Fin.one rfl (RV.tmp (by rfl)) (clo_c _) ⟨by simp_all [isRing, inr] <;> omega, rfl⟩
  · (repeat' (first | exact Wk.nil | refine Wk.any ?_ | (with_reducible refine Wk.same ?_) | refine Wk.of ?_ ?_)) <;> first | rfl | (simp; done)
  · intro i hv_i
    have hclo : Clo (.ro 2 (l.map TPoint.en)) := clo_list TPoint.clo_en
    have hclA : Clo (.ro 4 ((arnd l).map TSegment.en)) := clo_list TSegment.clo_en
    have hal := arnd_len l
    by_cases hlt_i : i < (arnd l).length
    · skip
      obtain ⟨x, hx⟩ : ∃ x, (arnd l)[i]? = some x := ⟨_, List.getElem?_eq_getElem hlt_i⟩
      have hgx := map_get (f := TSegment.en) hx
      have hti := lt_true (f := TSegment.en) hlt_i
      have hni := next_ix hlt_i (by omega)
      have hro := rgOk_succ l i
      have hsx := sAt_of hx
      have hra : rgAt l i = (isSeg x && rgIn l i i) := by unfold rgAt; rw [hsx]
      repeat' ((first
        | ((with_reducible show AL _ _ _ _ _ _ _); first | refine AL.any ?_ | refine AL.any (h := POp.k Try.func81 (hc := isSeg_i x)) ?_ | refine AL.any (h := POp.k Try.func90 (hc := meet_i x y)) ?_ | refine AL.any (h := POp.k Try.func91 (hc := arnd_i _ (by assumption))) ?_ | refine AL.U ?_ | refine AL.F ?_ | refine AL.T ?_ | refine AL.T (h := POp.k Try.func81 (hc := isSeg_i x)) ?_ | refine AL.T (h := POp.k Try.func90 (hc := meet_i x y)) ?_ | refine AL.T (h := POp.k Try.func91 (hc := arnd_i _ (by assumption))) ?_ | refine AL.W ?_ | refine AL.W (h := fun h => by (try rw [h]); exact POp.k Try.func81 (hc := isSeg_i x)) ?_ | refine AL.W (h := fun h => by (try rw [h]); exact POp.k Try.func90 (hc := meet_i x y)) ?_ | refine AL.W (h := fun h => by (try rw [h]); exact POp.k Try.func91 (hc := arnd_i _ (by assumption))) ?_ | refine AL.nil ?_)
        | ((with_reducible show DL _ _ _ _ _ _ _); first | refine DL.any ?_ | refine DL.any (h := POp.k Try.func81 (hc := isSeg_i x)) ?_ | refine DL.any (h := POp.k Try.func90 (hc := meet_i x y)) ?_ | refine DL.any (h := POp.k Try.func91 (hc := arnd_i _ (by assumption))) ?_ | refine DL.nil ?_)
        | ((with_reducible show AW _ _ _ _ _ _); first | refine AW.seq ?_ | refine AW.region ?_ | refine AW.skip ?_ | (refine AW.loopD hE (fun k : Nat => [.ro 2 (l.map TPoint.en), .any, .any, .ro 4 ((arnd l).map TSegment.en), I (i : Int), .any, .any, .any, .any, .any, .any, .any, .any, .any, .any, .any, .any, .any, I (((arnd l).map TSegment.en).length : Int), I (i : Int), .any, .any, .any, .any, .any, .any, .any, .any, I (i : Int), I (k : Int), .any, .any, .any, .any, .any, .any, .any, .any, .any, .any, .any, .any, .any, .any, .any, .any, .any, .any, .any, .any, .any, .any, .any, .any, .any, .any, .any, .any, .any, .any]) (fun k => []) (fun k => i - k) (fun k => k ≤ i ∧ rgIn l i k = true) 0 ⟨Nat.zero_le _, by simp [rgIn]⟩ ?_ (by first | rfl | (simp; done)) ?_) | refine AW.dr (id := 15) 10 ?_ | refine AW.cT ?_ | refine AW.cF ?_ | (refine AW.c2 ?_ ?_ <;> (intro h; try simp only [Bool.not_eq_true', Bool.not_eq_false'] at h)) | refine AW.block ?_ | refine AW.exit ?_ | refine AW.ret ?_)
        | with_reducible refine (if_pos rfl).mpr ?_
        | with_reducible refine (if_neg (by decide)).mpr ?_) <;> (try dsimp only))
      any_goals first | exact Fin.one rfl (RV.tmp (by rfl)) (clo_c _) ⟨by have e2 := rgOk_not (l := l) (i := i) (n := l.length) (by simp_all) (by omega); simp_all [isRing], rfl⟩
      · (repeat' (first | exact Wk.nil | refine Wk.any ?_ | (with_reducible refine Wk.same ?_) | refine Wk.of ?_ ?_)) <;> first | rfl | (simp; done)
      · intro k hv_k
        have hclo : Clo (.ro 2 (l.map TPoint.en)) := clo_list TPoint.clo_en
        have hclA : Clo (.ro 4 ((arnd l).map TSegment.en)) := clo_list TSegment.clo_en
        have hal := arnd_len l
        by_cases hlt_k : k < i
        · skip
          obtain ⟨y, hy⟩ : ∃ y, (arnd l)[k]? = some y := ⟨_, List.getElem?_eq_getElem (by omega)⟩
          have hgy := map_get (f := TSegment.en) hy
          have htk : decide ((k : Int) < (i : Int)) = true := by simp; omega
          have hnk := next_ix hlt_k (by omega)
          have hsy := sAt_of hy
          have hrk : rgIn l i (k + 1) = (rgIn l i k && (hmI x y == wantN l.length i k)) := by rw [rgIn_succ, hsx, hsy]
          have hen : ((arnd l).map TSegment.en).length = l.length := by simp [hal]
          rcases want_i (n := l.length) (i := i) (k := k) (by omega) hlt_k hl with ⟨w1, wN⟩ | ⟨w1, w2, wN⟩ | ⟨w1, w2, w3, wN⟩ | ⟨w1, w2, w3, wN⟩
          all_goals try rw [← hen] at w3
          all_goals
            repeat' ((first
              | ((with_reducible show AL _ _ _ _ _ _ _); first | refine AL.any ?_ | refine AL.any (h := POp.k Try.func81 (hc := isSeg_i x)) ?_ | refine AL.any (h := POp.k Try.func90 (hc := meet_i x y)) ?_ | refine AL.any (h := POp.k Try.func91 (hc := arnd_i _ (by assumption))) ?_ | refine AL.U ?_ | refine AL.F ?_ | refine AL.T ?_ | refine AL.T (h := POp.k Try.func81 (hc := isSeg_i x)) ?_ | refine AL.T (h := POp.k Try.func90 (hc := meet_i x y)) ?_ | refine AL.T (h := POp.k Try.func91 (hc := arnd_i _ (by assumption))) ?_ | refine AL.W ?_ | refine AL.W (h := fun h => by (try rw [h]); exact POp.k Try.func81 (hc := isSeg_i x)) ?_ | refine AL.W (h := fun h => by (try rw [h]); exact POp.k Try.func90 (hc := meet_i x y)) ?_ | refine AL.W (h := fun h => by (try rw [h]); exact POp.k Try.func91 (hc := arnd_i _ (by assumption))) ?_ | refine AL.nil ?_)
              | ((with_reducible show DL _ _ _ _ _ _ _); first | refine DL.any ?_ | refine DL.any (h := POp.k Try.func81 (hc := isSeg_i x)) ?_ | refine DL.any (h := POp.k Try.func90 (hc := meet_i x y)) ?_ | refine DL.any (h := POp.k Try.func91 (hc := arnd_i _ (by assumption))) ?_ | refine DL.nil ?_)
              | ((with_reducible show AW _ _ _ _ _ _); first | refine AW.seq ?_ | refine AW.region ?_ | refine AW.skip ?_ | refine AW.dr (id := 15) 10 ?_ | refine AW.cT ?_ | refine AW.cF ?_ | (refine AW.c2 ?_ ?_ <;> (intro h; try simp only [Bool.not_eq_true', Bool.not_eq_false'] at h)) | refine AW.block ?_ | refine AW.exit ?_ | refine AW.ret ?_)
              | with_reducible refine (if_pos rfl).mpr ?_
              | with_reducible refine (if_neg (by decide)).mpr ?_) <;> (try dsimp only))
            all_goals first
              | (refine ⟨k + 1, _, ⟨hlt_k, by simp_all⟩, by omega, ?_, rfl, ?_, ?_⟩; (focus ((repeat' (first | exact Wk.nil | refine Wk.any ?_ | (with_reducible refine Wk.same ?_) | refine Wk.of ?_ ?_)) <;> (simp_all))); (focus ((repeat' (first | exact Fits.nil _ | refine Fits.cons ?_ ?_ | exact Fits.any _ | exact Fits.c _ _ | exact Fits.own (by rfl) | exact Fits.ref (by rfl) | exact Fits.clo (by assumption) | exact Fits.clo (clo_of (by rfl)) | exact Fits.clo (clo_fn _))))); (focus (exact FitsM.nil _)))
              | exact Fin.one rfl (RV.tmp (by rfl)) (clo_c _) ⟨by have e1 := rgIn_not (l := l) (i := i) (k := k) (n := i) (by simp_all) hlt_k; have e2 := rgOk_not (l := l) (i := i) (n := l.length) (by simp_all) (by omega); simp_all [isRing], rfl⟩
        · have e_k : k = i := by omega
          have htk : decide ((k : Int) < (i : Int)) = false := by simp; omega
          have e2 := e_k.symm
          subst e2
          repeat' ((first
            | ((with_reducible show AL _ _ _ _ _ _ _); first | refine AL.any ?_ | refine AL.any (h := POp.k Try.func81 (hc := isSeg_i x)) ?_ | refine AL.any (h := POp.k Try.func90 (hc := meet_i x y)) ?_ | refine AL.any (h := POp.k Try.func91 (hc := arnd_i _ (by assumption))) ?_ | refine AL.U ?_ | refine AL.F ?_ | refine AL.T ?_ | refine AL.T (h := POp.k Try.func81 (hc := isSeg_i x)) ?_ | refine AL.T (h := POp.k Try.func90 (hc := meet_i x y)) ?_ | refine AL.T (h := POp.k Try.func91 (hc := arnd_i _ (by assumption))) ?_ | refine AL.W ?_ | refine AL.W (h := fun h => by (try rw [h]); exact POp.k Try.func81 (hc := isSeg_i x)) ?_ | refine AL.W (h := fun h => by (try rw [h]); exact POp.k Try.func90 (hc := meet_i x y)) ?_ | refine AL.W (h := fun h => by (try rw [h]); exact POp.k Try.func91 (hc := arnd_i _ (by assumption))) ?_ | refine AL.nil ?_)
            | ((with_reducible show DL _ _ _ _ _ _ _); first | refine DL.any ?_ | refine DL.any (h := POp.k Try.func81 (hc := isSeg_i x)) ?_ | refine DL.any (h := POp.k Try.func90 (hc := meet_i x y)) ?_ | refine DL.any (h := POp.k Try.func91 (hc := arnd_i _ (by assumption))) ?_ | refine DL.nil ?_)
            | ((with_reducible show AW _ _ _ _ _ _); first | refine AW.seq ?_ | refine AW.region ?_ | refine AW.skip ?_ | refine AW.dr (id := 15) 10 ?_ | refine AW.cT ?_ | refine AW.cF ?_ | (refine AW.c2 ?_ ?_ <;> (intro h; try simp only [Bool.not_eq_true', Bool.not_eq_false'] at h)) | refine AW.block ?_ | refine AW.exit ?_ | refine AW.ret ?_)
            | with_reducible refine (if_pos rfl).mpr ?_
            | with_reducible refine (if_neg (by decide)).mpr ?_) <;> (try dsimp only))
          all_goals first
            | (refine ⟨i + 1, _, ⟨hlt_i, by simp_all⟩, by omega, ?_, rfl, ?_, ?_⟩; (focus ((repeat' (first | exact Wk.nil | refine Wk.any ?_ | (with_reducible refine Wk.same ?_) | refine Wk.of ?_ ?_)) <;> (simp_all))); (focus ((repeat' (first | exact Fits.nil _ | refine Fits.cons ?_ ?_ | exact Fits.any _ | exact Fits.c _ _ | exact Fits.own (by rfl) | exact Fits.ref (by rfl) | exact Fits.clo (by assumption) | exact Fits.clo (clo_of (by rfl)) | exact Fits.clo (clo_fn _))))); (focus (exact FitsM.nil _)))
    · have e_i : i = (arnd l).length := by omega
      have hti := lt_false (f := TSegment.en) (show ¬ i < (arnd l).length by omega)
      subst e_i
      repeat' ((first
        | ((with_reducible show AL _ _ _ _ _ _ _); first | refine AL.any ?_ | refine AL.any (h := POp.k Try.func81 (hc := isSeg_i x)) ?_ | refine AL.any (h := POp.k Try.func90 (hc := meet_i x y)) ?_ | refine AL.any (h := POp.k Try.func91 (hc := arnd_i _ (by assumption))) ?_ | refine AL.U ?_ | refine AL.F ?_ | refine AL.T ?_ | refine AL.T (h := POp.k Try.func81 (hc := isSeg_i x)) ?_ | refine AL.T (h := POp.k Try.func90 (hc := meet_i x y)) ?_ | refine AL.T (h := POp.k Try.func91 (hc := arnd_i _ (by assumption))) ?_ | refine AL.W ?_ | refine AL.W (h := fun h => by (try rw [h]); exact POp.k Try.func81 (hc := isSeg_i x)) ?_ | refine AL.W (h := fun h => by (try rw [h]); exact POp.k Try.func90 (hc := meet_i x y)) ?_ | refine AL.W (h := fun h => by (try rw [h]); exact POp.k Try.func91 (hc := arnd_i _ (by assumption))) ?_ | refine AL.nil ?_)
        | ((with_reducible show DL _ _ _ _ _ _ _); first | refine DL.any ?_ | refine DL.any (h := POp.k Try.func81 (hc := isSeg_i x)) ?_ | refine DL.any (h := POp.k Try.func90 (hc := meet_i x y)) ?_ | refine DL.any (h := POp.k Try.func91 (hc := arnd_i _ (by assumption))) ?_ | refine DL.nil ?_)
        | ((with_reducible show AW _ _ _ _ _ _); first | refine AW.seq ?_ | refine AW.region ?_ | refine AW.skip ?_ | refine AW.dr (id := 15) 10 ?_ | refine AW.cT ?_ | refine AW.cF ?_ | (refine AW.c2 ?_ ?_ <;> (intro h; try simp only [Bool.not_eq_true', Bool.not_eq_false'] at h)) | refine AW.block ?_ | refine AW.exit ?_ | refine AW.ret ?_)
        | with_reducible refine (if_pos rfl).mpr ?_
        | with_reducible refine (if_neg (by decide)).mpr ?_) <;> (try dsimp only))
      all_goals first
        | exact Fin.one rfl (RV.tmp (by rfl)) (clo_c _) ⟨by first | (simp_all [isRing]; done) | (simp_all [isRing, inr] <;> omega), rfl⟩

end Go.Proofs.Ytacbpfbelcdeiaa.Abs

/- The walks of a line's segments. -/
namespace Go.Proofs.Ytacbpfbelcdeiaa.Abs
open Go.Proofs Go.RowKit
set_option linter.unusedVariables false
set_option linter.unusedSimpArgs false
attribute [local irreducible] OpA AL AW DL DLM DLR DLS QOp POp VCalls VCallsI
set_option maxRecDepth 100000 in
set_option maxHeartbeats 2000000 in
theorem segs_s (l : List TPoint) (hl : l.length ≤ 1048576) : VCalls Try.prog 54 [.ro 2 (l.map TPoint.en)] (fun r M => r = .ro 4 ((segs l).map TSegment.en) ∧ M = []) := by
  refine VCalls.bodyE Try.func54 rfl 29 rfl (fun E hE => ?_)
  simp only [List.reduceReplicate, List.cons_append, List.nil_append]
  have hclo : Clo (.ro 2 (l.map TPoint.en)) := clo_list TPoint.clo_en
  repeat' ((first
    | ((with_reducible show AL _ _ _ _ _ _ _); first | refine AL.any ?_ | refine AL.any (h := POp.k Try.func73 (hc := isLine_s _ (by assumption))) ?_ | refine AL.U ?_ | refine AL.F ?_ | refine AL.T ?_ | refine AL.T (h := POp.k Try.func73 (hc := isLine_s _ (by assumption))) ?_ | refine AL.W ?_ | refine AL.W (h := fun h => by (try rw [h]); exact POp.k Try.func73 (hc := isLine_s _ (by assumption))) ?_ | refine AL.nil ?_)
    | ((with_reducible show DL _ _ _ _ _ _ _); first | refine DL.any ?_ | refine DL.any (h := POp.k Try.func73 (hc := isLine_s _ (by assumption))) ?_ | refine DL.nil ?_)
    | ((with_reducible show DLM _ _ _ _ _ _ _ _ _ _); first | refine DLM.any ?_ | refine DLM.mk ?_ | refine DLM.any (h := fun Y => POp.k Try.func73 (hc := isLine_s _ (by assumption))) ?_ | refine DLM.nil ?_)
    | ((with_reducible show AW _ _ _ _ _ _); first | refine AW.seq ?_ | refine AW.region ?_ | refine AW.skip ?_ | (refine AW.loopD hE (fun i : Nat => [.ro 2 (l.map TPoint.en), .any, .any, .own 0 i, I ((i : Int) + 1), .any, .any, .any, .any, .any, .any, .any, .any, .any, .any, .any, .any, .any, .any, .any, .any, .any, .any, .any, .any, .any, .any, .any, .any, .any]) (fun i => [some ⟨95, 4, i, false, ((segs l).take i).map TSegment.en⟩]) (fun i => (segs l).length - i) (fun i => i ≤ (segs l).length) 0 (Nat.zero_le _) ?_ (by first | rfl | (simp [fil_zero]; done)) ?_) | refine AW.drM (id := 5) 12 11 ?_ | refine AW.cT ?_ | refine AW.cF ?_ | (refine AW.c2 ?_ ?_ <;> (intro h; try simp only [Bool.not_eq_true', Bool.not_eq_false'] at h)) | refine AW.block ?_ | refine AW.exit ?_ | refine AW.ret ?_)
    | with_reducible refine (if_pos rfl).mpr ?_
    | with_reducible refine (if_neg (by decide)).mpr ?_) <;> (try dsimp only))
  · (repeat' (first | exact Wk.nil | refine Wk.any ?_ | (with_reducible refine Wk.same ?_) | refine Wk.of ?_ ?_)) <;> first | rfl | (simp)
  · intro i hi
    have hclo : Clo (.ro 2 (l.map TPoint.en)) := clo_list TPoint.clo_en
    have hsl := segs_le l
    by_cases hlt : i < (segs l).length
    · skip
      obtain ⟨a, b, hL, hi1, ha, hb, hs⟩ := segs_get hlt
      have ht : (decide ((i : Int) + 1 < ((l.map TPoint.en).length : Int)) && isLine l) = true := by simp [hL]; omega
      have e1 : IntKind.i64.wrap ((i : Int) + 1 - 1) = (i : Int) := by rw [w64 (by omega) (by omega)]; omega
      have h0 : 0 ≤ IntKind.i64.wrap ((i : Int) + 1 - 1) := by omega
      have hga : (l.map TPoint.en)[(IntKind.i64.wrap ((i : Int) + 1 - 1)).toNat]? = some a.en := by rw [e1]; exact map_get ha
      have hgb : (l.map TPoint.en)[((i : Int) + 1).toNat]? = some b.en := by rw [show ((i : Int) + 1).toNat = i + 1 by omega, List.getElem?_map, hb]; rfl
      have h01 : 0 ≤ (i : Int) + 1 := by omega
      have hn : IntKind.i64.wrap ((i : Int) + 1 + 1) = ((i + 1 : Nat) : Int) + 1 := by rw [w64 (by omega) (by omega)]; omega
      have hm := map_take_succ (f := TSegment.en) hs
      repeat' ((first
        | ((with_reducible show AL _ _ _ _ _ _ _); first | refine AL.any ?_ | refine AL.any (h := POp.k Try.func73 (hc := isLine_s _ (by assumption))) ?_ | refine AL.U ?_ | refine AL.F ?_ | refine AL.T ?_ | refine AL.T (h := POp.k Try.func73 (hc := isLine_s _ (by assumption))) ?_ | refine AL.W ?_ | refine AL.W (h := fun h => by (try rw [h]); exact POp.k Try.func73 (hc := isLine_s _ (by assumption))) ?_ | refine AL.nil ?_)
        | ((with_reducible show DL _ _ _ _ _ _ _); first | refine DL.any ?_ | refine DL.any (h := POp.k Try.func73 (hc := isLine_s _ (by assumption))) ?_ | refine DL.nil ?_)
        | ((with_reducible show DLM _ _ _ _ _ _ _ _ _ _); first | refine DLM.any ?_ | refine DLM.mk ?_ | refine DLM.any (h := fun Y => POp.k Try.func73 (hc := isLine_s _ (by assumption))) ?_ | refine DLM.nil ?_)
        | ((with_reducible show AW _ _ _ _ _ _); first | refine AW.seq ?_ | refine AW.region ?_ | refine AW.skip ?_ | refine AW.drM (id := 5) 12 11 ?_ | refine AW.cT ?_ | refine AW.cF ?_ | (refine AW.c2 ?_ ?_ <;> (intro h; try simp only [Bool.not_eq_true', Bool.not_eq_false'] at h)) | refine AW.block ?_ | refine AW.exit ?_ | refine AW.ret ?_)
        | with_reducible refine (if_pos rfl).mpr ?_
        | with_reducible refine (if_neg (by decide)).mpr ?_) <;> (try dsimp only))
      all_goals first
        | (refine ⟨i + 1, _, hlt, by omega, ?_, by rw [hm] <;> rfl, ?_, ?_⟩; (focus ((repeat' (first | exact Wk.nil | refine Wk.any ?_ | (with_reducible refine Wk.same ?_) | refine Wk.of ?_ ?_)) <;> (simp_all))); (focus ((repeat' (first | exact Fits.nil _ | refine Fits.cons ?_ ?_ | exact Fits.any _ | exact Fits.c _ _ | exact Fits.own (by rfl) | exact Fits.ref (by rfl) | exact Fits.clo (by assumption) | exact Fits.clo (clo_of (by rfl)) | exact Fits.clo (clo_fn _))))); (focus (exact fits_row (clo_rows TSegment.clo_en))))
    · have e : i = (segs l).length := by omega
      have hsl := segs_le l
      have ht : (decide ((i : Int) + 1 < ((l.map TPoint.en).length : Int)) && isLine l) = false := by
        cases hL : isLine l
        · simp_all
        · have := segs_len hL; have := isLine_len hL; simp; omega
      subst e
      repeat' ((first
        | ((with_reducible show AL _ _ _ _ _ _ _); first | refine AL.any ?_ | refine AL.any (h := POp.k Try.func73 (hc := isLine_s _ (by assumption))) ?_ | refine AL.U ?_ | refine AL.F ?_ | refine AL.T ?_ | refine AL.T (h := POp.k Try.func73 (hc := isLine_s _ (by assumption))) ?_ | refine AL.W ?_ | refine AL.W (h := fun h => by (try rw [h]); exact POp.k Try.func73 (hc := isLine_s _ (by assumption))) ?_ | refine AL.nil ?_)
        | ((with_reducible show DL _ _ _ _ _ _ _); first | refine DL.any ?_ | refine DL.any (h := POp.k Try.func73 (hc := isLine_s _ (by assumption))) ?_ | refine DL.nil ?_)
        | ((with_reducible show DLM _ _ _ _ _ _ _ _ _ _); first | refine DLM.any ?_ | refine DLM.mk ?_ | refine DLM.any (h := fun Y => POp.k Try.func73 (hc := isLine_s _ (by assumption))) ?_ | refine DLM.nil ?_)
        | ((with_reducible show AW _ _ _ _ _ _); first | refine AW.seq ?_ | refine AW.region ?_ | refine AW.skip ?_ | (refine AW.freezeRet (t := 2) (id := 0) rfl rfl rfl rfl (clo_rows TSegment.clo_en) ?_; (try simp only [List.take_length]); try dsimp only [dput, List.set, cond_true, cond_false, Nat.zero_add, Nat.add_zero, Nat.reduceAdd, splice, List.take, List.drop, List.length, List.nil_append, List.cons_append, List.append, TPoint.en, TSegment.en, TBox.en, TFeature.en, TMeet.en, TPlace.en, TCover.en, TLabel.en, TPiece.en, TLevel.en, TChart.en, TReason.en, TEdit.en, TEntry.en, TEdition.en, TListing.en, TAtlas.en, TEvent.en, TWindow.en]) | refine AW.drM (id := 5) 12 11 ?_ | refine AW.cT ?_ | refine AW.cF ?_ | (refine AW.c2 ?_ ?_ <;> (intro h; try simp only [Bool.not_eq_true', Bool.not_eq_false'] at h)) | refine AW.block ?_ | refine AW.exit ?_ | refine AW.ret ?_)
        | with_reducible refine (if_pos rfl).mpr ?_
        | with_reducible refine (if_neg (by decide)).mpr ?_) <;> (try dsimp only))
      all_goals exact Fin.one rfl (RV.tmp (by rfl)) (clo_list TSegment.clo_en) ⟨rfl, rfl⟩

set_option maxRecDepth 100000 in
set_option maxHeartbeats 2000000 in
theorem segs_i (l : List TPoint) (hl : l.length ≤ 1048576) : VCalls Try.prog 79 [.ro 2 (l.map TPoint.en)] (fun r M => r = .ro 4 ((segs l).map TSegment.en) ∧ M = []) := by
  refine VCalls.bodyE Try.func79 rfl 29 rfl (fun E hE => ?_)
  simp only [List.reduceReplicate, List.cons_append, List.nil_append]
  have hclo : Clo (.ro 2 (l.map TPoint.en)) := clo_list TPoint.clo_en
  repeat' ((first
    | ((with_reducible show AL _ _ _ _ _ _ _); first | refine AL.any ?_ | refine AL.any (h := POp.k Try.func89 (hc := isLine_i _ (by assumption))) ?_ | refine AL.nil ?_)
    | ((with_reducible show DL _ _ _ _ _ _ _); first | refine DL.any ?_ | refine DL.any (h := POp.k Try.func89 (hc := isLine_i _ (by assumption))) ?_ | refine DL.nil ?_)
    | ((with_reducible show DLM _ _ _ _ _ _ _ _ _ _); first | refine DLM.any ?_ | refine DLM.mk ?_ | refine DLM.any (h := fun Y => POp.k Try.func89 (hc := isLine_i _ (by assumption))) ?_ | refine DLM.nil ?_)
    | ((with_reducible show AW _ _ _ _ _ _); first | refine AW.seq ?_ | refine AW.region ?_ | refine AW.skip ?_ | (refine AW.freezeRet (t := 2) (id := 0) rfl rfl rfl rfl clo_rows_nil ?_; (try simp only [List.take_length]); try dsimp only [dput, List.set, cond_true, cond_false, Nat.zero_add, Nat.add_zero, Nat.reduceAdd, splice, List.take, List.drop, List.length, List.nil_append, List.cons_append, List.append, TPoint.en, TSegment.en, TBox.en, TFeature.en, TMeet.en, TPlace.en, TCover.en, TLabel.en, TPiece.en, TLevel.en, TChart.en, TReason.en, TEdit.en, TEntry.en, TEdition.en, TListing.en, TAtlas.en, TEvent.en, TWindow.en]) | (refine AW.loopD hE (fun i : Nat => [.ro 2 (l.map TPoint.en), .any, .any, .own 0 i, I ((i : Int) + 1), .any, .any, .any, .any, .any, .any, .any, .any, .any, .any, .any, .any, .any, .any, .any, .any, .any, .any, .any, .any, .any, .any, .any, .any, .any]) (fun i => [some ⟨95, 4, i, false, ((segs l).take i).map TSegment.en⟩]) (fun i => (segs l).length - i) (fun i => i ≤ (segs l).length) 0 (Nat.zero_le _) ?_ (by first | rfl | (simp [fil_zero]; done)) ?_) | refine AW.drM (id := 7) 12 11 ?_ | refine AW.cT ?_ | refine AW.cF ?_ | (refine AW.c2 ?_ ?_ <;> (intro h; try simp only [Bool.not_eq_true', Bool.not_eq_false'] at h)) | refine AW.block ?_ | refine AW.exit ?_ | refine AW.ret ?_)
    | with_reducible refine (if_pos rfl).mpr ?_
    | with_reducible refine (if_neg (by decide)).mpr ?_) <;> (try dsimp only))
  · exact Fin.one rfl (RV.tmp (by rfl)) (Clo.ro fun r hr => by simp at hr) ⟨by rw [segs_nil (by assumption)]; rfl, rfl⟩
  · (repeat' (first | exact Wk.nil | refine Wk.any ?_ | (with_reducible refine Wk.same ?_) | refine Wk.of ?_ ?_)) <;> first | rfl | (simp)
  · intro i hi
    have hclo : Clo (.ro 2 (l.map TPoint.en)) := clo_list TPoint.clo_en
    have hsl := segs_le l
    by_cases hlt : i < (segs l).length
    · skip
      obtain ⟨a, b, hL, hi1, ha, hb, hs⟩ := segs_get hlt
      have ht : decide ((i : Int) + 1 < ((l.map TPoint.en).length : Int)) = true := by simp []; omega
      have e1 : IntKind.i64.wrap ((i : Int) + 1 - 1) = (i : Int) := by rw [w64 (by omega) (by omega)]; omega
      have h0 : 0 ≤ IntKind.i64.wrap ((i : Int) + 1 - 1) := by omega
      have hga : (l.map TPoint.en)[(IntKind.i64.wrap ((i : Int) + 1 - 1)).toNat]? = some a.en := by rw [e1]; exact map_get ha
      have hgb : (l.map TPoint.en)[((i : Int) + 1).toNat]? = some b.en := by rw [show ((i : Int) + 1).toNat = i + 1 by omega, List.getElem?_map, hb]; rfl
      have h01 : 0 ≤ (i : Int) + 1 := by omega
      have hn : IntKind.i64.wrap ((i : Int) + 1 + 1) = ((i + 1 : Nat) : Int) + 1 := by rw [w64 (by omega) (by omega)]; omega
      have hm := map_take_succ (f := TSegment.en) hs
      repeat' ((first
        | ((with_reducible show AL _ _ _ _ _ _ _); first | refine AL.any ?_ | refine AL.any (h := POp.k Try.func89 (hc := isLine_i _ (by assumption))) ?_ | refine AL.nil ?_)
        | ((with_reducible show DL _ _ _ _ _ _ _); first | refine DL.any ?_ | refine DL.any (h := POp.k Try.func89 (hc := isLine_i _ (by assumption))) ?_ | refine DL.nil ?_)
        | ((with_reducible show DLM _ _ _ _ _ _ _ _ _ _); first | refine DLM.any ?_ | refine DLM.mk ?_ | refine DLM.any (h := fun Y => POp.k Try.func89 (hc := isLine_i _ (by assumption))) ?_ | refine DLM.nil ?_)
        | ((with_reducible show AW _ _ _ _ _ _); first | refine AW.seq ?_ | refine AW.region ?_ | refine AW.skip ?_ | (refine AW.freezeRet (t := 2) (id := 0) rfl rfl rfl rfl clo_rows_nil ?_; (try simp only [List.take_length]); try dsimp only [dput, List.set, cond_true, cond_false, Nat.zero_add, Nat.add_zero, Nat.reduceAdd, splice, List.take, List.drop, List.length, List.nil_append, List.cons_append, List.append, TPoint.en, TSegment.en, TBox.en, TFeature.en, TMeet.en, TPlace.en, TCover.en, TLabel.en, TPiece.en, TLevel.en, TChart.en, TReason.en, TEdit.en, TEntry.en, TEdition.en, TListing.en, TAtlas.en, TEvent.en, TWindow.en]) | refine AW.drM (id := 7) 12 11 ?_ | refine AW.cT ?_ | refine AW.cF ?_ | (refine AW.c2 ?_ ?_ <;> (intro h; try simp only [Bool.not_eq_true', Bool.not_eq_false'] at h)) | refine AW.block ?_ | refine AW.exit ?_ | refine AW.ret ?_)
        | with_reducible refine (if_pos rfl).mpr ?_
        | with_reducible refine (if_neg (by decide)).mpr ?_) <;> (try dsimp only))
      all_goals first
        | (refine ⟨i + 1, _, hlt, by omega, ?_, by rw [hm] <;> rfl, ?_, ?_⟩; (focus ((repeat' (first | exact Wk.nil | refine Wk.any ?_ | (with_reducible refine Wk.same ?_) | refine Wk.of ?_ ?_)) <;> (simp_all))); (focus ((repeat' (first | exact Fits.nil _ | refine Fits.cons ?_ ?_ | exact Fits.any _ | exact Fits.c _ _ | exact Fits.own (by rfl) | exact Fits.ref (by rfl) | exact Fits.clo (by assumption) | exact Fits.clo (clo_of (by rfl)) | exact Fits.clo (clo_fn _))))); (focus (exact fits_row (clo_rows TSegment.clo_en))))
    · have e : i = (segs l).length := by omega
      have hsl := segs_le l
      have ht : decide ((i : Int) + 1 < ((l.map TPoint.en).length : Int)) = false := by
        cases hL : isLine l
        · simp_all
        · have := segs_len hL; have := isLine_len hL; simp; omega
      subst e
      repeat' ((first
        | ((with_reducible show AL _ _ _ _ _ _ _); first | refine AL.any ?_ | refine AL.any (h := POp.k Try.func89 (hc := isLine_i _ (by assumption))) ?_ | refine AL.nil ?_)
        | ((with_reducible show DL _ _ _ _ _ _ _); first | refine DL.any ?_ | refine DL.any (h := POp.k Try.func89 (hc := isLine_i _ (by assumption))) ?_ | refine DL.nil ?_)
        | ((with_reducible show DLM _ _ _ _ _ _ _ _ _ _); first | refine DLM.any ?_ | refine DLM.mk ?_ | refine DLM.any (h := fun Y => POp.k Try.func89 (hc := isLine_i _ (by assumption))) ?_ | refine DLM.nil ?_)
        | ((with_reducible show AW _ _ _ _ _ _); first | refine AW.seq ?_ | refine AW.region ?_ | refine AW.skip ?_ | (refine AW.freezeRet (t := 2) (id := 0) rfl rfl rfl rfl clo_rows_nil ?_; (try simp only [List.take_length]); try dsimp only [dput, List.set, cond_true, cond_false, Nat.zero_add, Nat.add_zero, Nat.reduceAdd, splice, List.take, List.drop, List.length, List.nil_append, List.cons_append, List.append, TPoint.en, TSegment.en, TBox.en, TFeature.en, TMeet.en, TPlace.en, TCover.en, TLabel.en, TPiece.en, TLevel.en, TChart.en, TReason.en, TEdit.en, TEntry.en, TEdition.en, TListing.en, TAtlas.en, TEvent.en, TWindow.en]) | (refine AW.freezeRet (t := 2) (id := 0) rfl rfl rfl rfl (clo_rows TSegment.clo_en) ?_; (try simp only [List.take_length]); try dsimp only [dput, List.set, cond_true, cond_false, Nat.zero_add, Nat.add_zero, Nat.reduceAdd, splice, List.take, List.drop, List.length, List.nil_append, List.cons_append, List.append, TPoint.en, TSegment.en, TBox.en, TFeature.en, TMeet.en, TPlace.en, TCover.en, TLabel.en, TPiece.en, TLevel.en, TChart.en, TReason.en, TEdit.en, TEntry.en, TEdition.en, TListing.en, TAtlas.en, TEvent.en, TWindow.en]) | refine AW.drM (id := 7) 12 11 ?_ | refine AW.cT ?_ | refine AW.cF ?_ | (refine AW.c2 ?_ ?_ <;> (intro h; try simp only [Bool.not_eq_true', Bool.not_eq_false'] at h)) | refine AW.block ?_ | refine AW.exit ?_ | refine AW.ret ?_)
        | with_reducible refine (if_pos rfl).mpr ?_
        | with_reducible refine (if_neg (by decide)).mpr ?_) <;> (try dsimp only))
      all_goals exact Fin.one rfl (RV.tmp (by rfl)) (clo_list TSegment.clo_en) ⟨rfl, rfl⟩

end Go.Proofs.Ytacbpfbelcdeiaa.Abs

/- The walks of IsSimple and IsName. -/
namespace Go.Proofs.Ytacbpfbelcdeiaa.Abs
open Go.Proofs Go.RowKit
set_option linter.unusedVariables false
set_option linter.unusedSimpArgs false
attribute [local irreducible] OpA AL AW DL DLM DLR DLS QOp POp VCalls VCallsI
/-! ### Simple lines -/
def wantL (i k : Nat) : Int := if k + 1 = i then 1 else 0
def gAt (l : List TPoint) (i : Nat) : TSegment := (segs l).getD i ⟨⟨0, 0⟩, ⟨0, 0⟩⟩
theorem gAt_of {l : List TPoint} {i : Nat} {x : TSegment} (h : (segs l)[i]? = some x) : gAt l i = x := by simp [gAt, List.getD_eq_getElem?_getD, h]
def smIn (l : List TPoint) (i n : Nat) : Bool := (List.range n).all fun k => hmI (gAt l i) (gAt l k) == wantL i k
def smOk (l : List TPoint) (n : Nat) : Bool := (List.range n).all fun i => smIn l i i
theorem smIn_succ (l : List TPoint) (i k : Nat) : smIn l i (k + 1) = (smIn l i k && (hmI (gAt l i) (gAt l k) == wantL i k)) := by simp [smIn, List.range_succ]
theorem smOk_succ (l : List TPoint) (i : Nat) : smOk l (i + 1) = (smOk l i && smIn l i i) := by simp [smOk, List.range_succ]
theorem smIn_not {l : List TPoint} {i k n : Nat} (h : (hmI (gAt l i) (gAt l k) == wantL i k) = false) (hk : k < n) : smIn l i n = false := by
  simp only [smIn, List.all_eq_false, List.mem_range]
  exact ⟨k, hk, by simp [h]⟩
theorem smOk_not {l : List TPoint} {i n : Nat} (h : smIn l i i = false) (hi : i < n) : smOk l n = false := by
  simp only [smOk, List.all_eq_false, List.mem_range]
  exact ⟨i, hi, by simp [h]⟩
def isSimple (l : List TPoint) : Bool := isLine l && smOk l (segs l).length
theorem wantL_s {i k : Nat} (hk : k < i) (hi : i ≤ 1048576) : ((IntKind.i64.wrap ((k : Int) + 1) == (i : Int)) = true ∧ wantL i k = 1) ∨ ((IntKind.i64.wrap ((k : Int) + 1) == (i : Int)) = false ∧ wantL i k = 0) := by
  rw [w64 (n := (k : Int) + 1) (by omega) (by omega)]
  unfold wantL
  simp only [beq_iff_eq, beq_eq_false_iff_ne, ne_eq]
  by_cases q1 : k + 1 = i
  · exact .inl ⟨by omega, by simp [q1]⟩
  · exact .inr ⟨by omega, by simp [q1]⟩
theorem wantL_i {i k : Nat} (hk : k < i) (hi : i ≤ 1048576) : (((k : Int) == IntKind.i64.wrap ((i : Int) - 1)) = true ∧ wantL i k = 1) ∨ (((k : Int) == IntKind.i64.wrap ((i : Int) - 1)) = false ∧ wantL i k = 0) := by
  have e1 : ((k : Int) == IntKind.i64.wrap ((i : Int) - 1)) = (IntKind.i64.wrap ((k : Int) + 1) == (i : Int)) := by
    rw [w64 (n := (k : Int) + 1) (by omega) (by omega), w64 (n := (i : Int) - 1) (by omega) (by omega), Bool.eq_iff_iff]
    simp only [beq_iff_eq]
    omega
  rw [e1]
  exact wantL_s hk hi
/-! ### Names -/
def nmAt (s : ByteArray) (i : Nat) : Bool := match s[i]? with
  | none => false
  | some b => !(decide (((b.toNat : Nat) : Int) < 97) || decide (((b.toNat : Nat) : Int) > 122))
def nmTo (s : ByteArray) (n : Nat) : Bool := (List.range n).all (nmAt s)
theorem nmTo_succ (s : ByteArray) (i : Nat) : nmTo s (i + 1) = (nmTo s i && nmAt s i) := by simp [nmTo, List.range_succ]
theorem nmTo_not {s : ByteArray} {i n : Nat} (h : nmAt s i = false) (hi : i < n) : nmTo s n = false := by
  simp only [nmTo, List.all_eq_false, List.mem_range]
  exact ⟨i, hi, by simp [h]⟩
theorem byte_get {s : ByteArray} {i : Nat} (h : i < s.size) : ∃ b : UInt8, s[i]? = some b ∧ s[((i : Nat) : Int).toNat]? = some b := ⟨s[i], by simp [h], by rw [Int.toNat_natCast]; simp [h]⟩
theorem nmAt_some {s : ByteArray} {i : Nat} {b : UInt8} (h : s[i]? = some b) : nmAt s i = !(decide (((b.toNat : Nat) : Int) < 97) || decide (((b.toNat : Nat) : Int) > 122)) := by simp [nmAt, h]
theorem bytes_lt {s : ByteArray} {i : Nat} (h : i < s.size) : decide ((i : Int) < (s.size : Int)) = true := by simp; omega
theorem bytes_ge {s : ByteArray} {i : Nat} (h : ¬ i < s.size) : decide ((i : Int) < (s.size : Int)) = false := by simp; omega
def isName (s : ByteArray) : Bool := nmTo s s.size && inr s.size 1 8
/-! ### Features -/
abbrev noName (s : ByteArray) : Bool := s.toList == (⟨#[]⟩ : ByteArray).toList
def kindOk (x : TFeature) : Bool := if (x.kind == 1) = true then ((x.points.length : Int) == 1) && isp (x.points.getD 0 ⟨0, 0⟩).x (x.points.getD 0 ⟨0, 0⟩).y else if (x.kind == 2) = true then isSimple x.points else if (x.kind == 3) = true then isRing x.points else false
theorem len1 (l : List TPoint) : ((((l.map TPoint.en).length : Int) == 1) = true ∧ ((l.length : Int) == 1) = true ∧ (l.map TPoint.en)[((0 : Int)).toNat]? = some (l.getD 0 ⟨0, 0⟩).en) ∨ ((((l.map TPoint.en).length : Int) == 1) = false ∧ ((l.length : Int) == 1) = false) := by
  rw [List.length_map]
  cases h : ((l.length : Int) == 1)
  · exact .inr ⟨rfl, rfl⟩
  · refine .inl ⟨rfl, rfl, ?_⟩
    cases l with
    | nil => simp at h
    | cons a l => rfl
theorem feat_cases (x : TFeature) : inr x.id 1 99 = false ∨ (inr x.id 1 99 = true ∧ inr x.rank 0 9 = false) ∨ (inr x.id 1 99 = true ∧ inr x.rank 0 9 = true ∧ noName x.name = false ∧ isName x.name = false) ∨
    (inr x.id 1 99 = true ∧ inr x.rank 0 9 = true ∧ noName x.name = true) ∨ (inr x.id 1 99 = true ∧ inr x.rank 0 9 = true ∧ noName x.name = false ∧ isName x.name = true) := by
  cases inr x.id 1 99 <;> cases inr x.rank 0 9 <;> cases noName x.name <;> cases isName x.name <;> simp
def isFeat (x : TFeature) : Bool := inr x.id 1 99 && inr x.rank 0 9 && (noName x.name || isName x.name) && kindOk x
def TFeature.gd (x : TFeature) : Prop := x.points.length ≤ 1048576 ∧ x.name.size ≤ maxLen
def prevF (l : List TFeature) (i : Nat) : TFeature := l.getD (i - 1) ⟨0, 0, 0, ⟨#[]⟩, []⟩
def srcAt (l : List TFeature) (i : Nat) : Bool := match l[i]? with
  | none => false
  | some x => isFeat x && (i == 0 || decide ((prevF l i).id < x.id))
def srcOk (l : List TFeature) (n : Nat) : Bool := (List.range n).all (srcAt l)
theorem srcOk_succ (l : List TFeature) (i : Nat) : srcOk l (i + 1) = (srcOk l i && srcAt l i) := by simp [srcOk, List.range_succ]
theorem srcOk_not {l : List TFeature} {i n : Nat} (h : srcAt l i = false) (hi : i < n) : srcOk l n = false := by
  simp only [srcOk, List.all_eq_false, List.mem_range]
  exact ⟨i, hi, by simp [h]⟩
def isSource (l : List TFeature) : Bool := srcOk l l.length && decide ((l.length : Int) ≤ 16)
def partsOf (x : TFeature) : List TSegment := if isFeat x = true then (if (x.kind == 2) = true then segs x.points else if (x.kind == 3) = true then ringSegs x.points else []) else []
theorem partsOf_le (x : TFeature) : (partsOf x).length ≤ 10 := by
  have h1 := segs_le x.points
  have h2 := ringSegs_le x.points
  unfold partsOf
  repeat' split
  all_goals first | omega | simp
theorem src_cases {l : List TFeature} {i : Nat} {x : TFeature} (hx : l[i]? = some x) (hl : l.length ≤ 1048576) :
    (isFeat x = false ∧ srcAt l i = false) ∨ (isFeat x = true ∧ decide ((i : Int) > 0) = false ∧ srcAt l i = true) ∨
    (isFeat x = true ∧ decide ((i : Int) > 0) = true ∧ 0 ≤ IntKind.i64.wrap ((i : Int) - 1) ∧ (l.map TFeature.en)[(IntKind.i64.wrap ((i : Int) - 1)).toNat]? = some (prevF l i).en ∧ srcAt l i = decide ((prevF l i).id < x.id)) := by
  have hi := (List.getElem?_eq_some_iff.1 hx).1
  cases hI : isFeat x
  · exact .inl ⟨rfl, by simp [srcAt, hx, hI]⟩
  · rcases Nat.eq_zero_or_pos i with h0 | h0
    · subst h0
      exact .inr (.inl ⟨rfl, by simp, by simp [srcAt, hx, hI]⟩)
    · have e : IntKind.i64.wrap ((i : Int) - 1) = ((i - 1 : Nat) : Int) := by rw [w64 (by omega) (by omega)]; omega
      refine .inr (.inr ⟨rfl, decide_eq_true (by omega), by omega, ?_, ?_⟩)
      · rw [e, Int.toNat_natCast, List.getElem?_map, List.getElem?_eq_getElem (show i - 1 < l.length by omega)]
        simp [prevF, List.getD_eq_getElem?_getD, List.getElem?_eq_getElem (show i - 1 < l.length by omega)]
      · have : (i == 0) = false := by simp; omega
        simp [srcAt, hx, hI, this]

set_option maxRecDepth 100000 in
set_option maxHeartbeats 2000000 in
theorem isSimple_s (l : List TPoint) (hl : l.length ≤ 1048576) : VCalls Try.prog 66 [.ro 2 (l.map TPoint.en)] (fun r M => r = B (isSimple l) ∧ M = []) := by
  refine VCalls.bodyE Try.func66 rfl 36 rfl (fun E hE => ?_)
  simp only [List.reduceReplicate, List.cons_append, List.nil_append]
  have hclo : Clo (.ro 2 (l.map TPoint.en)) := clo_list TPoint.clo_en
  have hclS : Clo (.ro 4 ((segs l).map TSegment.en)) := clo_list TSegment.clo_en
  have hsl := segs_le l
  have hclo : Clo (.ro 2 (l.map TPoint.en)) := clo_list TPoint.clo_en
  have hclS : Clo (.ro 4 ((segs l).map TSegment.en)) := clo_list TSegment.clo_en
  have hsl := segs_le l
  repeat' ((first
    | ((with_reducible show AL _ _ _ _ _ _ _); first | refine AL.any ?_ | refine AL.any (h := POp.k Try.func54 (hc := segs_s _ (by assumption))) ?_ | refine AL.any (h := POp.k Try.func73 (hc := isLine_s _ (by assumption))) ?_ | refine AL.any (h := POp.k Try.func85 (hc := meet_s x y)) ?_ | refine AL.nil ?_)
    | ((with_reducible show DL _ _ _ _ _ _ _); first | refine DL.any ?_ | refine DL.any (h := POp.k Try.func54 (hc := segs_s _ (by assumption))) ?_ | refine DL.any (h := POp.k Try.func73 (hc := isLine_s _ (by assumption))) ?_ | refine DL.any (h := POp.k Try.func85 (hc := meet_s x y)) ?_ | refine DL.nil ?_)
    | ((with_reducible show AW _ _ _ _ _ _); first | refine AW.seq ?_ | refine AW.region ?_ | refine AW.skip ?_ | (refine AW.loopD hE (fun i : Nat => [.ro 2 (l.map TPoint.en), .any, .any, .ro 4 ((segs l).map TSegment.en), I (i : Int), .any, .any, .any, .any, .any, .any, .any, .any, .any, .any, .any, .any, .any, .any, .any, .any, .any, .any, .any, .any, .any, .any, .any, .any, .any, .any, .any, .any, .any, .any, .any, .any]) (fun i => []) (fun i => (segs l).length - i) (fun i => i ≤ (segs l).length ∧ smOk l i = true) 0 ⟨Nat.zero_le _, by simp [smOk]⟩ ?_ (by first | rfl | (simp; done)) ?_) | refine AW.dr (id := 11) 10 ?_ | refine AW.cT ?_ | refine AW.cF ?_ | (refine AW.c2 ?_ ?_ <;> (intro h; try simp only [Bool.not_eq_true', Bool.not_eq_false'] at h)) | refine AW.block ?_ | refine AW.exit ?_ | refine AW.ret ?_)
    | with_reducible refine (if_pos rfl).mpr ?_
    | with_reducible refine (if_neg (by decide)).mpr ?_) <;> (try dsimp only))
  · (repeat' (first | exact Wk.nil | refine Wk.any ?_ | (with_reducible refine Wk.same ?_) | refine Wk.of ?_ ?_)) <;> first | rfl | (simp; done)
  · intro i hv_i
    have hclo : Clo (.ro 2 (l.map TPoint.en)) := clo_list TPoint.clo_en
    have hclS : Clo (.ro 4 ((segs l).map TSegment.en)) := clo_list TSegment.clo_en
    have hsl := segs_le l
    by_cases hlt_i : i < (segs l).length
    · skip
      obtain ⟨x, hx⟩ : ∃ x, (segs l)[i]? = some x := ⟨_, List.getElem?_eq_getElem hlt_i⟩
      have hgx := map_get (f := TSegment.en) hx
      have hti := lt_true (f := TSegment.en) hlt_i
      have hni := next_ix hlt_i (by omega)
      have hro := smOk_succ l i
      have hsx := gAt_of hx
      repeat' ((first
        | ((with_reducible show AL _ _ _ _ _ _ _); first | refine AL.any ?_ | refine AL.any (h := POp.k Try.func54 (hc := segs_s _ (by assumption))) ?_ | refine AL.any (h := POp.k Try.func73 (hc := isLine_s _ (by assumption))) ?_ | refine AL.any (h := POp.k Try.func85 (hc := meet_s x y)) ?_ | refine AL.nil ?_)
        | ((with_reducible show DL _ _ _ _ _ _ _); first | refine DL.any ?_ | refine DL.any (h := POp.k Try.func54 (hc := segs_s _ (by assumption))) ?_ | refine DL.any (h := POp.k Try.func73 (hc := isLine_s _ (by assumption))) ?_ | refine DL.any (h := POp.k Try.func85 (hc := meet_s x y)) ?_ | refine DL.nil ?_)
        | ((with_reducible show AW _ _ _ _ _ _); first | refine AW.seq ?_ | refine AW.region ?_ | refine AW.skip ?_ | (refine AW.loopD hE (fun k : Nat => [.ro 2 (l.map TPoint.en), .any, .any, .ro 4 ((segs l).map TSegment.en), I (i : Int), I (k : Int), .any, .any, .any, .any, .any, .any, .any, .any, .any, .any, .any, .any, .any, .any, .any, .any, .any, .any, .any, .any, .any, .any, .any, .any, .any, .any, .any, .any, .any, .any, .any]) (fun k => []) (fun k => i - k) (fun k => k ≤ i ∧ smIn l i k = true) 0 ⟨Nat.zero_le _, by simp [smIn]⟩ ?_ (by first | rfl | (simp; done)) ?_) | refine AW.dr (id := 11) 10 ?_ | refine AW.cT ?_ | refine AW.cF ?_ | (refine AW.c2 ?_ ?_ <;> (intro h; try simp only [Bool.not_eq_true', Bool.not_eq_false'] at h)) | refine AW.block ?_ | refine AW.exit ?_ | refine AW.ret ?_)
        | with_reducible refine (if_pos rfl).mpr ?_
        | with_reducible refine (if_neg (by decide)).mpr ?_) <;> (try dsimp only))
      · (repeat' (first | exact Wk.nil | refine Wk.any ?_ | (with_reducible refine Wk.same ?_) | refine Wk.of ?_ ?_)) <;> first | rfl | (simp; done)
      · intro k hv_k
        have hclo : Clo (.ro 2 (l.map TPoint.en)) := clo_list TPoint.clo_en
        have hclS : Clo (.ro 4 ((segs l).map TSegment.en)) := clo_list TSegment.clo_en
        have hsl := segs_le l
        by_cases hlt_k : k < i
        · skip
          obtain ⟨y, hy⟩ : ∃ y, (segs l)[k]? = some y := ⟨_, List.getElem?_eq_getElem (by omega)⟩
          have hgy := map_get (f := TSegment.en) hy
          have htk : decide ((k : Int) < (i : Int)) = true := by simp; omega
          have hnk := next_ix hlt_k (by omega)
          have hsy := gAt_of hy
          have hrk : smIn l i (k + 1) = (smIn l i k && (hmI x y == wantL i k)) := by rw [smIn_succ, hsx, hsy]
          rcases wantL_s (i := i) (k := k) hlt_k (by omega) with ⟨w1, wN⟩ | ⟨w1, wN⟩
          all_goals
            repeat' ((first
              | ((with_reducible show AL _ _ _ _ _ _ _); first | refine AL.any ?_ | refine AL.any (h := POp.k Try.func54 (hc := segs_s _ (by assumption))) ?_ | refine AL.any (h := POp.k Try.func73 (hc := isLine_s _ (by assumption))) ?_ | refine AL.any (h := POp.k Try.func85 (hc := meet_s x y)) ?_ | refine AL.nil ?_)
              | ((with_reducible show DL _ _ _ _ _ _ _); first | refine DL.any ?_ | refine DL.any (h := POp.k Try.func54 (hc := segs_s _ (by assumption))) ?_ | refine DL.any (h := POp.k Try.func73 (hc := isLine_s _ (by assumption))) ?_ | refine DL.any (h := POp.k Try.func85 (hc := meet_s x y)) ?_ | refine DL.nil ?_)
              | ((with_reducible show AW _ _ _ _ _ _); first | refine AW.seq ?_ | refine AW.region ?_ | refine AW.skip ?_ | refine AW.dr (id := 11) 10 ?_ | refine AW.cT ?_ | refine AW.cF ?_ | (refine AW.c2 ?_ ?_ <;> (intro h; try simp only [Bool.not_eq_true', Bool.not_eq_false'] at h)) | refine AW.block ?_ | refine AW.exit ?_ | refine AW.ret ?_)
              | with_reducible refine (if_pos rfl).mpr ?_
              | with_reducible refine (if_neg (by decide)).mpr ?_) <;> (try dsimp only))
            all_goals first
              | (refine ⟨k + 1, _, ⟨hlt_k, by simp_all⟩, by omega, ?_, rfl, ?_, ?_⟩; (focus ((repeat' (first | exact Wk.nil | refine Wk.any ?_ | (with_reducible refine Wk.same ?_) | refine Wk.of ?_ ?_)) <;> (simp_all))); (focus ((repeat' (first | exact Fits.nil _ | refine Fits.cons ?_ ?_ | exact Fits.any _ | exact Fits.c _ _ | exact Fits.own (by rfl) | exact Fits.ref (by rfl) | exact Fits.clo (by assumption) | exact Fits.clo (clo_of (by rfl)) | exact Fits.clo (clo_fn _))))); (focus (exact FitsM.nil _)))
              | exact Fin.one rfl (RV.tmp (by rfl)) (clo_c _) ⟨by have e1 := smIn_not (l := l) (i := i) (k := k) (n := i) (by simp_all) hlt_k; have e2 := smOk_not (l := l) (i := i) (n := (segs l).length) (by simp_all) (by omega); simp_all [isSimple], rfl⟩
        · have e_k : k = i := by omega
          have htk : decide ((k : Int) < (i : Int)) = false := by simp; omega
          have e2 := e_k.symm
          subst e2
          repeat' ((first
            | ((with_reducible show AL _ _ _ _ _ _ _); first | refine AL.any ?_ | refine AL.any (h := POp.k Try.func54 (hc := segs_s _ (by assumption))) ?_ | refine AL.any (h := POp.k Try.func73 (hc := isLine_s _ (by assumption))) ?_ | refine AL.any (h := POp.k Try.func85 (hc := meet_s x y)) ?_ | refine AL.nil ?_)
            | ((with_reducible show DL _ _ _ _ _ _ _); first | refine DL.any ?_ | refine DL.any (h := POp.k Try.func54 (hc := segs_s _ (by assumption))) ?_ | refine DL.any (h := POp.k Try.func73 (hc := isLine_s _ (by assumption))) ?_ | refine DL.any (h := POp.k Try.func85 (hc := meet_s x y)) ?_ | refine DL.nil ?_)
            | ((with_reducible show AW _ _ _ _ _ _); first | refine AW.seq ?_ | refine AW.region ?_ | refine AW.skip ?_ | refine AW.dr (id := 11) 10 ?_ | refine AW.cT ?_ | refine AW.cF ?_ | (refine AW.c2 ?_ ?_ <;> (intro h; try simp only [Bool.not_eq_true', Bool.not_eq_false'] at h)) | refine AW.block ?_ | refine AW.exit ?_ | refine AW.ret ?_)
            | with_reducible refine (if_pos rfl).mpr ?_
            | with_reducible refine (if_neg (by decide)).mpr ?_) <;> (try dsimp only))
          all_goals first
            | (refine ⟨i + 1, _, ⟨hlt_i, by simp_all⟩, by omega, ?_, rfl, ?_, ?_⟩; (focus ((repeat' (first | exact Wk.nil | refine Wk.any ?_ | (with_reducible refine Wk.same ?_) | refine Wk.of ?_ ?_)) <;> (simp_all))); (focus ((repeat' (first | exact Fits.nil _ | refine Fits.cons ?_ ?_ | exact Fits.any _ | exact Fits.c _ _ | exact Fits.own (by rfl) | exact Fits.ref (by rfl) | exact Fits.clo (by assumption) | exact Fits.clo (clo_of (by rfl)) | exact Fits.clo (clo_fn _))))); (focus (exact FitsM.nil _)))
    · have e_i : i = (segs l).length := by omega
      have hti := lt_false (f := TSegment.en) (show ¬ i < (segs l).length by omega)
      have e2 := e_i.symm
      subst e2
      repeat' ((first
        | ((with_reducible show AL _ _ _ _ _ _ _); first | refine AL.any ?_ | refine AL.any (h := POp.k Try.func54 (hc := segs_s _ (by assumption))) ?_ | refine AL.any (h := POp.k Try.func73 (hc := isLine_s _ (by assumption))) ?_ | refine AL.any (h := POp.k Try.func85 (hc := meet_s x y)) ?_ | refine AL.nil ?_)
        | ((with_reducible show DL _ _ _ _ _ _ _); first | refine DL.any ?_ | refine DL.any (h := POp.k Try.func54 (hc := segs_s _ (by assumption))) ?_ | refine DL.any (h := POp.k Try.func73 (hc := isLine_s _ (by assumption))) ?_ | refine DL.any (h := POp.k Try.func85 (hc := meet_s x y)) ?_ | refine DL.nil ?_)
        | ((with_reducible show AW _ _ _ _ _ _); first | refine AW.seq ?_ | refine AW.region ?_ | refine AW.skip ?_ | refine AW.dr (id := 11) 10 ?_ | refine AW.cT ?_ | refine AW.cF ?_ | (refine AW.c2 ?_ ?_ <;> (intro h; try simp only [Bool.not_eq_true', Bool.not_eq_false'] at h)) | refine AW.block ?_ | refine AW.exit ?_ | refine AW.ret ?_)
        | with_reducible refine (if_pos rfl).mpr ?_
        | with_reducible refine (if_neg (by decide)).mpr ?_) <;> (try dsimp only))
      all_goals first
        | exact Fin.one rfl (RV.tmp (by rfl)) (clo_c _) ⟨by simp_all [isSimple], rfl⟩

set_option maxRecDepth 100000 in
set_option maxHeartbeats 2000000 in
theorem isSimple_i (l : List TPoint) (hl : l.length ≤ 1048576) : VCalls Try.prog 76 [.ro 2 (l.map TPoint.en)] (fun r M => r = B (isSimple l) ∧ M = []) := by
  refine VCalls.bodyE Try.func76 rfl 37 rfl (fun E hE => ?_)
  simp only [List.reduceReplicate, List.cons_append, List.nil_append]
  have hclo : Clo (.ro 2 (l.map TPoint.en)) := clo_list TPoint.clo_en
  have hclS : Clo (.ro 4 ((segs l).map TSegment.en)) := clo_list TSegment.clo_en
  have hsl := segs_le l
  have hclo : Clo (.ro 2 (l.map TPoint.en)) := clo_list TPoint.clo_en
  have hclS : Clo (.ro 4 ((segs l).map TSegment.en)) := clo_list TSegment.clo_en
  have hsl := segs_le l
  repeat' ((first
    | ((with_reducible show AL _ _ _ _ _ _ _); first | refine AL.any ?_ | refine AL.any (h := POp.k Try.func79 (hc := segs_i _ (by assumption))) ?_ | refine AL.any (h := POp.k Try.func89 (hc := isLine_i _ (by assumption))) ?_ | refine AL.any (h := POp.k Try.func90 (hc := meet_i x y)) ?_ | refine AL.nil ?_)
    | ((with_reducible show DL _ _ _ _ _ _ _); first | refine DL.any ?_ | refine DL.any (h := POp.k Try.func79 (hc := segs_i _ (by assumption))) ?_ | refine DL.any (h := POp.k Try.func89 (hc := isLine_i _ (by assumption))) ?_ | refine DL.any (h := POp.k Try.func90 (hc := meet_i x y)) ?_ | refine DL.nil ?_)
    | ((with_reducible show AW _ _ _ _ _ _); first | refine AW.seq ?_ | refine AW.region ?_ | refine AW.skip ?_ | (refine AW.loopD hE (fun i : Nat => [.ro 2 (l.map TPoint.en), .any, .any, .ro 4 ((segs l).map TSegment.en), .any, .any, .any, .any, .any, .any, .any, .any, .any, I (((segs l).map TSegment.en).length : Int), I (i : Int), .any, .any, .any, .any, .any, .any, .any, .any, .any, .any, .any, .any, .any, .any, .any, .any, .any, .any, .any, .any, .any, .any, .any]) (fun i => []) (fun i => (segs l).length - i) (fun i => i ≤ (segs l).length ∧ smOk l i = true) 0 ⟨Nat.zero_le _, by simp [smOk]⟩ ?_ (by first | rfl | (simp; done)) ?_) | refine AW.dr (id := 13) 10 ?_ | refine AW.cT ?_ | refine AW.cF ?_ | (refine AW.c2 ?_ ?_ <;> (intro h; try simp only [Bool.not_eq_true', Bool.not_eq_false'] at h)) | refine AW.block ?_ | refine AW.exit ?_ | refine AW.ret ?_)
    | with_reducible refine (if_pos rfl).mpr ?_
    | with_reducible refine (if_neg (by decide)).mpr ?_) <;> (try dsimp only))
  any_goals first | exact Fin.one rfl (RV.tmp (by rfl)) (clo_c _) ⟨by simp_all [isSimple], rfl⟩
  · (repeat' (first | exact Wk.nil | refine Wk.any ?_ | (with_reducible refine Wk.same ?_) | refine Wk.of ?_ ?_)) <;> first | rfl | (simp; done)
  · intro i hv_i
    have hclo : Clo (.ro 2 (l.map TPoint.en)) := clo_list TPoint.clo_en
    have hclS : Clo (.ro 4 ((segs l).map TSegment.en)) := clo_list TSegment.clo_en
    have hsl := segs_le l
    by_cases hlt_i : i < (segs l).length
    · skip
      obtain ⟨x, hx⟩ : ∃ x, (segs l)[i]? = some x := ⟨_, List.getElem?_eq_getElem hlt_i⟩
      have hgx := map_get (f := TSegment.en) hx
      have hti := lt_true (f := TSegment.en) hlt_i
      have hni := next_ix hlt_i (by omega)
      have hro := smOk_succ l i
      have hsx := gAt_of hx
      repeat' ((first
        | ((with_reducible show AL _ _ _ _ _ _ _); first | refine AL.any ?_ | refine AL.any (h := POp.k Try.func79 (hc := segs_i _ (by assumption))) ?_ | refine AL.any (h := POp.k Try.func89 (hc := isLine_i _ (by assumption))) ?_ | refine AL.any (h := POp.k Try.func90 (hc := meet_i x y)) ?_ | refine AL.nil ?_)
        | ((with_reducible show DL _ _ _ _ _ _ _); first | refine DL.any ?_ | refine DL.any (h := POp.k Try.func79 (hc := segs_i _ (by assumption))) ?_ | refine DL.any (h := POp.k Try.func89 (hc := isLine_i _ (by assumption))) ?_ | refine DL.any (h := POp.k Try.func90 (hc := meet_i x y)) ?_ | refine DL.nil ?_)
        | ((with_reducible show AW _ _ _ _ _ _); first | refine AW.seq ?_ | refine AW.region ?_ | refine AW.skip ?_ | (refine AW.loopD hE (fun k : Nat => [.ro 2 (l.map TPoint.en), .any, .any, .ro 4 ((segs l).map TSegment.en), I (i : Int), .any, .any, .any, .any, .any, .any, .any, .any, I (((segs l).map TSegment.en).length : Int), I (i : Int), .any, .any, I (i : Int), I (k : Int), .any, .any, .any, .any, .any, .any, .any, .any, .any, .any, .any, .any, .any, .any, .any, .any, .any, .any, .any]) (fun k => []) (fun k => i - k) (fun k => k ≤ i ∧ smIn l i k = true) 0 ⟨Nat.zero_le _, by simp [smIn]⟩ ?_ (by first | rfl | (simp; done)) ?_) | refine AW.dr (id := 13) 10 ?_ | refine AW.cT ?_ | refine AW.cF ?_ | (refine AW.c2 ?_ ?_ <;> (intro h; try simp only [Bool.not_eq_true', Bool.not_eq_false'] at h)) | refine AW.block ?_ | refine AW.exit ?_ | refine AW.ret ?_)
        | with_reducible refine (if_pos rfl).mpr ?_
        | with_reducible refine (if_neg (by decide)).mpr ?_) <;> (try dsimp only))
      · (repeat' (first | exact Wk.nil | refine Wk.any ?_ | (with_reducible refine Wk.same ?_) | refine Wk.of ?_ ?_)) <;> first | rfl | (simp; done)
      · intro k hv_k
        have hclo : Clo (.ro 2 (l.map TPoint.en)) := clo_list TPoint.clo_en
        have hclS : Clo (.ro 4 ((segs l).map TSegment.en)) := clo_list TSegment.clo_en
        have hsl := segs_le l
        by_cases hlt_k : k < i
        · skip
          obtain ⟨y, hy⟩ : ∃ y, (segs l)[k]? = some y := ⟨_, List.getElem?_eq_getElem (by omega)⟩
          have hgy := map_get (f := TSegment.en) hy
          have htk : decide ((k : Int) < (i : Int)) = true := by simp; omega
          have hnk := next_ix hlt_k (by omega)
          have hsy := gAt_of hy
          have hrk : smIn l i (k + 1) = (smIn l i k && (hmI x y == wantL i k)) := by rw [smIn_succ, hsx, hsy]
          rcases wantL_i (i := i) (k := k) hlt_k (by omega) with ⟨w1, wN⟩ | ⟨w1, wN⟩
          all_goals
            repeat' ((first
              | ((with_reducible show AL _ _ _ _ _ _ _); first | refine AL.any ?_ | refine AL.any (h := POp.k Try.func79 (hc := segs_i _ (by assumption))) ?_ | refine AL.any (h := POp.k Try.func89 (hc := isLine_i _ (by assumption))) ?_ | refine AL.any (h := POp.k Try.func90 (hc := meet_i x y)) ?_ | refine AL.nil ?_)
              | ((with_reducible show DL _ _ _ _ _ _ _); first | refine DL.any ?_ | refine DL.any (h := POp.k Try.func79 (hc := segs_i _ (by assumption))) ?_ | refine DL.any (h := POp.k Try.func89 (hc := isLine_i _ (by assumption))) ?_ | refine DL.any (h := POp.k Try.func90 (hc := meet_i x y)) ?_ | refine DL.nil ?_)
              | ((with_reducible show AW _ _ _ _ _ _); first | refine AW.seq ?_ | refine AW.region ?_ | refine AW.skip ?_ | refine AW.dr (id := 13) 10 ?_ | refine AW.cT ?_ | refine AW.cF ?_ | (refine AW.c2 ?_ ?_ <;> (intro h; try simp only [Bool.not_eq_true', Bool.not_eq_false'] at h)) | refine AW.block ?_ | refine AW.exit ?_ | refine AW.ret ?_)
              | with_reducible refine (if_pos rfl).mpr ?_
              | with_reducible refine (if_neg (by decide)).mpr ?_) <;> (try dsimp only))
            all_goals first
              | (refine ⟨k + 1, _, ⟨hlt_k, by simp_all⟩, by omega, ?_, rfl, ?_, ?_⟩; (focus ((repeat' (first | exact Wk.nil | refine Wk.any ?_ | (with_reducible refine Wk.same ?_) | refine Wk.of ?_ ?_)) <;> (simp_all))); (focus ((repeat' (first | exact Fits.nil _ | refine Fits.cons ?_ ?_ | exact Fits.any _ | exact Fits.c _ _ | exact Fits.own (by rfl) | exact Fits.ref (by rfl) | exact Fits.clo (by assumption) | exact Fits.clo (clo_of (by rfl)) | exact Fits.clo (clo_fn _))))); (focus (exact FitsM.nil _)))
              | exact Fin.one rfl (RV.tmp (by rfl)) (clo_c _) ⟨by have e1 := smIn_not (l := l) (i := i) (k := k) (n := i) (by simp_all) hlt_k; have e2 := smOk_not (l := l) (i := i) (n := (segs l).length) (by simp_all) (by omega); simp_all [isSimple], rfl⟩
        · have e_k : k = i := by omega
          have htk : decide ((k : Int) < (i : Int)) = false := by simp; omega
          have e2 := e_k.symm
          subst e2
          repeat' ((first
            | ((with_reducible show AL _ _ _ _ _ _ _); first | refine AL.any ?_ | refine AL.any (h := POp.k Try.func79 (hc := segs_i _ (by assumption))) ?_ | refine AL.any (h := POp.k Try.func89 (hc := isLine_i _ (by assumption))) ?_ | refine AL.any (h := POp.k Try.func90 (hc := meet_i x y)) ?_ | refine AL.nil ?_)
            | ((with_reducible show DL _ _ _ _ _ _ _); first | refine DL.any ?_ | refine DL.any (h := POp.k Try.func79 (hc := segs_i _ (by assumption))) ?_ | refine DL.any (h := POp.k Try.func89 (hc := isLine_i _ (by assumption))) ?_ | refine DL.any (h := POp.k Try.func90 (hc := meet_i x y)) ?_ | refine DL.nil ?_)
            | ((with_reducible show AW _ _ _ _ _ _); first | refine AW.seq ?_ | refine AW.region ?_ | refine AW.skip ?_ | refine AW.dr (id := 13) 10 ?_ | refine AW.cT ?_ | refine AW.cF ?_ | (refine AW.c2 ?_ ?_ <;> (intro h; try simp only [Bool.not_eq_true', Bool.not_eq_false'] at h)) | refine AW.block ?_ | refine AW.exit ?_ | refine AW.ret ?_)
            | with_reducible refine (if_pos rfl).mpr ?_
            | with_reducible refine (if_neg (by decide)).mpr ?_) <;> (try dsimp only))
          all_goals first
            | (refine ⟨i + 1, _, ⟨hlt_i, by simp_all⟩, by omega, ?_, rfl, ?_, ?_⟩; (focus ((repeat' (first | exact Wk.nil | refine Wk.any ?_ | (with_reducible refine Wk.same ?_) | refine Wk.of ?_ ?_)) <;> (simp_all))); (focus ((repeat' (first | exact Fits.nil _ | refine Fits.cons ?_ ?_ | exact Fits.any _ | exact Fits.c _ _ | exact Fits.own (by rfl) | exact Fits.ref (by rfl) | exact Fits.clo (by assumption) | exact Fits.clo (clo_of (by rfl)) | exact Fits.clo (clo_fn _))))); (focus (exact FitsM.nil _)))
    · have e_i : i = (segs l).length := by omega
      have hti := lt_false (f := TSegment.en) (show ¬ i < (segs l).length by omega)
      have e2 := e_i.symm
      subst e2
      repeat' ((first
        | ((with_reducible show AL _ _ _ _ _ _ _); first | refine AL.any ?_ | refine AL.any (h := POp.k Try.func79 (hc := segs_i _ (by assumption))) ?_ | refine AL.any (h := POp.k Try.func89 (hc := isLine_i _ (by assumption))) ?_ | refine AL.any (h := POp.k Try.func90 (hc := meet_i x y)) ?_ | refine AL.nil ?_)
        | ((with_reducible show DL _ _ _ _ _ _ _); first | refine DL.any ?_ | refine DL.any (h := POp.k Try.func79 (hc := segs_i _ (by assumption))) ?_ | refine DL.any (h := POp.k Try.func89 (hc := isLine_i _ (by assumption))) ?_ | refine DL.any (h := POp.k Try.func90 (hc := meet_i x y)) ?_ | refine DL.nil ?_)
        | ((with_reducible show AW _ _ _ _ _ _); first | refine AW.seq ?_ | refine AW.region ?_ | refine AW.skip ?_ | refine AW.dr (id := 13) 10 ?_ | refine AW.cT ?_ | refine AW.cF ?_ | (refine AW.c2 ?_ ?_ <;> (intro h; try simp only [Bool.not_eq_true', Bool.not_eq_false'] at h)) | refine AW.block ?_ | refine AW.exit ?_ | refine AW.ret ?_)
        | with_reducible refine (if_pos rfl).mpr ?_
        | with_reducible refine (if_neg (by decide)).mpr ?_) <;> (try dsimp only))
      all_goals first
        | exact Fin.one rfl (RV.tmp (by rfl)) (clo_c _) ⟨by simp_all [isSimple], rfl⟩

set_option maxRecDepth 100000 in
set_option maxHeartbeats 2000000 in
theorem isName_s (s : ByteArray) (hs : s.size ≤ maxLen) : VCalls Try.prog 65 [S s] (fun r M => r = B (isName s) ∧ M = []) := by
  refine VCalls.bodyE Try.func65 rfl 22 rfl (fun E hE => ?_)
  simp only [List.reduceReplicate, List.cons_append, List.nil_append]
  rw [maxLen_eq] at hs
  repeat' ((first
    | ((with_reducible show AL _ _ _ _ _ _ _); first | refine AL.any ?_ | refine AL.any (h := POp.k Try.func51 (hc := inr_s _ _ _)) ?_ | refine AL.U ?_ | refine AL.F ?_ | refine AL.T ?_ | refine AL.T (h := POp.k Try.func51 (hc := inr_s _ _ _)) ?_ | refine AL.W ?_ | refine AL.W (h := fun h => by (try rw [h]); exact POp.k Try.func51 (hc := inr_s _ _ _)) ?_ | refine AL.nil ?_)
    | ((with_reducible show AW _ _ _ _ _ _); first | refine AW.seq ?_ | refine AW.region ?_ | refine AW.skip ?_ | (refine AW.loopD hE (fun i : Nat => [S s, .any, .any, I (i : Int), .any, .any, .any, .any, .any, .any, .any, .any, .any, .any, .any, .any, .any, .any, .any, .any, .any, .any, .any]) (fun i => []) (fun i => s.size - i) (fun i => i ≤ s.size ∧ nmTo s i = true) 0 ⟨Nat.zero_le _, by simp [nmTo]⟩ ?_ (by first | rfl | (simp [fil_zero]; done)) ?_) | refine AW.cT ?_ | refine AW.cF ?_ | (refine AW.c2 ?_ ?_ <;> (intro h; try simp only [Bool.not_eq_true', Bool.not_eq_false'] at h)) | refine AW.block ?_ | refine AW.exit ?_ | refine AW.ret ?_)
    | with_reducible refine (if_pos rfl).mpr ?_
    | with_reducible refine (if_neg (by decide)).mpr ?_) <;> (try dsimp only))
  · (repeat' (first | exact Wk.nil | refine Wk.any ?_ | (with_reducible refine Wk.same ?_) | refine Wk.of ?_ ?_)) <;> first | rfl | (simp)
  · intro i hi
    by_cases hlt : i < s.size
    · skip
      obtain ⟨b, hb, hb'⟩ := byte_get hlt
      have ht := bytes_lt hlt
      have hn := next_ix hlt (by omega)
      have hc := nmAt_some hb
      have hsu := nmTo_succ s i
      repeat' ((first
        | ((with_reducible show AL _ _ _ _ _ _ _); first | refine AL.any ?_ | refine AL.any (h := POp.k Try.func51 (hc := inr_s _ _ _)) ?_ | refine AL.U ?_ | refine AL.F ?_ | refine AL.T ?_ | refine AL.T (h := POp.k Try.func51 (hc := inr_s _ _ _)) ?_ | refine AL.W ?_ | refine AL.W (h := fun h => by (try rw [h]); exact POp.k Try.func51 (hc := inr_s _ _ _)) ?_ | refine AL.nil ?_)
        | ((with_reducible show AW _ _ _ _ _ _); first | refine AW.seq ?_ | refine AW.region ?_ | refine AW.skip ?_ | refine AW.cT ?_ | refine AW.cF ?_ | (refine AW.c2 ?_ ?_ <;> (intro h; try simp only [Bool.not_eq_true', Bool.not_eq_false'] at h)) | refine AW.block ?_ | refine AW.exit ?_ | refine AW.ret ?_)
        | with_reducible refine (if_pos rfl).mpr ?_
        | with_reducible refine (if_neg (by decide)).mpr ?_) <;> (try dsimp only))
      all_goals first
        | (refine ⟨i + 1, _, ⟨hlt, by simp_all⟩, by omega, ?_, rfl, ?_, ?_⟩; (focus ((repeat' (first | exact Wk.nil | refine Wk.any ?_ | (with_reducible refine Wk.same ?_) | refine Wk.of ?_ ?_)) <;> (simp_all))); (focus ((repeat' (first | exact Fits.nil _ | refine Fits.cons ?_ ?_ | exact Fits.any _ | exact Fits.c _ _ | exact Fits.own (by rfl) | exact Fits.ref (by rfl) | exact Fits.clo (by assumption) | exact Fits.clo (clo_of (by rfl)) | exact Fits.clo (clo_fn _))))); (focus (exact FitsM.nil _)))
        | exact Fin.one rfl (RV.tmp (by rfl)) (clo_c _) ⟨by have hn := nmTo_not (n := s.size) (by simp_all : nmAt s i = false) hlt; simp_all [isName], rfl⟩
    · have e : i = s.size := by omega
      have ht := bytes_ge hlt
      subst e
      repeat' ((first
        | ((with_reducible show AL _ _ _ _ _ _ _); first | refine AL.any ?_ | refine AL.any (h := POp.k Try.func51 (hc := inr_s _ _ _)) ?_ | refine AL.U ?_ | refine AL.F ?_ | refine AL.T ?_ | refine AL.T (h := POp.k Try.func51 (hc := inr_s _ _ _)) ?_ | refine AL.W ?_ | refine AL.W (h := fun h => by (try rw [h]); exact POp.k Try.func51 (hc := inr_s _ _ _)) ?_ | refine AL.nil ?_)
        | ((with_reducible show AW _ _ _ _ _ _); first | refine AW.seq ?_ | refine AW.region ?_ | refine AW.skip ?_ | refine AW.cT ?_ | refine AW.cF ?_ | (refine AW.c2 ?_ ?_ <;> (intro h; try simp only [Bool.not_eq_true', Bool.not_eq_false'] at h)) | refine AW.block ?_ | refine AW.exit ?_ | refine AW.ret ?_)
        | with_reducible refine (if_pos rfl).mpr ?_
        | with_reducible refine (if_neg (by decide)).mpr ?_) <;> (try dsimp only))
      all_goals exact Fin.one rfl (RV.tmp (by rfl)) (clo_c _) ⟨by simp_all [isName], rfl⟩

set_option maxRecDepth 100000 in
set_option maxHeartbeats 2000000 in
theorem isName_i (s : ByteArray) (hs : s.size ≤ maxLen) : VCalls Try.prog 75 [S s] (fun r M => r = B (isName s) ∧ M = []) := by
  refine VCalls.bodyE Try.func75 rfl 22 rfl (fun E hE => ?_)
  simp only [List.reduceReplicate, List.cons_append, List.nil_append]
  rw [maxLen_eq] at hs
  repeat' ((first
    | ((with_reducible show AL _ _ _ _ _ _ _); first | refine AL.any ?_ | refine AL.any (h := POp.k Try.func58 (hc := inr_v _ _ _)) ?_ | refine AL.U ?_ | refine AL.F ?_ | refine AL.T ?_ | refine AL.T (h := POp.k Try.func58 (hc := inr_v _ _ _)) ?_ | refine AL.W ?_ | refine AL.W (h := fun h => by (try rw [h]); exact POp.k Try.func58 (hc := inr_v _ _ _)) ?_ | refine AL.nil ?_)
    | ((with_reducible show AW _ _ _ _ _ _); first | refine AW.seq ?_ | refine AW.region ?_ | refine AW.skip ?_ | (refine AW.loopD hE (fun i : Nat => [S s, .any, .any, .any, .any, I (s.size : Int), I (i : Int), .any, .any, .any, .any, .any, .any, .any, .any, .any, .any, .any, .any, .any, .any, .any, .any]) (fun i => []) (fun i => s.size - i) (fun i => i ≤ s.size ∧ nmTo s i = true) 0 ⟨Nat.zero_le _, by simp [nmTo]⟩ ?_ (by first | rfl | (simp [fil_zero]; done)) ?_) | refine AW.cT ?_ | refine AW.cF ?_ | (refine AW.c2 ?_ ?_ <;> (intro h; try simp only [Bool.not_eq_true', Bool.not_eq_false'] at h)) | refine AW.block ?_ | refine AW.exit ?_ | refine AW.ret ?_)
    | with_reducible refine (if_pos rfl).mpr ?_
    | with_reducible refine (if_neg (by decide)).mpr ?_) <;> (try dsimp only))
  · (repeat' (first | exact Wk.nil | refine Wk.any ?_ | (with_reducible refine Wk.same ?_) | refine Wk.of ?_ ?_)) <;> first | rfl | (simp)
  · intro i hi
    by_cases hlt : i < s.size
    · skip
      obtain ⟨b, hb, hb'⟩ := byte_get hlt
      have ht := bytes_lt hlt
      have hn := next_ix hlt (by omega)
      have hc := nmAt_some hb
      have hsu := nmTo_succ s i
      repeat' ((first
        | ((with_reducible show AL _ _ _ _ _ _ _); first | refine AL.any ?_ | refine AL.any (h := POp.k Try.func58 (hc := inr_v _ _ _)) ?_ | refine AL.U ?_ | refine AL.F ?_ | refine AL.T ?_ | refine AL.T (h := POp.k Try.func58 (hc := inr_v _ _ _)) ?_ | refine AL.W ?_ | refine AL.W (h := fun h => by (try rw [h]); exact POp.k Try.func58 (hc := inr_v _ _ _)) ?_ | refine AL.nil ?_)
        | ((with_reducible show AW _ _ _ _ _ _); first | refine AW.seq ?_ | refine AW.region ?_ | refine AW.skip ?_ | refine AW.cT ?_ | refine AW.cF ?_ | (refine AW.c2 ?_ ?_ <;> (intro h; try simp only [Bool.not_eq_true', Bool.not_eq_false'] at h)) | refine AW.block ?_ | refine AW.exit ?_ | refine AW.ret ?_)
        | with_reducible refine (if_pos rfl).mpr ?_
        | with_reducible refine (if_neg (by decide)).mpr ?_) <;> (try dsimp only))
      all_goals first
        | (refine ⟨i + 1, _, ⟨hlt, by simp_all⟩, by omega, ?_, rfl, ?_, ?_⟩; (focus ((repeat' (first | exact Wk.nil | refine Wk.any ?_ | (with_reducible refine Wk.same ?_) | refine Wk.of ?_ ?_)) <;> (simp_all))); (focus ((repeat' (first | exact Fits.nil _ | refine Fits.cons ?_ ?_ | exact Fits.any _ | exact Fits.c _ _ | exact Fits.own (by rfl) | exact Fits.ref (by rfl) | exact Fits.clo (by assumption) | exact Fits.clo (clo_of (by rfl)) | exact Fits.clo (clo_fn _))))); (focus (exact FitsM.nil _)))
        | exact Fin.one rfl (RV.tmp (by rfl)) (clo_c _) ⟨by have hn := nmTo_not (n := s.size) (by simp_all : nmAt s i = false) hlt; simp_all [isName], rfl⟩
    · have e : i = s.size := by omega
      have ht := bytes_ge hlt
      subst e
      repeat' ((first
        | ((with_reducible show AL _ _ _ _ _ _ _); first | refine AL.any ?_ | refine AL.any (h := POp.k Try.func58 (hc := inr_v _ _ _)) ?_ | refine AL.U ?_ | refine AL.F ?_ | refine AL.T ?_ | refine AL.T (h := POp.k Try.func58 (hc := inr_v _ _ _)) ?_ | refine AL.W ?_ | refine AL.W (h := fun h => by (try rw [h]); exact POp.k Try.func58 (hc := inr_v _ _ _)) ?_ | refine AL.nil ?_)
        | ((with_reducible show AW _ _ _ _ _ _); first | refine AW.seq ?_ | refine AW.region ?_ | refine AW.skip ?_ | refine AW.cT ?_ | refine AW.cF ?_ | (refine AW.c2 ?_ ?_ <;> (intro h; try simp only [Bool.not_eq_true', Bool.not_eq_false'] at h)) | refine AW.block ?_ | refine AW.exit ?_ | refine AW.ret ?_)
        | with_reducible refine (if_pos rfl).mpr ?_
        | with_reducible refine (if_neg (by decide)).mpr ?_) <;> (try dsimp only))
      all_goals exact Fin.one rfl (RV.tmp (by rfl)) (clo_c _) ⟨by simp_all [isName], rfl⟩

end Go.Proofs.Ytacbpfbelcdeiaa.Abs
