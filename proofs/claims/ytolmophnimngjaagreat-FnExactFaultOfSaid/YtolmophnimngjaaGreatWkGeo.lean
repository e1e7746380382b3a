/- The walks of sides and segments. -/
import Derived.Test.YtolmophnimngjaaGreatWkStep
import Derived.Test.YtolmophnimngjaaGreatWkLine
import Derived.Test.YtolmophnimngjaaGreatGeo
namespace Go.Proofs.YtolmophnimngjaaGreat.Abs
open Go.Proofs Go.RowKit
set_option linter.unusedVariables false
set_option linter.unusedSimpArgs false
attribute [local irreducible] OpA AL AW DL DLM DLR DLS QOp POp VCalls VCallsI
abbrev wmul (a b : Int) : Int := IntKind.i64.wrap (a * b)
def wmin (a b : Int) : Int := if b < a then b else a
def isSeg (s : TSegment) : Bool := isp s.a.x s.a.y && isp s.b.x s.b.y && !ptE s.a s.b
def crW (a b p : TPoint) : Int := wsub (wmul (wsub b.x a.x) (wsub p.y a.y)) (wmul (wsub b.y a.y) (wsub p.x a.x))
def sdW (a b p : TPoint) : Int := if isp a.x a.y && isp b.x b.y && isp p.x p.y then sg (crW a b p) else 0
def cmpI (x y : Int) : Int := if x < y then -1 else if x > y then 1 else 0
theorem cmp_sg (n : Int) : cmpI n 0 = sg n := by
  unfold cmpI sg
  repeat' split
  all_goals omega
def onW (s : TSegment) (p : TPoint) : Bool := isSeg s && isp p.x p.y && (crW s.a s.b p == 0) && inr p.x (wmin s.a.x s.b.x) (wmax s.a.x s.b.x) && inr p.y (wmin s.a.y s.b.y) (wmax s.a.y s.b.y)
theorem sdW_zero {a b p : TPoint} (h1 : isp a.x a.y = true) (h2 : isp b.x b.y = true) (h3 : isp p.x p.y = true) : (sdW a b p == 0) = (crW a b p == 0) := by
  unfold sdW
  rw [h1, h2, h3]
  simp only [Bool.and_self, if_true]
  have := sg_zero (n := crW a b p)
  cases h : (crW a b p == 0)
  · simp at h ⊢; omega
  · simp at h ⊢; omega
def onWI (s : TSegment) (p : TPoint) : Bool := isSeg s && isp p.x p.y && (sdW s.a s.b p == 0) && inr p.x (if s.b.x < s.a.x then s.b.x else s.a.x) (if s.b.x > s.a.x then s.b.x else s.a.x) && inr p.y (if s.b.y < s.a.y then s.b.y else s.a.y) (if s.b.y > s.a.y then s.b.y else s.a.y)
theorem onWI_eq (s : TSegment) (p : TPoint) : onWI s p = onW s p := by
  unfold onWI onW
  cases h1 : isSeg s
  · simp
  · cases h2 : isp p.x p.y
    · simp
    · have h3 := h1
      unfold isSeg at h3
      simp only [Bool.and_eq_true] at h3
      rw [sdW_zero h3.1.1 h3.1.2 h2]
      rfl
theorem bef_cases (a b : TPoint) : decide (a.y < b.y) = true ∨ (decide (a.y < b.y) = false ∧ (a.y == b.y) = false) ∨ (decide (a.y < b.y) = false ∧ (a.y == b.y) = true) := by
  cases decide (a.y < b.y) <;> cases (a.y == b.y) <;> simp
def fwdW (s : TSegment) : TSegment := if bef s.b s.a = true then ⟨s.b, s.a⟩ else s

set_option maxRecDepth 100000 in
set_option maxHeartbeats 2000000 in
theorem min_s (a b : Int) : VCalls Tryz.prog 91 [I a, I b] (fun r M => r = I (wmin a b) ∧ M = []) := by
  refine VCalls.body Tryz.func91 rfl 8 rfl (fun E => ?_)
  simp only [List.reduceReplicate, List.cons_append, List.nil_append]
  repeat' ((first
    | ((with_reducible show AL _ _ _ _ _ _ _); first | refine AL.any ?_ | refine AL.nil ?_)
    | ((with_reducible show AW _ _ _ _ _ _); first | refine AW.seq ?_ | refine AW.region ?_ | refine AW.skip ?_ | refine AW.cT ?_ | refine AW.cF ?_ | (refine AW.c2 ?_ ?_ <;> (intro h; try simp only [Bool.not_eq_true', Bool.not_eq_false'] at h)) | refine AW.block ?_ | refine AW.exit ?_ | refine AW.ret ?_)
    | with_reducible refine (if_pos rfl).mpr ?_
    | with_reducible refine (if_neg (by decide)).mpr ?_) <;> (try dsimp only))
  all_goals exact Fin.one rfl (RV.tmp (by rfl)) (clo_c _) ⟨by first | rfl | (simp_all [wmin]; done) | (simp only [wmin]; (repeat' split) <;> simp_all <;> omega), rfl⟩

set_option maxRecDepth 100000 in
set_option maxHeartbeats 2000000 in
theorem isNaN_v (n : Int) : VCalls Tryz.prog 116 [I n] (fun r M => r = B false ∧ M = []) := by
  refine VCalls.body Tryz.func116 rfl 5 rfl (fun E => ?_)
  simp only [List.reduceReplicate, List.cons_append, List.nil_append]
  repeat' ((first
    | ((with_reducible show AL _ _ _ _ _ _ _); first | refine AL.any ?_ | refine AL.nil ?_)
    | ((with_reducible show AW _ _ _ _ _ _); first | refine AW.seq ?_ | refine AW.region ?_ | refine AW.skip ?_ | refine AW.block ?_ | refine AW.exit ?_ | refine AW.ret ?_)
    | with_reducible refine (if_pos rfl).mpr ?_
    | with_reducible refine (if_neg (by decide)).mpr ?_) <;> (try dsimp only))
  all_goals exact Fin.one rfl (RV.tmp (by rfl)) (clo_c _) ⟨by simp, rfl⟩

set_option maxRecDepth 100000 in
set_option maxHeartbeats 2000000 in
theorem cmp_v (x y : Int) : VCalls Tryz.prog 109 [I x, I y] (fun r M => r = I (cmpI x y) ∧ M = []) := by
  refine VCalls.body Tryz.func109 rfl 18 rfl (fun E => ?_)
  simp only [List.reduceReplicate, List.cons_append, List.nil_append]
  repeat' ((first
    | ((with_reducible show AL _ _ _ _ _ _ _); first | refine AL.any ?_ | refine AL.any (h := POp.k Tryz.func116 (hc := isNaN_v _)) ?_ | refine AL.nil ?_)
    | ((with_reducible show AW _ _ _ _ _ _); first | refine AW.seq ?_ | refine AW.region ?_ | refine AW.skip ?_ | refine AW.cT ?_ | refine AW.cF ?_ | (refine AW.c2 ?_ ?_ <;> (intro h; try simp only [Bool.not_eq_true', Bool.not_eq_false'] at h)) | refine AW.block ?_ | refine AW.exit ?_ | refine AW.ret ?_)
    | with_reducible refine (if_pos rfl).mpr ?_
    | with_reducible refine (if_neg (by decide)).mpr ?_) <;> (try dsimp only))
  all_goals exact Fin.one rfl (RV.tmp (by rfl)) (clo_c _) ⟨by first | rfl | (simp_all [cmpI]; done) | (simp only [cmpI]; (repeat' split) <;> simp_all <;> omega), rfl⟩

set_option maxRecDepth 100000 in
set_option maxHeartbeats 2000000 in
theorem crs_s (a b p : TPoint) : VCalls Tryz.prog 108 [.agg a.en, .agg b.en, .agg p.en] (fun r M => r = I (crW a b p) ∧ M = []) := by
  refine VCalls.body Tryz.func108 rfl 27 rfl (fun E => ?_)
  simp only [List.reduceReplicate, List.cons_append, List.nil_append]
  dsimp only [TPoint.en, TSegment.en]
  repeat' ((first
    | ((with_reducible show AL _ _ _ _ _ _ _); first | refine AL.any ?_ | refine AL.nil ?_)
    | ((with_reducible show AW _ _ _ _ _ _); first | refine AW.seq ?_ | refine AW.region ?_ | refine AW.skip ?_ | refine AW.block ?_ | refine AW.exit ?_ | refine AW.ret ?_)
    | with_reducible refine (if_pos rfl).mpr ?_
    | with_reducible refine (if_neg (by decide)).mpr ?_) <;> (try dsimp only))
  all_goals exact Fin.one rfl (RV.tmp (by rfl)) (clo_c _) ⟨by first | rfl | (simp_all [crW]; done) | (simp only [crW]; (repeat' split) <;> simp_all <;> omega), rfl⟩

set_option maxRecDepth 100000 in
set_option maxHeartbeats 2000000 in
theorem isSeg_s (s : TSegment) : VCalls Tryz.prog 76 [.agg s.en] (fun r M => r = B (isSeg s) ∧ M = []) := by
  refine VCalls.body Tryz.func76 rfl 17 rfl (fun E => ?_)
  simp only [List.reduceReplicate, List.cons_append, List.nil_append]
  dsimp only [TPoint.en, TSegment.en]
  repeat' ((first
    | ((with_reducible show AL _ _ _ _ _ _ _); first | refine AL.any ?_ | refine AL.any (h := POp.k Tryz.func53 (hc := by first | exact isp_s_t _ _ (by assumption) | exact isp_s_f _ _ (by assumption) | exact isp_s _ _)) ?_ | refine AL.U ?_ | refine AL.F ?_ | refine AL.T ?_ | refine AL.T (h := POp.k Tryz.func53 (hc := by first | exact isp_s_t _ _ (by assumption) | exact isp_s_f _ _ (by assumption) | exact isp_s _ _)) ?_ | refine AL.W ?_ | refine AL.W (h := fun h => by (try rw [h]); exact POp.k Tryz.func53 (hc := by first | exact isp_s_t _ _ (by assumption) | exact isp_s_f _ _ (by assumption) | exact isp_s _ _)) ?_ | refine AL.nil ?_)
    | ((with_reducible show AW _ _ _ _ _ _); first | refine AW.seq ?_ | refine AW.region ?_ | refine AW.skip ?_ | refine AW.block ?_ | refine AW.exit ?_ | refine AW.ret ?_)
    | with_reducible refine (if_pos rfl).mpr ?_
    | with_reducible refine (if_neg (by decide)).mpr ?_) <;> (try dsimp only))
  all_goals exact Fin.one rfl (RV.tmp (by rfl)) (clo_c _) ⟨by first | rfl | (simp_all [isSeg]; done) | (simp only [isSeg]; (repeat' split) <;> simp_all <;> omega), rfl⟩

set_option maxRecDepth 100000 in
set_option maxHeartbeats 2000000 in
theorem side_s (a b p : TPoint) : VCalls Tryz.prog 93 [.agg a.en, .agg b.en, .agg p.en] (fun r M => r = I (sdW a b p) ∧ M = []) := by
  refine VCalls.body Tryz.func93 rfl 28 rfl (fun E => ?_)
  simp only [List.reduceReplicate, List.cons_append, List.nil_append]
  dsimp only [TPoint.en, TSegment.en]
  repeat' ((first
    | ((with_reducible show AL _ _ _ _ _ _ _); first | refine AL.any ?_ | refine AL.any (h := POp.k Tryz.func53 (hc := by first | exact isp_s_t _ _ (by assumption) | exact isp_s_f _ _ (by assumption) | exact isp_s _ _)) ?_ | refine AL.any (h := POp.k Tryz.func108 (hc := by first | exact crs_s a b p | exact crs_s s.a s.b p)) ?_ | refine AL.U ?_ | refine AL.F ?_ | refine AL.T ?_ | refine AL.T (h := POp.k Tryz.func53 (hc := by first | exact isp_s_t _ _ (by assumption) | exact isp_s_f _ _ (by assumption) | exact isp_s _ _)) ?_ | refine AL.T (h := POp.k Tryz.func108 (hc := by first | exact crs_s a b p | exact crs_s s.a s.b p)) ?_ | refine AL.W ?_ | refine AL.W (h := fun h => by (try rw [h]); exact POp.k Tryz.func53 (hc := by first | exact isp_s_t _ _ (by assumption) | exact isp_s_f _ _ (by assumption) | exact isp_s _ _)) ?_ | refine AL.W (h := fun h => by (try rw [h]); exact POp.k Tryz.func108 (hc := by first | exact crs_s a b p | exact crs_s s.a s.b p)) ?_ | refine AL.nil ?_)
    | ((with_reducible show AW _ _ _ _ _ _); first | refine AW.seq ?_ | refine AW.region ?_ | refine AW.skip ?_ | refine AW.cT ?_ | refine AW.cF ?_ | (refine AW.c2 ?_ ?_ <;> (intro h; try simp only [Bool.not_eq_true', Bool.not_eq_false'] at h)) | refine AW.block ?_ | refine AW.exit ?_ | refine AW.ret ?_)
    | with_reducible refine (if_pos rfl).mpr ?_
    | with_reducible refine (if_neg (by decide)).mpr ?_) <;> (try dsimp only))
  all_goals exact Fin.one rfl (RV.tmp (by rfl)) (clo_c _) ⟨by first | rfl | (simp_all [sdW, sg, cmpI]; done) | (simp only [sdW, sg, cmpI]; (repeat' split) <;> simp_all <;> omega), rfl⟩

set_option maxRecDepth 100000 in
set_option maxHeartbeats 2000000 in
theorem isOn_s (s : TSegment) (p : TPoint) : VCalls Tryz.prog 107 [.agg s.en, .agg p.en] (fun r M => r = B (onW s p) ∧ M = []) := by
  refine VCalls.body Tryz.func107 rfl 56 rfl (fun E => ?_)
  simp only [List.reduceReplicate, List.cons_append, List.nil_append]
  dsimp only [TPoint.en, TSegment.en]
  repeat' ((first
    | ((with_reducible show AL _ _ _ _ _ _ _); first | refine AL.any ?_ | refine AL.any (h := POp.k Tryz.func20 (hc := inr_s _ _ _)) ?_ | refine AL.any (h := POp.k Tryz.func53 (hc := by first | exact isp_s_t _ _ (by assumption) | exact isp_s_f _ _ (by assumption) | exact isp_s _ _)) ?_ | refine AL.any (h := POp.k Tryz.func76 (hc := isSeg_s s)) ?_ | refine AL.any (h := POp.k Tryz.func90 (hc := max_s _ _)) ?_ | refine AL.any (h := POp.k Tryz.func91 (hc := min_s _ _)) ?_ | refine AL.any (h := POp.k Tryz.func108 (hc := by first | exact crs_s a b p | exact crs_s s.a s.b p)) ?_ | refine AL.U ?_ | refine AL.F ?_ | refine AL.T ?_ | refine AL.T (h := POp.k Tryz.func20 (hc := inr_s _ _ _)) ?_ | refine AL.T (h := POp.k Tryz.func53 (hc := by first | exact isp_s_t _ _ (by assumption) | exact isp_s_f _ _ (by assumption) | exact isp_s _ _)) ?_ | refine AL.T (h := POp.k Tryz.func76 (hc := isSeg_s s)) ?_ | refine AL.T (h := POp.k Tryz.func90 (hc := max_s _ _)) ?_ | refine AL.T (h := POp.k Tryz.func91 (hc := min_s _ _)) ?_ | refine AL.T (h := POp.k Tryz.func108 (hc := by first | exact crs_s a b p | exact crs_s s.a s.b p)) ?_ | refine AL.W ?_ | refine AL.W (h := fun h => by (try rw [h]); exact POp.k Tryz.func20 (hc := inr_s _ _ _)) ?_ | refine AL.W (h := fun h => by (try rw [h]); exact POp.k Tryz.func53 (hc := by first | exact isp_s_t _ _ (by assumption) | exact isp_s_f _ _ (by assumption) | exact isp_s _ _)) ?_ | refine AL.W (h := fun h => by (try rw [h]); exact POp.k Tryz.func76 (hc := isSeg_s s)) ?_ | refine AL.W (h := fun h => by (try rw [h]); exact POp.k Tryz.func90 (hc := max_s _ _)) ?_ | refine AL.W (h := fun h => by (try rw [h]); exact POp.k Tryz.func91 (hc := min_s _ _)) ?_ | refine AL.W (h := fun h => by (try rw [h]); exact POp.k Tryz.func108 (hc := by first | exact crs_s a b p | exact crs_s s.a s.b p)) ?_ | refine AL.nil ?_)
    | ((with_reducible show DL _ _ _ _ _ _ _); first | refine DL.any ?_ | refine DL.any (h := POp.k Tryz.func20 (hc := inr_s _ _ _)) ?_ | refine DL.any (h := POp.k Tryz.func53 (hc := by first | exact isp_s_t _ _ (by assumption) | exact isp_s_f _ _ (by assumption) | exact isp_s _ _)) ?_ | refine DL.any (h := POp.k Tryz.func76 (hc := isSeg_s s)) ?_ | refine DL.any (h := POp.k Tryz.func90 (hc := max_s _ _)) ?_ | refine DL.any (h := POp.k Tryz.func91 (hc := min_s _ _)) ?_ | refine DL.any (h := POp.k Tryz.func108 (hc := by first | exact crs_s a b p | exact crs_s s.a s.b p)) ?_ | refine DL.U ?_ | refine DL.F ?_ | refine DL.T ?_ | refine DL.T (h := POp.k Tryz.func20 (hc := inr_s _ _ _)) ?_ | refine DL.T (h := POp.k Tryz.func53 (hc := by first | exact isp_s_t _ _ (by assumption) | exact isp_s_f _ _ (by assumption) | exact isp_s _ _)) ?_ | refine DL.T (h := POp.k Tryz.func76 (hc := isSeg_s s)) ?_ | refine DL.T (h := POp.k Tryz.func90 (hc := max_s _ _)) ?_ | refine DL.T (h := POp.k Tryz.func91 (hc := min_s _ _)) ?_ | refine DL.T (h := POp.k Tryz.func108 (hc := by first | exact crs_s a b p | exact crs_s s.a s.b p)) ?_ | refine DL.W ?_ | refine DL.W (h := fun h => by (try rw [h]); exact POp.k Tryz.func20 (hc := inr_s _ _ _)) ?_ | refine DL.W (h := fun h => by (try rw [h]); exact POp.k Tryz.func53 (hc := by first | exact isp_s_t _ _ (by assumption) | exact isp_s_f _ _ (by assumption) | exact isp_s _ _)) ?_ | refine DL.W (h := fun h => by (try rw [h]); exact POp.k Tryz.func76 (hc := isSeg_s s)) ?_ | refine DL.W (h := fun h => by (try rw [h]); exact POp.k Tryz.func90 (hc := max_s _ _)) ?_ | refine DL.W (h := fun h => by (try rw [h]); exact POp.k Tryz.func91 (hc := min_s _ _)) ?_ | refine DL.W (h := fun h => by (try rw [h]); exact POp.k Tryz.func108 (hc := by first | exact crs_s a b p | exact crs_s s.a s.b p)) ?_ | refine DL.nil ?_)
    | ((with_reducible show AW _ _ _ _ _ _); first | refine AW.seq ?_ | refine AW.region ?_ | refine AW.skip ?_ | refine AW.dr (id := 1) 51 ?_ | refine AW.block ?_ | refine AW.exit ?_ | refine AW.ret ?_)
    | with_reducible refine (if_pos rfl).mpr ?_
    | with_reducible refine (if_neg (by decide)).mpr ?_) <;> (try dsimp only))
  all_goals exact Fin.one rfl (RV.tmp (by rfl)) (clo_c _) ⟨by first | rfl | (simp_all [onW, wmin, wmax]; done) | (simp only [onW, wmin, wmax]; (repeat' split) <;> simp_all <;> omega), rfl⟩

set_option maxRecDepth 100000 in
set_option maxHeartbeats 2000000 in
theorem crs_i (a b p : TPoint) : VCalls Tryz.prog 110 [.agg a.en, .agg b.en, .agg p.en] (fun r M => r = I (crW a b p) ∧ M = []) := by
  refine VCalls.body Tryz.func110 rfl 27 rfl (fun E => ?_)
  simp only [List.reduceReplicate, List.cons_append, List.nil_append]
  dsimp only [TPoint.en, TSegment.en]
  repeat' ((first
    | ((with_reducible show AL _ _ _ _ _ _ _); first | refine AL.any ?_ | refine AL.nil ?_)
    | ((with_reducible show AW _ _ _ _ _ _); first | refine AW.seq ?_ | refine AW.region ?_ | refine AW.skip ?_ | refine AW.block ?_ | refine AW.exit ?_ | refine AW.ret ?_)
    | with_reducible refine (if_pos rfl).mpr ?_
    | with_reducible refine (if_neg (by decide)).mpr ?_) <;> (try dsimp only))
  all_goals exact Fin.one rfl (RV.tmp (by rfl)) (clo_c _) ⟨by first | rfl | (simp_all [crW]; done) | (simp only [crW]; (repeat' split) <;> simp_all <;> omega), rfl⟩

set_option maxRecDepth 100000 in
set_option maxHeartbeats 2000000 in
theorem isSeg_i (s : TSegment) : VCalls Tryz.prog 84 [.agg s.en] (fun r M => r = B (isSeg s) ∧ M = []) := by
  refine VCalls.body Tryz.func84 rfl 17 rfl (fun E => ?_)
  simp only [List.reduceReplicate, List.cons_append, List.nil_append]
  dsimp only [TPoint.en, TSegment.en]
  repeat' ((first
    | ((with_reducible show AL _ _ _ _ _ _ _); first | refine AL.any ?_ | refine AL.any (h := POp.k Tryz.func63 (hc := by first | exact isp_v_t _ _ (by assumption) | exact isp_v_f _ _ (by assumption) | exact isp_v _ _)) ?_ | refine AL.U ?_ | refine AL.F ?_ | refine AL.T ?_ | refine AL.T (h := POp.k Tryz.func63 (hc := by first | exact isp_v_t _ _ (by assumption) | exact isp_v_f _ _ (by assumption) | exact isp_v _ _)) ?_ | refine AL.W ?_ | refine AL.W (h := fun h => by (try rw [h]); exact POp.k Tryz.func63 (hc := by first | exact isp_v_t _ _ (by assumption) | exact isp_v_f _ _ (by assumption) | exact isp_v _ _)) ?_ | refine AL.nil ?_)
    | ((with_reducible show AW _ _ _ _ _ _); first | refine AW.seq ?_ | refine AW.region ?_ | refine AW.skip ?_ | refine AW.block ?_ | refine AW.exit ?_ | refine AW.ret ?_)
    | with_reducible refine (if_pos rfl).mpr ?_
    | with_reducible refine (if_neg (by decide)).mpr ?_) <;> (try dsimp only))
  all_goals exact Fin.one rfl (RV.tmp (by rfl)) (clo_c _) ⟨by first | rfl | (simp_all [isSeg]; done) | (simp only [isSeg]; (repeat' split) <;> simp_all <;> omega), rfl⟩

set_option maxRecDepth 100000 in
set_option maxHeartbeats 2000000 in
theorem side_i (a b p : TPoint) : VCalls Tryz.prog 96 [.agg a.en, .agg b.en, .agg p.en] (fun r M => r = I (sdW a b p) ∧ M = []) := by
  refine VCalls.body Tryz.func96 rfl 22 rfl (fun E => ?_)
  simp only [List.reduceReplicate, List.cons_append, List.nil_append]
  dsimp only [TPoint.en, TSegment.en]
  repeat' ((first
    | ((with_reducible show AL _ _ _ _ _ _ _); first | refine AL.any ?_ | refine AL.any (h := POp.k Tryz.func63 (hc := by first | exact isp_v_t _ _ (by assumption) | exact isp_v_f _ _ (by assumption) | exact isp_v _ _)) ?_ | refine AL.any (h := POp.k Tryz.func109 (hc := cmp_v _ _)) ?_ | refine AL.any (h := POp.k Tryz.func110 (hc := by first | exact crs_i a b p | exact crs_i s.a s.b p)) ?_ | refine AL.U ?_ | refine AL.F ?_ | refine AL.T ?_ | refine AL.T (h := POp.k Tryz.func63 (hc := by first | exact isp_v_t _ _ (by assumption) | exact isp_v_f _ _ (by assumption) | exact isp_v _ _)) ?_ | refine AL.T (h := POp.k Tryz.func109 (hc := cmp_v _ _)) ?_ | refine AL.T (h := POp.k Tryz.func110 (hc := by first | exact crs_i a b p | exact crs_i s.a s.b p)) ?_ | refine AL.W ?_ | refine AL.W (h := fun h => by (try rw [h]); exact POp.k Tryz.func63 (hc := by first | exact isp_v_t _ _ (by assumption) | exact isp_v_f _ _ (by assumption) | exact isp_v _ _)) ?_ | refine AL.W (h := fun h => by (try rw [h]); exact POp.k Tryz.func109 (hc := cmp_v _ _)) ?_ | refine AL.W (h := fun h => by (try rw [h]); exact POp.k Tryz.func110 (hc := by first | exact crs_i a b p | exact crs_i s.a s.b p)) ?_ | refine AL.nil ?_)
    | ((with_reducible show AW _ _ _ _ _ _); first | refine AW.seq ?_ | refine AW.region ?_ | refine AW.skip ?_ | refine AW.cT ?_ | refine AW.cF ?_ | (refine AW.c2 ?_ ?_ <;> (intro h; try simp only [Bool.not_eq_true', Bool.not_eq_false'] at h)) | refine AW.block ?_ | refine AW.exit ?_ | refine AW.ret ?_)
    | with_reducible refine (if_pos rfl).mpr ?_
    | with_reducible refine (if_neg (by decide)).mpr ?_) <;> (try dsimp only))
  all_goals exact Fin.one rfl (RV.tmp (by rfl)) (clo_c _) ⟨by first | rfl | (simp_all [sdW, sg, cmpI]; done) | (simp only [sdW, sg, cmpI]; (repeat' split) <;> simp_all <;> omega), rfl⟩

set_option maxRecDepth 100000 in
set_option maxHeartbeats 2000000 in
theorem isOn_i0 (s : TSegment) (p : TPoint) : VCalls Tryz.prog 99 [.agg s.en, .agg p.en] (fun r M => r = B (onWI s p) ∧ M = []) := by
  refine VCalls.body Tryz.func99 rfl 56 rfl (fun E => ?_)
  simp only [List.reduceReplicate, List.cons_append, List.nil_append]
  dsimp only [TPoint.en, TSegment.en]
  repeat' ((first
    | ((with_reducible show AL _ _ _ _ _ _ _); first | refine AL.any ?_ | refine AL.any (h := POp.k Tryz.func29 (hc := inr_v _ _ _)) ?_ | refine AL.any (h := POp.k Tryz.func63 (hc := by first | exact isp_v_t _ _ (by assumption) | exact isp_v_f _ _ (by assumption) | exact isp_v _ _)) ?_ | refine AL.any (h := POp.k Tryz.func84 (hc := isSeg_i s)) ?_ | refine AL.any (h := POp.k Tryz.func96 (hc := by first | exact side_i a b p | exact side_i s.a s.b p)) ?_ | refine AL.U ?_ | refine AL.F ?_ | refine AL.T ?_ | refine AL.T (h := POp.k Tryz.func29 (hc := inr_v _ _ _)) ?_ | refine AL.T (h := POp.k Tryz.func63 (hc := by first | exact isp_v_t _ _ (by assumption) | exact isp_v_f _ _ (by assumption) | exact isp_v _ _)) ?_ | refine AL.T (h := POp.k Tryz.func84 (hc := isSeg_i s)) ?_ | refine AL.T (h := POp.k Tryz.func96 (hc := by first | exact side_i a b p | exact side_i s.a s.b p)) ?_ | refine AL.W ?_ | refine AL.W (h := fun h => by (try rw [h]); exact POp.k Tryz.func29 (hc := inr_v _ _ _)) ?_ | refine AL.W (h := fun h => by (try rw [h]); exact POp.k Tryz.func63 (hc := by first | exact isp_v_t _ _ (by assumption) | exact isp_v_f _ _ (by assumption) | exact isp_v _ _)) ?_ | refine AL.W (h := fun h => by (try rw [h]); exact POp.k Tryz.func84 (hc := isSeg_i s)) ?_ | refine AL.W (h := fun h => by (try rw [h]); exact POp.k Tryz.func96 (hc := by first | exact side_i a b p | exact side_i s.a s.b p)) ?_ | refine AL.nil ?_)
    | ((with_reducible show AW _ _ _ _ _ _); first | refine AW.seq ?_ | refine AW.region ?_ | refine AW.skip ?_ | refine AW.block ?_ | refine AW.exit ?_ | refine AW.ret ?_)
    | with_reducible refine (if_pos rfl).mpr ?_
    | with_reducible refine (if_neg (by decide)).mpr ?_) <;> (try dsimp only))
  all_goals exact Fin.one rfl (RV.tmp (by rfl)) (clo_c _) ⟨by first | rfl | (simp only [onWI, Bool.and_assoc]; done), rfl⟩

theorem isOn_i (s : TSegment) (p : TPoint) : VCalls Tryz.prog 99 [.agg s.en, .agg p.en] (fun r M => r = B (onW s p) ∧ M = []) := onWI_eq s p ▸ isOn_i0 s p
end Go.Proofs.YtolmophnimngjaaGreat.Abs
