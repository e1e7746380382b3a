/- The walks of sides and segments. -/
import Derived.Test.YtbkcoechoblndaaWkFacts
import Derived.Test.YtbkcoechoblndaaWkLine
import Derived.Test.YtbkcoechoblndaaGeo
namespace Go.Proofs.Ytbkcoechoblndaa.Abs
open Go.Proofs Go.RowKit
set_option linter.unusedVariables false
set_option linter.unusedSimpArgs false
attribute [local irreducible] OpA AL AW DL DLM DLR QOp POp VCalls VCallsI
abbrev wmul (a b : Int) : Int := IntKind.i64.wrap (a * b)
def wmin (a b : Int) : Int := if b < a then b else a
def isSeg (s : TSegment) : Bool := isp s.a.x s.a.y && isp s.b.x s.b.y && !ptE s.a s.b
def crW (a b p : TPoint) : Int := wsub (wmul (wsub b.x a.x) (wsub p.y a.y)) (wmul (wsub b.y a.y) (wsub p.x a.x))
def sdW (a b p : TPoint) : Int := if isp a.x a.y && isp b.x b.y && isp p.x p.y then sg (crW a b p) else 0
def cmpI (x y : Int) : Int := if x < y then -1 else if x > y then 1 else 0
theorem cmp_sg (n : Int) : cmpI n 0 = sg n := by
  unfold cmpI sg
  repeat' split
  all_goals omega
def onW (s : TSegment) (p : TPoint) : Bool := isSeg s && isp p.x p.y && (crW s.a s.b p == 0) && inr p.x (wmin s.a.x s.b.x) (wmax s.a.x s.b.x) && inr p.y (wmin s.a.y s.b.y) (wmax s.a.y s.b.y)
theorem sdW_zero {a b p : TPoint} (h1 : isp a.x a.y = true) (h2 : isp b.x b.y = true) (h3 : isp p.x p.y = true) : (sdW a b p == 0) = (crW a b p == 0) := by
  unfold sdW
  rw [h1, h2, h3]
  simp only [Bool.and_self, if_true]
  have := sg_zero (n := crW a b p)
  cases h : (crW a b p == 0)
  · simp at h ⊢; omega
  · simp at h ⊢; omega
def onWI (s : TSegment) (p : TPoint) : Bool := isSeg s && isp p.x p.y && (sdW s.a s.b p == 0) && inr p.x (if s.b.x < s.a.x then s.b.x else s.a.x) (if s.b.x > s.a.x then s.b.x else s.a.x) && inr p.y (if s.b.y < s.a.y then s.b.y else s.a.y) (if s.b.y > s.a.y then s.b.y else s.a.y)
theorem onWI_eq (s : TSegment) (p : TPoint) : onWI s p = onW s p := by
  unfold onWI onW
  cases h1 : isSeg s
  · simp
  · cases h2 : isp p.x p.y
    · simp
    · have h3 := h1
      unfold isSeg at h3
      simp only [Bool.and_eq_true] at h3
      rw [sdW_zero h3.1.1 h3.1.2 h2]
      rfl
theorem bef_cases (a b : TPoint) : decide (a.y < b.y) = true ∨ (decide (a.y < b.y) = false ∧ (a.y == b.y) = false) ∨ (decide (a.y < b.y) = false ∧ (a.y == b.y) = true) := by
  cases decide (a.y < b.y) <;> cases (a.y == b.y) <;> simp
def fwdW (s : TSegment) : TSegment := if bef s.b s.a = true then ⟨s.b, s.a⟩ else s

set_option maxRecDepth 100000 in
set_option maxHeartbeats 2000000 in
theorem min_s (a b : Int) : VCalls Try.prog 122 [I a, I b] (fun r M => r = I (wmin a b) ∧ M = []) := by
  refine VCalls.body Try.func122 rfl 8 rfl (fun E => ?_)
  simp only [List.reduceReplicate, List.cons_append, List.nil_append]
  repeat' ((first
    | ((with_reducible show AL _ _ _ _ _ _ _); first
      | refine AL.q TT_ok rfl (by rfl) ?_
      | refine AL.step rfl ?_
      | refine AL.nil ?_)
    | ((with_reducible show AW _ _ _ _ _ _); first
      | refine AW.seq ?_
      | refine AW.region ?_
      | refine AW.skip ?_
      | (refine AW.cond (by rfl) (fun h => ?_) ?_; rotate_left; focus (intro h; (try simp only [Bool.not_eq_true', Bool.not_eq_false'] at h); first | (cases h; done) | exact clash (by with_reducible_and_instances assumption) h | exact clash h (by with_reducible_and_instances assumption) | exact absurd h (by decide) | (refine absurd h ?_; simp; done)))
      | (refine AW.cond (by rfl) ?_ (fun h => ?_); focus (intro h; (try simp only [Bool.not_eq_true', Bool.not_eq_false'] at h); first | (cases h; done) | exact clash (by with_reducible_and_instances assumption) h | exact clash h (by with_reducible_and_instances assumption) | exact absurd h (by decide) | (refine absurd h ?_; simp; done)))
      | (refine AW.cond (by rfl) ?_ ?_ <;> (intro h; try simp only [Bool.not_eq_true', Bool.not_eq_false'] at h))
      | refine AW.ret ?_)
    | with_reducible refine (if_pos rfl).mpr ?_
    | with_reducible refine (if_neg (by decide)).mpr ?_) <;> (try dsimp only [dput, List.set, cond_true, cond_false, Nat.zero_add, Nat.add_zero, Nat.reduceAdd, splice, List.take, List.drop, List.length, List.nil_append, List.cons_append, List.append, TPoint.en, TSegment.en, TBox.en, TFeature.en, TMeet.en, TPlace.en, TCover.en, TLabel.en, TPiece.en, TLevel.en, TChart.en, TReason.en, TEdit.en, TEntry.en, TEdition.en, TListing.en, TAtlas.en, TEvent.en, TWindow.en]))
  all_goals exact Fin.one rfl (RV.tmp (by rfl)) (clo_c _) ⟨by first | rfl | (simp_all [wmin]; done) | (simp only [wmin]; (repeat' split) <;> simp_all <;> omega), rfl⟩

set_option maxRecDepth 100000 in
set_option maxHeartbeats 2000000 in
theorem isNaN_v (n : Int) : VCalls Try.prog 138 [I n] (fun r M => r = B false ∧ M = []) := by
  refine VCalls.body Try.func138 rfl 5 rfl (fun E => ?_)
  simp only [List.reduceReplicate, List.cons_append, List.nil_append]
  repeat' ((first
    | ((with_reducible show AL _ _ _ _ _ _ _); first
      | refine AL.q TT_ok rfl (by rfl) ?_
      | refine AL.step rfl ?_
      | refine AL.nil ?_)
    | ((with_reducible show AW _ _ _ _ _ _); first
      | refine AW.seq ?_
      | refine AW.region ?_
      | refine AW.skip ?_
      | refine AW.ret ?_)
    | with_reducible refine (if_pos rfl).mpr ?_
    | with_reducible refine (if_neg (by decide)).mpr ?_) <;> (try dsimp only [dput, List.set, cond_true, cond_false, Nat.zero_add, Nat.add_zero, Nat.reduceAdd, splice, List.take, List.drop, List.length, List.nil_append, List.cons_append, List.append, TPoint.en, TSegment.en, TBox.en, TFeature.en, TMeet.en, TPlace.en, TCover.en, TLabel.en, TPiece.en, TLevel.en, TChart.en, TReason.en, TEdit.en, TEntry.en, TEdition.en, TListing.en, TAtlas.en, TEvent.en, TWindow.en]))
  all_goals exact Fin.one rfl (RV.tmp (by rfl)) (clo_c _) ⟨by simp, rfl⟩

set_option maxRecDepth 100000 in
set_option maxHeartbeats 2000000 in
theorem cmp_v (x y : Int) : VCalls Try.prog 135 [I x, I y] (fun r M => r = I (cmpI x y) ∧ M = []) := by
  refine VCalls.body Try.func135 rfl 18 rfl (fun E => ?_)
  simp only [List.reduceReplicate, List.cons_append, List.nil_append]
  repeat' ((first
    | ((with_reducible show OpA _ _ _ _ _ _); first
      | refine OpA.pcall (by rfl) Try.func138 rfl rfl (by rfl) (by first | exact clo_all (by rfl) | repeat' (first | exact clo_nil | refine clo_cons ?_ ?_ | exact clo_of (by rfl) | exact clo_fn _ | assumption)) (isNaN_v _) (by first | exact clo_of (by rfl) | assumption) ?_)
    | ((with_reducible show AL _ _ _ _ _ _ _); first
      | refine AL.q TT_ok rfl (by rfl) ?_
      | refine AL.step rfl ?_
      | refine AL.nil ?_)
    | ((with_reducible show AW _ _ _ _ _ _); first
      | refine AW.seq ?_
      | refine AW.region ?_
      | refine AW.skip ?_
      | (refine AW.cond (by rfl) (fun h => ?_) ?_; rotate_left; focus (intro h; (try simp only [Bool.not_eq_true', Bool.not_eq_false'] at h); first | (cases h; done) | exact clash (by with_reducible_and_instances assumption) h | exact clash h (by with_reducible_and_instances assumption) | exact absurd h (by decide) | (refine absurd h ?_; simp; done)))
      | (refine AW.cond (by rfl) ?_ (fun h => ?_); focus (intro h; (try simp only [Bool.not_eq_true', Bool.not_eq_false'] at h); first | (cases h; done) | exact clash (by with_reducible_and_instances assumption) h | exact clash h (by with_reducible_and_instances assumption) | exact absurd h (by decide) | (refine absurd h ?_; simp; done)))
      | (refine AW.cond (by rfl) ?_ ?_ <;> (intro h; try simp only [Bool.not_eq_true', Bool.not_eq_false'] at h))
      | refine AW.ret ?_)
    | with_reducible refine (if_pos rfl).mpr ?_
    | with_reducible refine (if_neg (by decide)).mpr ?_) <;> (try dsimp only [dput, List.set, cond_true, cond_false, Nat.zero_add, Nat.add_zero, Nat.reduceAdd, splice, List.take, List.drop, List.length, List.nil_append, List.cons_append, List.append, TPoint.en, TSegment.en, TBox.en, TFeature.en, TMeet.en, TPlace.en, TCover.en, TLabel.en, TPiece.en, TLevel.en, TChart.en, TReason.en, TEdit.en, TEntry.en, TEdition.en, TListing.en, TAtlas.en, TEvent.en, TWindow.en]))
  all_goals exact Fin.one rfl (RV.tmp (by rfl)) (clo_c _) ⟨by first | rfl | (simp_all [cmpI]; done) | (simp only [cmpI]; (repeat' split) <;> simp_all <;> omega), rfl⟩

set_option maxRecDepth 100000 in
set_option maxHeartbeats 2000000 in
theorem crs_s (a b p : TPoint) : VCalls Try.prog 130 [.agg a.en, .agg b.en, .agg p.en] (fun r M => r = I (crW a b p) ∧ M = []) := by
  refine VCalls.body Try.func130 rfl 27 rfl (fun E => ?_)
  simp only [List.reduceReplicate, List.cons_append, List.nil_append]
  dsimp only [TPoint.en, TSegment.en]
  repeat' ((first
    | ((with_reducible show OpA _ _ _ _ _ _); first
      | refine OpA.quiet (QOp.ld1_ro (by rfl) (by rfl) (by assumption) (TT_ok.ld _ _ (by rfl)) (by rfl)) ?_
      | refine OpA.quiet (QOp.ldr_ro (by rfl) (by rfl) (by assumption) (TT_ok.ld _ _ (by rfl)) (Nat.le_of_ble_eq_true (by rfl))) ?_
      | refine OpA.box (by rfl) (by rfl) (by rfl) ?_)
    | ((with_reducible show AL _ _ _ _ _ _ _); first
      | refine AL.q TT_ok rfl (by rfl) ?_
      | refine AL.step rfl ?_
      | refine AL.nil ?_)
    | ((with_reducible show AW _ _ _ _ _ _); first
      | refine AW.seq ?_
      | refine AW.region ?_
      | refine AW.skip ?_
      | refine AW.ret ?_)
    | with_reducible refine (if_pos rfl).mpr ?_
    | with_reducible refine (if_neg (by decide)).mpr ?_) <;> (try dsimp only [dput, List.set, cond_true, cond_false, Nat.zero_add, Nat.add_zero, Nat.reduceAdd, splice, List.take, List.drop, List.length, List.nil_append, List.cons_append, List.append, TPoint.en, TSegment.en, TBox.en, TFeature.en, TMeet.en, TPlace.en, TCover.en, TLabel.en, TPiece.en, TLevel.en, TChart.en, TReason.en, TEdit.en, TEntry.en, TEdition.en, TListing.en, TAtlas.en, TEvent.en, TWindow.en]))
  all_goals exact Fin.one rfl (RV.tmp (by rfl)) (clo_c _) ⟨by first | rfl | (simp_all [crW]; done) | (simp only [crW]; (repeat' split) <;> simp_all <;> omega), rfl⟩

set_option maxRecDepth 100000 in
set_option maxHeartbeats 2000000 in
theorem isSeg_s (s : TSegment) : VCalls Try.prog 112 [.agg s.en] (fun r M => r = B (isSeg s) ∧ M = []) := by
  refine VCalls.body Try.func112 rfl 17 rfl (fun E => ?_)
  simp only [List.reduceReplicate, List.cons_append, List.nil_append]
  dsimp only [TPoint.en, TSegment.en]
  repeat' ((first
    | ((with_reducible show OpA _ _ _ _ _ _); first
      | refine OpA.q TT_ok (by rfl) ?_
      | (refine OpA.quiet (QOp.pickT (by rfl) (by rfl) ?_ (by rfl)) ?_; focus (first | (with_reducible rfl) | (with_reducible_and_instances assumption) | (simp only [Bool.not_eq_true', Bool.not_eq_false']; with_reducible_and_instances assumption)))
      | (refine OpA.quiet (QOp.pickF (by rfl) (by rfl) ?_ (by rfl)) ?_; focus (first | (with_reducible rfl) | (with_reducible_and_instances assumption) | (simp only [Bool.not_eq_true', Bool.not_eq_false']; with_reducible_and_instances assumption)))
      | refine OpA.quiet (QOp.sEq (by rfl) (by rfl) (by rfl) (by first | exact flk109.1 | exact flk111.1) (by rfl) (by rfl) (by rfl) (by rfl) (by rfl) (by rfl) (by rfl) (by rfl)) ?_
      | refine OpA.box (by rfl) (by rfl) (by rfl) ?_
      | refine OpA.pcall (by rfl) Try.func107 rfl rfl (by rfl) (by first | exact clo_all (by rfl) | repeat' (first | exact clo_nil | refine clo_cons ?_ ?_ | exact clo_of (by rfl) | exact clo_fn _ | assumption)) (by first | exact isp_s_t _ _ (by assumption) | exact isp_s_f _ _ (by assumption) | exact isp_s _ _) (by first | exact clo_of (by rfl) | assumption) ?_
      | refine OpA.quiet (QOp.pickAnd (by rfl) (by rfl) (by rfl) (by rfl) (by rfl)) ?_
      | refine OpA.quiet (QOp.pickOr (by rfl) (by rfl) (by rfl) (by rfl) (by rfl)) ?_)
    | ((with_reducible show AL _ _ _ _ _ _ _); first
      | refine AL.q TT_ok rfl (by rfl) ?_
      | refine AL.step rfl ?_
      | refine AL.guardU (by rfl) (by rfl) (by rfl) (by rfl) ?_
      | refine AL.gF (by rfl) (by rfl) (by rfl) (by rfl) (by first | rfl | assumption) ?_
      | refine AL.gT (by rfl) (by rfl) (by rfl) (by rfl) (by first | rfl | assumption) ?_
      | refine AL.guardW (by rfl) (by rfl) (by rfl) (by rfl) (fun h => by (try rw [h]); first | exact OpA.quietW (QOp.quietA TT_ok (by rfl)) | exact OpA.pcall (by rfl) Try.func107 rfl rfl (by rfl) (by first | exact clo_all (by rfl) | repeat' (first | exact clo_nil | refine clo_cons ?_ ?_ | exact clo_of (by rfl) | exact clo_fn _ | assumption)) (by first | exact isp_s_t _ _ (by assumption) | exact isp_s_f _ _ (by assumption) | exact isp_s _ _) (by first | exact clo_of (by rfl) | assumption) ⟨by rfl, rfl⟩ | exact OpA.quietW (QOp.sEq (by rfl) (by rfl) (by rfl) (by first | exact flk109.1 | exact flk111.1) (by rfl) (by rfl) (by rfl) (by rfl) (by rfl) (by rfl) (by rfl) (by rfl)) | exact OpA.quietW (QOp.pickAnd (by rfl) (by rfl) (by rfl) (by rfl) (by rfl)) | exact OpA.quietW (QOp.pickOr (by rfl) (by rfl) (by rfl) (by rfl) (by rfl))) ?_
      | (refine AL.guardT (by rfl) (by rfl) (by rfl) (by rfl) (fun h => ?_) ?_; rotate_left; focus (intro h; (try simp only [Bool.not_eq_true', Bool.not_eq_false'] at h); first | (cases h; done) | exact clash (by with_reducible_and_instances assumption) h | exact clash h (by with_reducible_and_instances assumption) | exact absurd h (by decide) | (refine absurd h ?_; simp; done)))
      | (refine AL.guardT (by rfl) (by rfl) (by rfl) (by rfl) ?_ (fun h => ?_); focus (intro h; (try simp only [Bool.not_eq_true', Bool.not_eq_false'] at h); first | (cases h; done) | exact clash (by with_reducible_and_instances assumption) h | exact clash h (by with_reducible_and_instances assumption) | exact absurd h (by decide) | (refine absurd h ?_; simp; done)))
      | (refine AL.guardT (by rfl) (by rfl) (by rfl) (by rfl) ?_ ?_ <;> (intro h; try simp only [Bool.not_eq_true', Bool.not_eq_false'] at h))
      | (refine AL.guardF (by rfl) (by rfl) (by rfl) (by rfl) (fun h => ?_) ?_; rotate_left; focus (intro h; (try simp only [Bool.not_eq_true', Bool.not_eq_false'] at h); first | (cases h; done) | exact clash (by with_reducible_and_instances assumption) h | exact clash h (by with_reducible_and_instances assumption) | exact absurd h (by decide) | (refine absurd h ?_; simp; done)))
      | (refine AL.guardF (by rfl) (by rfl) (by rfl) (by rfl) ?_ (fun h => ?_); focus (intro h; (try simp only [Bool.not_eq_true', Bool.not_eq_false'] at h); first | (cases h; done) | exact clash (by with_reducible_and_instances assumption) h | exact clash h (by with_reducible_and_instances assumption) | exact absurd h (by decide) | (refine absurd h ?_; simp; done)))
      | (refine AL.guardF (by rfl) (by rfl) (by rfl) (by rfl) ?_ ?_ <;> (intro h; try simp only [Bool.not_eq_true', Bool.not_eq_false'] at h))
      | refine AL.nil ?_)
    | ((with_reducible show AW _ _ _ _ _ _); first
      | refine AW.seq ?_
      | refine AW.region ?_
      | refine AW.skip ?_
      | refine AW.ret ?_)
    | with_reducible refine (if_pos rfl).mpr ?_
    | with_reducible refine (if_neg (by decide)).mpr ?_) <;> (try dsimp only [dput, List.set, cond_true, cond_false, Nat.zero_add, Nat.add_zero, Nat.reduceAdd, splice, List.take, List.drop, List.length, List.nil_append, List.cons_append, List.append, TPoint.en, TSegment.en, TBox.en, TFeature.en, TMeet.en, TPlace.en, TCover.en, TLabel.en, TPiece.en, TLevel.en, TChart.en, TReason.en, TEdit.en, TEntry.en, TEdition.en, TListing.en, TAtlas.en, TEvent.en, TWindow.en]))
  all_goals exact Fin.one rfl (RV.tmp (by rfl)) (clo_c _) ⟨by first | rfl | (simp_all [isSeg]; done) | (simp only [isSeg]; (repeat' split) <;> simp_all <;> omega), rfl⟩

set_option maxRecDepth 100000 in
set_option maxHeartbeats 2000000 in
theorem side_s (a b p : TPoint) : VCalls Try.prog 124 [.agg a.en, .agg b.en, .agg p.en] (fun r M => r = I (sdW a b p) ∧ M = []) := by
  refine VCalls.body Try.func124 rfl 28 rfl (fun E => ?_)
  simp only [List.reduceReplicate, List.cons_append, List.nil_append]
  dsimp only [TPoint.en, TSegment.en]
  repeat' ((first
    | ((with_reducible show OpA _ _ _ _ _ _); first
      | refine OpA.q TT_ok (by rfl) ?_
      | (refine OpA.quiet (QOp.pickT (by rfl) (by rfl) ?_ (by rfl)) ?_; focus (first | (with_reducible rfl) | (with_reducible_and_instances assumption) | (simp only [Bool.not_eq_true', Bool.not_eq_false']; with_reducible_and_instances assumption)))
      | (refine OpA.quiet (QOp.pickF (by rfl) (by rfl) ?_ (by rfl)) ?_; focus (first | (with_reducible rfl) | (with_reducible_and_instances assumption) | (simp only [Bool.not_eq_true', Bool.not_eq_false']; with_reducible_and_instances assumption)))
      | refine OpA.quiet (QOp.ld1_ro (by rfl) (by rfl) (by assumption) (TT_ok.ld _ _ (by rfl)) (by rfl)) ?_
      | refine OpA.quiet (QOp.ldr_ro (by rfl) (by rfl) (by assumption) (TT_ok.ld _ _ (by rfl)) (Nat.le_of_ble_eq_true (by rfl))) ?_
      | refine OpA.box (by rfl) (by rfl) (by rfl) ?_
      | refine OpA.pcall (by rfl) Try.func107 rfl rfl (by rfl) (by first | exact clo_all (by rfl) | repeat' (first | exact clo_nil | refine clo_cons ?_ ?_ | exact clo_of (by rfl) | exact clo_fn _ | assumption)) (by first | exact isp_s_t _ _ (by assumption) | exact isp_s_f _ _ (by assumption) | exact isp_s _ _) (by first | exact clo_of (by rfl) | assumption) ?_
      | refine OpA.pcall (by rfl) Try.func130 rfl rfl (by rfl) (by first | exact clo_all (by rfl) | repeat' (first | exact clo_nil | refine clo_cons ?_ ?_ | exact clo_of (by rfl) | exact clo_fn _ | assumption)) (by first | exact crs_s a b p | exact crs_s s.a s.b p) (by first | exact clo_of (by rfl) | assumption) ?_
      | refine OpA.quiet (QOp.pickAnd (by rfl) (by rfl) (by rfl) (by rfl) (by rfl)) ?_
      | refine OpA.quiet (QOp.pickOr (by rfl) (by rfl) (by rfl) (by rfl) (by rfl)) ?_)
    | ((with_reducible show AL _ _ _ _ _ _ _); first
      | refine AL.q TT_ok rfl (by rfl) ?_
      | refine AL.step rfl ?_
      | refine AL.guardU (by rfl) (by rfl) (by rfl) (by rfl) ?_
      | refine AL.gF (by rfl) (by rfl) (by rfl) (by rfl) (by first | rfl | assumption) ?_
      | refine AL.gT (by rfl) (by rfl) (by rfl) (by rfl) (by first | rfl | assumption) ?_
      | refine AL.guardW (by rfl) (by rfl) (by rfl) (by rfl) (fun h => by (try rw [h]); first | exact OpA.quietW (QOp.quietA TT_ok (by rfl)) | exact OpA.pcall (by rfl) Try.func107 rfl rfl (by rfl) (by first | exact clo_all (by rfl) | repeat' (first | exact clo_nil | refine clo_cons ?_ ?_ | exact clo_of (by rfl) | exact clo_fn _ | assumption)) (by first | exact isp_s_t _ _ (by assumption) | exact isp_s_f _ _ (by assumption) | exact isp_s _ _) (by first | exact clo_of (by rfl) | assumption) ⟨by rfl, rfl⟩ | exact OpA.pcall (by rfl) Try.func130 rfl rfl (by rfl) (by first | exact clo_all (by rfl) | repeat' (first | exact clo_nil | refine clo_cons ?_ ?_ | exact clo_of (by rfl) | exact clo_fn _ | assumption)) (by first | exact crs_s a b p | exact crs_s s.a s.b p) (by first | exact clo_of (by rfl) | assumption) ⟨by rfl, rfl⟩ | exact OpA.quietW (QOp.ld1_ro (by rfl) (by rfl) (by assumption) (TT_ok.ld _ _ (by rfl)) (by rfl)) | exact OpA.quietW (QOp.ldr_ro (by rfl) (by rfl) (by assumption) (TT_ok.ld _ _ (by rfl)) (Nat.le_of_ble_eq_true (by rfl))) | exact OpA.quietW (QOp.pickAnd (by rfl) (by rfl) (by rfl) (by rfl) (by rfl)) | exact OpA.quietW (QOp.pickOr (by rfl) (by rfl) (by rfl) (by rfl) (by rfl))) ?_
      | (refine AL.guardT (by rfl) (by rfl) (by rfl) (by rfl) (fun h => ?_) ?_; rotate_left; focus (intro h; (try simp only [Bool.not_eq_true', Bool.not_eq_false'] at h); first | (cases h; done) | exact clash (by with_reducible_and_instances assumption) h | exact clash h (by with_reducible_and_instances assumption) | exact absurd h (by decide) | (refine absurd h ?_; simp; done)))
      | (refine AL.guardT (by rfl) (by rfl) (by rfl) (by rfl) ?_ (fun h => ?_); focus (intro h; (try simp only [Bool.not_eq_true', Bool.not_eq_false'] at h); first | (cases h; done) | exact clash (by with_reducible_and_instances assumption) h | exact clash h (by with_reducible_and_instances assumption) | exact absurd h (by decide) | (refine absurd h ?_; simp; done)))
      | (refine AL.guardT (by rfl) (by rfl) (by rfl) (by rfl) ?_ ?_ <;> (intro h; try simp only [Bool.not_eq_true', Bool.not_eq_false'] at h))
      | (refine AL.guardF (by rfl) (by rfl) (by rfl) (by rfl) (fun h => ?_) ?_; rotate_left; focus (intro h; (try simp only [Bool.not_eq_true', Bool.not_eq_false'] at h); first | (cases h; done) | exact clash (by with_reducible_and_instances assumption) h | exact clash h (by with_reducible_and_instances assumption) | exact absurd h (by decide) | (refine absurd h ?_; simp; done)))
      | (refine AL.guardF (by rfl) (by rfl) (by rfl) (by rfl) ?_ (fun h => ?_); focus (intro h; (try simp only [Bool.not_eq_true', Bool.not_eq_false'] at h); first | (cases h; done) | exact clash (by with_reducible_and_instances assumption) h | exact clash h (by with_reducible_and_instances assumption) | exact absurd h (by decide) | (refine absurd h ?_; simp; done)))
      | (refine AL.guardF (by rfl) (by rfl) (by rfl) (by rfl) ?_ ?_ <;> (intro h; try simp only [Bool.not_eq_true', Bool.not_eq_false'] at h))
      | refine AL.nil ?_)
    | ((with_reducible show AW _ _ _ _ _ _); first
      | refine AW.seq ?_
      | refine AW.region ?_
      | refine AW.skip ?_
      | (refine AW.cond (by rfl) (fun h => ?_) ?_; rotate_left; focus (intro h; (try simp only [Bool.not_eq_true', Bool.not_eq_false'] at h); first | (cases h; done) | exact clash (by with_reducible_and_instances assumption) h | exact clash h (by with_reducible_and_instances assumption) | exact absurd h (by decide) | (refine absurd h ?_; simp; done)))
      | (refine AW.cond (by rfl) ?_ (fun h => ?_); focus (intro h; (try simp only [Bool.not_eq_true', Bool.not_eq_false'] at h); first | (cases h; done) | exact clash (by with_reducible_and_instances assumption) h | exact clash h (by with_reducible_and_instances assumption) | exact absurd h (by decide) | (refine absurd h ?_; simp; done)))
      | (refine AW.cond (by rfl) ?_ ?_ <;> (intro h; try simp only [Bool.not_eq_true', Bool.not_eq_false'] at h))
      | refine AW.block ?_
      | refine AW.ret ?_)
    | with_reducible refine (if_pos rfl).mpr ?_
    | with_reducible refine (if_neg (by decide)).mpr ?_) <;> (try dsimp only [dput, List.set, cond_true, cond_false, Nat.zero_add, Nat.add_zero, Nat.reduceAdd, splice, List.take, List.drop, List.length, List.nil_append, List.cons_append, List.append, TPoint.en, TSegment.en, TBox.en, TFeature.en, TMeet.en, TPlace.en, TCover.en, TLabel.en, TPiece.en, TLevel.en, TChart.en, TReason.en, TEdit.en, TEntry.en, TEdition.en, TListing.en, TAtlas.en, TEvent.en, TWindow.en]))
  all_goals exact Fin.one rfl (RV.tmp (by rfl)) (clo_c _) ⟨by first | rfl | (simp_all [sdW, sg, cmpI]; done) | (simp only [sdW, sg, cmpI]; (repeat' split) <;> simp_all <;> omega), rfl⟩

set_option maxRecDepth 100000 in
set_option maxHeartbeats 2000000 in
theorem isOn_s (s : TSegment) (p : TPoint) : VCalls Try.prog 129 [.agg s.en, .agg p.en] (fun r M => r = B (onW s p) ∧ M = []) := by
  refine VCalls.body Try.func129 rfl 56 rfl (fun E => ?_)
  simp only [List.reduceReplicate, List.cons_append, List.nil_append]
  dsimp only [TPoint.en, TSegment.en]
  repeat' ((first
    | ((with_reducible show OpA _ _ _ _ _ _); first
      | refine OpA.q TT_ok (by rfl) ?_
      | (refine OpA.quiet (QOp.pickT (by rfl) (by rfl) ?_ (by rfl)) ?_; focus (first | (with_reducible rfl) | (with_reducible_and_instances assumption) | (simp only [Bool.not_eq_true', Bool.not_eq_false']; with_reducible_and_instances assumption)))
      | (refine OpA.quiet (QOp.pickF (by rfl) (by rfl) ?_ (by rfl)) ?_; focus (first | (with_reducible rfl) | (with_reducible_and_instances assumption) | (simp only [Bool.not_eq_true', Bool.not_eq_false']; with_reducible_and_instances assumption)))
      | refine OpA.quiet (QOp.ld1_ro (by rfl) (by rfl) (by assumption) (TT_ok.ld _ _ (by rfl)) (by rfl)) ?_
      | refine OpA.quiet (QOp.ldr_ro (by rfl) (by rfl) (by assumption) (TT_ok.ld _ _ (by rfl)) (Nat.le_of_ble_eq_true (by rfl))) ?_
      | refine OpA.quiet (QOp.sEq (by rfl) (by rfl) (by rfl) (by first | exact flk26.1 | exact flk109.1 | exact flk111.1) (by rfl) (by rfl) (by rfl) (by rfl) (by rfl) (by rfl) (by rfl) (by rfl)) ?_
      | refine OpA.box (by rfl) (by rfl) (by rfl) ?_
      | refine OpA.pcall (by rfl) Try.func47 rfl rfl (by rfl) (by first | exact clo_all (by rfl) | repeat' (first | exact clo_nil | refine clo_cons ?_ ?_ | exact clo_of (by rfl) | exact clo_fn _ | assumption)) (max_s _ _) (by first | exact clo_of (by rfl) | assumption) ?_
      | refine OpA.pcall (by rfl) Try.func75 rfl rfl (by rfl) (by first | exact clo_all (by rfl) | repeat' (first | exact clo_nil | refine clo_cons ?_ ?_ | exact clo_of (by rfl) | exact clo_fn _ | assumption)) (inr_s _ _ _) (by first | exact clo_of (by rfl) | assumption) ?_
      | refine OpA.pcall (by rfl) Try.func107 rfl rfl (by rfl) (by first | exact clo_all (by rfl) | repeat' (first | exact clo_nil | refine clo_cons ?_ ?_ | exact clo_of (by rfl) | exact clo_fn _ | assumption)) (by first | exact isp_s_t _ _ (by assumption) | exact isp_s_f _ _ (by assumption) | exact isp_s _ _) (by first | exact clo_of (by rfl) | assumption) ?_
      | refine OpA.pcall (by rfl) Try.func112 rfl rfl (by rfl) (by first | exact clo_all (by rfl) | repeat' (first | exact clo_nil | refine clo_cons ?_ ?_ | exact clo_of (by rfl) | exact clo_fn _ | assumption)) (isSeg_s s) (by first | exact clo_of (by rfl) | assumption) ?_
      | refine OpA.pcall (by rfl) Try.func122 rfl rfl (by rfl) (by first | exact clo_all (by rfl) | repeat' (first | exact clo_nil | refine clo_cons ?_ ?_ | exact clo_of (by rfl) | exact clo_fn _ | assumption)) (min_s _ _) (by first | exact clo_of (by rfl) | assumption) ?_
      | refine OpA.pcall (by rfl) Try.func130 rfl rfl (by rfl) (by first | exact clo_all (by rfl) | repeat' (first | exact clo_nil | refine clo_cons ?_ ?_ | exact clo_of (by rfl) | exact clo_fn _ | assumption)) (by first | exact crs_s a b p | exact crs_s s.a s.b p) (by first | exact clo_of (by rfl) | assumption) ?_
      | refine OpA.quiet (QOp.pickAnd (by rfl) (by rfl) (by rfl) (by rfl) (by rfl)) ?_
      | refine OpA.quiet (QOp.pickOr (by rfl) (by rfl) (by rfl) (by rfl) (by rfl)) ?_)
    | ((with_reducible show AL _ _ _ _ _ _ _); first
      | refine AL.q TT_ok rfl (by rfl) ?_
      | refine AL.step rfl ?_
      | refine AL.guardU (by rfl) (by rfl) (by rfl) (by rfl) ?_
      | refine AL.gF (by rfl) (by rfl) (by rfl) (by rfl) (by first | rfl | assumption) ?_
      | refine AL.gT (by rfl) (by rfl) (by rfl) (by rfl) (by first | rfl | assumption) ?_
      | refine AL.guardW (by rfl) (by rfl) (by rfl) (by rfl) (fun h => by (try rw [h]); first | exact OpA.quietW (QOp.quietA TT_ok (by rfl)) | exact OpA.pcall (by rfl) Try.func47 rfl rfl (by rfl) (by first | exact clo_all (by rfl) | repeat' (first | exact clo_nil | refine clo_cons ?_ ?_ | exact clo_of (by rfl) | exact clo_fn _ | assumption)) (max_s _ _) (by first | exact clo_of (by rfl) | assumption) ⟨by rfl, rfl⟩ | exact OpA.pcall (by rfl) Try.func75 rfl rfl (by rfl) (by first | exact clo_all (by rfl) | repeat' (first | exact clo_nil | refine clo_cons ?_ ?_ | exact clo_of (by rfl) | exact clo_fn _ | assumption)) (inr_s _ _ _) (by first | exact clo_of (by rfl) | assumption) ⟨by rfl, rfl⟩ | exact OpA.pcall (by rfl) Try.func107 rfl rfl (by rfl) (by first | exact clo_all (by rfl) | repeat' (first | exact clo_nil | refine clo_cons ?_ ?_ | exact clo_of (by rfl) | exact clo_fn _ | assumption)) (by first | exact isp_s_t _ _ (by assumption) | exact isp_s_f _ _ (by assumption) | exact isp_s _ _) (by first | exact clo_of (by rfl) | assumption) ⟨by rfl, rfl⟩ | exact OpA.pcall (by rfl) Try.func112 rfl rfl (by rfl) (by first | exact clo_all (by rfl) | repeat' (first | exact clo_nil | refine clo_cons ?_ ?_ | exact clo_of (by rfl) | exact clo_fn _ | assumption)) (isSeg_s s) (by first | exact clo_of (by rfl) | assumption) ⟨by rfl, rfl⟩ | exact OpA.pcall (by rfl) Try.func122 rfl rfl (by rfl) (by first | exact clo_all (by rfl) | repeat' (first | exact clo_nil | refine clo_cons ?_ ?_ | exact clo_of (by rfl) | exact clo_fn _ | assumption)) (min_s _ _) (by first | exact clo_of (by rfl) | assumption) ⟨by rfl, rfl⟩ | exact OpA.pcall (by rfl) Try.func130 rfl rfl (by rfl) (by first | exact clo_all (by rfl) | repeat' (first | exact clo_nil | refine clo_cons ?_ ?_ | exact clo_of (by rfl) | exact clo_fn _ | assumption)) (by first | exact crs_s a b p | exact crs_s s.a s.b p) (by first | exact clo_of (by rfl) | assumption) ⟨by rfl, rfl⟩ | exact OpA.quietW (QOp.ld1_ro (by rfl) (by rfl) (by assumption) (TT_ok.ld _ _ (by rfl)) (by rfl)) | exact OpA.quietW (QOp.ldr_ro (by rfl) (by rfl) (by assumption) (TT_ok.ld _ _ (by rfl)) (Nat.le_of_ble_eq_true (by rfl))) | exact OpA.quietW (QOp.sEq (by rfl) (by rfl) (by rfl) (by first | exact flk26.1 | exact flk109.1 | exact flk111.1) (by rfl) (by rfl) (by rfl) (by rfl) (by rfl) (by rfl) (by rfl) (by rfl)) | exact OpA.quietW (QOp.pickAnd (by rfl) (by rfl) (by rfl) (by rfl) (by rfl)) | exact OpA.quietW (QOp.pickOr (by rfl) (by rfl) (by rfl) (by rfl) (by rfl))) ?_
      | (refine AL.guardT (by rfl) (by rfl) (by rfl) (by rfl) (fun h => ?_) ?_; rotate_left; focus (intro h; (try simp only [Bool.not_eq_true', Bool.not_eq_false'] at h); first | (cases h; done) | exact clash (by with_reducible_and_instances assumption) h | exact clash h (by with_reducible_and_instances assumption) | exact absurd h (by decide) | (refine absurd h ?_; simp; done)))
      | (refine AL.guardT (by rfl) (by rfl) (by rfl) (by rfl) ?_ (fun h => ?_); focus (intro h; (try simp only [Bool.not_eq_true', Bool.not_eq_false'] at h); first | (cases h; done) | exact clash (by with_reducible_and_instances assumption) h | exact clash h (by with_reducible_and_instances assumption) | exact absurd h (by decide) | (refine absurd h ?_; simp; done)))
      | (refine AL.guardT (by rfl) (by rfl) (by rfl) (by rfl) ?_ ?_ <;> (intro h; try simp only [Bool.not_eq_true', Bool.not_eq_false'] at h))
      | (refine AL.guardF (by rfl) (by rfl) (by rfl) (by rfl) (fun h => ?_) ?_; rotate_left; focus (intro h; (try simp only [Bool.not_eq_true', Bool.not_eq_false'] at h); first | (cases h; done) | exact clash (by with_reducible_and_instances assumption) h | exact clash h (by with_reducible_and_instances assumption) | exact absurd h (by decide) | (refine absurd h ?_; simp; done)))
      | (refine AL.guardF (by rfl) (by rfl) (by rfl) (by rfl) ?_ (fun h => ?_); focus (intro h; (try simp only [Bool.not_eq_true', Bool.not_eq_false'] at h); first | (cases h; done) | exact clash (by with_reducible_and_instances assumption) h | exact clash h (by with_reducible_and_instances assumption) | exact absurd h (by decide) | (refine absurd h ?_; simp; done)))
      | (refine AL.guardF (by rfl) (by rfl) (by rfl) (by rfl) ?_ ?_ <;> (intro h; try simp only [Bool.not_eq_true', Bool.not_eq_false'] at h))
      | refine AL.nil ?_)
    | ((with_reducible show DL _ _ _ _ _ _ _); first
      | refine DL.q TT_ok rfl (by rfl) ?_
      | refine DL.p rfl (POp.quiet (QOp.ld1_ro (by rfl) (by rfl) (by assumption) (TT_ok.ld _ _ (by rfl)) (by rfl))) ?_
      | refine DL.p rfl (POp.quiet (QOp.ldr_ro (by rfl) (by rfl) (by assumption) (TT_ok.ld _ _ (by rfl)) (Nat.le_of_ble_eq_true (by rfl)))) ?_
      | refine DL.p rfl (POp.quiet (QOp.sEq (by rfl) (by rfl) (by rfl) (by first | exact flk26.1 | exact flk109.1 | exact flk111.1) (by rfl) (by rfl) (by rfl) (by rfl) (by rfl) (by rfl) (by rfl) (by rfl))) ?_
      | refine DL.p rfl (POp.quiet (QOp.pickAnd (by rfl) (by rfl) (by rfl) (by rfl) (by rfl))) ?_
      | refine DL.p rfl (POp.quiet (QOp.pickOr (by rfl) (by rfl) (by rfl) (by rfl) (by rfl))) ?_
      | refine DL.p rfl (POp.quiet (QOp.pickT (by rfl) (by rfl) (by with_reducible_and_instances assumption) (by rfl))) ?_
      | refine DL.p rfl (POp.quiet (QOp.pickF (by rfl) (by rfl) (by with_reducible_and_instances assumption) (by rfl))) ?_
      | refine DL.p rfl (POp.pcall (by rfl) Try.func47 rfl rfl (by rfl) (by first | exact clo_all (by rfl) | repeat' (first | exact clo_nil | refine clo_cons ?_ ?_ | exact clo_of (by rfl) | exact clo_fn _ | assumption)) (max_s _ _) (by first | exact clo_of (by rfl) | assumption)) ?_
      | refine DL.p rfl (POp.pcall (by rfl) Try.func75 rfl rfl (by rfl) (by first | exact clo_all (by rfl) | repeat' (first | exact clo_nil | refine clo_cons ?_ ?_ | exact clo_of (by rfl) | exact clo_fn _ | assumption)) (inr_s _ _ _) (by first | exact clo_of (by rfl) | assumption)) ?_
      | refine DL.p rfl (POp.pcall (by rfl) Try.func107 rfl rfl (by rfl) (by first | exact clo_all (by rfl) | repeat' (first | exact clo_nil | refine clo_cons ?_ ?_ | exact clo_of (by rfl) | exact clo_fn _ | assumption)) (by first | exact isp_s_t _ _ (by assumption) | exact isp_s_f _ _ (by assumption) | exact isp_s _ _) (by first | exact clo_of (by rfl) | assumption)) ?_
      | refine DL.p rfl (POp.pcall (by rfl) Try.func112 rfl rfl (by rfl) (by first | exact clo_all (by rfl) | repeat' (first | exact clo_nil | refine clo_cons ?_ ?_ | exact clo_of (by rfl) | exact clo_fn _ | assumption)) (isSeg_s s) (by first | exact clo_of (by rfl) | assumption)) ?_
      | refine DL.p rfl (POp.pcall (by rfl) Try.func122 rfl rfl (by rfl) (by first | exact clo_all (by rfl) | repeat' (first | exact clo_nil | refine clo_cons ?_ ?_ | exact clo_of (by rfl) | exact clo_fn _ | assumption)) (min_s _ _) (by first | exact clo_of (by rfl) | assumption)) ?_
      | refine DL.p rfl (POp.pcall (by rfl) Try.func130 rfl rfl (by rfl) (by first | exact clo_all (by rfl) | repeat' (first | exact clo_nil | refine clo_cons ?_ ?_ | exact clo_of (by rfl) | exact clo_fn _ | assumption)) (by first | exact crs_s a b p | exact crs_s s.a s.b p) (by first | exact clo_of (by rfl) | assumption)) ?_
      | refine DL.gU (by rfl) (by rfl) (by rfl) (by rfl) ?_
      | refine DL.gF (by rfl) (by rfl) (by rfl) (by rfl) (by first | rfl | assumption) ?_
      | refine DL.gT (by rfl) (by rfl) (by rfl) (by rfl) (by first | rfl | assumption) (POp.q TT_ok (by rfl)) ?_
      | refine DL.gT (by rfl) (by rfl) (by rfl) (by rfl) (by first | rfl | assumption) (POp.quiet (QOp.ld1_ro (by rfl) (by rfl) (by assumption) (TT_ok.ld _ _ (by rfl)) (by rfl))) ?_
      | refine DL.gT (by rfl) (by rfl) (by rfl) (by rfl) (by first | rfl | assumption) (POp.quiet (QOp.ldr_ro (by rfl) (by rfl) (by assumption) (TT_ok.ld _ _ (by rfl)) (Nat.le_of_ble_eq_true (by rfl)))) ?_
      | refine DL.gT (by rfl) (by rfl) (by rfl) (by rfl) (by first | rfl | assumption) (POp.quiet (QOp.sEq (by rfl) (by rfl) (by rfl) (by first | exact flk26.1 | exact flk109.1 | exact flk111.1) (by rfl) (by rfl) (by rfl) (by rfl) (by rfl) (by rfl) (by rfl) (by rfl))) ?_
      | refine DL.gT (by rfl) (by rfl) (by rfl) (by rfl) (by first | rfl | assumption) (POp.quiet (QOp.pickAnd (by rfl) (by rfl) (by rfl) (by rfl) (by rfl))) ?_
      | refine DL.gT (by rfl) (by rfl) (by rfl) (by rfl) (by first | rfl | assumption) (POp.quiet (QOp.pickOr (by rfl) (by rfl) (by rfl) (by rfl) (by rfl))) ?_
      | refine DL.gT (by rfl) (by rfl) (by rfl) (by rfl) (by first | rfl | assumption) (POp.quiet (QOp.pickT (by rfl) (by rfl) (by with_reducible_and_instances assumption) (by rfl))) ?_
      | refine DL.gT (by rfl) (by rfl) (by rfl) (by rfl) (by first | rfl | assumption) (POp.quiet (QOp.pickF (by rfl) (by rfl) (by with_reducible_and_instances assumption) (by rfl))) ?_
      | refine DL.gT (by rfl) (by rfl) (by rfl) (by rfl) (by first | rfl | assumption) (POp.pcall (by rfl) Try.func47 rfl rfl (by rfl) (by first | exact clo_all (by rfl) | repeat' (first | exact clo_nil | refine clo_cons ?_ ?_ | exact clo_of (by rfl) | exact clo_fn _ | assumption)) (max_s _ _) (by first | exact clo_of (by rfl) | assumption)) ?_
      | refine DL.gT (by rfl) (by rfl) (by rfl) (by rfl) (by first | rfl | assumption) (POp.pcall (by rfl) Try.func75 rfl rfl (by rfl) (by first | exact clo_all (by rfl) | repeat' (first | exact clo_nil | refine clo_cons ?_ ?_ | exact clo_of (by rfl) | exact clo_fn _ | assumption)) (inr_s _ _ _) (by first | exact clo_of (by rfl) | assumption)) ?_
      | refine DL.gT (by rfl) (by rfl) (by rfl) (by rfl) (by first | rfl | assumption) (POp.pcall (by rfl) Try.func107 rfl rfl (by rfl) (by first | exact clo_all (by rfl) | repeat' (first | exact clo_nil | refine clo_cons ?_ ?_ | exact clo_of (by rfl) | exact clo_fn _ | assumption)) (by first | exact isp_s_t _ _ (by assumption) | exact isp_s_f _ _ (by assumption) | exact isp_s _ _) (by first | exact clo_of (by rfl) | assumption)) ?_
      | refine DL.gT (by rfl) (by rfl) (by rfl) (by rfl) (by first | rfl | assumption) (POp.pcall (by rfl) Try.func112 rfl rfl (by rfl) (by first | exact clo_all (by rfl) | repeat' (first | exact clo_nil | refine clo_cons ?_ ?_ | exact clo_of (by rfl) | exact clo_fn _ | assumption)) (isSeg_s s) (by first | exact clo_of (by rfl) | assumption)) ?_
      | refine DL.gT (by rfl) (by rfl) (by rfl) (by rfl) (by first | rfl | assumption) (POp.pcall (by rfl) Try.func122 rfl rfl (by rfl) (by first | exact clo_all (by rfl) | repeat' (first | exact clo_nil | refine clo_cons ?_ ?_ | exact clo_of (by rfl) | exact clo_fn _ | assumption)) (min_s _ _) (by first | exact clo_of (by rfl) | assumption)) ?_
      | refine DL.gT (by rfl) (by rfl) (by rfl) (by rfl) (by first | rfl | assumption) (POp.pcall (by rfl) Try.func130 rfl rfl (by rfl) (by first | exact clo_all (by rfl) | repeat' (first | exact clo_nil | refine clo_cons ?_ ?_ | exact clo_of (by rfl) | exact clo_fn _ | assumption)) (by first | exact crs_s a b p | exact crs_s s.a s.b p) (by first | exact clo_of (by rfl) | assumption)) ?_
      | refine DL.g (by rfl) (by rfl) (by rfl) (by rfl) (fun h => by (try rw [h]); first | exact POp.q TT_ok (by rfl) | exact POp.quiet (QOp.ld1_ro (by rfl) (by rfl) (by assumption) (TT_ok.ld _ _ (by rfl)) (by rfl)) | exact POp.quiet (QOp.ldr_ro (by rfl) (by rfl) (by assumption) (TT_ok.ld _ _ (by rfl)) (Nat.le_of_ble_eq_true (by rfl))) | exact POp.quiet (QOp.sEq (by rfl) (by rfl) (by rfl) (by first | exact flk26.1 | exact flk109.1 | exact flk111.1) (by rfl) (by rfl) (by rfl) (by rfl) (by rfl) (by rfl) (by rfl) (by rfl)) | exact POp.quiet (QOp.pickAnd (by rfl) (by rfl) (by rfl) (by rfl) (by rfl)) | exact POp.quiet (QOp.pickOr (by rfl) (by rfl) (by rfl) (by rfl) (by rfl)) | exact POp.quiet (QOp.pickT (by rfl) (by rfl) (by with_reducible_and_instances assumption) (by rfl)) | exact POp.quiet (QOp.pickF (by rfl) (by rfl) (by with_reducible_and_instances assumption) (by rfl)) | exact POp.pcall (by rfl) Try.func47 rfl rfl (by rfl) (by first | exact clo_all (by rfl) | repeat' (first | exact clo_nil | refine clo_cons ?_ ?_ | exact clo_of (by rfl) | exact clo_fn _ | assumption)) (max_s _ _) (by first | exact clo_of (by rfl) | assumption) | exact POp.pcall (by rfl) Try.func75 rfl rfl (by rfl) (by first | exact clo_all (by rfl) | repeat' (first | exact clo_nil | refine clo_cons ?_ ?_ | exact clo_of (by rfl) | exact clo_fn _ | assumption)) (inr_s _ _ _) (by first | exact clo_of (by rfl) | assumption) | exact POp.pcall (by rfl) Try.func107 rfl rfl (by rfl) (by first | exact clo_all (by rfl) | repeat' (first | exact clo_nil | refine clo_cons ?_ ?_ | exact clo_of (by rfl) | exact clo_fn _ | assumption)) (by first | exact isp_s_t _ _ (by assumption) | exact isp_s_f _ _ (by assumption) | exact isp_s _ _) (by first | exact clo_of (by rfl) | assumption) | exact POp.pcall (by rfl) Try.func112 rfl rfl (by rfl) (by first | exact clo_all (by rfl) | repeat' (first | exact clo_nil | refine clo_cons ?_ ?_ | exact clo_of (by rfl) | exact clo_fn _ | assumption)) (isSeg_s s) (by first | exact clo_of (by rfl) | assumption) | exact POp.pcall (by rfl) Try.func122 rfl rfl (by rfl) (by first | exact clo_all (by rfl) | repeat' (first | exact clo_nil | refine clo_cons ?_ ?_ | exact clo_of (by rfl) | exact clo_fn _ | assumption)) (min_s _ _) (by first | exact clo_of (by rfl) | assumption) | exact POp.pcall (by rfl) Try.func130 rfl rfl (by rfl) (by first | exact clo_all (by rfl) | repeat' (first | exact clo_nil | refine clo_cons ?_ ?_ | exact clo_of (by rfl) | exact clo_fn _ | assumption)) (by first | exact crs_s a b p | exact crs_s s.a s.b p) (by first | exact clo_of (by rfl) | assumption)) ?_
      | refine DL.nil ?_)
    | ((with_reducible show AW _ _ _ _ _ _); first
      | refine AW.seq ?_
      | refine AW.region ?_
      | refine AW.skip ?_
      | refine AW.drawn (id := 1) 51 (by kernel_rfl) (by kernel_rfl) (by rfl) ?_
      | refine AW.ret ?_)
    | with_reducible refine (if_pos rfl).mpr ?_
    | with_reducible refine (if_neg (by decide)).mpr ?_) <;> (try dsimp only [dput, List.set, cond_true, cond_false, Nat.zero_add, Nat.add_zero, Nat.reduceAdd, splice, List.take, List.drop, List.length, List.nil_append, List.cons_append, List.append, TPoint.en, TSegment.en, TBox.en, TFeature.en, TMeet.en, TPlace.en, TCover.en, TLabel.en, TPiece.en, TLevel.en, TChart.en, TReason.en, TEdit.en, TEntry.en, TEdition.en, TListing.en, TAtlas.en, TEvent.en, TWindow.en]))
  all_goals exact Fin.one rfl (RV.tmp (by rfl)) (clo_c _) ⟨by first | rfl | (simp_all [onW, wmin, wmax]; done) | (simp only [onW, wmin, wmax]; (repeat' split) <;> simp_all <;> omega), rfl⟩

set_option maxRecDepth 100000 in
set_option maxHeartbeats 2000000 in
theorem crs_i (a b p : TPoint) : VCalls Try.prog 136 [.agg a.en, .agg b.en, .agg p.en] (fun r M => r = I (crW a b p) ∧ M = []) := by
  refine VCalls.body Try.func136 rfl 27 rfl (fun E => ?_)
  simp only [List.reduceReplicate, List.cons_append, List.nil_append]
  dsimp only [TPoint.en, TSegment.en]
  repeat' ((first
    | ((with_reducible show OpA _ _ _ _ _ _); first
      | refine OpA.quiet (QOp.ld1_ro (by rfl) (by rfl) (by assumption) (TT_ok.ld _ _ (by rfl)) (by rfl)) ?_
      | refine OpA.quiet (QOp.ldr_ro (by rfl) (by rfl) (by assumption) (TT_ok.ld _ _ (by rfl)) (Nat.le_of_ble_eq_true (by rfl))) ?_
      | refine OpA.box (by rfl) (by rfl) (by rfl) ?_)
    | ((with_reducible show AL _ _ _ _ _ _ _); first
      | refine AL.q TT_ok rfl (by rfl) ?_
      | refine AL.step rfl ?_
      | refine AL.nil ?_)
    | ((with_reducible show AW _ _ _ _ _ _); first
      | refine AW.seq ?_
      | refine AW.region ?_
      | refine AW.skip ?_
      | refine AW.ret ?_)
    | with_reducible refine (if_pos rfl).mpr ?_
    | with_reducible refine (if_neg (by decide)).mpr ?_) <;> (try dsimp only [dput, List.set, cond_true, cond_false, Nat.zero_add, Nat.add_zero, Nat.reduceAdd, splice, List.take, List.drop, List.length, List.nil_append, List.cons_append, List.append, TPoint.en, TSegment.en, TBox.en, TFeature.en, TMeet.en, TPlace.en, TCover.en, TLabel.en, TPiece.en, TLevel.en, TChart.en, TReason.en, TEdit.en, TEntry.en, TEdition.en, TListing.en, TAtlas.en, TEvent.en, TWindow.en]))
  all_goals exact Fin.one rfl (RV.tmp (by rfl)) (clo_c _) ⟨by first | rfl | (simp_all [crW]; done) | (simp only [crW]; (repeat' split) <;> simp_all <;> omega), rfl⟩

set_option maxRecDepth 100000 in
set_option maxHeartbeats 2000000 in
theorem isSeg_i (s : TSegment) : VCalls Try.prog 125 [.agg s.en] (fun r M => r = B (isSeg s) ∧ M = []) := by
  refine VCalls.body Try.func125 rfl 17 rfl (fun E => ?_)
  simp only [List.reduceReplicate, List.cons_append, List.nil_append]
  dsimp only [TPoint.en, TSegment.en]
  repeat' ((first
    | ((with_reducible show OpA _ _ _ _ _ _); first
      | refine OpA.q TT_ok (by rfl) ?_
      | (refine OpA.quiet (QOp.pickT (by rfl) (by rfl) ?_ (by rfl)) ?_; focus (first | (with_reducible rfl) | (with_reducible_and_instances assumption) | (simp only [Bool.not_eq_true', Bool.not_eq_false']; with_reducible_and_instances assumption)))
      | (refine OpA.quiet (QOp.pickF (by rfl) (by rfl) ?_ (by rfl)) ?_; focus (first | (with_reducible rfl) | (with_reducible_and_instances assumption) | (simp only [Bool.not_eq_true', Bool.not_eq_false']; with_reducible_and_instances assumption)))
      | refine OpA.quiet (QOp.sEq (by rfl) (by rfl) (by rfl) (by first | exact flk109.1 | exact flk111.1) (by rfl) (by rfl) (by rfl) (by rfl) (by rfl) (by rfl) (by rfl) (by rfl)) ?_
      | refine OpA.box (by rfl) (by rfl) (by rfl) ?_
      | refine OpA.pcall (by rfl) Try.func110 rfl rfl (by rfl) (by first | exact clo_all (by rfl) | repeat' (first | exact clo_nil | refine clo_cons ?_ ?_ | exact clo_of (by rfl) | exact clo_fn _ | assumption)) (by first | exact isp_v_t _ _ (by assumption) | exact isp_v_f _ _ (by assumption) | exact isp_v _ _) (by first | exact clo_of (by rfl) | assumption) ?_
      | refine OpA.quiet (QOp.pickAnd (by rfl) (by rfl) (by rfl) (by rfl) (by rfl)) ?_
      | refine OpA.quiet (QOp.pickOr (by rfl) (by rfl) (by rfl) (by rfl) (by rfl)) ?_)
    | ((with_reducible show AL _ _ _ _ _ _ _); first
      | refine AL.q TT_ok rfl (by rfl) ?_
      | refine AL.step rfl ?_
      | refine AL.guardU (by rfl) (by rfl) (by rfl) (by rfl) ?_
      | refine AL.gF (by rfl) (by rfl) (by rfl) (by rfl) (by first | rfl | assumption) ?_
      | refine AL.gT (by rfl) (by rfl) (by rfl) (by rfl) (by first | rfl | assumption) ?_
      | refine AL.guardW (by rfl) (by rfl) (by rfl) (by rfl) (fun h => by (try rw [h]); first | exact OpA.quietW (QOp.quietA TT_ok (by rfl)) | exact OpA.pcall (by rfl) Try.func110 rfl rfl (by rfl) (by first | exact clo_all (by rfl) | repeat' (first | exact clo_nil | refine clo_cons ?_ ?_ | exact clo_of (by rfl) | exact clo_fn _ | assumption)) (by first | exact isp_v_t _ _ (by assumption) | exact isp_v_f _ _ (by assumption) | exact isp_v _ _) (by first | exact clo_of (by rfl) | assumption) ⟨by rfl, rfl⟩ | exact OpA.quietW (QOp.sEq (by rfl) (by rfl) (by rfl) (by first | exact flk109.1 | exact flk111.1) (by rfl) (by rfl) (by rfl) (by rfl) (by rfl) (by rfl) (by rfl) (by rfl)) | exact OpA.quietW (QOp.pickAnd (by rfl) (by rfl) (by rfl) (by rfl) (by rfl)) | exact OpA.quietW (QOp.pickOr (by rfl) (by rfl) (by rfl) (by rfl) (by rfl))) ?_
      | (refine AL.guardT (by rfl) (by rfl) (by rfl) (by rfl) (fun h => ?_) ?_; rotate_left; focus (intro h; (try simp only [Bool.not_eq_true', Bool.not_eq_false'] at h); first | (cases h; done) | exact clash (by with_reducible_and_instances assumption) h | exact clash h (by with_reducible_and_instances assumption) | exact absurd h (by decide) | (refine absurd h ?_; simp; done)))
      | (refine AL.guardT (by rfl) (by rfl) (by rfl) (by rfl) ?_ (fun h => ?_); focus (intro h; (try simp only [Bool.not_eq_true', Bool.not_eq_false'] at h); first | (cases h; done) | exact clash (by with_reducible_and_instances assumption) h | exact clash h (by with_reducible_and_instances assumption) | exact absurd h (by decide) | (refine absurd h ?_; simp; done)))
      | (refine AL.guardT (by rfl) (by rfl) (by rfl) (by rfl) ?_ ?_ <;> (intro h; try simp only [Bool.not_eq_true', Bool.not_eq_false'] at h))
      | (refine AL.guardF (by rfl) (by rfl) (by rfl) (by rfl) (fun h => ?_) ?_; rotate_left; focus (intro h; (try simp only [Bool.not_eq_true', Bool.not_eq_false'] at h); first | (cases h; done) | exact clash (by with_reducible_and_instances assumption) h | exact clash h (by with_reducible_and_instances assumption) | exact absurd h (by decide) | (refine absurd h ?_; simp; done)))
      | (refine AL.guardF (by rfl) (by rfl) (by rfl) (by rfl) ?_ (fun h => ?_); focus (intro h; (try simp only [Bool.not_eq_true', Bool.not_eq_false'] at h); first | (cases h; done) | exact clash (by with_reducible_and_instances assumption) h | exact clash h (by with_reducible_and_instances assumption) | exact absurd h (by decide) | (refine absurd h ?_; simp; done)))
      | (refine AL.guardF (by rfl) (by rfl) (by rfl) (by rfl) ?_ ?_ <;> (intro h; try simp only [Bool.not_eq_true', Bool.not_eq_false'] at h))
      | refine AL.nil ?_)
    | ((with_reducible show AW _ _ _ _ _ _); first
      | refine AW.seq ?_
      | refine AW.region ?_
      | refine AW.skip ?_
      | refine AW.ret ?_)
    | with_reducible refine (if_pos rfl).mpr ?_
    | with_reducible refine (if_neg (by decide)).mpr ?_) <;> (try dsimp only [dput, List.set, cond_true, cond_false, Nat.zero_add, Nat.add_zero, Nat.reduceAdd, splice, List.take, List.drop, List.length, List.nil_append, List.cons_append, List.append, TPoint.en, TSegment.en, TBox.en, TFeature.en, TMeet.en, TPlace.en, TCover.en, TLabel.en, TPiece.en, TLevel.en, TChart.en, TReason.en, TEdit.en, TEntry.en, TEdition.en, TListing.en, TAtlas.en, TEvent.en, TWindow.en]))
  all_goals exact Fin.one rfl (RV.tmp (by rfl)) (clo_c _) ⟨by first | rfl | (simp_all [isSeg]; done) | (simp only [isSeg]; (repeat' split) <;> simp_all <;> omega), rfl⟩

set_option maxRecDepth 100000 in
set_option maxHeartbeats 2000000 in
theorem side_i (a b p : TPoint) : VCalls Try.prog 131 [.agg a.en, .agg b.en, .agg p.en] (fun r M => r = I (sdW a b p) ∧ M = []) := by
  refine VCalls.body Try.func131 rfl 22 rfl (fun E => ?_)
  simp only [List.reduceReplicate, List.cons_append, List.nil_append]
  dsimp only [TPoint.en, TSegment.en]
  repeat' ((first
    | ((with_reducible show OpA _ _ _ _ _ _); first
      | refine OpA.q TT_ok (by rfl) ?_
      | (refine OpA.quiet (QOp.pickT (by rfl) (by rfl) ?_ (by rfl)) ?_; focus (first | (with_reducible rfl) | (with_reducible_and_instances assumption) | (simp only [Bool.not_eq_true', Bool.not_eq_false']; with_reducible_and_instances assumption)))
      | (refine OpA.quiet (QOp.pickF (by rfl) (by rfl) ?_ (by rfl)) ?_; focus (first | (with_reducible rfl) | (with_reducible_and_instances assumption) | (simp only [Bool.not_eq_true', Bool.not_eq_false']; with_reducible_and_instances assumption)))
      | refine OpA.box (by rfl) (by rfl) (by rfl) ?_
      | refine OpA.pcall (by rfl) Try.func110 rfl rfl (by rfl) (by first | exact clo_all (by rfl) | repeat' (first | exact clo_nil | refine clo_cons ?_ ?_ | exact clo_of (by rfl) | exact clo_fn _ | assumption)) (by first | exact isp_v_t _ _ (by assumption) | exact isp_v_f _ _ (by assumption) | exact isp_v _ _) (by first | exact clo_of (by rfl) | assumption) ?_
      | refine OpA.pcall (by rfl) Try.func135 rfl rfl (by rfl) (by first | exact clo_all (by rfl) | repeat' (first | exact clo_nil | refine clo_cons ?_ ?_ | exact clo_of (by rfl) | exact clo_fn _ | assumption)) (cmp_v _ _) (by first | exact clo_of (by rfl) | assumption) ?_
      | refine OpA.pcall (by rfl) Try.func136 rfl rfl (by rfl) (by first | exact clo_all (by rfl) | repeat' (first | exact clo_nil | refine clo_cons ?_ ?_ | exact clo_of (by rfl) | exact clo_fn _ | assumption)) (by first | exact crs_i a b p | exact crs_i s.a s.b p) (by first | exact clo_of (by rfl) | assumption) ?_
      | refine OpA.quiet (QOp.pickAnd (by rfl) (by rfl) (by rfl) (by rfl) (by rfl)) ?_
      | refine OpA.quiet (QOp.pickOr (by rfl) (by rfl) (by rfl) (by rfl) (by rfl)) ?_)
    | ((with_reducible show AL _ _ _ _ _ _ _); first
      | refine AL.q TT_ok rfl (by rfl) ?_
      | refine AL.step rfl ?_
      | refine AL.guardU (by rfl) (by rfl) (by rfl) (by rfl) ?_
      | refine AL.gF (by rfl) (by rfl) (by rfl) (by rfl) (by first | rfl | assumption) ?_
      | refine AL.gT (by rfl) (by rfl) (by rfl) (by rfl) (by first | rfl | assumption) ?_
      | refine AL.guardW (by rfl) (by rfl) (by rfl) (by rfl) (fun h => by (try rw [h]); first | exact OpA.quietW (QOp.quietA TT_ok (by rfl)) | exact OpA.pcall (by rfl) Try.func110 rfl rfl (by rfl) (by first | exact clo_all (by rfl) | repeat' (first | exact clo_nil | refine clo_cons ?_ ?_ | exact clo_of (by rfl) | exact clo_fn _ | assumption)) (by first | exact isp_v_t _ _ (by assumption) | exact isp_v_f _ _ (by assumption) | exact isp_v _ _) (by first | exact clo_of (by rfl) | assumption) ⟨by rfl, rfl⟩ | exact OpA.pcall (by rfl) Try.func135 rfl rfl (by rfl) (by first | exact clo_all (by rfl) | repeat' (first | exact clo_nil | refine clo_cons ?_ ?_ | exact clo_of (by rfl) | exact clo_fn _ | assumption)) (cmp_v _ _) (by first | exact clo_of (by rfl) | assumption) ⟨by rfl, rfl⟩ | exact OpA.pcall (by rfl) Try.func136 rfl rfl (by rfl) (by first | exact clo_all (by rfl) | repeat' (first | exact clo_nil | refine clo_cons ?_ ?_ | exact clo_of (by rfl) | exact clo_fn _ | assumption)) (by first | exact crs_i a b p | exact crs_i s.a s.b p) (by first | exact clo_of (by rfl) | assumption) ⟨by rfl, rfl⟩ | exact OpA.quietW (QOp.pickAnd (by rfl) (by rfl) (by rfl) (by rfl) (by rfl)) | exact OpA.quietW (QOp.pickOr (by rfl) (by rfl) (by rfl) (by rfl) (by rfl))) ?_
      | (refine AL.guardT (by rfl) (by rfl) (by rfl) (by rfl) (fun h => ?_) ?_; rotate_left; focus (intro h; (try simp only [Bool.not_eq_true', Bool.not_eq_false'] at h); first | (cases h; done) | exact clash (by with_reducible_and_instances assumption) h | exact clash h (by with_reducible_and_instances assumption) | exact absurd h (by decide) | (refine absurd h ?_; simp; done)))
      | (refine AL.guardT (by rfl) (by rfl) (by rfl) (by rfl) ?_ (fun h => ?_); focus (intro h; (try simp only [Bool.not_eq_true', Bool.not_eq_false'] at h); first | (cases h; done) | exact clash (by with_reducible_and_instances assumption) h | exact clash h (by with_reducible_and_instances assumption) | exact absurd h (by decide) | (refine absurd h ?_; simp; done)))
      | (refine AL.guardT (by rfl) (by rfl) (by rfl) (by rfl) ?_ ?_ <;> (intro h; try simp only [Bool.not_eq_true', Bool.not_eq_false'] at h))
      | (refine AL.guardF (by rfl) (by rfl) (by rfl) (by rfl) (fun h => ?_) ?_; rotate_left; focus (intro h; (try simp only [Bool.not_eq_true', Bool.not_eq_false'] at h); first | (cases h; done) | exact clash (by with_reducible_and_instances assumption) h | exact clash h (by with_reducible_and_instances assumption) | exact absurd h (by decide) | (refine absurd h ?_; simp; done)))
      | (refine AL.guardF (by rfl) (by rfl) (by rfl) (by rfl) ?_ (fun h => ?_); focus (intro h; (try simp only [Bool.not_eq_true', Bool.not_eq_false'] at h); first | (cases h; done) | exact clash (by with_reducible_and_instances assumption) h | exact clash h (by with_reducible_and_instances assumption) | exact absurd h (by decide) | (refine absurd h ?_; simp; done)))
      | (refine AL.guardF (by rfl) (by rfl) (by rfl) (by rfl) ?_ ?_ <;> (intro h; try simp only [Bool.not_eq_true', Bool.not_eq_false'] at h))
      | refine AL.nil ?_)
    | ((with_reducible show AW _ _ _ _ _ _); first
      | refine AW.seq ?_
      | refine AW.region ?_
      | refine AW.skip ?_
      | (refine AW.cond (by rfl) (fun h => ?_) ?_; rotate_left; focus (intro h; (try simp only [Bool.not_eq_true', Bool.not_eq_false'] at h); first | (cases h; done) | exact clash (by with_reducible_and_instances assumption) h | exact clash h (by with_reducible_and_instances assumption) | exact absurd h (by decide) | (refine absurd h ?_; simp; done)))
      | (refine AW.cond (by rfl) ?_ (fun h => ?_); focus (intro h; (try simp only [Bool.not_eq_true', Bool.not_eq_false'] at h); first | (cases h; done) | exact clash (by with_reducible_and_instances assumption) h | exact clash h (by with_reducible_and_instances assumption) | exact absurd h (by decide) | (refine absurd h ?_; simp; done)))
      | (refine AW.cond (by rfl) ?_ ?_ <;> (intro h; try simp only [Bool.not_eq_true', Bool.not_eq_false'] at h))
      | refine AW.ret ?_)
    | with_reducible refine (if_pos rfl).mpr ?_
    | with_reducible refine (if_neg (by decide)).mpr ?_) <;> (try dsimp only [dput, List.set, cond_true, cond_false, Nat.zero_add, Nat.add_zero, Nat.reduceAdd, splice, List.take, List.drop, List.length, List.nil_append, List.cons_append, List.append, TPoint.en, TSegment.en, TBox.en, TFeature.en, TMeet.en, TPlace.en, TCover.en, TLabel.en, TPiece.en, TLevel.en, TChart.en, TReason.en, TEdit.en, TEntry.en, TEdition.en, TListing.en, TAtlas.en, TEvent.en, TWindow.en]))
  all_goals exact Fin.one rfl (RV.tmp (by rfl)) (clo_c _) ⟨by first | rfl | (simp_all [sdW, sg, cmpI]; done) | (simp only [sdW, sg, cmpI]; (repeat' split) <;> simp_all <;> omega), rfl⟩

set_option maxRecDepth 100000 in
set_option maxHeartbeats 2000000 in
theorem isOn_i0 (s : TSegment) (p : TPoint) : VCalls Try.prog 134 [.agg s.en, .agg p.en] (fun r M => r = B (onWI s p) ∧ M = []) := by
  refine VCalls.body Try.func134 rfl 56 rfl (fun E => ?_)
  simp only [List.reduceReplicate, List.cons_append, List.nil_append]
  dsimp only [TPoint.en, TSegment.en]
  repeat' ((first
    | ((with_reducible show OpA _ _ _ _ _ _); first
      | refine OpA.q TT_ok (by rfl) ?_
      | (refine OpA.quiet (QOp.pickT (by rfl) (by rfl) ?_ (by rfl)) ?_; focus (first | (with_reducible rfl) | (with_reducible_and_instances assumption) | (simp only [Bool.not_eq_true', Bool.not_eq_false']; with_reducible_and_instances assumption)))
      | (refine OpA.quiet (QOp.pickF (by rfl) (by rfl) ?_ (by rfl)) ?_; focus (first | (with_reducible rfl) | (with_reducible_and_instances assumption) | (simp only [Bool.not_eq_true', Bool.not_eq_false']; with_reducible_and_instances assumption)))
      | refine OpA.quiet (QOp.ld1_ro (by rfl) (by rfl) (by assumption) (TT_ok.ld _ _ (by rfl)) (by rfl)) ?_
      | refine OpA.quiet (QOp.ldr_ro (by rfl) (by rfl) (by assumption) (TT_ok.ld _ _ (by rfl)) (Nat.le_of_ble_eq_true (by rfl))) ?_
      | refine OpA.quiet (QOp.sEq (by rfl) (by rfl) (by rfl) (by first | exact flk26.1 | exact flk109.1 | exact flk111.1) (by rfl) (by rfl) (by rfl) (by rfl) (by rfl) (by rfl) (by rfl) (by rfl)) ?_
      | refine OpA.box (by rfl) (by rfl) (by rfl) ?_
      | refine OpA.pcall (by rfl) Try.func76 rfl rfl (by rfl) (by first | exact clo_all (by rfl) | repeat' (first | exact clo_nil | refine clo_cons ?_ ?_ | exact clo_of (by rfl) | exact clo_fn _ | assumption)) (inr_v _ _ _) (by first | exact clo_of (by rfl) | assumption) ?_
      | refine OpA.pcall (by rfl) Try.func110 rfl rfl (by rfl) (by first | exact clo_all (by rfl) | repeat' (first | exact clo_nil | refine clo_cons ?_ ?_ | exact clo_of (by rfl) | exact clo_fn _ | assumption)) (by first | exact isp_v_t _ _ (by assumption) | exact isp_v_f _ _ (by assumption) | exact isp_v _ _) (by first | exact clo_of (by rfl) | assumption) ?_
      | refine OpA.pcall (by rfl) Try.func125 rfl rfl (by rfl) (by first | exact clo_all (by rfl) | repeat' (first | exact clo_nil | refine clo_cons ?_ ?_ | exact clo_of (by rfl) | exact clo_fn _ | assumption)) (isSeg_i s) (by first | exact clo_of (by rfl) | assumption) ?_
      | refine OpA.pcall (by rfl) Try.func131 rfl rfl (by rfl) (by first | exact clo_all (by rfl) | repeat' (first | exact clo_nil | refine clo_cons ?_ ?_ | exact clo_of (by rfl) | exact clo_fn _ | assumption)) (by first | exact side_i a b p | exact side_i s.a s.b p) (by first | exact clo_of (by rfl) | assumption) ?_
      | refine OpA.quiet (QOp.pickAnd (by rfl) (by rfl) (by rfl) (by rfl) (by rfl)) ?_
      | refine OpA.quiet (QOp.pickOr (by rfl) (by rfl) (by rfl) (by rfl) (by rfl)) ?_)
    | ((with_reducible show AL _ _ _ _ _ _ _); first
      | refine AL.q TT_ok rfl (by rfl) ?_
      | refine AL.step rfl ?_
      | refine AL.guardU (by rfl) (by rfl) (by rfl) (by rfl) ?_
      | refine AL.gF (by rfl) (by rfl) (by rfl) (by rfl) (by first | rfl | assumption) ?_
      | refine AL.gT (by rfl) (by rfl) (by rfl) (by rfl) (by first | rfl | assumption) ?_
      | refine AL.guardW (by rfl) (by rfl) (by rfl) (by rfl) (fun h => by (try rw [h]); first | exact OpA.quietW (QOp.quietA TT_ok (by rfl)) | exact OpA.pcall (by rfl) Try.func76 rfl rfl (by rfl) (by first | exact clo_all (by rfl) | repeat' (first | exact clo_nil | refine clo_cons ?_ ?_ | exact clo_of (by rfl) | exact clo_fn _ | assumption)) (inr_v _ _ _) (by first | exact clo_of (by rfl) | assumption) ⟨by rfl, rfl⟩ | exact OpA.pcall (by rfl) Try.func110 rfl rfl (by rfl) (by first | exact clo_all (by rfl) | repeat' (first | exact clo_nil | refine clo_cons ?_ ?_ | exact clo_of (by rfl) | exact clo_fn _ | assumption)) (by first | exact isp_v_t _ _ (by assumption) | exact isp_v_f _ _ (by assumption) | exact isp_v _ _) (by first | exact clo_of (by rfl) | assumption) ⟨by rfl, rfl⟩ | exact OpA.pcall (by rfl) Try.func125 rfl rfl (by rfl) (by first | exact clo_all (by rfl) | repeat' (first | exact clo_nil | refine clo_cons ?_ ?_ | exact clo_of (by rfl) | exact clo_fn _ | assumption)) (isSeg_i s) (by first | exact clo_of (by rfl) | assumption) ⟨by rfl, rfl⟩ | exact OpA.pcall (by rfl) Try.func131 rfl rfl (by rfl) (by first | exact clo_all (by rfl) | repeat' (first | exact clo_nil | refine clo_cons ?_ ?_ | exact clo_of (by rfl) | exact clo_fn _ | assumption)) (by first | exact side_i a b p | exact side_i s.a s.b p) (by first | exact clo_of (by rfl) | assumption) ⟨by rfl, rfl⟩ | exact OpA.quietW (QOp.ld1_ro (by rfl) (by rfl) (by assumption) (TT_ok.ld _ _ (by rfl)) (by rfl)) | exact OpA.quietW (QOp.ldr_ro (by rfl) (by rfl) (by assumption) (TT_ok.ld _ _ (by rfl)) (Nat.le_of_ble_eq_true (by rfl))) | exact OpA.quietW (QOp.sEq (by rfl) (by rfl) (by rfl) (by first | exact flk26.1 | exact flk109.1 | exact flk111.1) (by rfl) (by rfl) (by rfl) (by rfl) (by rfl) (by rfl) (by rfl) (by rfl)) | exact OpA.quietW (QOp.pickAnd (by rfl) (by rfl) (by rfl) (by rfl) (by rfl)) | exact OpA.quietW (QOp.pickOr (by rfl) (by rfl) (by rfl) (by rfl) (by rfl))) ?_
      | (refine AL.guardT (by rfl) (by rfl) (by rfl) (by rfl) (fun h => ?_) ?_; rotate_left; focus (intro h; (try simp only [Bool.not_eq_true', Bool.not_eq_false'] at h); first | (cases h; done) | exact clash (by with_reducible_and_instances assumption) h | exact clash h (by with_reducible_and_instances assumption) | exact absurd h (by decide) | (refine absurd h ?_; simp; done)))
      | (refine AL.guardT (by rfl) (by rfl) (by rfl) (by rfl) ?_ (fun h => ?_); focus (intro h; (try simp only [Bool.not_eq_true', Bool.not_eq_false'] at h); first | (cases h; done) | exact clash (by with_reducible_and_instances assumption) h | exact clash h (by with_reducible_and_instances assumption) | exact absurd h (by decide) | (refine absurd h ?_; simp; done)))
      | (refine AL.guardT (by rfl) (by rfl) (by rfl) (by rfl) ?_ ?_ <;> (intro h; try simp only [Bool.not_eq_true', Bool.not_eq_false'] at h))
      | (refine AL.guardF (by rfl) (by rfl) (by rfl) (by rfl) (fun h => ?_) ?_; rotate_left; focus (intro h; (try simp only [Bool.not_eq_true', Bool.not_eq_false'] at h); first | (cases h; done) | exact clash (by with_reducible_and_instances assumption) h | exact clash h (by with_reducible_and_instances assumption) | exact absurd h (by decide) | (refine absurd h ?_; simp; done)))
      | (refine AL.guardF (by rfl) (by rfl) (by rfl) (by rfl) ?_ (fun h => ?_); focus (intro h; (try simp only [Bool.not_eq_true', Bool.not_eq_false'] at h); first | (cases h; done) | exact clash (by with_reducible_and_instances assumption) h | exact clash h (by with_reducible_and_instances assumption) | exact absurd h (by decide) | (refine absurd h ?_; simp; done)))
      | (refine AL.guardF (by rfl) (by rfl) (by rfl) (by rfl) ?_ ?_ <;> (intro h; try simp only [Bool.not_eq_true', Bool.not_eq_false'] at h))
      | refine AL.nil ?_)
    | ((with_reducible show AW _ _ _ _ _ _); first
      | refine AW.seq ?_
      | refine AW.region ?_
      | refine AW.skip ?_
      | refine AW.ret ?_)
    | with_reducible refine (if_pos rfl).mpr ?_
    | with_reducible refine (if_neg (by decide)).mpr ?_) <;> (try dsimp only [dput, List.set, cond_true, cond_false, Nat.zero_add, Nat.add_zero, Nat.reduceAdd, splice, List.take, List.drop, List.length, List.nil_append, List.cons_append, List.append, TPoint.en, TSegment.en, TBox.en, TFeature.en, TMeet.en, TPlace.en, TCover.en, TLabel.en, TPiece.en, TLevel.en, TChart.en, TReason.en, TEdit.en, TEntry.en, TEdition.en, TListing.en, TAtlas.en, TEvent.en, TWindow.en]))
  all_goals exact Fin.one rfl (RV.tmp (by rfl)) (clo_c _) ⟨by first | rfl | (simp only [onWI, Bool.and_assoc]; done), rfl⟩

theorem isOn_i (s : TSegment) (p : TPoint) : VCalls Try.prog 134 [.agg s.en, .agg p.en] (fun r M => r = B (onW s p) ∧ M = []) := onWI_eq s p ▸ isOn_i0 s p
end Go.Proofs.Ytbkcoechoblndaa.Abs
