/- The walks of the laws' equality tests, on equal arguments. -/
import Derived.Test.YtbkcoechoblndaaWkFacts
import Derived.Test.YtbkcoechoblndaaWkSz
namespace Go.Proofs.Ytbkcoechoblndaa.Abs
open Go.Proofs Go.RowKit
set_option linter.unusedVariables false
set_option linter.unusedSimpArgs false
attribute [local irreducible] OpA AL AW DL DLM DLR QOp POp VCalls VCallsI
set_option maxRecDepth 100000 in
set_option maxHeartbeats 2000000 in
theorem eqPoint_self (x : TPoint) : VCalls Try.prog 111 [.agg x.en, .agg x.en] (fun r M => r = B true ∧ M = []) := by
  refine VCalls.body Try.func111 rfl 13 rfl (fun E => ?_)
  simp only [List.reduceReplicate, List.cons_append, List.nil_append]
  dsimp only [TPoint.en]
  repeat' ((first
    | ((with_reducible show OpA _ _ _ _ _ _); first
      | refine OpA.quiet (QOp.sEq (by rfl) (by rfl) (by rfl) (by first | exact flk109.1) (by rfl) (by rfl) (by rfl) (by rfl) (by rfl) (by rfl) (by rfl) (by rfl)) ?_
      | refine OpA.box (by rfl) (by rfl) (by rfl) ?_)
    | ((with_reducible show AL _ _ _ _ _ _ _); first
      | refine AL.q TT_ok rfl (by rfl) ?_
      | refine AL.step rfl ?_
      | refine AL.nil ?_)
    | ((with_reducible show AW _ _ _ _ _ _); first
      | refine AW.seq ?_
      | refine AW.region ?_
      | refine AW.skip ?_
      | (refine AW.cond (by rfl) (fun h => ?_) ?_; rotate_left; focus (intro h; (try simp only [Bool.not_eq_true', Bool.not_eq_false'] at h); first | (cases h; done) | exact clash (by with_reducible_and_instances assumption) h | exact clash h (by with_reducible_and_instances assumption) | exact absurd h (by decide) | (refine absurd h ?_; simp; done)))
      | (refine AW.cond (by rfl) ?_ (fun h => ?_); focus (intro h; (try simp only [Bool.not_eq_true', Bool.not_eq_false'] at h); first | (cases h; done) | exact clash (by with_reducible_and_instances assumption) h | exact clash h (by with_reducible_and_instances assumption) | exact absurd h (by decide) | (refine absurd h ?_; simp; done)))
      | (refine AW.cond (by rfl) ?_ ?_ <;> (intro h; try simp only [Bool.not_eq_true', Bool.not_eq_false'] at h))
      | refine AW.ret ?_)
    | with_reducible refine (if_pos rfl).mpr ?_
    | with_reducible refine (if_neg (by decide)).mpr ?_) <;> (try dsimp only [dput, List.set, cond_true, cond_false, Nat.zero_add, Nat.add_zero, Nat.reduceAdd, splice, List.take, List.drop, List.length, List.nil_append, List.cons_append, List.append, TPoint.en, TSegment.en, TBox.en, TFeature.en, TMeet.en, TPlace.en, TCover.en, TLabel.en, TPiece.en, TLevel.en, TChart.en, TReason.en, TEdit.en, TEntry.en, TEdition.en, TListing.en, TAtlas.en, TEvent.en, TWindow.en]))
  all_goals exact Fin.one rfl (RV.tmp (by rfl)) (clo_c _) ⟨by simp_all, rfl⟩

set_option maxRecDepth 100000 in
set_option maxHeartbeats 2000000 in
theorem eqPointS_self (l : List TPoint) (hl : l.length ≤ 1048576) : VCalls Try.prog 86 [.ro 2 (l.map TPoint.en), .ro 2 (l.map TPoint.en)] (fun r M => r = B true ∧ M = []) := by
  refine VCalls.bodyE Try.func86 rfl 25 rfl (fun E hE => ?_)
  simp only [List.reduceReplicate, List.cons_append, List.nil_append]
  repeat' ((first
    | ((with_reducible show OpA _ _ _ _ _ _); first
      | refine OpA.quiet (QOp.atk_ro (by rfl) (by rfl) (by rfl) (TT_ok.sl _ _ (by rfl)) (Nat.le_of_ble_eq_true (by rfl)) (by first | assumption | omega) (by assumption)) ?_
      | refine OpA.quiet (QOp.ld1_ro (by rfl) (by rfl) (by assumption) (TT_ok.ld _ _ (by rfl)) (by rfl)) ?_
      | refine OpA.quiet (QOp.ldr_ro (by rfl) (by rfl) (by assumption) (TT_ok.ld _ _ (by rfl)) (Nat.le_of_ble_eq_true (by rfl))) ?_
      | refine OpA.quiet (QOp.at_own (by rfl) (TT_ok.sl _ _ (by rfl)) (by rfl) (by rfl) (by rfl) (by rfl) (by rfl) (by rfl) (by first | assumption | omega | decide) (by first | assumption | omega | decide)) ?_
      | refine OpA.quiet (QOp.len_own (by rfl) (TT_ok.sl _ _ (by rfl)) (by rfl) (by rfl) (by rfl) (by rfl)) ?_
      | refine OpA.quiet (QOp.sEq (by rfl) (by rfl) (by rfl) (by first | exact flk109.1) (by rfl) (by rfl) (by rfl) (by rfl) (by rfl) (by rfl) (by rfl) (by rfl)) ?_
      | (refine OpA.quiet (QOp.cat (by rfl) (by rfl) (by rfl) (by first | assumption | (simp only [ByteArray.size_append, bs_size] at *; omega))) ?_)
      | refine OpA.pcall (by rfl) Try.func111 rfl rfl (by rfl) (by first | exact clo_all (by rfl) | repeat' (first | exact clo_nil | refine clo_cons ?_ ?_ | exact clo_of (by rfl) | exact clo_fn _ | assumption)) (eqPoint_self x) (by first | exact clo_of (by rfl) | assumption) ?_)
    | ((with_reducible show AL _ _ _ _ _ _ _); first
      | refine AL.q TT_ok rfl (by rfl) ?_
      | refine AL.step rfl ?_
      | refine AL.nil ?_)
    | ((with_reducible show DL _ _ _ _ _ _ _); first
      | refine DL.q TT_ok rfl (by rfl) ?_
      | refine DL.p rfl (POp.quiet (QOp.atk_ro (by rfl) (by rfl) (by rfl) (TT_ok.sl _ _ (by rfl)) (Nat.le_of_ble_eq_true (by rfl)) (by first | assumption | omega) (by assumption))) ?_
      | refine DL.p rfl (POp.quiet (QOp.ld1_ro (by rfl) (by rfl) (by assumption) (TT_ok.ld _ _ (by rfl)) (by rfl))) ?_
      | refine DL.p rfl (POp.quiet (QOp.ldr_ro (by rfl) (by rfl) (by assumption) (TT_ok.ld _ _ (by rfl)) (Nat.le_of_ble_eq_true (by rfl)))) ?_
      | refine DL.p rfl (POp.quiet (QOp.at_own (by rfl) (TT_ok.sl _ _ (by rfl)) (by rfl) (by rfl) (by rfl) (by rfl) (by rfl) (by rfl) (by first | assumption | omega | decide) (by first | assumption | omega | decide))) ?_
      | refine DL.p rfl (POp.quiet (QOp.len_own (by rfl) (TT_ok.sl _ _ (by rfl)) (by rfl) (by rfl) (by rfl) (by rfl))) ?_
      | refine DL.p rfl (POp.quiet (QOp.sEq (by rfl) (by rfl) (by rfl) (by first | exact flk109.1) (by rfl) (by rfl) (by rfl) (by rfl) (by rfl) (by rfl) (by rfl) (by rfl))) ?_
      | (refine DL.p rfl (POp.quiet (QOp.cat (by rfl) (by rfl) (by rfl) (by first | assumption | (simp only [ByteArray.size_append, bs_size] at *; omega)))) ?_)
      | refine DL.p rfl (POp.pcall (by rfl) Try.func111 rfl rfl (by rfl) (by first | exact clo_all (by rfl) | repeat' (first | exact clo_nil | refine clo_cons ?_ ?_ | exact clo_of (by rfl) | exact clo_fn _ | assumption)) (eqPoint_self x) (by first | exact clo_of (by rfl) | assumption)) ?_
      | refine DL.nil ?_)
    | ((with_reducible show AW _ _ _ _ _ _); first
      | refine AW.seq ?_
      | refine AW.region ?_
      | refine AW.skip ?_
      | (refine AW.loopD hE (fun i : Nat => [.ro 2 (l.map TPoint.en), .ro 2 (l.map TPoint.en), .any, .any, .any, I i, .any, .any, .any, .any, .any, .any, .any, .any, .any, .any, .any, .any, .any, .any, .any, .any, .any, .any, .any, .any, .any]) (fun i => []) (fun i => l.length - i) (fun i => i ≤ l.length) 0 (by simp) ?_ (by first | rfl | (simp [fil_zero]; done)) ?_)
      | refine AW.drawn (id := 6) 8 (by kernel_rfl) (by kernel_rfl) (by rfl) ?_
      | (refine AW.cond (by rfl) (fun h => ?_) ?_; rotate_left; focus (intro h; (try simp only [Bool.not_eq_true', Bool.not_eq_false'] at h); first | (cases h; done) | exact clash (by with_reducible_and_instances assumption) h | exact clash h (by with_reducible_and_instances assumption) | exact absurd h (by decide) | (refine absurd h ?_; simp; done)))
      | (refine AW.cond (by rfl) ?_ (fun h => ?_); focus (intro h; (try simp only [Bool.not_eq_true', Bool.not_eq_false'] at h); first | (cases h; done) | exact clash (by with_reducible_and_instances assumption) h | exact clash h (by with_reducible_and_instances assumption) | exact absurd h (by decide) | (refine absurd h ?_; simp; done)))
      | (refine AW.cond (by rfl) ?_ ?_ <;> (intro h; try simp only [Bool.not_eq_true', Bool.not_eq_false'] at h))
      | refine AW.block ?_
      | refine AW.exit ?_
      | refine AW.ret ?_)
    | with_reducible refine (if_pos rfl).mpr ?_
    | with_reducible refine (if_neg (by decide)).mpr ?_) <;> (try dsimp only [dput, List.set, cond_true, cond_false, Nat.zero_add, Nat.add_zero, Nat.reduceAdd, splice, List.take, List.drop, List.length, List.nil_append, List.cons_append, List.append, TPoint.en, TSegment.en, TBox.en, TFeature.en, TMeet.en, TPlace.en, TCover.en, TLabel.en, TPiece.en, TLevel.en, TChart.en, TReason.en, TEdit.en, TEntry.en, TEdition.en, TListing.en, TAtlas.en, TEvent.en, TWindow.en]))
  · (repeat' (first | exact Wk.nil | refine Wk.any ?_ | (with_reducible refine Wk.same ?_) | refine Wk.of ?_ ?_)) <;> first | rfl | (simp)
  · intro i hi
    have hclo : Clo (.ro 2 (l.map TPoint.en)) := clo_list TPoint.clo_en
    by_cases hlt : i < l.length
    · obtain ⟨x, hx⟩ : ∃ x, l[i]? = some x := ⟨_, List.getElem?_eq_getElem hlt⟩
      have hg := map_get (f := TPoint.en) hx
      have ht := lt_true (f := TPoint.en) hlt
      have hn := next_ix hlt (by omega)
      repeat' ((first
        | ((with_reducible show OpA _ _ _ _ _ _); first
          | refine OpA.quiet (QOp.atk_ro (by rfl) (by rfl) (by rfl) (TT_ok.sl _ _ (by rfl)) (Nat.le_of_ble_eq_true (by rfl)) (by first | assumption | omega) (by assumption)) ?_
          | refine OpA.quiet (QOp.ld1_ro (by rfl) (by rfl) (by assumption) (TT_ok.ld _ _ (by rfl)) (by rfl)) ?_
          | refine OpA.quiet (QOp.ldr_ro (by rfl) (by rfl) (by assumption) (TT_ok.ld _ _ (by rfl)) (Nat.le_of_ble_eq_true (by rfl))) ?_
          | refine OpA.quiet (QOp.at_own (by rfl) (TT_ok.sl _ _ (by rfl)) (by rfl) (by rfl) (by rfl) (by rfl) (by rfl) (by rfl) (by first | assumption | omega | decide) (by first | assumption | omega | decide)) ?_
          | refine OpA.quiet (QOp.len_own (by rfl) (TT_ok.sl _ _ (by rfl)) (by rfl) (by rfl) (by rfl) (by rfl)) ?_
          | refine OpA.quiet (QOp.sEq (by rfl) (by rfl) (by rfl) (by first | exact flk109.1) (by rfl) (by rfl) (by rfl) (by rfl) (by rfl) (by rfl) (by rfl) (by rfl)) ?_
          | (refine OpA.quiet (QOp.cat (by rfl) (by rfl) (by rfl) (by first | assumption | (simp only [ByteArray.size_append, bs_size] at *; omega))) ?_)
          | refine OpA.pcall (by rfl) Try.func111 rfl rfl (by rfl) (by first | exact clo_all (by rfl) | repeat' (first | exact clo_nil | refine clo_cons ?_ ?_ | exact clo_of (by rfl) | exact clo_fn _ | assumption)) (eqPoint_self x) (by first | exact clo_of (by rfl) | assumption) ?_)
        | ((with_reducible show AL _ _ _ _ _ _ _); first
          | refine AL.q TT_ok rfl (by rfl) ?_
          | refine AL.step rfl ?_
          | refine AL.nil ?_)
        | ((with_reducible show DL _ _ _ _ _ _ _); first
          | refine DL.q TT_ok rfl (by rfl) ?_
          | refine DL.p rfl (POp.quiet (QOp.atk_ro (by rfl) (by rfl) (by rfl) (TT_ok.sl _ _ (by rfl)) (Nat.le_of_ble_eq_true (by rfl)) (by first | assumption | omega) (by assumption))) ?_
          | refine DL.p rfl (POp.quiet (QOp.ld1_ro (by rfl) (by rfl) (by assumption) (TT_ok.ld _ _ (by rfl)) (by rfl))) ?_
          | refine DL.p rfl (POp.quiet (QOp.ldr_ro (by rfl) (by rfl) (by assumption) (TT_ok.ld _ _ (by rfl)) (Nat.le_of_ble_eq_true (by rfl)))) ?_
          | refine DL.p rfl (POp.quiet (QOp.at_own (by rfl) (TT_ok.sl _ _ (by rfl)) (by rfl) (by rfl) (by rfl) (by rfl) (by rfl) (by rfl) (by first | assumption | omega | decide) (by first | assumption | omega | decide))) ?_
          | refine DL.p rfl (POp.quiet (QOp.len_own (by rfl) (TT_ok.sl _ _ (by rfl)) (by rfl) (by rfl) (by rfl) (by rfl))) ?_
          | refine DL.p rfl (POp.quiet (QOp.sEq (by rfl) (by rfl) (by rfl) (by first | exact flk109.1) (by rfl) (by rfl) (by rfl) (by rfl) (by rfl) (by rfl) (by rfl) (by rfl))) ?_
          | (refine DL.p rfl (POp.quiet (QOp.cat (by rfl) (by rfl) (by rfl) (by first | assumption | (simp only [ByteArray.size_append, bs_size] at *; omega)))) ?_)
          | refine DL.p rfl (POp.pcall (by rfl) Try.func111 rfl rfl (by rfl) (by first | exact clo_all (by rfl) | repeat' (first | exact clo_nil | refine clo_cons ?_ ?_ | exact clo_of (by rfl) | exact clo_fn _ | assumption)) (eqPoint_self x) (by first | exact clo_of (by rfl) | assumption)) ?_
          | refine DL.nil ?_)
        | ((with_reducible show AW _ _ _ _ _ _); first
          | refine AW.seq ?_
          | refine AW.region ?_
          | refine AW.skip ?_
          | refine AW.drawn (id := 6) 8 (by kernel_rfl) (by kernel_rfl) (by rfl) ?_
          | (refine AW.cond (by rfl) (fun h => ?_) ?_; rotate_left; focus (intro h; (try simp only [Bool.not_eq_true', Bool.not_eq_false'] at h); first | (cases h; done) | exact clash (by with_reducible_and_instances assumption) h | exact clash h (by with_reducible_and_instances assumption) | exact absurd h (by decide) | (refine absurd h ?_; simp; done)))
          | (refine AW.cond (by rfl) ?_ (fun h => ?_); focus (intro h; (try simp only [Bool.not_eq_true', Bool.not_eq_false'] at h); first | (cases h; done) | exact clash (by with_reducible_and_instances assumption) h | exact clash h (by with_reducible_and_instances assumption) | exact absurd h (by decide) | (refine absurd h ?_; simp; done)))
          | (refine AW.cond (by rfl) ?_ ?_ <;> (intro h; try simp only [Bool.not_eq_true', Bool.not_eq_false'] at h))
          | refine AW.block ?_
          | refine AW.exit ?_
          | refine AW.ret ?_)
        | with_reducible refine (if_pos rfl).mpr ?_
        | with_reducible refine (if_neg (by decide)).mpr ?_) <;> (try dsimp only [dput, List.set, cond_true, cond_false, Nat.zero_add, Nat.add_zero, Nat.reduceAdd, splice, List.take, List.drop, List.length, List.nil_append, List.cons_append, List.append, TPoint.en, TSegment.en, TBox.en, TFeature.en, TMeet.en, TPlace.en, TCover.en, TLabel.en, TPiece.en, TLevel.en, TChart.en, TReason.en, TEdit.en, TEntry.en, TEdition.en, TListing.en, TAtlas.en, TEvent.en, TWindow.en]))
      all_goals first
        | (refine ⟨i + 1, _, hlt, by omega, ?_, rfl, ?_, ?_⟩; (focus ((repeat' (first | exact Wk.nil | refine Wk.any ?_ | (with_reducible refine Wk.same ?_) | refine Wk.of ?_ ?_)) <;> (simp_all))); (focus ((repeat' (first | exact Fits.nil _ | refine Fits.cons ?_ ?_ | exact Fits.any _ | exact Fits.c _ _ | exact Fits.own (by rfl) | exact Fits.ref (by rfl) | exact Fits.clo (by assumption) | exact Fits.clo (clo_of (by rfl)) | exact Fits.clo (clo_fn _))))); (focus (exact FitsM.nil _)))
    · have ht := lt_false (f := TPoint.en) hlt
      have e : i = l.length := by omega
      subst e
      try rw [List.take_length]
      repeat' ((first
        | ((with_reducible show OpA _ _ _ _ _ _); first
          | refine OpA.quiet (QOp.atk_ro (by rfl) (by rfl) (by rfl) (TT_ok.sl _ _ (by rfl)) (Nat.le_of_ble_eq_true (by rfl)) (by first | assumption | omega) (by assumption)) ?_
          | refine OpA.quiet (QOp.ld1_ro (by rfl) (by rfl) (by assumption) (TT_ok.ld _ _ (by rfl)) (by rfl)) ?_
          | refine OpA.quiet (QOp.ldr_ro (by rfl) (by rfl) (by assumption) (TT_ok.ld _ _ (by rfl)) (Nat.le_of_ble_eq_true (by rfl))) ?_
          | refine OpA.quiet (QOp.at_own (by rfl) (TT_ok.sl _ _ (by rfl)) (by rfl) (by rfl) (by rfl) (by rfl) (by rfl) (by rfl) (by first | assumption | omega | decide) (by first | assumption | omega | decide)) ?_
          | refine OpA.quiet (QOp.len_own (by rfl) (TT_ok.sl _ _ (by rfl)) (by rfl) (by rfl) (by rfl) (by rfl)) ?_
          | refine OpA.quiet (QOp.sEq (by rfl) (by rfl) (by rfl) (by first | exact flk109.1) (by rfl) (by rfl) (by rfl) (by rfl) (by rfl) (by rfl) (by rfl) (by rfl)) ?_
          | (refine OpA.quiet (QOp.cat (by rfl) (by rfl) (by rfl) (by first | assumption | (simp only [ByteArray.size_append, bs_size] at *; omega))) ?_)
          | refine OpA.pcall (by rfl) Try.func111 rfl rfl (by rfl) (by first | exact clo_all (by rfl) | repeat' (first | exact clo_nil | refine clo_cons ?_ ?_ | exact clo_of (by rfl) | exact clo_fn _ | assumption)) (eqPoint_self x) (by first | exact clo_of (by rfl) | assumption) ?_)
        | ((with_reducible show AL _ _ _ _ _ _ _); first
          | refine AL.q TT_ok rfl (by rfl) ?_
          | refine AL.step rfl ?_
          | refine AL.nil ?_)
        | ((with_reducible show DL _ _ _ _ _ _ _); first
          | refine DL.q TT_ok rfl (by rfl) ?_
          | refine DL.p rfl (POp.quiet (QOp.atk_ro (by rfl) (by rfl) (by rfl) (TT_ok.sl _ _ (by rfl)) (Nat.le_of_ble_eq_true (by rfl)) (by first | assumption | omega) (by assumption))) ?_
          | refine DL.p rfl (POp.quiet (QOp.ld1_ro (by rfl) (by rfl) (by assumption) (TT_ok.ld _ _ (by rfl)) (by rfl))) ?_
          | refine DL.p rfl (POp.quiet (QOp.ldr_ro (by rfl) (by rfl) (by assumption) (TT_ok.ld _ _ (by rfl)) (Nat.le_of_ble_eq_true (by rfl)))) ?_
          | refine DL.p rfl (POp.quiet (QOp.at_own (by rfl) (TT_ok.sl _ _ (by rfl)) (by rfl) (by rfl) (by rfl) (by rfl) (by rfl) (by rfl) (by first | assumption | omega | decide) (by first | assumption | omega | decide))) ?_
          | refine DL.p rfl (POp.quiet (QOp.len_own (by rfl) (TT_ok.sl _ _ (by rfl)) (by rfl) (by rfl) (by rfl) (by rfl))) ?_
          | refine DL.p rfl (POp.quiet (QOp.sEq (by rfl) (by rfl) (by rfl) (by first | exact flk109.1) (by rfl) (by rfl) (by rfl) (by rfl) (by rfl) (by rfl) (by rfl) (by rfl))) ?_
          | (refine DL.p rfl (POp.quiet (QOp.cat (by rfl) (by rfl) (by rfl) (by first | assumption | (simp only [ByteArray.size_append, bs_size] at *; omega)))) ?_)
          | refine DL.p rfl (POp.pcall (by rfl) Try.func111 rfl rfl (by rfl) (by first | exact clo_all (by rfl) | repeat' (first | exact clo_nil | refine clo_cons ?_ ?_ | exact clo_of (by rfl) | exact clo_fn _ | assumption)) (eqPoint_self x) (by first | exact clo_of (by rfl) | assumption)) ?_
          | refine DL.nil ?_)
        | ((with_reducible show AW _ _ _ _ _ _); first
          | refine AW.seq ?_
          | refine AW.region ?_
          | refine AW.skip ?_
          | refine AW.drawn (id := 6) 8 (by kernel_rfl) (by kernel_rfl) (by rfl) ?_
          | (refine AW.cond (by rfl) (fun h => ?_) ?_; rotate_left; focus (intro h; (try simp only [Bool.not_eq_true', Bool.not_eq_false'] at h); first | (cases h; done) | exact clash (by with_reducible_and_instances assumption) h | exact clash h (by with_reducible_and_instances assumption) | exact absurd h (by decide) | (refine absurd h ?_; simp; done)))
          | (refine AW.cond (by rfl) ?_ (fun h => ?_); focus (intro h; (try simp only [Bool.not_eq_true', Bool.not_eq_false'] at h); first | (cases h; done) | exact clash (by with_reducible_and_instances assumption) h | exact clash h (by with_reducible_and_instances assumption) | exact absurd h (by decide) | (refine absurd h ?_; simp; done)))
          | (refine AW.cond (by rfl) ?_ ?_ <;> (intro h; try simp only [Bool.not_eq_true', Bool.not_eq_false'] at h))
          | refine AW.block ?_
          | refine AW.exit ?_
          | refine AW.ret ?_)
        | with_reducible refine (if_pos rfl).mpr ?_
        | with_reducible refine (if_neg (by decide)).mpr ?_) <;> (try dsimp only [dput, List.set, cond_true, cond_false, Nat.zero_add, Nat.add_zero, Nat.reduceAdd, splice, List.take, List.drop, List.length, List.nil_append, List.cons_append, List.append, TPoint.en, TSegment.en, TBox.en, TFeature.en, TMeet.en, TPlace.en, TCover.en, TLabel.en, TPiece.en, TLevel.en, TChart.en, TReason.en, TEdit.en, TEntry.en, TEdition.en, TListing.en, TAtlas.en, TEvent.en, TWindow.en]))
      all_goals exact Fin.one rfl (RV.tmp (by rfl)) (clo_c _) ⟨by rfl, rfl⟩

set_option maxRecDepth 100000 in
set_option maxHeartbeats 2000000 in
theorem eqFeature_self (x : TFeature) (hs : x.sm) : VCalls Try.prog 42 [.agg x.en, .agg x.en] (fun r M => r = B true ∧ M = []) := by
  refine VCalls.body Try.func42 rfl 29 rfl (fun E => ?_)
  simp only [List.reduceReplicate, List.cons_append, List.nil_append]
  have hclo0 : Clo (.ro 2 (x.points.map TPoint.en)) := clo_list TPoint.clo_en
  have hcle : Clo (.agg x.en) := Clo.agg x.clo_en
  have hs' := hs
  obtain hs4 := hs
  dsimp only [TFeature.en]
  repeat' ((first
    | ((with_reducible show OpA _ _ _ _ _ _); first
      | refine OpA.quiet (QOp.ld1_ro (by rfl) (by rfl) (by assumption) (TT_ok.ld _ _ (by rfl)) (by rfl)) ?_
      | refine OpA.quiet (QOp.ldr_ro (by rfl) (by rfl) (by assumption) (TT_ok.ld _ _ (by rfl)) (Nat.le_of_ble_eq_true (by rfl))) ?_
      | refine OpA.quiet (QOp.sEq (by rfl) (by rfl) (by rfl) (by first | exact flk109.1) (by rfl) (by rfl) (by rfl) (by rfl) (by rfl) (by rfl) (by rfl) (by rfl)) ?_
      | refine OpA.box (by rfl) (by rfl) (by rfl) ?_
      | refine OpA.pcall (by rfl) Try.func86 rfl rfl (by rfl) (by first | exact clo_all (by rfl) | repeat' (first | exact clo_nil | refine clo_cons ?_ ?_ | exact clo_of (by rfl) | exact clo_fn _ | assumption)) (eqPointS_self _ (by assumption)) (by first | exact clo_of (by rfl) | assumption) ?_)
    | ((with_reducible show AL _ _ _ _ _ _ _); first
      | refine AL.q TT_ok rfl (by rfl) ?_
      | refine AL.step rfl ?_
      | refine AL.nil ?_)
    | ((with_reducible show AW _ _ _ _ _ _); first
      | refine AW.seq ?_
      | refine AW.region ?_
      | refine AW.skip ?_
      | (refine AW.cond (by rfl) (fun h => ?_) ?_; rotate_left; focus (intro h; (try simp only [Bool.not_eq_true', Bool.not_eq_false'] at h); first | (cases h; done) | exact clash (by with_reducible_and_instances assumption) h | exact clash h (by with_reducible_and_instances assumption) | exact absurd h (by decide) | (refine absurd h ?_; simp; done)))
      | (refine AW.cond (by rfl) ?_ (fun h => ?_); focus (intro h; (try simp only [Bool.not_eq_true', Bool.not_eq_false'] at h); first | (cases h; done) | exact clash (by with_reducible_and_instances assumption) h | exact clash h (by with_reducible_and_instances assumption) | exact absurd h (by decide) | (refine absurd h ?_; simp; done)))
      | (refine AW.cond (by rfl) ?_ ?_ <;> (intro h; try simp only [Bool.not_eq_true', Bool.not_eq_false'] at h))
      | refine AW.ret ?_)
    | with_reducible refine (if_pos rfl).mpr ?_
    | with_reducible refine (if_neg (by decide)).mpr ?_) <;> (try dsimp only [dput, List.set, cond_true, cond_false, Nat.zero_add, Nat.add_zero, Nat.reduceAdd, splice, List.take, List.drop, List.length, List.nil_append, List.cons_append, List.append, TPoint.en, TSegment.en, TBox.en, TFeature.en, TMeet.en, TPlace.en, TCover.en, TLabel.en, TPiece.en, TLevel.en, TChart.en, TReason.en, TEdit.en, TEntry.en, TEdition.en, TListing.en, TAtlas.en, TEvent.en, TWindow.en]))
  all_goals exact Fin.one rfl (RV.tmp (by rfl)) (clo_c _) ⟨by simp_all, rfl⟩

set_option maxRecDepth 100000 in
set_option maxHeartbeats 2000000 in
theorem eqFeatureS_self (l : List TFeature) (hl : l.length ≤ 1048576) (hp : ∀ x ∈ l, x.sm) : VCalls Try.prog 17 [.ro 5 (l.map TFeature.en), .ro 5 (l.map TFeature.en)] (fun r M => r = B true ∧ M = []) := by
  refine VCalls.bodyE Try.func17 rfl 25 rfl (fun E hE => ?_)
  simp only [List.reduceReplicate, List.cons_append, List.nil_append]
  repeat' ((first
    | ((with_reducible show OpA _ _ _ _ _ _); first
      | refine OpA.quiet (QOp.atk_ro (by rfl) (by rfl) (by rfl) (TT_ok.sl _ _ (by rfl)) (Nat.le_of_ble_eq_true (by rfl)) (by first | assumption | omega) (by assumption)) ?_
      | refine OpA.quiet (QOp.ld1_ro (by rfl) (by rfl) (by assumption) (TT_ok.ld _ _ (by rfl)) (by rfl)) ?_
      | refine OpA.quiet (QOp.ldr_ro (by rfl) (by rfl) (by assumption) (TT_ok.ld _ _ (by rfl)) (Nat.le_of_ble_eq_true (by rfl))) ?_
      | refine OpA.quiet (QOp.at_own (by rfl) (TT_ok.sl _ _ (by rfl)) (by rfl) (by rfl) (by rfl) (by rfl) (by rfl) (by rfl) (by first | assumption | omega | decide) (by first | assumption | omega | decide)) ?_
      | refine OpA.quiet (QOp.len_own (by rfl) (TT_ok.sl _ _ (by rfl)) (by rfl) (by rfl) (by rfl) (by rfl)) ?_
      | (refine OpA.quiet (QOp.cat (by rfl) (by rfl) (by rfl) (by first | assumption | (simp only [ByteArray.size_append, bs_size] at *; omega))) ?_)
      | refine OpA.pcall (by rfl) Try.func42 rfl rfl (by rfl) (by first | exact clo_all (by rfl) | repeat' (first | exact clo_nil | refine clo_cons ?_ ?_ | exact clo_of (by rfl) | exact clo_fn _ | assumption)) (eqFeature_self x (by assumption)) (by first | exact clo_of (by rfl) | assumption) ?_)
    | ((with_reducible show AL _ _ _ _ _ _ _); first
      | refine AL.q TT_ok rfl (by rfl) ?_
      | refine AL.step rfl ?_
      | refine AL.nil ?_)
    | ((with_reducible show DL _ _ _ _ _ _ _); first
      | refine DL.q TT_ok rfl (by rfl) ?_
      | refine DL.p rfl (POp.quiet (QOp.atk_ro (by rfl) (by rfl) (by rfl) (TT_ok.sl _ _ (by rfl)) (Nat.le_of_ble_eq_true (by rfl)) (by first | assumption | omega) (by assumption))) ?_
      | refine DL.p rfl (POp.quiet (QOp.ld1_ro (by rfl) (by rfl) (by assumption) (TT_ok.ld _ _ (by rfl)) (by rfl))) ?_
      | refine DL.p rfl (POp.quiet (QOp.ldr_ro (by rfl) (by rfl) (by assumption) (TT_ok.ld _ _ (by rfl)) (Nat.le_of_ble_eq_true (by rfl)))) ?_
      | refine DL.p rfl (POp.quiet (QOp.at_own (by rfl) (TT_ok.sl _ _ (by rfl)) (by rfl) (by rfl) (by rfl) (by rfl) (by rfl) (by rfl) (by first | assumption | omega | decide) (by first | assumption | omega | decide))) ?_
      | refine DL.p rfl (POp.quiet (QOp.len_own (by rfl) (TT_ok.sl _ _ (by rfl)) (by rfl) (by rfl) (by rfl) (by rfl))) ?_
      | (refine DL.p rfl (POp.quiet (QOp.cat (by rfl) (by rfl) (by rfl) (by first | assumption | (simp only [ByteArray.size_append, bs_size] at *; omega)))) ?_)
      | refine DL.p rfl (POp.pcall (by rfl) Try.func42 rfl rfl (by rfl) (by first | exact clo_all (by rfl) | repeat' (first | exact clo_nil | refine clo_cons ?_ ?_ | exact clo_of (by rfl) | exact clo_fn _ | assumption)) (eqFeature_self x (by assumption)) (by first | exact clo_of (by rfl) | assumption)) ?_
      | refine DL.nil ?_)
    | ((with_reducible show AW _ _ _ _ _ _); first
      | refine AW.seq ?_
      | refine AW.region ?_
      | refine AW.skip ?_
      | (refine AW.loopD hE (fun i : Nat => [.ro 5 (l.map TFeature.en), .ro 5 (l.map TFeature.en), .any, .any, .any, I i, .any, .any, .any, .any, .any, .any, .any, .any, .any, .any, .any, .any, .any, .any, .any, .any, .any, .any, .any, .any, .any]) (fun i => []) (fun i => l.length - i) (fun i => i ≤ l.length) 0 (by simp) ?_ (by first | rfl | (simp [fil_zero]; done)) ?_)
      | refine AW.drawn (id := 6) 8 (by kernel_rfl) (by kernel_rfl) (by rfl) ?_
      | (refine AW.cond (by rfl) (fun h => ?_) ?_; rotate_left; focus (intro h; (try simp only [Bool.not_eq_true', Bool.not_eq_false'] at h); first | (cases h; done) | exact clash (by with_reducible_and_instances assumption) h | exact clash h (by with_reducible_and_instances assumption) | exact absurd h (by decide) | (refine absurd h ?_; simp; done)))
      | (refine AW.cond (by rfl) ?_ (fun h => ?_); focus (intro h; (try simp only [Bool.not_eq_true', Bool.not_eq_false'] at h); first | (cases h; done) | exact clash (by with_reducible_and_instances assumption) h | exact clash h (by with_reducible_and_instances assumption) | exact absurd h (by decide) | (refine absurd h ?_; simp; done)))
      | (refine AW.cond (by rfl) ?_ ?_ <;> (intro h; try simp only [Bool.not_eq_true', Bool.not_eq_false'] at h))
      | refine AW.block ?_
      | refine AW.exit ?_
      | refine AW.ret ?_)
    | with_reducible refine (if_pos rfl).mpr ?_
    | with_reducible refine (if_neg (by decide)).mpr ?_) <;> (try dsimp only [dput, List.set, cond_true, cond_false, Nat.zero_add, Nat.add_zero, Nat.reduceAdd, splice, List.take, List.drop, List.length, List.nil_append, List.cons_append, List.append, TPoint.en, TSegment.en, TBox.en, TFeature.en, TMeet.en, TPlace.en, TCover.en, TLabel.en, TPiece.en, TLevel.en, TChart.en, TReason.en, TEdit.en, TEntry.en, TEdition.en, TListing.en, TAtlas.en, TEvent.en, TWindow.en]))
  · (repeat' (first | exact Wk.nil | refine Wk.any ?_ | (with_reducible refine Wk.same ?_) | refine Wk.of ?_ ?_)) <;> first | rfl | (simp)
  · intro i hi
    have hclo : Clo (.ro 5 (l.map TFeature.en)) := clo_list TFeature.clo_en
    by_cases hlt : i < l.length
    · obtain ⟨x, hx⟩ : ∃ x, l[i]? = some x := ⟨_, List.getElem?_eq_getElem hlt⟩
      have hg := map_get (f := TFeature.en) hx
      have ht := lt_true (f := TFeature.en) hlt
      have hn := next_ix hlt (by omega)
      have hpx := hp x (List.mem_of_getElem? hx)
      have hclo0 : Clo (.ro 2 (x.points.map TPoint.en)) := clo_list TPoint.clo_en
      have hcle : Clo (.agg x.en) := Clo.agg x.clo_en
      repeat' ((first
        | ((with_reducible show OpA _ _ _ _ _ _); first
          | refine OpA.quiet (QOp.atk_ro (by rfl) (by rfl) (by rfl) (TT_ok.sl _ _ (by rfl)) (Nat.le_of_ble_eq_true (by rfl)) (by first | assumption | omega) (by assumption)) ?_
          | refine OpA.quiet (QOp.ld1_ro (by rfl) (by rfl) (by assumption) (TT_ok.ld _ _ (by rfl)) (by rfl)) ?_
          | refine OpA.quiet (QOp.ldr_ro (by rfl) (by rfl) (by assumption) (TT_ok.ld _ _ (by rfl)) (Nat.le_of_ble_eq_true (by rfl))) ?_
          | refine OpA.quiet (QOp.at_own (by rfl) (TT_ok.sl _ _ (by rfl)) (by rfl) (by rfl) (by rfl) (by rfl) (by rfl) (by rfl) (by first | assumption | omega | decide) (by first | assumption | omega | decide)) ?_
          | refine OpA.quiet (QOp.len_own (by rfl) (TT_ok.sl _ _ (by rfl)) (by rfl) (by rfl) (by rfl) (by rfl)) ?_
          | (refine OpA.quiet (QOp.cat (by rfl) (by rfl) (by rfl) (by first | assumption | (simp only [ByteArray.size_append, bs_size] at *; omega))) ?_)
          | refine OpA.pcall (by rfl) Try.func42 rfl rfl (by rfl) (by first | exact clo_all (by rfl) | repeat' (first | exact clo_nil | refine clo_cons ?_ ?_ | exact clo_of (by rfl) | exact clo_fn _ | assumption)) (eqFeature_self x (by assumption)) (by first | exact clo_of (by rfl) | assumption) ?_)
        | ((with_reducible show AL _ _ _ _ _ _ _); first
          | refine AL.q TT_ok rfl (by rfl) ?_
          | refine AL.step rfl ?_
          | refine AL.nil ?_)
        | ((with_reducible show DL _ _ _ _ _ _ _); first
          | refine DL.q TT_ok rfl (by rfl) ?_
          | refine DL.p rfl (POp.quiet (QOp.atk_ro (by rfl) (by rfl) (by rfl) (TT_ok.sl _ _ (by rfl)) (Nat.le_of_ble_eq_true (by rfl)) (by first | assumption | omega) (by assumption))) ?_
          | refine DL.p rfl (POp.quiet (QOp.ld1_ro (by rfl) (by rfl) (by assumption) (TT_ok.ld _ _ (by rfl)) (by rfl))) ?_
          | refine DL.p rfl (POp.quiet (QOp.ldr_ro (by rfl) (by rfl) (by assumption) (TT_ok.ld _ _ (by rfl)) (Nat.le_of_ble_eq_true (by rfl)))) ?_
          | refine DL.p rfl (POp.quiet (QOp.at_own (by rfl) (TT_ok.sl _ _ (by rfl)) (by rfl) (by rfl) (by rfl) (by rfl) (by rfl) (by rfl) (by first | assumption | omega | decide) (by first | assumption | omega | decide))) ?_
          | refine DL.p rfl (POp.quiet (QOp.len_own (by rfl) (TT_ok.sl _ _ (by rfl)) (by rfl) (by rfl) (by rfl) (by rfl))) ?_
          | (refine DL.p rfl (POp.quiet (QOp.cat (by rfl) (by rfl) (by rfl) (by first | assumption | (simp only [ByteArray.size_append, bs_size] at *; omega)))) ?_)
          | refine DL.p rfl (POp.pcall (by rfl) Try.func42 rfl rfl (by rfl) (by first | exact clo_all (by rfl) | repeat' (first | exact clo_nil | refine clo_cons ?_ ?_ | exact clo_of (by rfl) | exact clo_fn _ | assumption)) (eqFeature_self x (by assumption)) (by first | exact clo_of (by rfl) | assumption)) ?_
          | refine DL.nil ?_)
        | ((with_reducible show AW _ _ _ _ _ _); first
          | refine AW.seq ?_
          | refine AW.region ?_
          | refine AW.skip ?_
          | refine AW.drawn (id := 6) 8 (by kernel_rfl) (by kernel_rfl) (by rfl) ?_
          | (refine AW.cond (by rfl) (fun h => ?_) ?_; rotate_left; focus (intro h; (try simp only [Bool.not_eq_true', Bool.not_eq_false'] at h); first | (cases h; done) | exact clash (by with_reducible_and_instances assumption) h | exact clash h (by with_reducible_and_instances assumption) | exact absurd h (by decide) | (refine absurd h ?_; simp; done)))
          | (refine AW.cond (by rfl) ?_ (fun h => ?_); focus (intro h; (try simp only [Bool.not_eq_true', Bool.not_eq_false'] at h); first | (cases h; done) | exact clash (by with_reducible_and_instances assumption) h | exact clash h (by with_reducible_and_instances assumption) | exact absurd h (by decide) | (refine absurd h ?_; simp; done)))
          | (refine AW.cond (by rfl) ?_ ?_ <;> (intro h; try simp only [Bool.not_eq_true', Bool.not_eq_false'] at h))
          | refine AW.block ?_
          | refine AW.exit ?_
          | refine AW.ret ?_)
        | with_reducible refine (if_pos rfl).mpr ?_
        | with_reducible refine (if_neg (by decide)).mpr ?_) <;> (try dsimp only [dput, List.set, cond_true, cond_false, Nat.zero_add, Nat.add_zero, Nat.reduceAdd, splice, List.take, List.drop, List.length, List.nil_append, List.cons_append, List.append, TPoint.en, TSegment.en, TBox.en, TFeature.en, TMeet.en, TPlace.en, TCover.en, TLabel.en, TPiece.en, TLevel.en, TChart.en, TReason.en, TEdit.en, TEntry.en, TEdition.en, TListing.en, TAtlas.en, TEvent.en, TWindow.en]))
      all_goals first
        | (refine ⟨i + 1, _, hlt, by omega, ?_, rfl, ?_, ?_⟩; (focus ((repeat' (first | exact Wk.nil | refine Wk.any ?_ | (with_reducible refine Wk.same ?_) | refine Wk.of ?_ ?_)) <;> (simp_all))); (focus ((repeat' (first | exact Fits.nil _ | refine Fits.cons ?_ ?_ | exact Fits.any _ | exact Fits.c _ _ | exact Fits.own (by rfl) | exact Fits.ref (by rfl) | exact Fits.clo (by assumption) | exact Fits.clo (clo_of (by rfl)) | exact Fits.clo (clo_fn _))))); (focus (exact FitsM.nil _)))
    · have ht := lt_false (f := TFeature.en) hlt
      have e : i = l.length := by omega
      subst e
      try rw [List.take_length]
      repeat' ((first
        | ((with_reducible show OpA _ _ _ _ _ _); first
          | refine OpA.quiet (QOp.atk_ro (by rfl) (by rfl) (by rfl) (TT_ok.sl _ _ (by rfl)) (Nat.le_of_ble_eq_true (by rfl)) (by first | assumption | omega) (by assumption)) ?_
          | refine OpA.quiet (QOp.ld1_ro (by rfl) (by rfl) (by assumption) (TT_ok.ld _ _ (by rfl)) (by rfl)) ?_
          | refine OpA.quiet (QOp.ldr_ro (by rfl) (by rfl) (by assumption) (TT_ok.ld _ _ (by rfl)) (Nat.le_of_ble_eq_true (by rfl))) ?_
          | refine OpA.quiet (QOp.at_own (by rfl) (TT_ok.sl _ _ (by rfl)) (by rfl) (by rfl) (by rfl) (by rfl) (by rfl) (by rfl) (by first | assumption | omega | decide) (by first | assumption | omega | decide)) ?_
          | refine OpA.quiet (QOp.len_own (by rfl) (TT_ok.sl _ _ (by rfl)) (by rfl) (by rfl) (by rfl) (by rfl)) ?_
          | (refine OpA.quiet (QOp.cat (by rfl) (by rfl) (by rfl) (by first | assumption | (simp only [ByteArray.size_append, bs_size] at *; omega))) ?_)
          | refine OpA.pcall (by rfl) Try.func42 rfl rfl (by rfl) (by first | exact clo_all (by rfl) | repeat' (first | exact clo_nil | refine clo_cons ?_ ?_ | exact clo_of (by rfl) | exact clo_fn _ | assumption)) (eqFeature_self x (by assumption)) (by first | exact clo_of (by rfl) | assumption) ?_)
        | ((with_reducible show AL _ _ _ _ _ _ _); first
          | refine AL.q TT_ok rfl (by rfl) ?_
          | refine AL.step rfl ?_
          | refine AL.nil ?_)
        | ((with_reducible show DL _ _ _ _ _ _ _); first
          | refine DL.q TT_ok rfl (by rfl) ?_
          | refine DL.p rfl (POp.quiet (QOp.atk_ro (by rfl) (by rfl) (by rfl) (TT_ok.sl _ _ (by rfl)) (Nat.le_of_ble_eq_true (by rfl)) (by first | assumption | omega) (by assumption))) ?_
          | refine DL.p rfl (POp.quiet (QOp.ld1_ro (by rfl) (by rfl) (by assumption) (TT_ok.ld _ _ (by rfl)) (by rfl))) ?_
          | refine DL.p rfl (POp.quiet (QOp.ldr_ro (by rfl) (by rfl) (by assumption) (TT_ok.ld _ _ (by rfl)) (Nat.le_of_ble_eq_true (by rfl)))) ?_
          | refine DL.p rfl (POp.quiet (QOp.at_own (by rfl) (TT_ok.sl _ _ (by rfl)) (by rfl) (by rfl) (by rfl) (by rfl) (by rfl) (by rfl) (by first | assumption | omega | decide) (by first | assumption | omega | decide))) ?_
          | refine DL.p rfl (POp.quiet (QOp.len_own (by rfl) (TT_ok.sl _ _ (by rfl)) (by rfl) (by rfl) (by rfl) (by rfl))) ?_
          | (refine DL.p rfl (POp.quiet (QOp.cat (by rfl) (by rfl) (by rfl) (by first | assumption | (simp only [ByteArray.size_append, bs_size] at *; omega)))) ?_)
          | refine DL.p rfl (POp.pcall (by rfl) Try.func42 rfl rfl (by rfl) (by first | exact clo_all (by rfl) | repeat' (first | exact clo_nil | refine clo_cons ?_ ?_ | exact clo_of (by rfl) | exact clo_fn _ | assumption)) (eqFeature_self x (by assumption)) (by first | exact clo_of (by rfl) | assumption)) ?_
          | refine DL.nil ?_)
        | ((with_reducible show AW _ _ _ _ _ _); first
          | refine AW.seq ?_
          | refine AW.region ?_
          | refine AW.skip ?_
          | refine AW.drawn (id := 6) 8 (by kernel_rfl) (by kernel_rfl) (by rfl) ?_
          | (refine AW.cond (by rfl) (fun h => ?_) ?_; rotate_left; focus (intro h; (try simp only [Bool.not_eq_true', Bool.not_eq_false'] at h); first | (cases h; done) | exact clash (by with_reducible_and_instances assumption) h | exact clash h (by with_reducible_and_instances assumption) | exact absurd h (by decide) | (refine absurd h ?_; simp; done)))
          | (refine AW.cond (by rfl) ?_ (fun h => ?_); focus (intro h; (try simp only [Bool.not_eq_true', Bool.not_eq_false'] at h); first | (cases h; done) | exact clash (by with_reducible_and_instances assumption) h | exact clash h (by with_reducible_and_instances assumption) | exact absurd h (by decide) | (refine absurd h ?_; simp; done)))
          | (refine AW.cond (by rfl) ?_ ?_ <;> (intro h; try simp only [Bool.not_eq_true', Bool.not_eq_false'] at h))
          | refine AW.block ?_
          | refine AW.exit ?_
          | refine AW.ret ?_)
        | with_reducible refine (if_pos rfl).mpr ?_
        | with_reducible refine (if_neg (by decide)).mpr ?_) <;> (try dsimp only [dput, List.set, cond_true, cond_false, Nat.zero_add, Nat.add_zero, Nat.reduceAdd, splice, List.take, List.drop, List.length, List.nil_append, List.cons_append, List.append, TPoint.en, TSegment.en, TBox.en, TFeature.en, TMeet.en, TPlace.en, TCover.en, TLabel.en, TPiece.en, TLevel.en, TChart.en, TReason.en, TEdit.en, TEntry.en, TEdition.en, TListing.en, TAtlas.en, TEvent.en, TWindow.en]))
      all_goals exact Fin.one rfl (RV.tmp (by rfl)) (clo_c _) ⟨by rfl, rfl⟩

end Go.Proofs.Ytbkcoechoblndaa.Abs
