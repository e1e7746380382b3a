/- The walks of the laws' equality tests, on equal arguments. -/
import Derived.Test.YtbkcoechoblndaaWkFacts
import Derived.Test.YtbkcoechoblndaaWkSz
namespace Go.Proofs.Ytbkcoechoblndaa.Abs
open Go.Proofs Go.RowKit
set_option linter.unusedVariables false
set_option linter.unusedSimpArgs false
set_option maxRecDepth 100000 in
set_option maxHeartbeats 2000000 in
theorem eqPoint_self (x : TPoint) : VCalls Try.prog 111 [.agg x.en, .agg x.en] (fun r M => r = B true ∧ M = []) := by
  refine VCalls.body Try.func111 rfl 13 rfl (fun E => ?_)
  simp only [List.reduceReplicate, List.cons_append, List.nil_append]
  dsimp only [TPoint.en]
  repeat' ((first
    | refine AW.seq ?_
    | refine AW.region ?_
    | refine AW.skip ?_
    | refine AL.q TT_ok rfl (by rfl) ?_
    | refine AL.step rfl ?_
    | refine OpA.quiet (QOp.sEq (by rfl) (by rfl) (by rfl) (by first | exact flk109.1) (by rfl) (by rfl) (by rfl) (by rfl) (by rfl) (by rfl) (by rfl) (by rfl)) ?_
    | refine OpA.box (by rfl) (by rfl) (by rfl) ?_
    | (refine AW.cond (by rfl) (fun h => ?_) ?_; rotate_left; focus (intro h; (try simp only [Bool.not_eq_true', Bool.not_eq_false'] at h); first | (cases h; done) | exact clash (by with_reducible_and_instances assumption) h | exact clash h (by with_reducible_and_instances assumption) | exact absurd h (by decide) | (refine absurd h ?_; simp; done)))
    | (refine AW.cond (by rfl) ?_ (fun h => ?_); focus (intro h; (try simp only [Bool.not_eq_true', Bool.not_eq_false'] at h); first | (cases h; done) | exact clash (by with_reducible_and_instances assumption) h | exact clash h (by with_reducible_and_instances assumption) | exact absurd h (by decide) | (refine absurd h ?_; simp; done)))
    | (refine AW.cond (by rfl) ?_ ?_ <;> (intro h; try simp only [Bool.not_eq_true', Bool.not_eq_false'] at h))
    | refine AL.nil ?_
    | refine AW.ret ?_) <;> (try dsimp only [dput, List.set, cond_true, cond_false, Nat.zero_add, Nat.add_zero, Nat.reduceAdd, splice, List.take, List.drop, List.length, List.nil_append, List.cons_append, TPoint.en, TSegment.en, TBox.en, TFeature.en, TMeet.en, TPlace.en, TCover.en, TLabel.en, TPiece.en, TLevel.en, TChart.en, TReason.en, TEdit.en, TEntry.en, TEdition.en, TListing.en, TAtlas.en, TEvent.en, TWindow.en]))
  all_goals exact Fin.one rfl (RV.tmp (by rfl)) (clo_c _) ⟨by simp_all, rfl⟩

set_option maxRecDepth 100000 in
set_option maxHeartbeats 2000000 in
theorem eqPointS_self (l : List TPoint) (hl : l.length ≤ 1048576) : VCalls Try.prog 86 [.ro 2 (l.map TPoint.en), .ro 2 (l.map TPoint.en)] (fun r M => r = B true ∧ M = []) := by
  refine VCalls.bodyE Try.func86 rfl 25 rfl (fun E hE => ?_)
  simp only [List.reduceReplicate, List.cons_append, List.nil_append]
  repeat' ((first
    | refine AW.seq ?_
    | refine AW.region ?_
    | refine AW.skip ?_
    | refine AL.q TT_ok rfl (by rfl) ?_
    | refine AL.step rfl ?_
    | refine OpA.quiet (QOp.atk_ro (by rfl) (by rfl) (by rfl) (by first | exact slk66) (Nat.le_of_ble_eq_true (by rfl)) (by first | assumption | omega) (by assumption)) ?_
    | refine OpA.quiet (QOp.ld1_ro (by rfl) (by rfl) (by assumption) (by first | exact ldk2 | exact ldk3 | exact ldk4 | exact ldk5 | exact ldk6 | exact ldk7 | exact ldk9 | exact ldk11 | exact ldk12 | exact ldk13 | exact ldk15 | exact ldk16 | exact ldk17 | exact ldk18 | exact ldk19 | exact ldk21 | exact ldk22 | exact ldk23 | exact ldk66 | exact ldk109) (by rfl)) ?_
    | refine OpA.quiet (QOp.ldr_ro (by rfl) (by rfl) (by assumption) (by first | exact ldk2 | exact ldk3 | exact ldk4 | exact ldk5 | exact ldk6 | exact ldk7 | exact ldk9 | exact ldk11 | exact ldk12 | exact ldk13 | exact ldk15 | exact ldk16 | exact ldk17 | exact ldk18 | exact ldk19 | exact ldk21 | exact ldk22 | exact ldk23 | exact ldk66 | exact ldk109) (Nat.le_of_ble_eq_true (by rfl))) ?_
    | refine OpA.quiet (QOp.at_own (by rfl) (by first | exact slk66) (by rfl) (by rfl) (by rfl) (by rfl) (by rfl) (by rfl) (by first | assumption | omega | decide) (by first | assumption | omega | decide)) ?_
    | refine OpA.quiet (QOp.len_own (by rfl) (by first | exact slk66) (by rfl) (by rfl) (by rfl) (by rfl)) ?_
    | refine OpA.quiet (QOp.sEq (by rfl) (by rfl) (by rfl) (by first | exact flk109.1) (by rfl) (by rfl) (by rfl) (by rfl) (by rfl) (by rfl) (by rfl) (by rfl)) ?_
    | refine OpA.pcall (by rfl) Try.func111 rfl rfl (by rfl) (by first | exact clo_all (by rfl) | (intro x hx; simp only [List.mem_cons, List.not_mem_nil, or_false] at hx; rcases hx with rfl | rfl | rfl | rfl | rfl | rfl | rfl | rfl <;> first | exact clo_of (by rfl) | exact clo_fn _ | assumption)) (eqPoint_self x) (by first | exact clo_of (by rfl) | assumption) ?_
    | (refine AW.loopD hE (fun i : Nat => [.ro 2 (l.map TPoint.en), .ro 2 (l.map TPoint.en), .any, .any, .any, I i, .any, .any, .any, .any, .any, .any, .any, .any, .any, .any, .any, .any, .any, .any, .any, .any, .any, .any, .any, .any, .any]) (fun i => []) (fun i => l.length - i) (fun i => i ≤ l.length) 0 (by simp) ?_ (by first | rfl | (simp [fil_zero]; done)) ?_)
    | refine AW.drawn 8 (by kernel_rfl) (by kernel_rfl) (by rfl) ?_
    | refine DL.q TT_ok rfl (by rfl) ?_
    | refine DL.p rfl (POp.quiet (QOp.atk_ro (by rfl) (by rfl) (by rfl) (by first | exact slk66) (Nat.le_of_ble_eq_true (by rfl)) (by first | assumption | omega) (by assumption))) ?_
    | refine DL.p rfl (POp.quiet (QOp.ld1_ro (by rfl) (by rfl) (by assumption) (by first | exact ldk2 | exact ldk3 | exact ldk4 | exact ldk5 | exact ldk6 | exact ldk7 | exact ldk9 | exact ldk11 | exact ldk12 | exact ldk13 | exact ldk15 | exact ldk16 | exact ldk17 | exact ldk18 | exact ldk19 | exact ldk21 | exact ldk22 | exact ldk23 | exact ldk66 | exact ldk109) (by rfl))) ?_
    | refine DL.p rfl (POp.quiet (QOp.ldr_ro (by rfl) (by rfl) (by assumption) (by first | exact ldk2 | exact ldk3 | exact ldk4 | exact ldk5 | exact ldk6 | exact ldk7 | exact ldk9 | exact ldk11 | exact ldk12 | exact ldk13 | exact ldk15 | exact ldk16 | exact ldk17 | exact ldk18 | exact ldk19 | exact ldk21 | exact ldk22 | exact ldk23 | exact ldk66 | exact ldk109) (Nat.le_of_ble_eq_true (by rfl)))) ?_
    | refine DL.p rfl (POp.quiet (QOp.at_own (by rfl) (by first | exact slk66) (by rfl) (by rfl) (by rfl) (by rfl) (by rfl) (by rfl) (by first | assumption | omega | decide) (by first | assumption | omega | decide))) ?_
    | refine DL.p rfl (POp.quiet (QOp.len_own (by rfl) (by first | exact slk66) (by rfl) (by rfl) (by rfl) (by rfl))) ?_
    | refine DL.p rfl (POp.quiet (QOp.sEq (by rfl) (by rfl) (by rfl) (by first | exact flk109.1) (by rfl) (by rfl) (by rfl) (by rfl) (by rfl) (by rfl) (by rfl) (by rfl))) ?_
    | (refine DL.p rfl (POp.pcall (by rfl) Try.func111 rfl rfl (by rfl) (by first | exact clo_all (by rfl) | (intro x hx; simp only [List.mem_cons, List.not_mem_nil, or_false] at hx; rcases hx with rfl | rfl | rfl | rfl | rfl | rfl | rfl | rfl <;> first | exact clo_of (by rfl) | exact clo_fn _ | assumption)) (eqPoint_self x) (by first | exact clo_of (by rfl) | assumption)) ?_)
    | refine DL.nil ?_
    | (refine AW.cond (by rfl) (fun h => ?_) ?_; rotate_left; focus (intro h; (try simp only [Bool.not_eq_true', Bool.not_eq_false'] at h); first | (cases h; done) | exact clash (by with_reducible_and_instances assumption) h | exact clash h (by with_reducible_and_instances assumption) | exact absurd h (by decide) | (refine absurd h ?_; simp; done)))
    | (refine AW.cond (by rfl) ?_ (fun h => ?_); focus (intro h; (try simp only [Bool.not_eq_true', Bool.not_eq_false'] at h); first | (cases h; done) | exact clash (by with_reducible_and_instances assumption) h | exact clash h (by with_reducible_and_instances assumption) | exact absurd h (by decide) | (refine absurd h ?_; simp; done)))
    | (refine AW.cond (by rfl) ?_ ?_ <;> (intro h; try simp only [Bool.not_eq_true', Bool.not_eq_false'] at h))
    | refine AW.block ?_
    | refine AW.exit ?_
    | refine AL.nil ?_
    | refine AW.ret ?_) <;> (try dsimp only [dput, List.set, cond_true, cond_false, Nat.zero_add, Nat.add_zero, Nat.reduceAdd, splice, List.take, List.drop, List.length, List.nil_append, List.cons_append, TPoint.en, TSegment.en, TBox.en, TFeature.en, TMeet.en, TPlace.en, TCover.en, TLabel.en, TPiece.en, TLevel.en, TChart.en, TReason.en, TEdit.en, TEntry.en, TEdition.en, TListing.en, TAtlas.en, TEvent.en, TWindow.en]))
  · (repeat' (first | exact Wk.nil | refine Wk.any ?_ | (with_reducible refine Wk.same ?_) | refine Wk.of ?_ ?_)) <;> first | rfl | (simp)
  · intro i hi
    have hclo : Clo (.ro 2 (l.map TPoint.en)) := clo_list TPoint.clo_en
    by_cases hlt : i < l.length
    · obtain ⟨x, hx⟩ : ∃ x, l[i]? = some x := ⟨_, List.getElem?_eq_getElem hlt⟩
      have hg := map_get (f := TPoint.en) hx
      have ht := lt_true (f := TPoint.en) hlt
      have hn := next_ix hlt (by omega)
      repeat' ((first
        | refine AW.seq ?_
        | refine AW.region ?_
        | refine AW.skip ?_
        | refine AL.q TT_ok rfl (by rfl) ?_
        | refine AL.step rfl ?_
        | refine OpA.quiet (QOp.atk_ro (by rfl) (by rfl) (by rfl) (by first | exact slk66) (Nat.le_of_ble_eq_true (by rfl)) (by first | assumption | omega) (by assumption)) ?_
        | refine OpA.quiet (QOp.ld1_ro (by rfl) (by rfl) (by assumption) (by first | exact ldk2 | exact ldk3 | exact ldk4 | exact ldk5 | exact ldk6 | exact ldk7 | exact ldk9 | exact ldk11 | exact ldk12 | exact ldk13 | exact ldk15 | exact ldk16 | exact ldk17 | exact ldk18 | exact ldk19 | exact ldk21 | exact ldk22 | exact ldk23 | exact ldk66 | exact ldk109) (by rfl)) ?_
        | refine OpA.quiet (QOp.ldr_ro (by rfl) (by rfl) (by assumption) (by first | exact ldk2 | exact ldk3 | exact ldk4 | exact ldk5 | exact ldk6 | exact ldk7 | exact ldk9 | exact ldk11 | exact ldk12 | exact ldk13 | exact ldk15 | exact ldk16 | exact ldk17 | exact ldk18 | exact ldk19 | exact ldk21 | exact ldk22 | exact ldk23 | exact ldk66 | exact ldk109) (Nat.le_of_ble_eq_true (by rfl))) ?_
        | refine OpA.quiet (QOp.at_own (by rfl) (by first | exact slk66) (by rfl) (by rfl) (by rfl) (by rfl) (by rfl) (by rfl) (by first | assumption | omega | decide) (by first | assumption | omega | decide)) ?_
        | refine OpA.quiet (QOp.len_own (by rfl) (by first | exact slk66) (by rfl) (by rfl) (by rfl) (by rfl)) ?_
        | refine OpA.quiet (QOp.sEq (by rfl) (by rfl) (by rfl) (by first | exact flk109.1) (by rfl) (by rfl) (by rfl) (by rfl) (by rfl) (by rfl) (by rfl) (by rfl)) ?_
        | refine OpA.pcall (by rfl) Try.func111 rfl rfl (by rfl) (by first | exact clo_all (by rfl) | (intro x hx; simp only [List.mem_cons, List.not_mem_nil, or_false] at hx; rcases hx with rfl | rfl | rfl | rfl | rfl | rfl | rfl | rfl <;> first | exact clo_of (by rfl) | exact clo_fn _ | assumption)) (eqPoint_self x) (by first | exact clo_of (by rfl) | assumption) ?_
        | refine AW.drawn 8 (by kernel_rfl) (by kernel_rfl) (by rfl) ?_
        | refine DL.q TT_ok rfl (by rfl) ?_
        | refine DL.p rfl (POp.quiet (QOp.atk_ro (by rfl) (by rfl) (by rfl) (by first | exact slk66) (Nat.le_of_ble_eq_true (by rfl)) (by first | assumption | omega) (by assumption))) ?_
        | refine DL.p rfl (POp.quiet (QOp.ld1_ro (by rfl) (by rfl) (by assumption) (by first | exact ldk2 | exact ldk3 | exact ldk4 | exact ldk5 | exact ldk6 | exact ldk7 | exact ldk9 | exact ldk11 | exact ldk12 | exact ldk13 | exact ldk15 | exact ldk16 | exact ldk17 | exact ldk18 | exact ldk19 | exact ldk21 | exact ldk22 | exact ldk23 | exact ldk66 | exact ldk109) (by rfl))) ?_
        | refine DL.p rfl (POp.quiet (QOp.ldr_ro (by rfl) (by rfl) (by assumption) (by first | exact ldk2 | exact ldk3 | exact ldk4 | exact ldk5 | exact ldk6 | exact ldk7 | exact ldk9 | exact ldk11 | exact ldk12 | exact ldk13 | exact ldk15 | exact ldk16 | exact ldk17 | exact ldk18 | exact ldk19 | exact ldk21 | exact ldk22 | exact ldk23 | exact ldk66 | exact ldk109) (Nat.le_of_ble_eq_true (by rfl)))) ?_
        | refine DL.p rfl (POp.quiet (QOp.at_own (by rfl) (by first | exact slk66) (by rfl) (by rfl) (by rfl) (by rfl) (by rfl) (by rfl) (by first | assumption | omega | decide) (by first | assumption | omega | decide))) ?_
        | refine DL.p rfl (POp.quiet (QOp.len_own (by rfl) (by first | exact slk66) (by rfl) (by rfl) (by rfl) (by rfl))) ?_
        | refine DL.p rfl (POp.quiet (QOp.sEq (by rfl) (by rfl) (by rfl) (by first | exact flk109.1) (by rfl) (by rfl) (by rfl) (by rfl) (by rfl) (by rfl) (by rfl) (by rfl))) ?_
        | (refine DL.p rfl (POp.pcall (by rfl) Try.func111 rfl rfl (by rfl) (by first | exact clo_all (by rfl) | (intro x hx; simp only [List.mem_cons, List.not_mem_nil, or_false] at hx; rcases hx with rfl | rfl | rfl | rfl | rfl | rfl | rfl | rfl <;> first | exact clo_of (by rfl) | exact clo_fn _ | assumption)) (eqPoint_self x) (by first | exact clo_of (by rfl) | assumption)) ?_)
        | refine DL.nil ?_
        | (refine AW.cond (by rfl) (fun h => ?_) ?_; rotate_left; focus (intro h; (try simp only [Bool.not_eq_true', Bool.not_eq_false'] at h); first | (cases h; done) | exact clash (by with_reducible_and_instances assumption) h | exact clash h (by with_reducible_and_instances assumption) | exact absurd h (by decide) | (refine absurd h ?_; simp; done)))
        | (refine AW.cond (by rfl) ?_ (fun h => ?_); focus (intro h; (try simp only [Bool.not_eq_true', Bool.not_eq_false'] at h); first | (cases h; done) | exact clash (by with_reducible_and_instances assumption) h | exact clash h (by with_reducible_and_instances assumption) | exact absurd h (by decide) | (refine absurd h ?_; simp; done)))
        | (refine AW.cond (by rfl) ?_ ?_ <;> (intro h; try simp only [Bool.not_eq_true', Bool.not_eq_false'] at h))
        | refine AW.block ?_
        | refine AW.exit ?_
        | refine AL.nil ?_
        | refine AW.ret ?_) <;> (try dsimp only [dput, List.set, cond_true, cond_false, Nat.zero_add, Nat.add_zero, Nat.reduceAdd, splice, List.take, List.drop, List.length, List.nil_append, List.cons_append, TPoint.en, TSegment.en, TBox.en, TFeature.en, TMeet.en, TPlace.en, TCover.en, TLabel.en, TPiece.en, TLevel.en, TChart.en, TReason.en, TEdit.en, TEntry.en, TEdition.en, TListing.en, TAtlas.en, TEvent.en, TWindow.en]))
      all_goals first
        | (refine ⟨i + 1, _, hlt, by omega, ?_, rfl, ?_, ?_⟩; (focus ((repeat' (first | exact Wk.nil | refine Wk.any ?_ | (with_reducible refine Wk.same ?_) | refine Wk.of ?_ ?_)) <;> (simp_all))); (focus ((repeat' (first | exact Fits.nil _ | refine Fits.cons ?_ ?_ | exact Fits.any _ | exact Fits.c _ _ | exact Fits.own (by rfl) | exact Fits.ref (by rfl) | exact Fits.clo (by assumption) | exact Fits.clo (clo_of (by rfl)) | exact Fits.clo (clo_fn _))))); (focus (exact FitsM.nil _)))
    · have ht := lt_false (f := TPoint.en) hlt
      have e : i = l.length := by omega
      subst e
      try rw [List.take_length]
      repeat' ((first
        | refine AW.seq ?_
        | refine AW.region ?_
        | refine AW.skip ?_
        | refine AL.q TT_ok rfl (by rfl) ?_
        | refine AL.step rfl ?_
        | refine OpA.quiet (QOp.atk_ro (by rfl) (by rfl) (by rfl) (by first | exact slk66) (Nat.le_of_ble_eq_true (by rfl)) (by first | assumption | omega) (by assumption)) ?_
        | refine OpA.quiet (QOp.ld1_ro (by rfl) (by rfl) (by assumption) (by first | exact ldk2 | exact ldk3 | exact ldk4 | exact ldk5 | exact ldk6 | exact ldk7 | exact ldk9 | exact ldk11 | exact ldk12 | exact ldk13 | exact ldk15 | exact ldk16 | exact ldk17 | exact ldk18 | exact ldk19 | exact ldk21 | exact ldk22 | exact ldk23 | exact ldk66 | exact ldk109) (by rfl)) ?_
        | refine OpA.quiet (QOp.ldr_ro (by rfl) (by rfl) (by assumption) (by first | exact ldk2 | exact ldk3 | exact ldk4 | exact ldk5 | exact ldk6 | exact ldk7 | exact ldk9 | exact ldk11 | exact ldk12 | exact ldk13 | exact ldk15 | exact ldk16 | exact ldk17 | exact ldk18 | exact ldk19 | exact ldk21 | exact ldk22 | exact ldk23 | exact ldk66 | exact ldk109) (Nat.le_of_ble_eq_true (by rfl))) ?_
        | refine OpA.quiet (QOp.at_own (by rfl) (by first | exact slk66) (by rfl) (by rfl) (by rfl) (by rfl) (by rfl) (by rfl) (by first | assumption | omega | decide) (by first | assumption | omega | decide)) ?_
        | refine OpA.quiet (QOp.len_own (by rfl) (by first | exact slk66) (by rfl) (by rfl) (by rfl) (by rfl)) ?_
        | refine OpA.quiet (QOp.sEq (by rfl) (by rfl) (by rfl) (by first | exact flk109.1) (by rfl) (by rfl) (by rfl) (by rfl) (by rfl) (by rfl) (by rfl) (by rfl)) ?_
        | refine OpA.pcall (by rfl) Try.func111 rfl rfl (by rfl) (by first | exact clo_all (by rfl) | (intro x hx; simp only [List.mem_cons, List.not_mem_nil, or_false] at hx; rcases hx with rfl | rfl | rfl | rfl | rfl | rfl | rfl | rfl <;> first | exact clo_of (by rfl) | exact clo_fn _ | assumption)) (eqPoint_self x) (by first | exact clo_of (by rfl) | assumption) ?_
        | refine AW.drawn 8 (by kernel_rfl) (by kernel_rfl) (by rfl) ?_
        | refine DL.q TT_ok rfl (by rfl) ?_
        | refine DL.p rfl (POp.quiet (QOp.atk_ro (by rfl) (by rfl) (by rfl) (by first | exact slk66) (Nat.le_of_ble_eq_true (by rfl)) (by first | assumption | omega) (by assumption))) ?_
        | refine DL.p rfl (POp.quiet (QOp.ld1_ro (by rfl) (by rfl) (by assumption) (by first | exact ldk2 | exact ldk3 | exact ldk4 | exact ldk5 | exact ldk6 | exact ldk7 | exact ldk9 | exact ldk11 | exact ldk12 | exact ldk13 | exact ldk15 | exact ldk16 | exact ldk17 | exact ldk18 | exact ldk19 | exact ldk21 | exact ldk22 | exact ldk23 | exact ldk66 | exact ldk109) (by rfl))) ?_
        | refine DL.p rfl (POp.quiet (QOp.ldr_ro (by rfl) (by rfl) (by assumption) (by first | exact ldk2 | exact ldk3 | exact ldk4 | exact ldk5 | exact ldk6 | exact ldk7 | exact ldk9 | exact ldk11 | exact ldk12 | exact ldk13 | exact ldk15 | exact ldk16 | exact ldk17 | exact ldk18 | exact ldk19 | exact ldk21 | exact ldk22 | exact ldk23 | exact ldk66 | exact ldk109) (Nat.le_of_ble_eq_true (by rfl)))) ?_
        | refine DL.p rfl (POp.quiet (QOp.at_own (by rfl) (by first | exact slk66) (by rfl) (by rfl) (by rfl) (by rfl) (by rfl) (by rfl) (by first | assumption | omega | decide) (by first | assumption | omega | decide))) ?_
        | refine DL.p rfl (POp.quiet (QOp.len_own (by rfl) (by first | exact slk66) (by rfl) (by rfl) (by rfl) (by rfl))) ?_
        | refine DL.p rfl (POp.quiet (QOp.sEq (by rfl) (by rfl) (by rfl) (by first | exact flk109.1) (by rfl) (by rfl) (by rfl) (by rfl) (by rfl) (by rfl) (by rfl) (by rfl))) ?_
        | (refine DL.p rfl (POp.pcall (by rfl) Try.func111 rfl rfl (by rfl) (by first | exact clo_all (by rfl) | (intro x hx; simp only [List.mem_cons, List.not_mem_nil, or_false] at hx; rcases hx with rfl | rfl | rfl | rfl | rfl | rfl | rfl | rfl <;> first | exact clo_of (by rfl) | exact clo_fn _ | assumption)) (eqPoint_self x) (by first | exact clo_of (by rfl) | assumption)) ?_)
        | refine DL.nil ?_
        | (refine AW.cond (by rfl) (fun h => ?_) ?_; rotate_left; focus (intro h; (try simp only [Bool.not_eq_true', Bool.not_eq_false'] at h); first | (cases h; done) | exact clash (by with_reducible_and_instances assumption) h | exact clash h (by with_reducible_and_instances assumption) | exact absurd h (by decide) | (refine absurd h ?_; simp; done)))
        | (refine AW.cond (by rfl) ?_ (fun h => ?_); focus (intro h; (try simp only [Bool.not_eq_true', Bool.not_eq_false'] at h); first | (cases h; done) | exact clash (by with_reducible_and_instances assumption) h | exact clash h (by with_reducible_and_instances assumption) | exact absurd h (by decide) | (refine absurd h ?_; simp; done)))
        | (refine AW.cond (by rfl) ?_ ?_ <;> (intro h; try simp only [Bool.not_eq_true', Bool.not_eq_false'] at h))
        | refine AW.block ?_
        | refine AW.exit ?_
        | refine AL.nil ?_
        | refine AW.ret ?_) <;> (try dsimp only [dput, List.set, cond_true, cond_false, Nat.zero_add, Nat.add_zero, Nat.reduceAdd, splice, List.take, List.drop, List.length, List.nil_append, List.cons_append, TPoint.en, TSegment.en, TBox.en, TFeature.en, TMeet.en, TPlace.en, TCover.en, TLabel.en, TPiece.en, TLevel.en, TChart.en, TReason.en, TEdit.en, TEntry.en, TEdition.en, TListing.en, TAtlas.en, TEvent.en, TWindow.en]))
      all_goals exact Fin.one rfl (RV.tmp (by rfl)) (clo_c _) ⟨by rfl, rfl⟩

set_option maxRecDepth 100000 in
set_option maxHeartbeats 2000000 in
theorem eqFeature_self (x : TFeature) (hs : x.sm) : VCalls Try.prog 42 [.agg x.en, .agg x.en] (fun r M => r = B true ∧ M = []) := by
  refine VCalls.body Try.func42 rfl 29 rfl (fun E => ?_)
  simp only [List.reduceReplicate, List.cons_append, List.nil_append]
  have hclo0 : Clo (.ro 2 (x.points.map TPoint.en)) := clo_list TPoint.clo_en
  have hcle : Clo (.agg x.en) := Clo.agg x.clo_en
  have hs' := hs
  obtain hs4 := hs
  dsimp only [TFeature.en]
  repeat' ((first
    | refine AW.seq ?_
    | refine AW.region ?_
    | refine AW.skip ?_
    | refine AL.q TT_ok rfl (by rfl) ?_
    | refine AL.step rfl ?_
    | refine OpA.quiet (QOp.ld1_ro (by rfl) (by rfl) (by assumption) (by first | exact ldk2 | exact ldk3 | exact ldk4 | exact ldk5 | exact ldk6 | exact ldk7 | exact ldk8 | exact ldk9 | exact ldk10 | exact ldk11 | exact ldk12 | exact ldk13 | exact ldk15 | exact ldk16 | exact ldk17 | exact ldk18 | exact ldk21 | exact ldk22 | exact ldk23 | exact ldk29 | exact ldk65 | exact ldk66 | exact ldk68 | exact ldk109) (by rfl)) ?_
    | refine OpA.quiet (QOp.ldr_ro (by rfl) (by rfl) (by assumption) (by first | exact ldk2 | exact ldk3 | exact ldk4 | exact ldk5 | exact ldk6 | exact ldk7 | exact ldk8 | exact ldk9 | exact ldk10 | exact ldk11 | exact ldk12 | exact ldk13 | exact ldk15 | exact ldk16 | exact ldk17 | exact ldk18 | exact ldk21 | exact ldk22 | exact ldk23 | exact ldk29 | exact ldk65 | exact ldk66 | exact ldk68 | exact ldk109) (Nat.le_of_ble_eq_true (by rfl))) ?_
    | refine OpA.quiet (QOp.sEq (by rfl) (by rfl) (by rfl) (by first | exact flk109.1) (by rfl) (by rfl) (by rfl) (by rfl) (by rfl) (by rfl) (by rfl) (by rfl)) ?_
    | refine OpA.box (by rfl) (by rfl) (by rfl) ?_
    | refine OpA.pcall (by rfl) Try.func86 rfl rfl (by rfl) (by first | exact clo_all (by rfl) | (intro x hx; simp only [List.mem_cons, List.not_mem_nil, or_false] at hx; rcases hx with rfl | rfl | rfl | rfl | rfl | rfl | rfl | rfl <;> first | exact clo_of (by rfl) | exact clo_fn _ | assumption)) (eqPointS_self _ (by assumption)) (by first | exact clo_of (by rfl) | assumption) ?_
    | (refine AW.cond (by rfl) (fun h => ?_) ?_; rotate_left; focus (intro h; (try simp only [Bool.not_eq_true', Bool.not_eq_false'] at h); first | (cases h; done) | exact clash (by with_reducible_and_instances assumption) h | exact clash h (by with_reducible_and_instances assumption) | exact absurd h (by decide) | (refine absurd h ?_; simp; done)))
    | (refine AW.cond (by rfl) ?_ (fun h => ?_); focus (intro h; (try simp only [Bool.not_eq_true', Bool.not_eq_false'] at h); first | (cases h; done) | exact clash (by with_reducible_and_instances assumption) h | exact clash h (by with_reducible_and_instances assumption) | exact absurd h (by decide) | (refine absurd h ?_; simp; done)))
    | (refine AW.cond (by rfl) ?_ ?_ <;> (intro h; try simp only [Bool.not_eq_true', Bool.not_eq_false'] at h))
    | refine AL.nil ?_
    | refine AW.ret ?_) <;> (try dsimp only [dput, List.set, cond_true, cond_false, Nat.zero_add, Nat.add_zero, Nat.reduceAdd, splice, List.take, List.drop, List.length, List.nil_append, List.cons_append, TPoint.en, TSegment.en, TBox.en, TFeature.en, TMeet.en, TPlace.en, TCover.en, TLabel.en, TPiece.en, TLevel.en, TChart.en, TReason.en, TEdit.en, TEntry.en, TEdition.en, TListing.en, TAtlas.en, TEvent.en, TWindow.en]))
  all_goals exact Fin.one rfl (RV.tmp (by rfl)) (clo_c _) ⟨by simp_all, rfl⟩

set_option maxRecDepth 100000 in
set_option maxHeartbeats 2000000 in
theorem eqFeatureS_self (l : List TFeature) (hl : l.length ≤ 1048576) (hp : ∀ x ∈ l, x.sm) : VCalls Try.prog 17 [.ro 5 (l.map TFeature.en), .ro 5 (l.map TFeature.en)] (fun r M => r = B true ∧ M = []) := by
  refine VCalls.bodyE Try.func17 rfl 25 rfl (fun E hE => ?_)
  simp only [List.reduceReplicate, List.cons_append, List.nil_append]
  repeat' ((first
    | refine AW.seq ?_
    | refine AW.region ?_
    | refine AW.skip ?_
    | refine AL.q TT_ok rfl (by rfl) ?_
    | refine AL.step rfl ?_
    | refine OpA.quiet (QOp.atk_ro (by rfl) (by rfl) (by rfl) (by first | exact slk32 | exact slk66) (Nat.le_of_ble_eq_true (by rfl)) (by first | assumption | omega) (by assumption)) ?_
    | refine OpA.quiet (QOp.ld1_ro (by rfl) (by rfl) (by assumption) (by first | exact ldk2 | exact ldk3 | exact ldk4 | exact ldk5 | exact ldk6 | exact ldk7 | exact ldk9 | exact ldk11 | exact ldk12 | exact ldk13 | exact ldk15 | exact ldk16 | exact ldk17 | exact ldk18 | exact ldk19 | exact ldk21 | exact ldk22 | exact ldk23 | exact ldk32 | exact ldk66 | exact ldk68) (by rfl)) ?_
    | refine OpA.quiet (QOp.ldr_ro (by rfl) (by rfl) (by assumption) (by first | exact ldk2 | exact ldk3 | exact ldk4 | exact ldk5 | exact ldk6 | exact ldk7 | exact ldk9 | exact ldk11 | exact ldk12 | exact ldk13 | exact ldk15 | exact ldk16 | exact ldk17 | exact ldk18 | exact ldk19 | exact ldk21 | exact ldk22 | exact ldk23 | exact ldk32 | exact ldk66 | exact ldk68) (Nat.le_of_ble_eq_true (by rfl))) ?_
    | refine OpA.quiet (QOp.at_own (by rfl) (by first | exact slk32 | exact slk66) (by rfl) (by rfl) (by rfl) (by rfl) (by rfl) (by rfl) (by first | assumption | omega | decide) (by first | assumption | omega | decide)) ?_
    | refine OpA.quiet (QOp.len_own (by rfl) (by first | exact slk32 | exact slk66) (by rfl) (by rfl) (by rfl) (by rfl)) ?_
    | refine OpA.pcall (by rfl) Try.func42 rfl rfl (by rfl) (by first | exact clo_all (by rfl) | (intro x hx; simp only [List.mem_cons, List.not_mem_nil, or_false] at hx; rcases hx with rfl | rfl | rfl | rfl | rfl | rfl | rfl | rfl <;> first | exact clo_of (by rfl) | exact clo_fn _ | assumption)) (eqFeature_self x (by assumption)) (by first | exact clo_of (by rfl) | assumption) ?_
    | (refine AW.loopD hE (fun i : Nat => [.ro 5 (l.map TFeature.en), .ro 5 (l.map TFeature.en), .any, .any, .any, I i, .any, .any, .any, .any, .any, .any, .any, .any, .any, .any, .any, .any, .any, .any, .any, .any, .any, .any, .any, .any, .any]) (fun i => []) (fun i => l.length - i) (fun i => i ≤ l.length) 0 (by simp) ?_ (by first | rfl | (simp [fil_zero]; done)) ?_)
    | refine AW.drawn 8 (by kernel_rfl) (by kernel_rfl) (by rfl) ?_
    | refine DL.q TT_ok rfl (by rfl) ?_
    | refine DL.p rfl (POp.quiet (QOp.atk_ro (by rfl) (by rfl) (by rfl) (by first | exact slk32 | exact slk66) (Nat.le_of_ble_eq_true (by rfl)) (by first | assumption | omega) (by assumption))) ?_
    | refine DL.p rfl (POp.quiet (QOp.ld1_ro (by rfl) (by rfl) (by assumption) (by first | exact ldk2 | exact ldk3 | exact ldk4 | exact ldk5 | exact ldk6 | exact ldk7 | exact ldk9 | exact ldk11 | exact ldk12 | exact ldk13 | exact ldk15 | exact ldk16 | exact ldk17 | exact ldk18 | exact ldk19 | exact ldk21 | exact ldk22 | exact ldk23 | exact ldk32 | exact ldk66 | exact ldk68) (by rfl))) ?_
    | refine DL.p rfl (POp.quiet (QOp.ldr_ro (by rfl) (by rfl) (by assumption) (by first | exact ldk2 | exact ldk3 | exact ldk4 | exact ldk5 | exact ldk6 | exact ldk7 | exact ldk9 | exact ldk11 | exact ldk12 | exact ldk13 | exact ldk15 | exact ldk16 | exact ldk17 | exact ldk18 | exact ldk19 | exact ldk21 | exact ldk22 | exact ldk23 | exact ldk32 | exact ldk66 | exact ldk68) (Nat.le_of_ble_eq_true (by rfl)))) ?_
    | refine DL.p rfl (POp.quiet (QOp.at_own (by rfl) (by first | exact slk32 | exact slk66) (by rfl) (by rfl) (by rfl) (by rfl) (by rfl) (by rfl) (by first | assumption | omega | decide) (by first | assumption | omega | decide))) ?_
    | refine DL.p rfl (POp.quiet (QOp.len_own (by rfl) (by first | exact slk32 | exact slk66) (by rfl) (by rfl) (by rfl) (by rfl))) ?_
    | (refine DL.p rfl (POp.pcall (by rfl) Try.func42 rfl rfl (by rfl) (by first | exact clo_all (by rfl) | (intro x hx; simp only [List.mem_cons, List.not_mem_nil, or_false] at hx; rcases hx with rfl | rfl | rfl | rfl | rfl | rfl | rfl | rfl <;> first | exact clo_of (by rfl) | exact clo_fn _ | assumption)) (eqFeature_self x (by assumption)) (by first | exact clo_of (by rfl) | assumption)) ?_)
    | refine DL.nil ?_
    | (refine AW.cond (by rfl) (fun h => ?_) ?_; rotate_left; focus (intro h; (try simp only [Bool.not_eq_true', Bool.not_eq_false'] at h); first | (cases h; done) | exact clash (by with_reducible_and_instances assumption) h | exact clash h (by with_reducible_and_instances assumption) | exact absurd h (by decide) | (refine absurd h ?_; simp; done)))
    | (refine AW.cond (by rfl) ?_ (fun h => ?_); focus (intro h; (try simp only [Bool.not_eq_true', Bool.not_eq_false'] at h); first | (cases h; done) | exact clash (by with_reducible_and_instances assumption) h | exact clash h (by with_reducible_and_instances assumption) | exact absurd h (by decide) | (refine absurd h ?_; simp; done)))
    | (refine AW.cond (by rfl) ?_ ?_ <;> (intro h; try simp only [Bool.not_eq_true', Bool.not_eq_false'] at h))
    | refine AW.block ?_
    | refine AW.exit ?_
    | refine AL.nil ?_
    | refine AW.ret ?_) <;> (try dsimp only [dput, List.set, cond_true, cond_false, Nat.zero_add, Nat.add_zero, Nat.reduceAdd, splice, List.take, List.drop, List.length, List.nil_append, List.cons_append, TPoint.en, TSegment.en, TBox.en, TFeature.en, TMeet.en, TPlace.en, TCover.en, TLabel.en, TPiece.en, TLevel.en, TChart.en, TReason.en, TEdit.en, TEntry.en, TEdition.en, TListing.en, TAtlas.en, TEvent.en, TWindow.en]))
  · (repeat' (first | exact Wk.nil | refine Wk.any ?_ | (with_reducible refine Wk.same ?_) | refine Wk.of ?_ ?_)) <;> first | rfl | (simp)
  · intro i hi
    have hclo : Clo (.ro 5 (l.map TFeature.en)) := clo_list TFeature.clo_en
    by_cases hlt : i < l.length
    · obtain ⟨x, hx⟩ : ∃ x, l[i]? = some x := ⟨_, List.getElem?_eq_getElem hlt⟩
      have hg := map_get (f := TFeature.en) hx
      have ht := lt_true (f := TFeature.en) hlt
      have hn := next_ix hlt (by omega)
      have hpx := hp x (List.mem_of_getElem? hx)
      have hclo0 : Clo (.ro 2 (x.points.map TPoint.en)) := clo_list TPoint.clo_en
      have hcle : Clo (.agg x.en) := Clo.agg x.clo_en
      repeat' ((first
        | refine AW.seq ?_
        | refine AW.region ?_
        | refine AW.skip ?_
        | refine AL.q TT_ok rfl (by rfl) ?_
        | refine AL.step rfl ?_
        | refine OpA.quiet (QOp.atk_ro (by rfl) (by rfl) (by rfl) (by first | exact slk32 | exact slk66) (Nat.le_of_ble_eq_true (by rfl)) (by first | assumption | omega) (by assumption)) ?_
        | refine OpA.quiet (QOp.ld1_ro (by rfl) (by rfl) (by assumption) (by first | exact ldk2 | exact ldk3 | exact ldk4 | exact ldk5 | exact ldk6 | exact ldk7 | exact ldk9 | exact ldk11 | exact ldk12 | exact ldk13 | exact ldk15 | exact ldk16 | exact ldk17 | exact ldk18 | exact ldk19 | exact ldk21 | exact ldk22 | exact ldk23 | exact ldk32 | exact ldk66 | exact ldk68) (by rfl)) ?_
        | refine OpA.quiet (QOp.ldr_ro (by rfl) (by rfl) (by assumption) (by first | exact ldk2 | exact ldk3 | exact ldk4 | exact ldk5 | exact ldk6 | exact ldk7 | exact ldk9 | exact ldk11 | exact ldk12 | exact ldk13 | exact ldk15 | exact ldk16 | exact ldk17 | exact ldk18 | exact ldk19 | exact ldk21 | exact ldk22 | exact ldk23 | exact ldk32 | exact ldk66 | exact ldk68) (Nat.le_of_ble_eq_true (by rfl))) ?_
        | refine OpA.quiet (QOp.at_own (by rfl) (by first | exact slk32 | exact slk66) (by rfl) (by rfl) (by rfl) (by rfl) (by rfl) (by rfl) (by first | assumption | omega | decide) (by first | assumption | omega | decide)) ?_
        | refine OpA.quiet (QOp.len_own (by rfl) (by first | exact slk32 | exact slk66) (by rfl) (by rfl) (by rfl) (by rfl)) ?_
        | refine OpA.pcall (by rfl) Try.func42 rfl rfl (by rfl) (by first | exact clo_all (by rfl) | (intro x hx; simp only [List.mem_cons, List.not_mem_nil, or_false] at hx; rcases hx with rfl | rfl | rfl | rfl | rfl | rfl | rfl | rfl <;> first | exact clo_of (by rfl) | exact clo_fn _ | assumption)) (eqFeature_self x (by assumption)) (by first | exact clo_of (by rfl) | assumption) ?_
        | refine AW.drawn 8 (by kernel_rfl) (by kernel_rfl) (by rfl) ?_
        | refine DL.q TT_ok rfl (by rfl) ?_
        | refine DL.p rfl (POp.quiet (QOp.atk_ro (by rfl) (by rfl) (by rfl) (by first | exact slk32 | exact slk66) (Nat.le_of_ble_eq_true (by rfl)) (by first | assumption | omega) (by assumption))) ?_
        | refine DL.p rfl (POp.quiet (QOp.ld1_ro (by rfl) (by rfl) (by assumption) (by first | exact ldk2 | exact ldk3 | exact ldk4 | exact ldk5 | exact ldk6 | exact ldk7 | exact ldk9 | exact ldk11 | exact ldk12 | exact ldk13 | exact ldk15 | exact ldk16 | exact ldk17 | exact ldk18 | exact ldk19 | exact ldk21 | exact ldk22 | exact ldk23 | exact ldk32 | exact ldk66 | exact ldk68) (by rfl))) ?_
        | refine DL.p rfl (POp.quiet (QOp.ldr_ro (by rfl) (by rfl) (by assumption) (by first | exact ldk2 | exact ldk3 | exact ldk4 | exact ldk5 | exact ldk6 | exact ldk7 | exact ldk9 | exact ldk11 | exact ldk12 | exact ldk13 | exact ldk15 | exact ldk16 | exact ldk17 | exact ldk18 | exact ldk19 | exact ldk21 | exact ldk22 | exact ldk23 | exact ldk32 | exact ldk66 | exact ldk68) (Nat.le_of_ble_eq_true (by rfl)))) ?_
        | refine DL.p rfl (POp.quiet (QOp.at_own (by rfl) (by first | exact slk32 | exact slk66) (by rfl) (by rfl) (by rfl) (by rfl) (by rfl) (by rfl) (by first | assumption | omega | decide) (by first | assumption | omega | decide))) ?_
        | refine DL.p rfl (POp.quiet (QOp.len_own (by rfl) (by first | exact slk32 | exact slk66) (by rfl) (by rfl) (by rfl) (by rfl))) ?_
        | (refine DL.p rfl (POp.pcall (by rfl) Try.func42 rfl rfl (by rfl) (by first | exact clo_all (by rfl) | (intro x hx; simp only [List.mem_cons, List.not_mem_nil, or_false] at hx; rcases hx with rfl | rfl | rfl | rfl | rfl | rfl | rfl | rfl <;> first | exact clo_of (by rfl) | exact clo_fn _ | assumption)) (eqFeature_self x (by assumption)) (by first | exact clo_of (by rfl) | assumption)) ?_)
        | refine DL.nil ?_
        | (refine AW.cond (by rfl) (fun h => ?_) ?_; rotate_left; focus (intro h; (try simp only [Bool.not_eq_true', Bool.not_eq_false'] at h); first | (cases h; done) | exact clash (by with_reducible_and_instances assumption) h | exact clash h (by with_reducible_and_instances assumption) | exact absurd h (by decide) | (refine absurd h ?_; simp; done)))
        | (refine AW.cond (by rfl) ?_ (fun h => ?_); focus (intro h; (try simp only [Bool.not_eq_true', Bool.not_eq_false'] at h); first | (cases h; done) | exact clash (by with_reducible_and_instances assumption) h | exact clash h (by with_reducible_and_instances assumption) | exact absurd h (by decide) | (refine absurd h ?_; simp; done)))
        | (refine AW.cond (by rfl) ?_ ?_ <;> (intro h; try simp only [Bool.not_eq_true', Bool.not_eq_false'] at h))
        | refine AW.block ?_
        | refine AW.exit ?_
        | refine AL.nil ?_
        | refine AW.ret ?_) <;> (try dsimp only [dput, List.set, cond_true, cond_false, Nat.zero_add, Nat.add_zero, Nat.reduceAdd, splice, List.take, List.drop, List.length, List.nil_append, List.cons_append, TPoint.en, TSegment.en, TBox.en, TFeature.en, TMeet.en, TPlace.en, TCover.en, TLabel.en, TPiece.en, TLevel.en, TChart.en, TReason.en, TEdit.en, TEntry.en, TEdition.en, TListing.en, TAtlas.en, TEvent.en, TWindow.en]))
      all_goals first
        | (refine ⟨i + 1, _, hlt, by omega, ?_, rfl, ?_, ?_⟩; (focus ((repeat' (first | exact Wk.nil | refine Wk.any ?_ | (with_reducible refine Wk.same ?_) | refine Wk.of ?_ ?_)) <;> (simp_all))); (focus ((repeat' (first | exact Fits.nil _ | refine Fits.cons ?_ ?_ | exact Fits.any _ | exact Fits.c _ _ | exact Fits.own (by rfl) | exact Fits.ref (by rfl) | exact Fits.clo (by assumption) | exact Fits.clo (clo_of (by rfl)) | exact Fits.clo (clo_fn _))))); (focus (exact FitsM.nil _)))
    · have ht := lt_false (f := TFeature.en) hlt
      have e : i = l.length := by omega
      subst e
      try rw [List.take_length]
      repeat' ((first
        | refine AW.seq ?_
        | refine AW.region ?_
        | refine AW.skip ?_
        | refine AL.q TT_ok rfl (by rfl) ?_
        | refine AL.step rfl ?_
        | refine OpA.quiet (QOp.atk_ro (by rfl) (by rfl) (by rfl) (by first | exact slk32 | exact slk66) (Nat.le_of_ble_eq_true (by rfl)) (by first | assumption | omega) (by assumption)) ?_
        | refine OpA.quiet (QOp.ld1_ro (by rfl) (by rfl) (by assumption) (by first | exact ldk2 | exact ldk3 | exact ldk4 | exact ldk5 | exact ldk6 | exact ldk7 | exact ldk9 | exact ldk11 | exact ldk12 | exact ldk13 | exact ldk15 | exact ldk16 | exact ldk17 | exact ldk18 | exact ldk19 | exact ldk21 | exact ldk22 | exact ldk23 | exact ldk32 | exact ldk66 | exact ldk68) (by rfl)) ?_
        | refine OpA.quiet (QOp.ldr_ro (by rfl) (by rfl) (by assumption) (by first | exact ldk2 | exact ldk3 | exact ldk4 | exact ldk5 | exact ldk6 | exact ldk7 | exact ldk9 | exact ldk11 | exact ldk12 | exact ldk13 | exact ldk15 | exact ldk16 | exact ldk17 | exact ldk18 | exact ldk19 | exact ldk21 | exact ldk22 | exact ldk23 | exact ldk32 | exact ldk66 | exact ldk68) (Nat.le_of_ble_eq_true (by rfl))) ?_
        | refine OpA.quiet (QOp.at_own (by rfl) (by first | exact slk32 | exact slk66) (by rfl) (by rfl) (by rfl) (by rfl) (by rfl) (by rfl) (by first | assumption | omega | decide) (by first | assumption | omega | decide)) ?_
        | refine OpA.quiet (QOp.len_own (by rfl) (by first | exact slk32 | exact slk66) (by rfl) (by rfl) (by rfl) (by rfl)) ?_
        | refine OpA.pcall (by rfl) Try.func42 rfl rfl (by rfl) (by first | exact clo_all (by rfl) | (intro x hx; simp only [List.mem_cons, List.not_mem_nil, or_false] at hx; rcases hx with rfl | rfl | rfl | rfl | rfl | rfl | rfl | rfl <;> first | exact clo_of (by rfl) | exact clo_fn _ | assumption)) (eqFeature_self x (by assumption)) (by first | exact clo_of (by rfl) | assumption) ?_
        | refine AW.drawn 8 (by kernel_rfl) (by kernel_rfl) (by rfl) ?_
        | refine DL.q TT_ok rfl (by rfl) ?_
        | refine DL.p rfl (POp.quiet (QOp.atk_ro (by rfl) (by rfl) (by rfl) (by first | exact slk32 | exact slk66) (Nat.le_of_ble_eq_true (by rfl)) (by first | assumption | omega) (by assumption))) ?_
        | refine DL.p rfl (POp.quiet (QOp.ld1_ro (by rfl) (by rfl) (by assumption) (by first | exact ldk2 | exact ldk3 | exact ldk4 | exact ldk5 | exact ldk6 | exact ldk7 | exact ldk9 | exact ldk11 | exact ldk12 | exact ldk13 | exact ldk15 | exact ldk16 | exact ldk17 | exact ldk18 | exact ldk19 | exact ldk21 | exact ldk22 | exact ldk23 | exact ldk32 | exact ldk66 | exact ldk68) (by rfl))) ?_
        | refine DL.p rfl (POp.quiet (QOp.ldr_ro (by rfl) (by rfl) (by assumption) (by first | exact ldk2 | exact ldk3 | exact ldk4 | exact ldk5 | exact ldk6 | exact ldk7 | exact ldk9 | exact ldk11 | exact ldk12 | exact ldk13 | exact ldk15 | exact ldk16 | exact ldk17 | exact ldk18 | exact ldk19 | exact ldk21 | exact ldk22 | exact ldk23 | exact ldk32 | exact ldk66 | exact ldk68) (Nat.le_of_ble_eq_true (by rfl)))) ?_
        | refine DL.p rfl (POp.quiet (QOp.at_own (by rfl) (by first | exact slk32 | exact slk66) (by rfl) (by rfl) (by rfl) (by rfl) (by rfl) (by rfl) (by first | assumption | omega | decide) (by first | assumption | omega | decide))) ?_
        | refine DL.p rfl (POp.quiet (QOp.len_own (by rfl) (by first | exact slk32 | exact slk66) (by rfl) (by rfl) (by rfl) (by rfl))) ?_
        | (refine DL.p rfl (POp.pcall (by rfl) Try.func42 rfl rfl (by rfl) (by first | exact clo_all (by rfl) | (intro x hx; simp only [List.mem_cons, List.not_mem_nil, or_false] at hx; rcases hx with rfl | rfl | rfl | rfl | rfl | rfl | rfl | rfl <;> first | exact clo_of (by rfl) | exact clo_fn _ | assumption)) (eqFeature_self x (by assumption)) (by first | exact clo_of (by rfl) | assumption)) ?_)
        | refine DL.nil ?_
        | (refine AW.cond (by rfl) (fun h => ?_) ?_; rotate_left; focus (intro h; (try simp only [Bool.not_eq_true', Bool.not_eq_false'] at h); first | (cases h; done) | exact clash (by with_reducible_and_instances assumption) h | exact clash h (by with_reducible_and_instances assumption) | exact absurd h (by decide) | (refine absurd h ?_; simp; done)))
        | (refine AW.cond (by rfl) ?_ (fun h => ?_); focus (intro h; (try simp only [Bool.not_eq_true', Bool.not_eq_false'] at h); first | (cases h; done) | exact clash (by with_reducible_and_instances assumption) h | exact clash h (by with_reducible_and_instances assumption) | exact absurd h (by decide) | (refine absurd h ?_; simp; done)))
        | (refine AW.cond (by rfl) ?_ ?_ <;> (intro h; try simp only [Bool.not_eq_true', Bool.not_eq_false'] at h))
        | refine AW.block ?_
        | refine AW.exit ?_
        | refine AL.nil ?_
        | refine AW.ret ?_) <;> (try dsimp only [dput, List.set, cond_true, cond_false, Nat.zero_add, Nat.add_zero, Nat.reduceAdd, splice, List.take, List.drop, List.length, List.nil_append, List.cons_append, TPoint.en, TSegment.en, TBox.en, TFeature.en, TMeet.en, TPlace.en, TCover.en, TLabel.en, TPiece.en, TLevel.en, TChart.en, TReason.en, TEdit.en, TEntry.en, TEdition.en, TListing.en, TAtlas.en, TEvent.en, TWindow.en]))
      all_goals exact Fin.one rfl (RV.tmp (by rfl)) (clo_c _) ⟨by rfl, rfl⟩

set_option maxRecDepth 100000 in
set_option maxHeartbeats 2000000 in
theorem eqCover_self (x : TCover) : VCalls Try.prog 74 [.agg x.en, .agg x.en] (fun r M => r = B true ∧ M = []) := by
  refine VCalls.body Try.func74 rfl 18 rfl (fun E => ?_)
  simp only [List.reduceReplicate, List.cons_append, List.nil_append]
  dsimp only [TCover.en]
  repeat' ((first
    | refine AW.seq ?_
    | refine AW.region ?_
    | refine AW.skip ?_
    | refine AL.q TT_ok rfl (by rfl) ?_
    | refine AL.step rfl ?_
    | refine OpA.quiet (QOp.sEq (by rfl) (by rfl) (by rfl) (by first | exact flk26.1) (by rfl) (by rfl) (by rfl) (by rfl) (by rfl) (by rfl) (by rfl) (by rfl)) ?_
    | refine OpA.box (by rfl) (by rfl) (by rfl) ?_
    | (refine AW.cond (by rfl) (fun h => ?_) ?_; rotate_left; focus (intro h; (try simp only [Bool.not_eq_true', Bool.not_eq_false'] at h); first | (cases h; done) | exact clash (by with_reducible_and_instances assumption) h | exact clash h (by with_reducible_and_instances assumption) | exact absurd h (by decide) | (refine absurd h ?_; simp; done)))
    | (refine AW.cond (by rfl) ?_ (fun h => ?_); focus (intro h; (try simp only [Bool.not_eq_true', Bool.not_eq_false'] at h); first | (cases h; done) | exact clash (by with_reducible_and_instances assumption) h | exact clash h (by with_reducible_and_instances assumption) | exact absurd h (by decide) | (refine absurd h ?_; simp; done)))
    | (refine AW.cond (by rfl) ?_ ?_ <;> (intro h; try simp only [Bool.not_eq_true', Bool.not_eq_false'] at h))
    | refine AL.nil ?_
    | refine AW.ret ?_) <;> (try dsimp only [dput, List.set, cond_true, cond_false, Nat.zero_add, Nat.add_zero, Nat.reduceAdd, splice, List.take, List.drop, List.length, List.nil_append, List.cons_append, TPoint.en, TSegment.en, TBox.en, TFeature.en, TMeet.en, TPlace.en, TCover.en, TLabel.en, TPiece.en, TLevel.en, TChart.en, TReason.en, TEdit.en, TEntry.en, TEdition.en, TListing.en, TAtlas.en, TEvent.en, TWindow.en]))
  all_goals exact Fin.one rfl (RV.tmp (by rfl)) (clo_c _) ⟨by simp_all, rfl⟩

set_option maxRecDepth 100000 in
set_option maxHeartbeats 2000000 in
theorem eqLevel_self (x : TLevel) : VCalls Try.prog 103 [.agg x.en, .agg x.en] (fun r M => r = B true ∧ M = []) := by
  refine VCalls.body Try.func103 rfl 18 rfl (fun E => ?_)
  simp only [List.reduceReplicate, List.cons_append, List.nil_append]
  dsimp only [TLevel.en]
  repeat' ((first
    | refine AW.seq ?_
    | refine AW.region ?_
    | refine AW.skip ?_
    | refine AL.q TT_ok rfl (by rfl) ?_
    | refine AL.step rfl ?_
    | refine OpA.quiet (QOp.sEq (by rfl) (by rfl) (by rfl) (by first | exact flk90.1) (by rfl) (by rfl) (by rfl) (by rfl) (by rfl) (by rfl) (by rfl) (by rfl)) ?_
    | refine OpA.box (by rfl) (by rfl) (by rfl) ?_
    | (refine AW.cond (by rfl) (fun h => ?_) ?_; rotate_left; focus (intro h; (try simp only [Bool.not_eq_true', Bool.not_eq_false'] at h); first | (cases h; done) | exact clash (by with_reducible_and_instances assumption) h | exact clash h (by with_reducible_and_instances assumption) | exact absurd h (by decide) | (refine absurd h ?_; simp; done)))
    | (refine AW.cond (by rfl) ?_ (fun h => ?_); focus (intro h; (try simp only [Bool.not_eq_true', Bool.not_eq_false'] at h); first | (cases h; done) | exact clash (by with_reducible_and_instances assumption) h | exact clash h (by with_reducible_and_instances assumption) | exact absurd h (by decide) | (refine absurd h ?_; simp; done)))
    | (refine AW.cond (by rfl) ?_ ?_ <;> (intro h; try simp only [Bool.not_eq_true', Bool.not_eq_false'] at h))
    | refine AL.nil ?_
    | refine AW.ret ?_) <;> (try dsimp only [dput, List.set, cond_true, cond_false, Nat.zero_add, Nat.add_zero, Nat.reduceAdd, splice, List.take, List.drop, List.length, List.nil_append, List.cons_append, TPoint.en, TSegment.en, TBox.en, TFeature.en, TMeet.en, TPlace.en, TCover.en, TLabel.en, TPiece.en, TLevel.en, TChart.en, TReason.en, TEdit.en, TEntry.en, TEdition.en, TListing.en, TAtlas.en, TEvent.en, TWindow.en]))
  all_goals exact Fin.one rfl (RV.tmp (by rfl)) (clo_c _) ⟨by simp_all, rfl⟩

set_option maxRecDepth 100000 in
set_option maxHeartbeats 2000000 in
theorem eqLevelS_self (l : List TLevel) (hl : l.length ≤ 1048576) : VCalls Try.prog 72 [.ro 3 (l.map TLevel.en), .ro 3 (l.map TLevel.en)] (fun r M => r = B true ∧ M = []) := by
  refine VCalls.bodyE Try.func72 rfl 25 rfl (fun E hE => ?_)
  simp only [List.reduceReplicate, List.cons_append, List.nil_append]
  repeat' ((first
    | refine AW.seq ?_
    | refine AW.region ?_
    | refine AW.skip ?_
    | refine AL.q TT_ok rfl (by rfl) ?_
    | refine AL.step rfl ?_
    | refine OpA.quiet (QOp.atk_ro (by rfl) (by rfl) (by rfl) (by first | exact slk54) (Nat.le_of_ble_eq_true (by rfl)) (by first | assumption | omega) (by assumption)) ?_
    | refine OpA.quiet (QOp.ld1_ro (by rfl) (by rfl) (by assumption) (by first | exact ldk2 | exact ldk3 | exact ldk4 | exact ldk5 | exact ldk6 | exact ldk7 | exact ldk9 | exact ldk11 | exact ldk12 | exact ldk13 | exact ldk15 | exact ldk16 | exact ldk17 | exact ldk18 | exact ldk19 | exact ldk21 | exact ldk22 | exact ldk23 | exact ldk54 | exact ldk90) (by rfl)) ?_
    | refine OpA.quiet (QOp.ldr_ro (by rfl) (by rfl) (by assumption) (by first | exact ldk2 | exact ldk3 | exact ldk4 | exact ldk5 | exact ldk6 | exact ldk7 | exact ldk9 | exact ldk11 | exact ldk12 | exact ldk13 | exact ldk15 | exact ldk16 | exact ldk17 | exact ldk18 | exact ldk19 | exact ldk21 | exact ldk22 | exact ldk23 | exact ldk54 | exact ldk90) (Nat.le_of_ble_eq_true (by rfl))) ?_
    | refine OpA.quiet (QOp.at_own (by rfl) (by first | exact slk54) (by rfl) (by rfl) (by rfl) (by rfl) (by rfl) (by rfl) (by first | assumption | omega | decide) (by first | assumption | omega | decide)) ?_
    | refine OpA.quiet (QOp.len_own (by rfl) (by first | exact slk54) (by rfl) (by rfl) (by rfl) (by rfl)) ?_
    | refine OpA.quiet (QOp.sEq (by rfl) (by rfl) (by rfl) (by first | exact flk90.1) (by rfl) (by rfl) (by rfl) (by rfl) (by rfl) (by rfl) (by rfl) (by rfl)) ?_
    | refine OpA.pcall (by rfl) Try.func103 rfl rfl (by rfl) (by first | exact clo_all (by rfl) | (intro x hx; simp only [List.mem_cons, List.not_mem_nil, or_false] at hx; rcases hx with rfl | rfl | rfl | rfl | rfl | rfl | rfl | rfl <;> first | exact clo_of (by rfl) | exact clo_fn _ | assumption)) (eqLevel_self x) (by first | exact clo_of (by rfl) | assumption) ?_
    | (refine AW.loopD hE (fun i : Nat => [.ro 3 (l.map TLevel.en), .ro 3 (l.map TLevel.en), .any, .any, .any, I i, .any, .any, .any, .any, .any, .any, .any, .any, .any, .any, .any, .any, .any, .any, .any, .any, .any, .any, .any, .any, .any]) (fun i => []) (fun i => l.length - i) (fun i => i ≤ l.length) 0 (by simp) ?_ (by first | rfl | (simp [fil_zero]; done)) ?_)
    | refine AW.drawn 8 (by kernel_rfl) (by kernel_rfl) (by rfl) ?_
    | refine DL.q TT_ok rfl (by rfl) ?_
    | refine DL.p rfl (POp.quiet (QOp.atk_ro (by rfl) (by rfl) (by rfl) (by first | exact slk54) (Nat.le_of_ble_eq_true (by rfl)) (by first | assumption | omega) (by assumption))) ?_
    | refine DL.p rfl (POp.quiet (QOp.ld1_ro (by rfl) (by rfl) (by assumption) (by first | exact ldk2 | exact ldk3 | exact ldk4 | exact ldk5 | exact ldk6 | exact ldk7 | exact ldk9 | exact ldk11 | exact ldk12 | exact ldk13 | exact ldk15 | exact ldk16 | exact ldk17 | exact ldk18 | exact ldk19 | exact ldk21 | exact ldk22 | exact ldk23 | exact ldk54 | exact ldk90) (by rfl))) ?_
    | refine DL.p rfl (POp.quiet (QOp.ldr_ro (by rfl) (by rfl) (by assumption) (by first | exact ldk2 | exact ldk3 | exact ldk4 | exact ldk5 | exact ldk6 | exact ldk7 | exact ldk9 | exact ldk11 | exact ldk12 | exact ldk13 | exact ldk15 | exact ldk16 | exact ldk17 | exact ldk18 | exact ldk19 | exact ldk21 | exact ldk22 | exact ldk23 | exact ldk54 | exact ldk90) (Nat.le_of_ble_eq_true (by rfl)))) ?_
    | refine DL.p rfl (POp.quiet (QOp.at_own (by rfl) (by first | exact slk54) (by rfl) (by rfl) (by rfl) (by rfl) (by rfl) (by rfl) (by first | assumption | omega | decide) (by first | assumption | omega | decide))) ?_
    | refine DL.p rfl (POp.quiet (QOp.len_own (by rfl) (by first | exact slk54) (by rfl) (by rfl) (by rfl) (by rfl))) ?_
    | refine DL.p rfl (POp.quiet (QOp.sEq (by rfl) (by rfl) (by rfl) (by first | exact flk90.1) (by rfl) (by rfl) (by rfl) (by rfl) (by rfl) (by rfl) (by rfl) (by rfl))) ?_
    | (refine DL.p rfl (POp.pcall (by rfl) Try.func103 rfl rfl (by rfl) (by first | exact clo_all (by rfl) | (intro x hx; simp only [List.mem_cons, List.not_mem_nil, or_false] at hx; rcases hx with rfl | rfl | rfl | rfl | rfl | rfl | rfl | rfl <;> first | exact clo_of (by rfl) | exact clo_fn _ | assumption)) (eqLevel_self x) (by first | exact clo_of (by rfl) | assumption)) ?_)
    | refine DL.nil ?_
    | (refine AW.cond (by rfl) (fun h => ?_) ?_; rotate_left; focus (intro h; (try simp only [Bool.not_eq_true', Bool.not_eq_false'] at h); first | (cases h; done) | exact clash (by with_reducible_and_instances assumption) h | exact clash h (by with_reducible_and_instances assumption) | exact absurd h (by decide) | (refine absurd h ?_; simp; done)))
    | (refine AW.cond (by rfl) ?_ (fun h => ?_); focus (intro h; (try simp only [Bool.not_eq_true', Bool.not_eq_false'] at h); first | (cases h; done) | exact clash (by with_reducible_and_instances assumption) h | exact clash h (by with_reducible_and_instances assumption) | exact absurd h (by decide) | (refine absurd h ?_; simp; done)))
    | (refine AW.cond (by rfl) ?_ ?_ <;> (intro h; try simp only [Bool.not_eq_true', Bool.not_eq_false'] at h))
    | refine AW.block ?_
    | refine AW.exit ?_
    | refine AL.nil ?_
    | refine AW.ret ?_) <;> (try dsimp only [dput, List.set, cond_true, cond_false, Nat.zero_add, Nat.add_zero, Nat.reduceAdd, splice, List.take, List.drop, List.length, List.nil_append, List.cons_append, TPoint.en, TSegment.en, TBox.en, TFeature.en, TMeet.en, TPlace.en, TCover.en, TLabel.en, TPiece.en, TLevel.en, TChart.en, TReason.en, TEdit.en, TEntry.en, TEdition.en, TListing.en, TAtlas.en, TEvent.en, TWindow.en]))
  · (repeat' (first | exact Wk.nil | refine Wk.any ?_ | (with_reducible refine Wk.same ?_) | refine Wk.of ?_ ?_)) <;> first | rfl | (simp)
  · intro i hi
    have hclo : Clo (.ro 3 (l.map TLevel.en)) := clo_list TLevel.clo_en
    by_cases hlt : i < l.length
    · obtain ⟨x, hx⟩ : ∃ x, l[i]? = some x := ⟨_, List.getElem?_eq_getElem hlt⟩
      have hg := map_get (f := TLevel.en) hx
      have ht := lt_true (f := TLevel.en) hlt
      have hn := next_ix hlt (by omega)
      repeat' ((first
        | refine AW.seq ?_
        | refine AW.region ?_
        | refine AW.skip ?_
        | refine AL.q TT_ok rfl (by rfl) ?_
        | refine AL.step rfl ?_
        | refine OpA.quiet (QOp.atk_ro (by rfl) (by rfl) (by rfl) (by first | exact slk54) (Nat.le_of_ble_eq_true (by rfl)) (by first | assumption | omega) (by assumption)) ?_
        | refine OpA.quiet (QOp.ld1_ro (by rfl) (by rfl) (by assumption) (by first | exact ldk2 | exact ldk3 | exact ldk4 | exact ldk5 | exact ldk6 | exact ldk7 | exact ldk9 | exact ldk11 | exact ldk12 | exact ldk13 | exact ldk15 | exact ldk16 | exact ldk17 | exact ldk18 | exact ldk19 | exact ldk21 | exact ldk22 | exact ldk23 | exact ldk54 | exact ldk90) (by rfl)) ?_
        | refine OpA.quiet (QOp.ldr_ro (by rfl) (by rfl) (by assumption) (by first | exact ldk2 | exact ldk3 | exact ldk4 | exact ldk5 | exact ldk6 | exact ldk7 | exact ldk9 | exact ldk11 | exact ldk12 | exact ldk13 | exact ldk15 | exact ldk16 | exact ldk17 | exact ldk18 | exact ldk19 | exact ldk21 | exact ldk22 | exact ldk23 | exact ldk54 | exact ldk90) (Nat.le_of_ble_eq_true (by rfl))) ?_
        | refine OpA.quiet (QOp.at_own (by rfl) (by first | exact slk54) (by rfl) (by rfl) (by rfl) (by rfl) (by rfl) (by rfl) (by first | assumption | omega | decide) (by first | assumption | omega | decide)) ?_
        | refine OpA.quiet (QOp.len_own (by rfl) (by first | exact slk54) (by rfl) (by rfl) (by rfl) (by rfl)) ?_
        | refine OpA.quiet (QOp.sEq (by rfl) (by rfl) (by rfl) (by first | exact flk90.1) (by rfl) (by rfl) (by rfl) (by rfl) (by rfl) (by rfl) (by rfl) (by rfl)) ?_
        | refine OpA.pcall (by rfl) Try.func103 rfl rfl (by rfl) (by first | exact clo_all (by rfl) | (intro x hx; simp only [List.mem_cons, List.not_mem_nil, or_false] at hx; rcases hx with rfl | rfl | rfl | rfl | rfl | rfl | rfl | rfl <;> first | exact clo_of (by rfl) | exact clo_fn _ | assumption)) (eqLevel_self x) (by first | exact clo_of (by rfl) | assumption) ?_
        | refine AW.drawn 8 (by kernel_rfl) (by kernel_rfl) (by rfl) ?_
        | refine DL.q TT_ok rfl (by rfl) ?_
        | refine DL.p rfl (POp.quiet (QOp.atk_ro (by rfl) (by rfl) (by rfl) (by first | exact slk54) (Nat.le_of_ble_eq_true (by rfl)) (by first | assumption | omega) (by assumption))) ?_
        | refine DL.p rfl (POp.quiet (QOp.ld1_ro (by rfl) (by rfl) (by assumption) (by first | exact ldk2 | exact ldk3 | exact ldk4 | exact ldk5 | exact ldk6 | exact ldk7 | exact ldk9 | exact ldk11 | exact ldk12 | exact ldk13 | exact ldk15 | exact ldk16 | exact ldk17 | exact ldk18 | exact ldk19 | exact ldk21 | exact ldk22 | exact ldk23 | exact ldk54 | exact ldk90) (by rfl))) ?_
        | refine DL.p rfl (POp.quiet (QOp.ldr_ro (by rfl) (by rfl) (by assumption) (by first | exact ldk2 | exact ldk3 | exact ldk4 | exact ldk5 | exact ldk6 | exact ldk7 | exact ldk9 | exact ldk11 | exact ldk12 | exact ldk13 | exact ldk15 | exact ldk16 | exact ldk17 | exact ldk18 | exact ldk19 | exact ldk21 | exact ldk22 | exact ldk23 | exact ldk54 | exact ldk90) (Nat.le_of_ble_eq_true (by rfl)))) ?_
        | refine DL.p rfl (POp.quiet (QOp.at_own (by rfl) (by first | exact slk54) (by rfl) (by rfl) (by rfl) (by rfl) (by rfl) (by rfl) (by first | assumption | omega | decide) (by first | assumption | omega | decide))) ?_
        | refine DL.p rfl (POp.quiet (QOp.len_own (by rfl) (by first | exact slk54) (by rfl) (by rfl) (by rfl) (by rfl))) ?_
        | refine DL.p rfl (POp.quiet (QOp.sEq (by rfl) (by rfl) (by rfl) (by first | exact flk90.1) (by rfl) (by rfl) (by rfl) (by rfl) (by rfl) (by rfl) (by rfl) (by rfl))) ?_
        | (refine DL.p rfl (POp.pcall (by rfl) Try.func103 rfl rfl (by rfl) (by first | exact clo_all (by rfl) | (intro x hx; simp only [List.mem_cons, List.not_mem_nil, or_false] at hx; rcases hx with rfl | rfl | rfl | rfl | rfl | rfl | rfl | rfl <;> first | exact clo_of (by rfl) | exact clo_fn _ | assumption)) (eqLevel_self x) (by first | exact clo_of (by rfl) | assumption)) ?_)
        | refine DL.nil ?_
        | (refine AW.cond (by rfl) (fun h => ?_) ?_; rotate_left; focus (intro h; (try simp only [Bool.not_eq_true', Bool.not_eq_false'] at h); first | (cases h; done) | exact clash (by with_reducible_and_instances assumption) h | exact clash h (by with_reducible_and_instances assumption) | exact absurd h (by decide) | (refine absurd h ?_; simp; done)))
        | (refine AW.cond (by rfl) ?_ (fun h => ?_); focus (intro h; (try simp only [Bool.not_eq_true', Bool.not_eq_false'] at h); first | (cases h; done) | exact clash (by with_reducible_and_instances assumption) h | exact clash h (by with_reducible_and_instances assumption) | exact absurd h (by decide) | (refine absurd h ?_; simp; done)))
        | (refine AW.cond (by rfl) ?_ ?_ <;> (intro h; try simp only [Bool.not_eq_true', Bool.not_eq_false'] at h))
        | refine AW.block ?_
        | refine AW.exit ?_
        | refine AL.nil ?_
        | refine AW.ret ?_) <;> (try dsimp only [dput, List.set, cond_true, cond_false, Nat.zero_add, Nat.add_zero, Nat.reduceAdd, splice, List.take, List.drop, List.length, List.nil_append, List.cons_append, TPoint.en, TSegment.en, TBox.en, TFeature.en, TMeet.en, TPlace.en, TCover.en, TLabel.en, TPiece.en, TLevel.en, TChart.en, TReason.en, TEdit.en, TEntry.en, TEdition.en, TListing.en, TAtlas.en, TEvent.en, TWindow.en]))
      all_goals first
        | (refine ⟨i + 1, _, hlt, by omega, ?_, rfl, ?_, ?_⟩; (focus ((repeat' (first | exact Wk.nil | refine Wk.any ?_ | (with_reducible refine Wk.same ?_) | refine Wk.of ?_ ?_)) <;> (simp_all))); (focus ((repeat' (first | exact Fits.nil _ | refine Fits.cons ?_ ?_ | exact Fits.any _ | exact Fits.c _ _ | exact Fits.own (by rfl) | exact Fits.ref (by rfl) | exact Fits.clo (by assumption) | exact Fits.clo (clo_of (by rfl)) | exact Fits.clo (clo_fn _))))); (focus (exact FitsM.nil _)))
    · have ht := lt_false (f := TLevel.en) hlt
      have e : i = l.length := by omega
      subst e
      try rw [List.take_length]
      repeat' ((first
        | refine AW.seq ?_
        | refine AW.region ?_
        | refine AW.skip ?_
        | refine AL.q TT_ok rfl (by rfl) ?_
        | refine AL.step rfl ?_
        | refine OpA.quiet (QOp.atk_ro (by rfl) (by rfl) (by rfl) (by first | exact slk54) (Nat.le_of_ble_eq_true (by rfl)) (by first | assumption | omega) (by assumption)) ?_
        | refine OpA.quiet (QOp.ld1_ro (by rfl) (by rfl) (by assumption) (by first | exact ldk2 | exact ldk3 | exact ldk4 | exact ldk5 | exact ldk6 | exact ldk7 | exact ldk9 | exact ldk11 | exact ldk12 | exact ldk13 | exact ldk15 | exact ldk16 | exact ldk17 | exact ldk18 | exact ldk19 | exact ldk21 | exact ldk22 | exact ldk23 | exact ldk54 | exact ldk90) (by rfl)) ?_
        | refine OpA.quiet (QOp.ldr_ro (by rfl) (by rfl) (by assumption) (by first | exact ldk2 | exact ldk3 | exact ldk4 | exact ldk5 | exact ldk6 | exact ldk7 | exact ldk9 | exact ldk11 | exact ldk12 | exact ldk13 | exact ldk15 | exact ldk16 | exact ldk17 | exact ldk18 | exact ldk19 | exact ldk21 | exact ldk22 | exact ldk23 | exact ldk54 | exact ldk90) (Nat.le_of_ble_eq_true (by rfl))) ?_
        | refine OpA.quiet (QOp.at_own (by rfl) (by first | exact slk54) (by rfl) (by rfl) (by rfl) (by rfl) (by rfl) (by rfl) (by first | assumption | omega | decide) (by first | assumption | omega | decide)) ?_
        | refine OpA.quiet (QOp.len_own (by rfl) (by first | exact slk54) (by rfl) (by rfl) (by rfl) (by rfl)) ?_
        | refine OpA.quiet (QOp.sEq (by rfl) (by rfl) (by rfl) (by first | exact flk90.1) (by rfl) (by rfl) (by rfl) (by rfl) (by rfl) (by rfl) (by rfl) (by rfl)) ?_
        | refine OpA.pcall (by rfl) Try.func103 rfl rfl (by rfl) (by first | exact clo_all (by rfl) | (intro x hx; simp only [List.mem_cons, List.not_mem_nil, or_false] at hx; rcases hx with rfl | rfl | rfl | rfl | rfl | rfl | rfl | rfl <;> first | exact clo_of (by rfl) | exact clo_fn _ | assumption)) (eqLevel_self x) (by first | exact clo_of (by rfl) | assumption) ?_
        | refine AW.drawn 8 (by kernel_rfl) (by kernel_rfl) (by rfl) ?_
        | refine DL.q TT_ok rfl (by rfl) ?_
        | refine DL.p rfl (POp.quiet (QOp.atk_ro (by rfl) (by rfl) (by rfl) (by first | exact slk54) (Nat.le_of_ble_eq_true (by rfl)) (by first | assumption | omega) (by assumption))) ?_
        | refine DL.p rfl (POp.quiet (QOp.ld1_ro (by rfl) (by rfl) (by assumption) (by first | exact ldk2 | exact ldk3 | exact ldk4 | exact ldk5 | exact ldk6 | exact ldk7 | exact ldk9 | exact ldk11 | exact ldk12 | exact ldk13 | exact ldk15 | exact ldk16 | exact ldk17 | exact ldk18 | exact ldk19 | exact ldk21 | exact ldk22 | exact ldk23 | exact ldk54 | exact ldk90) (by rfl))) ?_
        | refine DL.p rfl (POp.quiet (QOp.ldr_ro (by rfl) (by rfl) (by assumption) (by first | exact ldk2 | exact ldk3 | exact ldk4 | exact ldk5 | exact ldk6 | exact ldk7 | exact ldk9 | exact ldk11 | exact ldk12 | exact ldk13 | exact ldk15 | exact ldk16 | exact ldk17 | exact ldk18 | exact ldk19 | exact ldk21 | exact ldk22 | exact ldk23 | exact ldk54 | exact ldk90) (Nat.le_of_ble_eq_true (by rfl)))) ?_
        | refine DL.p rfl (POp.quiet (QOp.at_own (by rfl) (by first | exact slk54) (by rfl) (by rfl) (by rfl) (by rfl) (by rfl) (by rfl) (by first | assumption | omega | decide) (by first | assumption | omega | decide))) ?_
        | refine DL.p rfl (POp.quiet (QOp.len_own (by rfl) (by first | exact slk54) (by rfl) (by rfl) (by rfl) (by rfl))) ?_
        | refine DL.p rfl (POp.quiet (QOp.sEq (by rfl) (by rfl) (by rfl) (by first | exact flk90.1) (by rfl) (by rfl) (by rfl) (by rfl) (by rfl) (by rfl) (by rfl) (by rfl))) ?_
        | (refine DL.p rfl (POp.pcall (by rfl) Try.func103 rfl rfl (by rfl) (by first | exact clo_all (by rfl) | (intro x hx; simp only [List.mem_cons, List.not_mem_nil, or_false] at hx; rcases hx with rfl | rfl | rfl | rfl | rfl | rfl | rfl | rfl <;> first | exact clo_of (by rfl) | exact clo_fn _ | assumption)) (eqLevel_self x) (by first | exact clo_of (by rfl) | assumption)) ?_)
        | refine DL.nil ?_
        | (refine AW.cond (by rfl) (fun h => ?_) ?_; rotate_left; focus (intro h; (try simp only [Bool.not_eq_true', Bool.not_eq_false'] at h); first | (cases h; done) | exact clash (by with_reducible_and_instances assumption) h | exact clash h (by with_reducible_and_instances assumption) | exact absurd h (by decide) | (refine absurd h ?_; simp; done)))
        | (refine AW.cond (by rfl) ?_ (fun h => ?_); focus (intro h; (try simp only [Bool.not_eq_true', Bool.not_eq_false'] at h); first | (cases h; done) | exact clash (by with_reducible_and_instances assumption) h | exact clash h (by with_reducible_and_instances assumption) | exact absurd h (by decide) | (refine absurd h ?_; simp; done)))
        | (refine AW.cond (by rfl) ?_ ?_ <;> (intro h; try simp only [Bool.not_eq_true', Bool.not_eq_false'] at h))
        | refine AW.block ?_
        | refine AW.exit ?_
        | refine AL.nil ?_
        | refine AW.ret ?_) <;> (try dsimp only [dput, List.set, cond_true, cond_false, Nat.zero_add, Nat.add_zero, Nat.reduceAdd, splice, List.take, List.drop, List.length, List.nil_append, List.cons_append, TPoint.en, TSegment.en, TBox.en, TFeature.en, TMeet.en, TPlace.en, TCover.en, TLabel.en, TPiece.en, TLevel.en, TChart.en, TReason.en, TEdit.en, TEntry.en, TEdition.en, TListing.en, TAtlas.en, TEvent.en, TWindow.en]))
      all_goals exact Fin.one rfl (RV.tmp (by rfl)) (clo_c _) ⟨by rfl, rfl⟩

set_option maxRecDepth 100000 in
set_option maxHeartbeats 2000000 in
theorem eqEntry_self (x : TEntry) (hs : x.sm) : VCalls Try.prog 102 [.agg x.en, .agg x.en] (fun r M => r = B true ∧ M = []) := by
  refine VCalls.body Try.func102 rfl 24 rfl (fun E => ?_)
  simp only [List.reduceReplicate, List.cons_append, List.nil_append]
  have hclo0 : Clo (.ro 2 (x.feature.points.map TPoint.en)) := clo_list TPoint.clo_en
  have hcls0 : Clo (.agg x.feature.en) := Clo.agg x.feature.clo_en
  have hcle : Clo (.agg x.en) := Clo.agg x.clo_en
  have hs' := hs
  obtain hs0 := hs
  dsimp only [TEntry.en]
  repeat' ((first
    | refine AW.seq ?_
    | refine AW.region ?_
    | refine AW.skip ?_
    | refine AL.q TT_ok rfl (by rfl) ?_
    | refine AL.step rfl ?_
    | refine OpA.quiet (QOp.ld1_ro (by rfl) (by rfl) (by assumption) (by first | exact ldk2 | exact ldk3 | exact ldk4 | exact ldk5 | exact ldk6 | exact ldk7 | exact ldk9 | exact ldk11 | exact ldk12 | exact ldk13 | exact ldk14 | exact ldk16 | exact ldk17 | exact ldk18 | exact ldk19 | exact ldk21 | exact ldk22 | exact ldk23 | exact ldk66 | exact ldk68 | exact ldk118) (by rfl)) ?_
    | refine OpA.quiet (QOp.ldr_ro (by rfl) (by rfl) (by assumption) (by first | exact ldk2 | exact ldk3 | exact ldk4 | exact ldk5 | exact ldk6 | exact ldk7 | exact ldk9 | exact ldk11 | exact ldk12 | exact ldk13 | exact ldk14 | exact ldk16 | exact ldk17 | exact ldk18 | exact ldk19 | exact ldk21 | exact ldk22 | exact ldk23 | exact ldk66 | exact ldk68 | exact ldk118) (Nat.le_of_ble_eq_true (by rfl))) ?_
    | refine OpA.box (by rfl) (by rfl) (by rfl) ?_
    | refine OpA.pcall (by rfl) Try.func42 rfl rfl (by rfl) (by first | exact clo_all (by rfl) | (intro x hx; simp only [List.mem_cons, List.not_mem_nil, or_false] at hx; rcases hx with rfl | rfl | rfl | rfl | rfl | rfl | rfl | rfl <;> first | exact clo_of (by rfl) | exact clo_fn _ | assumption)) (eqFeature_self x.feature (by assumption)) (by first | exact clo_of (by rfl) | assumption) ?_
    | (refine AW.cond (by rfl) (fun h => ?_) ?_; rotate_left; focus (intro h; (try simp only [Bool.not_eq_true', Bool.not_eq_false'] at h); first | (cases h; done) | exact clash (by with_reducible_and_instances assumption) h | exact clash h (by with_reducible_and_instances assumption) | exact absurd h (by decide) | (refine absurd h ?_; simp; done)))
    | (refine AW.cond (by rfl) ?_ (fun h => ?_); focus (intro h; (try simp only [Bool.not_eq_true', Bool.not_eq_false'] at h); first | (cases h; done) | exact clash (by with_reducible_and_instances assumption) h | exact clash h (by with_reducible_and_instances assumption) | exact absurd h (by decide) | (refine absurd h ?_; simp; done)))
    | (refine AW.cond (by rfl) ?_ ?_ <;> (intro h; try simp only [Bool.not_eq_true', Bool.not_eq_false'] at h))
    | refine AL.nil ?_
    | refine AW.ret ?_) <;> (try dsimp only [dput, List.set, cond_true, cond_false, Nat.zero_add, Nat.add_zero, Nat.reduceAdd, splice, List.take, List.drop, List.length, List.nil_append, List.cons_append, TPoint.en, TSegment.en, TBox.en, TFeature.en, TMeet.en, TPlace.en, TCover.en, TLabel.en, TPiece.en, TLevel.en, TChart.en, TReason.en, TEdit.en, TEntry.en, TEdition.en, TListing.en, TAtlas.en, TEvent.en, TWindow.en]))
  all_goals exact Fin.one rfl (RV.tmp (by rfl)) (clo_c _) ⟨by simp_all, rfl⟩

set_option maxRecDepth 100000 in
set_option maxHeartbeats 2000000 in
theorem eqEntryS_self (l : List TEntry) (hl : l.length ≤ 1048576) (hp : ∀ x ∈ l, x.sm) : VCalls Try.prog 71 [.ro 8 (l.map TEntry.en), .ro 8 (l.map TEntry.en)] (fun r M => r = B true ∧ M = []) := by
  refine VCalls.bodyE Try.func71 rfl 25 rfl (fun E hE => ?_)
  simp only [List.reduceReplicate, List.cons_append, List.nil_append]
  repeat' ((first
    | refine AW.seq ?_
    | refine AW.region ?_
    | refine AW.skip ?_
    | refine AL.q TT_ok rfl (by rfl) ?_
    | refine AL.step rfl ?_
    | refine OpA.quiet (QOp.atk_ro (by rfl) (by rfl) (by rfl) (by first | exact slk53) (Nat.le_of_ble_eq_true (by rfl)) (by first | assumption | omega) (by assumption)) ?_
    | refine OpA.quiet (QOp.ld1_ro (by rfl) (by rfl) (by assumption) (by first | exact ldk2 | exact ldk3 | exact ldk4 | exact ldk5 | exact ldk6 | exact ldk7 | exact ldk9 | exact ldk11 | exact ldk12 | exact ldk13 | exact ldk15 | exact ldk16 | exact ldk17 | exact ldk18 | exact ldk19 | exact ldk21 | exact ldk22 | exact ldk23 | exact ldk53 | exact ldk68 | exact ldk118) (by rfl)) ?_
    | refine OpA.quiet (QOp.ldr_ro (by rfl) (by rfl) (by assumption) (by first | exact ldk2 | exact ldk3 | exact ldk4 | exact ldk5 | exact ldk6 | exact ldk7 | exact ldk9 | exact ldk11 | exact ldk12 | exact ldk13 | exact ldk15 | exact ldk16 | exact ldk17 | exact ldk18 | exact ldk19 | exact ldk21 | exact ldk22 | exact ldk23 | exact ldk53 | exact ldk68 | exact ldk118) (Nat.le_of_ble_eq_true (by rfl))) ?_
    | refine OpA.quiet (QOp.at_own (by rfl) (by first | exact slk53) (by rfl) (by rfl) (by rfl) (by rfl) (by rfl) (by rfl) (by first | assumption | omega | decide) (by first | assumption | omega | decide)) ?_
    | refine OpA.quiet (QOp.len_own (by rfl) (by first | exact slk53) (by rfl) (by rfl) (by rfl) (by rfl)) ?_
    | refine OpA.pcall (by rfl) Try.func102 rfl rfl (by rfl) (by first | exact clo_all (by rfl) | (intro x hx; simp only [List.mem_cons, List.not_mem_nil, or_false] at hx; rcases hx with rfl | rfl | rfl | rfl | rfl | rfl | rfl | rfl <;> first | exact clo_of (by rfl) | exact clo_fn _ | assumption)) (eqEntry_self x (by assumption)) (by first | exact clo_of (by rfl) | assumption) ?_
    | (refine AW.loopD hE (fun i : Nat => [.ro 8 (l.map TEntry.en), .ro 8 (l.map TEntry.en), .any, .any, .any, I i, .any, .any, .any, .any, .any, .any, .any, .any, .any, .any, .any, .any, .any, .any, .any, .any, .any, .any, .any, .any, .any]) (fun i => []) (fun i => l.length - i) (fun i => i ≤ l.length) 0 (by simp) ?_ (by first | rfl | (simp [fil_zero]; done)) ?_)
    | refine AW.drawn 8 (by kernel_rfl) (by kernel_rfl) (by rfl) ?_
    | refine DL.q TT_ok rfl (by rfl) ?_
    | refine DL.p rfl (POp.quiet (QOp.atk_ro (by rfl) (by rfl) (by rfl) (by first | exact slk53) (Nat.le_of_ble_eq_true (by rfl)) (by first | assumption | omega) (by assumption))) ?_
    | refine DL.p rfl (POp.quiet (QOp.ld1_ro (by rfl) (by rfl) (by assumption) (by first | exact ldk2 | exact ldk3 | exact ldk4 | exact ldk5 | exact ldk6 | exact ldk7 | exact ldk9 | exact ldk11 | exact ldk12 | exact ldk13 | exact ldk15 | exact ldk16 | exact ldk17 | exact ldk18 | exact ldk19 | exact ldk21 | exact ldk22 | exact ldk23 | exact ldk53 | exact ldk68 | exact ldk118) (by rfl))) ?_
    | refine DL.p rfl (POp.quiet (QOp.ldr_ro (by rfl) (by rfl) (by assumption) (by first | exact ldk2 | exact ldk3 | exact ldk4 | exact ldk5 | exact ldk6 | exact ldk7 | exact ldk9 | exact ldk11 | exact ldk12 | exact ldk13 | exact ldk15 | exact ldk16 | exact ldk17 | exact ldk18 | exact ldk19 | exact ldk21 | exact ldk22 | exact ldk23 | exact ldk53 | exact ldk68 | exact ldk118) (Nat.le_of_ble_eq_true (by rfl)))) ?_
    | refine DL.p rfl (POp.quiet (QOp.at_own (by rfl) (by first | exact slk53) (by rfl) (by rfl) (by rfl) (by rfl) (by rfl) (by rfl) (by first | assumption | omega | decide) (by first | assumption | omega | decide))) ?_
    | refine DL.p rfl (POp.quiet (QOp.len_own (by rfl) (by first | exact slk53) (by rfl) (by rfl) (by rfl) (by rfl))) ?_
    | (refine DL.p rfl (POp.pcall (by rfl) Try.func102 rfl rfl (by rfl) (by first | exact clo_all (by rfl) | (intro x hx; simp only [List.mem_cons, List.not_mem_nil, or_false] at hx; rcases hx with rfl | rfl | rfl | rfl | rfl | rfl | rfl | rfl <;> first | exact clo_of (by rfl) | exact clo_fn _ | assumption)) (eqEntry_self x (by assumption)) (by first | exact clo_of (by rfl) | assumption)) ?_)
    | refine DL.nil ?_
    | (refine AW.cond (by rfl) (fun h => ?_) ?_; rotate_left; focus (intro h; (try simp only [Bool.not_eq_true', Bool.not_eq_false'] at h); first | (cases h; done) | exact clash (by with_reducible_and_instances assumption) h | exact clash h (by with_reducible_and_instances assumption) | exact absurd h (by decide) | (refine absurd h ?_; simp; done)))
    | (refine AW.cond (by rfl) ?_ (fun h => ?_); focus (intro h; (try simp only [Bool.not_eq_true', Bool.not_eq_false'] at h); first | (cases h; done) | exact clash (by with_reducible_and_instances assumption) h | exact clash h (by with_reducible_and_instances assumption) | exact absurd h (by decide) | (refine absurd h ?_; simp; done)))
    | (refine AW.cond (by rfl) ?_ ?_ <;> (intro h; try simp only [Bool.not_eq_true', Bool.not_eq_false'] at h))
    | refine AW.block ?_
    | refine AW.exit ?_
    | refine AL.nil ?_
    | refine AW.ret ?_) <;> (try dsimp only [dput, List.set, cond_true, cond_false, Nat.zero_add, Nat.add_zero, Nat.reduceAdd, splice, List.take, List.drop, List.length, List.nil_append, List.cons_append, TPoint.en, TSegment.en, TBox.en, TFeature.en, TMeet.en, TPlace.en, TCover.en, TLabel.en, TPiece.en, TLevel.en, TChart.en, TReason.en, TEdit.en, TEntry.en, TEdition.en, TListing.en, TAtlas.en, TEvent.en, TWindow.en]))
  · (repeat' (first | exact Wk.nil | refine Wk.any ?_ | (with_reducible refine Wk.same ?_) | refine Wk.of ?_ ?_)) <;> first | rfl | (simp)
  · intro i hi
    have hclo : Clo (.ro 8 (l.map TEntry.en)) := clo_list TEntry.clo_en
    by_cases hlt : i < l.length
    · obtain ⟨x, hx⟩ : ∃ x, l[i]? = some x := ⟨_, List.getElem?_eq_getElem hlt⟩
      have hg := map_get (f := TEntry.en) hx
      have ht := lt_true (f := TEntry.en) hlt
      have hn := next_ix hlt (by omega)
      have hpx := hp x (List.mem_of_getElem? hx)
      have hclo0 : Clo (.ro 2 (x.feature.points.map TPoint.en)) := clo_list TPoint.clo_en
      have hcls0 : Clo (.agg x.feature.en) := Clo.agg x.feature.clo_en
      have hcle : Clo (.agg x.en) := Clo.agg x.clo_en
      repeat' ((first
        | refine AW.seq ?_
        | refine AW.region ?_
        | refine AW.skip ?_
        | refine AL.q TT_ok rfl (by rfl) ?_
        | refine AL.step rfl ?_
        | refine OpA.quiet (QOp.atk_ro (by rfl) (by rfl) (by rfl) (by first | exact slk53) (Nat.le_of_ble_eq_true (by rfl)) (by first | assumption | omega) (by assumption)) ?_
        | refine OpA.quiet (QOp.ld1_ro (by rfl) (by rfl) (by assumption) (by first | exact ldk2 | exact ldk3 | exact ldk4 | exact ldk5 | exact ldk6 | exact ldk7 | exact ldk9 | exact ldk11 | exact ldk12 | exact ldk13 | exact ldk15 | exact ldk16 | exact ldk17 | exact ldk18 | exact ldk19 | exact ldk21 | exact ldk22 | exact ldk23 | exact ldk53 | exact ldk68 | exact ldk118) (by rfl)) ?_
        | refine OpA.quiet (QOp.ldr_ro (by rfl) (by rfl) (by assumption) (by first | exact ldk2 | exact ldk3 | exact ldk4 | exact ldk5 | exact ldk6 | exact ldk7 | exact ldk9 | exact ldk11 | exact ldk12 | exact ldk13 | exact ldk15 | exact ldk16 | exact ldk17 | exact ldk18 | exact ldk19 | exact ldk21 | exact ldk22 | exact ldk23 | exact ldk53 | exact ldk68 | exact ldk118) (Nat.le_of_ble_eq_true (by rfl))) ?_
        | refine OpA.quiet (QOp.at_own (by rfl) (by first | exact slk53) (by rfl) (by rfl) (by rfl) (by rfl) (by rfl) (by rfl) (by first | assumption | omega | decide) (by first | assumption | omega | decide)) ?_
        | refine OpA.quiet (QOp.len_own (by rfl) (by first | exact slk53) (by rfl) (by rfl) (by rfl) (by rfl)) ?_
        | refine OpA.pcall (by rfl) Try.func102 rfl rfl (by rfl) (by first | exact clo_all (by rfl) | (intro x hx; simp only [List.mem_cons, List.not_mem_nil, or_false] at hx; rcases hx with rfl | rfl | rfl | rfl | rfl | rfl | rfl | rfl <;> first | exact clo_of (by rfl) | exact clo_fn _ | assumption)) (eqEntry_self x (by assumption)) (by first | exact clo_of (by rfl) | assumption) ?_
        | refine AW.drawn 8 (by kernel_rfl) (by kernel_rfl) (by rfl) ?_
        | refine DL.q TT_ok rfl (by rfl) ?_
        | refine DL.p rfl (POp.quiet (QOp.atk_ro (by rfl) (by rfl) (by rfl) (by first | exact slk53) (Nat.le_of_ble_eq_true (by rfl)) (by first | assumption | omega) (by assumption))) ?_
        | refine DL.p rfl (POp.quiet (QOp.ld1_ro (by rfl) (by rfl) (by assumption) (by first | exact ldk2 | exact ldk3 | exact ldk4 | exact ldk5 | exact ldk6 | exact ldk7 | exact ldk9 | exact ldk11 | exact ldk12 | exact ldk13 | exact ldk15 | exact ldk16 | exact ldk17 | exact ldk18 | exact ldk19 | exact ldk21 | exact ldk22 | exact ldk23 | exact ldk53 | exact ldk68 | exact ldk118) (by rfl))) ?_
        | refine DL.p rfl (POp.quiet (QOp.ldr_ro (by rfl) (by rfl) (by assumption) (by first | exact ldk2 | exact ldk3 | exact ldk4 | exact ldk5 | exact ldk6 | exact ldk7 | exact ldk9 | exact ldk11 | exact ldk12 | exact ldk13 | exact ldk15 | exact ldk16 | exact ldk17 | exact ldk18 | exact ldk19 | exact ldk21 | exact ldk22 | exact ldk23 | exact ldk53 | exact ldk68 | exact ldk118) (Nat.le_of_ble_eq_true (by rfl)))) ?_
        | refine DL.p rfl (POp.quiet (QOp.at_own (by rfl) (by first | exact slk53) (by rfl) (by rfl) (by rfl) (by rfl) (by rfl) (by rfl) (by first | assumption | omega | decide) (by first | assumption | omega | decide))) ?_
        | refine DL.p rfl (POp.quiet (QOp.len_own (by rfl) (by first | exact slk53) (by rfl) (by rfl) (by rfl) (by rfl))) ?_
        | (refine DL.p rfl (POp.pcall (by rfl) Try.func102 rfl rfl (by rfl) (by first | exact clo_all (by rfl) | (intro x hx; simp only [List.mem_cons, List.not_mem_nil, or_false] at hx; rcases hx with rfl | rfl | rfl | rfl | rfl | rfl | rfl | rfl <;> first | exact clo_of (by rfl) | exact clo_fn _ | assumption)) (eqEntry_self x (by assumption)) (by first | exact clo_of (by rfl) | assumption)) ?_)
        | refine DL.nil ?_
        | (refine AW.cond (by rfl) (fun h => ?_) ?_; rotate_left; focus (intro h; (try simp only [Bool.not_eq_true', Bool.not_eq_false'] at h); first | (cases h; done) | exact clash (by with_reducible_and_instances assumption) h | exact clash h (by with_reducible_and_instances assumption) | exact absurd h (by decide) | (refine absurd h ?_; simp; done)))
        | (refine AW.cond (by rfl) ?_ (fun h => ?_); focus (intro h; (try simp only [Bool.not_eq_true', Bool.not_eq_false'] at h); first | (cases h; done) | exact clash (by with_reducible_and_instances assumption) h | exact clash h (by with_reducible_and_instances assumption) | exact absurd h (by decide) | (refine absurd h ?_; simp; done)))
        | (refine AW.cond (by rfl) ?_ ?_ <;> (intro h; try simp only [Bool.not_eq_true', Bool.not_eq_false'] at h))
        | refine AW.block ?_
        | refine AW.exit ?_
        | refine AL.nil ?_
        | refine AW.ret ?_) <;> (try dsimp only [dput, List.set, cond_true, cond_false, Nat.zero_add, Nat.add_zero, Nat.reduceAdd, splice, List.take, List.drop, List.length, List.nil_append, List.cons_append, TPoint.en, TSegment.en, TBox.en, TFeature.en, TMeet.en, TPlace.en, TCover.en, TLabel.en, TPiece.en, TLevel.en, TChart.en, TReason.en, TEdit.en, TEntry.en, TEdition.en, TListing.en, TAtlas.en, TEvent.en, TWindow.en]))
      all_goals first
        | (refine ⟨i + 1, _, hlt, by omega, ?_, rfl, ?_, ?_⟩; (focus ((repeat' (first | exact Wk.nil | refine Wk.any ?_ | (with_reducible refine Wk.same ?_) | refine Wk.of ?_ ?_)) <;> (simp_all))); (focus ((repeat' (first | exact Fits.nil _ | refine Fits.cons ?_ ?_ | exact Fits.any _ | exact Fits.c _ _ | exact Fits.own (by rfl) | exact Fits.ref (by rfl) | exact Fits.clo (by assumption) | exact Fits.clo (clo_of (by rfl)) | exact Fits.clo (clo_fn _))))); (focus (exact FitsM.nil _)))
    · have ht := lt_false (f := TEntry.en) hlt
      have e : i = l.length := by omega
      subst e
      try rw [List.take_length]
      repeat' ((first
        | refine AW.seq ?_
        | refine AW.region ?_
        | refine AW.skip ?_
        | refine AL.q TT_ok rfl (by rfl) ?_
        | refine AL.step rfl ?_
        | refine OpA.quiet (QOp.atk_ro (by rfl) (by rfl) (by rfl) (by first | exact slk53) (Nat.le_of_ble_eq_true (by rfl)) (by first | assumption | omega) (by assumption)) ?_
        | refine OpA.quiet (QOp.ld1_ro (by rfl) (by rfl) (by assumption) (by first | exact ldk2 | exact ldk3 | exact ldk4 | exact ldk5 | exact ldk6 | exact ldk7 | exact ldk9 | exact ldk11 | exact ldk12 | exact ldk13 | exact ldk15 | exact ldk16 | exact ldk17 | exact ldk18 | exact ldk19 | exact ldk21 | exact ldk22 | exact ldk23 | exact ldk53 | exact ldk68 | exact ldk118) (by rfl)) ?_
        | refine OpA.quiet (QOp.ldr_ro (by rfl) (by rfl) (by assumption) (by first | exact ldk2 | exact ldk3 | exact ldk4 | exact ldk5 | exact ldk6 | exact ldk7 | exact ldk9 | exact ldk11 | exact ldk12 | exact ldk13 | exact ldk15 | exact ldk16 | exact ldk17 | exact ldk18 | exact ldk19 | exact ldk21 | exact ldk22 | exact ldk23 | exact ldk53 | exact ldk68 | exact ldk118) (Nat.le_of_ble_eq_true (by rfl))) ?_
        | refine OpA.quiet (QOp.at_own (by rfl) (by first | exact slk53) (by rfl) (by rfl) (by rfl) (by rfl) (by rfl) (by rfl) (by first | assumption | omega | decide) (by first | assumption | omega | decide)) ?_
        | refine OpA.quiet (QOp.len_own (by rfl) (by first | exact slk53) (by rfl) (by rfl) (by rfl) (by rfl)) ?_
        | refine OpA.pcall (by rfl) Try.func102 rfl rfl (by rfl) (by first | exact clo_all (by rfl) | (intro x hx; simp only [List.mem_cons, List.not_mem_nil, or_false] at hx; rcases hx with rfl | rfl | rfl | rfl | rfl | rfl | rfl | rfl <;> first | exact clo_of (by rfl) | exact clo_fn _ | assumption)) (eqEntry_self x (by assumption)) (by first | exact clo_of (by rfl) | assumption) ?_
        | refine AW.drawn 8 (by kernel_rfl) (by kernel_rfl) (by rfl) ?_
        | refine DL.q TT_ok rfl (by rfl) ?_
        | refine DL.p rfl (POp.quiet (QOp.atk_ro (by rfl) (by rfl) (by rfl) (by first | exact slk53) (Nat.le_of_ble_eq_true (by rfl)) (by first | assumption | omega) (by assumption))) ?_
        | refine DL.p rfl (POp.quiet (QOp.ld1_ro (by rfl) (by rfl) (by assumption) (by first | exact ldk2 | exact ldk3 | exact ldk4 | exact ldk5 | exact ldk6 | exact ldk7 | exact ldk9 | exact ldk11 | exact ldk12 | exact ldk13 | exact ldk15 | exact ldk16 | exact ldk17 | exact ldk18 | exact ldk19 | exact ldk21 | exact ldk22 | exact ldk23 | exact ldk53 | exact ldk68 | exact ldk118) (by rfl))) ?_
        | refine DL.p rfl (POp.quiet (QOp.ldr_ro (by rfl) (by rfl) (by assumption) (by first | exact ldk2 | exact ldk3 | exact ldk4 | exact ldk5 | exact ldk6 | exact ldk7 | exact ldk9 | exact ldk11 | exact ldk12 | exact ldk13 | exact ldk15 | exact ldk16 | exact ldk17 | exact ldk18 | exact ldk19 | exact ldk21 | exact ldk22 | exact ldk23 | exact ldk53 | exact ldk68 | exact ldk118) (Nat.le_of_ble_eq_true (by rfl)))) ?_
        | refine DL.p rfl (POp.quiet (QOp.at_own (by rfl) (by first | exact slk53) (by rfl) (by rfl) (by rfl) (by rfl) (by rfl) (by rfl) (by first | assumption | omega | decide) (by first | assumption | omega | decide))) ?_
        | refine DL.p rfl (POp.quiet (QOp.len_own (by rfl) (by first | exact slk53) (by rfl) (by rfl) (by rfl) (by rfl))) ?_
        | (refine DL.p rfl (POp.pcall (by rfl) Try.func102 rfl rfl (by rfl) (by first | exact clo_all (by rfl) | (intro x hx; simp only [List.mem_cons, List.not_mem_nil, or_false] at hx; rcases hx with rfl | rfl | rfl | rfl | rfl | rfl | rfl | rfl <;> first | exact clo_of (by rfl) | exact clo_fn _ | assumption)) (eqEntry_self x (by assumption)) (by first | exact clo_of (by rfl) | assumption)) ?_)
        | refine DL.nil ?_
        | (refine AW.cond (by rfl) (fun h => ?_) ?_; rotate_left; focus (intro h; (try simp only [Bool.not_eq_true', Bool.not_eq_false'] at h); first | (cases h; done) | exact clash (by with_reducible_and_instances assumption) h | exact clash h (by with_reducible_and_instances assumption) | exact absurd h (by decide) | (refine absurd h ?_; simp; done)))
        | (refine AW.cond (by rfl) ?_ (fun h => ?_); focus (intro h; (try simp only [Bool.not_eq_true', Bool.not_eq_false'] at h); first | (cases h; done) | exact clash (by with_reducible_and_instances assumption) h | exact clash h (by with_reducible_and_instances assumption) | exact absurd h (by decide) | (refine absurd h ?_; simp; done)))
        | (refine AW.cond (by rfl) ?_ ?_ <;> (intro h; try simp only [Bool.not_eq_true', Bool.not_eq_false'] at h))
        | refine AW.block ?_
        | refine AW.exit ?_
        | refine AL.nil ?_
        | refine AW.ret ?_) <;> (try dsimp only [dput, List.set, cond_true, cond_false, Nat.zero_add, Nat.add_zero, Nat.reduceAdd, splice, List.take, List.drop, List.length, List.nil_append, List.cons_append, TPoint.en, TSegment.en, TBox.en, TFeature.en, TMeet.en, TPlace.en, TCover.en, TLabel.en, TPiece.en, TLevel.en, TChart.en, TReason.en, TEdit.en, TEntry.en, TEdition.en, TListing.en, TAtlas.en, TEvent.en, TWindow.en]))
      all_goals exact Fin.one rfl (RV.tmp (by rfl)) (clo_c _) ⟨by rfl, rfl⟩

set_option maxRecDepth 100000 in
set_option maxHeartbeats 2000000 in
theorem eqEdition_self (x : TEdition) (hs : x.sm) : VCalls Try.prog 104 [.agg x.en, .agg x.en] (fun r M => r = B true ∧ M = []) := by
  refine VCalls.body Try.func104 rfl 19 rfl (fun E => ?_)
  simp only [List.reduceReplicate, List.cons_append, List.nil_append]
  have hclo0 : Clo (.ro 5 (x.source.map TFeature.en)) := clo_list TFeature.clo_en
  have hcle : Clo (.agg x.en) := Clo.agg x.clo_en
  have hs' := hs
  obtain ⟨hs1, hs1'⟩ := hs
  dsimp only [TEdition.en]
  repeat' ((first
    | refine AW.seq ?_
    | refine AW.region ?_
    | refine AW.skip ?_
    | refine AL.q TT_ok rfl (by rfl) ?_
    | refine AL.step rfl ?_
    | refine OpA.quiet (QOp.ld1_ro (by rfl) (by rfl) (by assumption) (by first | exact ldk2 | exact ldk3 | exact ldk4 | exact ldk5 | exact ldk6 | exact ldk7 | exact ldk8 | exact ldk9 | exact ldk10 | exact ldk12 | exact ldk14 | exact ldk16 | exact ldk17 | exact ldk18 | exact ldk19 | exact ldk32 | exact ldk68 | exact ldk98) (by rfl)) ?_
    | refine OpA.quiet (QOp.ldr_ro (by rfl) (by rfl) (by assumption) (by first | exact ldk2 | exact ldk3 | exact ldk4 | exact ldk5 | exact ldk6 | exact ldk7 | exact ldk8 | exact ldk9 | exact ldk10 | exact ldk12 | exact ldk14 | exact ldk16 | exact ldk17 | exact ldk18 | exact ldk19 | exact ldk32 | exact ldk68 | exact ldk98) (Nat.le_of_ble_eq_true (by rfl))) ?_
    | refine OpA.box (by rfl) (by rfl) (by rfl) ?_
    | refine OpA.pcall (by rfl) Try.func17 rfl rfl (by rfl) (by first | exact clo_all (by rfl) | (intro x hx; simp only [List.mem_cons, List.not_mem_nil, or_false] at hx; rcases hx with rfl | rfl | rfl | rfl | rfl | rfl | rfl | rfl <;> first | exact clo_of (by rfl) | exact clo_fn _ | assumption)) (eqFeatureS_self _ (by assumption) (by assumption)) (by first | exact clo_of (by rfl) | assumption) ?_
    | (refine AW.cond (by rfl) (fun h => ?_) ?_; rotate_left; focus (intro h; (try simp only [Bool.not_eq_true', Bool.not_eq_false'] at h); first | (cases h; done) | exact clash (by with_reducible_and_instances assumption) h | exact clash h (by with_reducible_and_instances assumption) | exact absurd h (by decide) | (refine absurd h ?_; simp; done)))
    | (refine AW.cond (by rfl) ?_ (fun h => ?_); focus (intro h; (try simp only [Bool.not_eq_true', Bool.not_eq_false'] at h); first | (cases h; done) | exact clash (by with_reducible_and_instances assumption) h | exact clash h (by with_reducible_and_instances assumption) | exact absurd h (by decide) | (refine absurd h ?_; simp; done)))
    | (refine AW.cond (by rfl) ?_ ?_ <;> (intro h; try simp only [Bool.not_eq_true', Bool.not_eq_false'] at h))
    | refine AL.nil ?_
    | refine AW.ret ?_) <;> (try dsimp only [dput, List.set, cond_true, cond_false, Nat.zero_add, Nat.add_zero, Nat.reduceAdd, splice, List.take, List.drop, List.length, List.nil_append, List.cons_append, TPoint.en, TSegment.en, TBox.en, TFeature.en, TMeet.en, TPlace.en, TCover.en, TLabel.en, TPiece.en, TLevel.en, TChart.en, TReason.en, TEdit.en, TEntry.en, TEdition.en, TListing.en, TAtlas.en, TEvent.en, TWindow.en]))
  all_goals exact Fin.one rfl (RV.tmp (by rfl)) (clo_c _) ⟨by simp_all, rfl⟩

set_option maxRecDepth 100000 in
set_option maxHeartbeats 2000000 in
theorem eqEditionS_self (l : List TEdition) (hl : l.length ≤ 1048576) (hp : ∀ x ∈ l, x.sm) : VCalls Try.prog 73 [.ro 3 (l.map TEdition.en), .ro 3 (l.map TEdition.en)] (fun r M => r = B true ∧ M = []) := by
  refine VCalls.bodyE Try.func73 rfl 25 rfl (fun E hE => ?_)
  simp only [List.reduceReplicate, List.cons_append, List.nil_append]
  repeat' ((first
    | refine AW.seq ?_
    | refine AW.region ?_
    | refine AW.skip ?_
    | refine AL.q TT_ok rfl (by rfl) ?_
    | refine AL.step rfl ?_
    | refine OpA.quiet (QOp.atk_ro (by rfl) (by rfl) (by rfl) (by first | exact slk32 | exact slk55) (Nat.le_of_ble_eq_true (by rfl)) (by first | assumption | omega) (by assumption)) ?_
    | refine OpA.quiet (QOp.ld1_ro (by rfl) (by rfl) (by assumption) (by first | exact ldk2 | exact ldk3 | exact ldk4 | exact ldk5 | exact ldk6 | exact ldk7 | exact ldk9 | exact ldk11 | exact ldk12 | exact ldk13 | exact ldk15 | exact ldk16 | exact ldk17 | exact ldk18 | exact ldk19 | exact ldk21 | exact ldk22 | exact ldk23 | exact ldk32 | exact ldk55 | exact ldk98) (by rfl)) ?_
    | refine OpA.quiet (QOp.ldr_ro (by rfl) (by rfl) (by assumption) (by first | exact ldk2 | exact ldk3 | exact ldk4 | exact ldk5 | exact ldk6 | exact ldk7 | exact ldk9 | exact ldk11 | exact ldk12 | exact ldk13 | exact ldk15 | exact ldk16 | exact ldk17 | exact ldk18 | exact ldk19 | exact ldk21 | exact ldk22 | exact ldk23 | exact ldk32 | exact ldk55 | exact ldk98) (Nat.le_of_ble_eq_true (by rfl))) ?_
    | refine OpA.quiet (QOp.at_own (by rfl) (by first | exact slk32 | exact slk55) (by rfl) (by rfl) (by rfl) (by rfl) (by rfl) (by rfl) (by first | assumption | omega | decide) (by first | assumption | omega | decide)) ?_
    | refine OpA.quiet (QOp.len_own (by rfl) (by first | exact slk32 | exact slk55) (by rfl) (by rfl) (by rfl) (by rfl)) ?_
    | refine OpA.pcall (by rfl) Try.func104 rfl rfl (by rfl) (by first | exact clo_all (by rfl) | (intro x hx; simp only [List.mem_cons, List.not_mem_nil, or_false] at hx; rcases hx with rfl | rfl | rfl | rfl | rfl | rfl | rfl | rfl <;> first | exact clo_of (by rfl) | exact clo_fn _ | assumption)) (eqEdition_self x (by assumption)) (by first | exact clo_of (by rfl) | assumption) ?_
    | (refine AW.loopD hE (fun i : Nat => [.ro 3 (l.map TEdition.en), .ro 3 (l.map TEdition.en), .any, .any, .any, I i, .any, .any, .any, .any, .any, .any, .any, .any, .any, .any, .any, .any, .any, .any, .any, .any, .any, .any, .any, .any, .any]) (fun i => []) (fun i => l.length - i) (fun i => i ≤ l.length) 0 (by simp) ?_ (by first | rfl | (simp [fil_zero]; done)) ?_)
    | refine AW.drawn 8 (by kernel_rfl) (by kernel_rfl) (by rfl) ?_
    | refine DL.q TT_ok rfl (by rfl) ?_
    | refine DL.p rfl (POp.quiet (QOp.atk_ro (by rfl) (by rfl) (by rfl) (by first | exact slk32 | exact slk55) (Nat.le_of_ble_eq_true (by rfl)) (by first | assumption | omega) (by assumption))) ?_
    | refine DL.p rfl (POp.quiet (QOp.ld1_ro (by rfl) (by rfl) (by assumption) (by first | exact ldk2 | exact ldk3 | exact ldk4 | exact ldk5 | exact ldk6 | exact ldk7 | exact ldk9 | exact ldk11 | exact ldk12 | exact ldk13 | exact ldk15 | exact ldk16 | exact ldk17 | exact ldk18 | exact ldk19 | exact ldk21 | exact ldk22 | exact ldk23 | exact ldk32 | exact ldk55 | exact ldk98) (by rfl))) ?_
    | refine DL.p rfl (POp.quiet (QOp.ldr_ro (by rfl) (by rfl) (by assumption) (by first | exact ldk2 | exact ldk3 | exact ldk4 | exact ldk5 | exact ldk6 | exact ldk7 | exact ldk9 | exact ldk11 | exact ldk12 | exact ldk13 | exact ldk15 | exact ldk16 | exact ldk17 | exact ldk18 | exact ldk19 | exact ldk21 | exact ldk22 | exact ldk23 | exact ldk32 | exact ldk55 | exact ldk98) (Nat.le_of_ble_eq_true (by rfl)))) ?_
    | refine DL.p rfl (POp.quiet (QOp.at_own (by rfl) (by first | exact slk32 | exact slk55) (by rfl) (by rfl) (by rfl) (by rfl) (by rfl) (by rfl) (by first | assumption | omega | decide) (by first | assumption | omega | decide))) ?_
    | refine DL.p rfl (POp.quiet (QOp.len_own (by rfl) (by first | exact slk32 | exact slk55) (by rfl) (by rfl) (by rfl) (by rfl))) ?_
    | (refine DL.p rfl (POp.pcall (by rfl) Try.func104 rfl rfl (by rfl) (by first | exact clo_all (by rfl) | (intro x hx; simp only [List.mem_cons, List.not_mem_nil, or_false] at hx; rcases hx with rfl | rfl | rfl | rfl | rfl | rfl | rfl | rfl <;> first | exact clo_of (by rfl) | exact clo_fn _ | assumption)) (eqEdition_self x (by assumption)) (by first | exact clo_of (by rfl) | assumption)) ?_)
    | refine DL.nil ?_
    | (refine AW.cond (by rfl) (fun h => ?_) ?_; rotate_left; focus (intro h; (try simp only [Bool.not_eq_true', Bool.not_eq_false'] at h); first | (cases h; done) | exact clash (by with_reducible_and_instances assumption) h | exact clash h (by with_reducible_and_instances assumption) | exact absurd h (by decide) | (refine absurd h ?_; simp; done)))
    | (refine AW.cond (by rfl) ?_ (fun h => ?_); focus (intro h; (try simp only [Bool.not_eq_true', Bool.not_eq_false'] at h); first | (cases h; done) | exact clash (by with_reducible_and_instances assumption) h | exact clash h (by with_reducible_and_instances assumption) | exact absurd h (by decide) | (refine absurd h ?_; simp; done)))
    | (refine AW.cond (by rfl) ?_ ?_ <;> (intro h; try simp only [Bool.not_eq_true', Bool.not_eq_false'] at h))
    | refine AW.block ?_
    | refine AW.exit ?_
    | refine AL.nil ?_
    | refine AW.ret ?_) <;> (try dsimp only [dput, List.set, cond_true, cond_false, Nat.zero_add, Nat.add_zero, Nat.reduceAdd, splice, List.take, List.drop, List.length, List.nil_append, List.cons_append, TPoint.en, TSegment.en, TBox.en, TFeature.en, TMeet.en, TPlace.en, TCover.en, TLabel.en, TPiece.en, TLevel.en, TChart.en, TReason.en, TEdit.en, TEntry.en, TEdition.en, TListing.en, TAtlas.en, TEvent.en, TWindow.en]))
  · (repeat' (first | exact Wk.nil | refine Wk.any ?_ | (with_reducible refine Wk.same ?_) | refine Wk.of ?_ ?_)) <;> first | rfl | (simp)
  · intro i hi
    have hclo : Clo (.ro 3 (l.map TEdition.en)) := clo_list TEdition.clo_en
    by_cases hlt : i < l.length
    · obtain ⟨x, hx⟩ : ∃ x, l[i]? = some x := ⟨_, List.getElem?_eq_getElem hlt⟩
      have hg := map_get (f := TEdition.en) hx
      have ht := lt_true (f := TEdition.en) hlt
      have hn := next_ix hlt (by omega)
      have hpx := hp x (List.mem_of_getElem? hx)
      have hclo0 : Clo (.ro 5 (x.source.map TFeature.en)) := clo_list TFeature.clo_en
      have hcle : Clo (.agg x.en) := Clo.agg x.clo_en
      repeat' ((first
        | refine AW.seq ?_
        | refine AW.region ?_
        | refine AW.skip ?_
        | refine AL.q TT_ok rfl (by rfl) ?_
        | refine AL.step rfl ?_
        | refine OpA.quiet (QOp.atk_ro (by rfl) (by rfl) (by rfl) (by first | exact slk32 | exact slk55) (Nat.le_of_ble_eq_true (by rfl)) (by first | assumption | omega) (by assumption)) ?_
        | refine OpA.quiet (QOp.ld1_ro (by rfl) (by rfl) (by assumption) (by first | exact ldk2 | exact ldk3 | exact ldk4 | exact ldk5 | exact ldk6 | exact ldk7 | exact ldk9 | exact ldk11 | exact ldk12 | exact ldk13 | exact ldk15 | exact ldk16 | exact ldk17 | exact ldk18 | exact ldk19 | exact ldk21 | exact ldk22 | exact ldk23 | exact ldk32 | exact ldk55 | exact ldk98) (by rfl)) ?_
        | refine OpA.quiet (QOp.ldr_ro (by rfl) (by rfl) (by assumption) (by first | exact ldk2 | exact ldk3 | exact ldk4 | exact ldk5 | exact ldk6 | exact ldk7 | exact ldk9 | exact ldk11 | exact ldk12 | exact ldk13 | exact ldk15 | exact ldk16 | exact ldk17 | exact ldk18 | exact ldk19 | exact ldk21 | exact ldk22 | exact ldk23 | exact ldk32 | exact ldk55 | exact ldk98) (Nat.le_of_ble_eq_true (by rfl))) ?_
        | refine OpA.quiet (QOp.at_own (by rfl) (by first | exact slk32 | exact slk55) (by rfl) (by rfl) (by rfl) (by rfl) (by rfl) (by rfl) (by first | assumption | omega | decide) (by first | assumption | omega | decide)) ?_
        | refine OpA.quiet (QOp.len_own (by rfl) (by first | exact slk32 | exact slk55) (by rfl) (by rfl) (by rfl) (by rfl)) ?_
        | refine OpA.pcall (by rfl) Try.func104 rfl rfl (by rfl) (by first | exact clo_all (by rfl) | (intro x hx; simp only [List.mem_cons, List.not_mem_nil, or_false] at hx; rcases hx with rfl | rfl | rfl | rfl | rfl | rfl | rfl | rfl <;> first | exact clo_of (by rfl) | exact clo_fn _ | assumption)) (eqEdition_self x (by assumption)) (by first | exact clo_of (by rfl) | assumption) ?_
        | refine AW.drawn 8 (by kernel_rfl) (by kernel_rfl) (by rfl) ?_
        | refine DL.q TT_ok rfl (by rfl) ?_
        | refine DL.p rfl (POp.quiet (QOp.atk_ro (by rfl) (by rfl) (by rfl) (by first | exact slk32 | exact slk55) (Nat.le_of_ble_eq_true (by rfl)) (by first | assumption | omega) (by assumption))) ?_
        | refine DL.p rfl (POp.quiet (QOp.ld1_ro (by rfl) (by rfl) (by assumption) (by first | exact ldk2 | exact ldk3 | exact ldk4 | exact ldk5 | exact ldk6 | exact ldk7 | exact ldk9 | exact ldk11 | exact ldk12 | exact ldk13 | exact ldk15 | exact ldk16 | exact ldk17 | exact ldk18 | exact ldk19 | exact ldk21 | exact ldk22 | exact ldk23 | exact ldk32 | exact ldk55 | exact ldk98) (by rfl))) ?_
        | refine DL.p rfl (POp.quiet (QOp.ldr_ro (by rfl) (by rfl) (by assumption) (by first | exact ldk2 | exact ldk3 | exact ldk4 | exact ldk5 | exact ldk6 | exact ldk7 | exact ldk9 | exact ldk11 | exact ldk12 | exact ldk13 | exact ldk15 | exact ldk16 | exact ldk17 | exact ldk18 | exact ldk19 | exact ldk21 | exact ldk22 | exact ldk23 | exact ldk32 | exact ldk55 | exact ldk98) (Nat.le_of_ble_eq_true (by rfl)))) ?_
        | refine DL.p rfl (POp.quiet (QOp.at_own (by rfl) (by first | exact slk32 | exact slk55) (by rfl) (by rfl) (by rfl) (by rfl) (by rfl) (by rfl) (by first | assumption | omega | decide) (by first | assumption | omega | decide))) ?_
        | refine DL.p rfl (POp.quiet (QOp.len_own (by rfl) (by first | exact slk32 | exact slk55) (by rfl) (by rfl) (by rfl) (by rfl))) ?_
        | (refine DL.p rfl (POp.pcall (by rfl) Try.func104 rfl rfl (by rfl) (by first | exact clo_all (by rfl) | (intro x hx; simp only [List.mem_cons, List.not_mem_nil, or_false] at hx; rcases hx with rfl | rfl | rfl | rfl | rfl | rfl | rfl | rfl <;> first | exact clo_of (by rfl) | exact clo_fn _ | assumption)) (eqEdition_self x (by assumption)) (by first | exact clo_of (by rfl) | assumption)) ?_)
        | refine DL.nil ?_
        | (refine AW.cond (by rfl) (fun h => ?_) ?_; rotate_left; focus (intro h; (try simp only [Bool.not_eq_true', Bool.not_eq_false'] at h); first | (cases h; done) | exact clash (by with_reducible_and_instances assumption) h | exact clash h (by with_reducible_and_instances assumption) | exact absurd h (by decide) | (refine absurd h ?_; simp; done)))
        | (refine AW.cond (by rfl) ?_ (fun h => ?_); focus (intro h; (try simp only [Bool.not_eq_true', Bool.not_eq_false'] at h); first | (cases h; done) | exact clash (by with_reducible_and_instances assumption) h | exact clash h (by with_reducible_and_instances assumption) | exact absurd h (by decide) | (refine absurd h ?_; simp; done)))
        | (refine AW.cond (by rfl) ?_ ?_ <;> (intro h; try simp only [Bool.not_eq_true', Bool.not_eq_false'] at h))
        | refine AW.block ?_
        | refine AW.exit ?_
        | refine AL.nil ?_
        | refine AW.ret ?_) <;> (try dsimp only [dput, List.set, cond_true, cond_false, Nat.zero_add, Nat.add_zero, Nat.reduceAdd, splice, List.take, List.drop, List.length, List.nil_append, List.cons_append, TPoint.en, TSegment.en, TBox.en, TFeature.en, TMeet.en, TPlace.en, TCover.en, TLabel.en, TPiece.en, TLevel.en, TChart.en, TReason.en, TEdit.en, TEntry.en, TEdition.en, TListing.en, TAtlas.en, TEvent.en, TWindow.en]))
      all_goals first
        | (refine ⟨i + 1, _, hlt, by omega, ?_, rfl, ?_, ?_⟩; (focus ((repeat' (first | exact Wk.nil | refine Wk.any ?_ | (with_reducible refine Wk.same ?_) | refine Wk.of ?_ ?_)) <;> (simp_all))); (focus ((repeat' (first | exact Fits.nil _ | refine Fits.cons ?_ ?_ | exact Fits.any _ | exact Fits.c _ _ | exact Fits.own (by rfl) | exact Fits.ref (by rfl) | exact Fits.clo (by assumption) | exact Fits.clo (clo_of (by rfl)) | exact Fits.clo (clo_fn _))))); (focus (exact FitsM.nil _)))
    · have ht := lt_false (f := TEdition.en) hlt
      have e : i = l.length := by omega
      subst e
      try rw [List.take_length]
      repeat' ((first
        | refine AW.seq ?_
        | refine AW.region ?_
        | refine AW.skip ?_
        | refine AL.q TT_ok rfl (by rfl) ?_
        | refine AL.step rfl ?_
        | refine OpA.quiet (QOp.atk_ro (by rfl) (by rfl) (by rfl) (by first | exact slk32 | exact slk55) (Nat.le_of_ble_eq_true (by rfl)) (by first | assumption | omega) (by assumption)) ?_
        | refine OpA.quiet (QOp.ld1_ro (by rfl) (by rfl) (by assumption) (by first | exact ldk2 | exact ldk3 | exact ldk4 | exact ldk5 | exact ldk6 | exact ldk7 | exact ldk9 | exact ldk11 | exact ldk12 | exact ldk13 | exact ldk15 | exact ldk16 | exact ldk17 | exact ldk18 | exact ldk19 | exact ldk21 | exact ldk22 | exact ldk23 | exact ldk32 | exact ldk55 | exact ldk98) (by rfl)) ?_
        | refine OpA.quiet (QOp.ldr_ro (by rfl) (by rfl) (by assumption) (by first | exact ldk2 | exact ldk3 | exact ldk4 | exact ldk5 | exact ldk6 | exact ldk7 | exact ldk9 | exact ldk11 | exact ldk12 | exact ldk13 | exact ldk15 | exact ldk16 | exact ldk17 | exact ldk18 | exact ldk19 | exact ldk21 | exact ldk22 | exact ldk23 | exact ldk32 | exact ldk55 | exact ldk98) (Nat.le_of_ble_eq_true (by rfl))) ?_
        | refine OpA.quiet (QOp.at_own (by rfl) (by first | exact slk32 | exact slk55) (by rfl) (by rfl) (by rfl) (by rfl) (by rfl) (by rfl) (by first | assumption | omega | decide) (by first | assumption | omega | decide)) ?_
        | refine OpA.quiet (QOp.len_own (by rfl) (by first | exact slk32 | exact slk55) (by rfl) (by rfl) (by rfl) (by rfl)) ?_
        | refine OpA.pcall (by rfl) Try.func104 rfl rfl (by rfl) (by first | exact clo_all (by rfl) | (intro x hx; simp only [List.mem_cons, List.not_mem_nil, or_false] at hx; rcases hx with rfl | rfl | rfl | rfl | rfl | rfl | rfl | rfl <;> first | exact clo_of (by rfl) | exact clo_fn _ | assumption)) (eqEdition_self x (by assumption)) (by first | exact clo_of (by rfl) | assumption) ?_
        | refine AW.drawn 8 (by kernel_rfl) (by kernel_rfl) (by rfl) ?_
        | refine DL.q TT_ok rfl (by rfl) ?_
        | refine DL.p rfl (POp.quiet (QOp.atk_ro (by rfl) (by rfl) (by rfl) (by first | exact slk32 | exact slk55) (Nat.le_of_ble_eq_true (by rfl)) (by first | assumption | omega) (by assumption))) ?_
        | refine DL.p rfl (POp.quiet (QOp.ld1_ro (by rfl) (by rfl) (by assumption) (by first | exact ldk2 | exact ldk3 | exact ldk4 | exact ldk5 | exact ldk6 | exact ldk7 | exact ldk9 | exact ldk11 | exact ldk12 | exact ldk13 | exact ldk15 | exact ldk16 | exact ldk17 | exact ldk18 | exact ldk19 | exact ldk21 | exact ldk22 | exact ldk23 | exact ldk32 | exact ldk55 | exact ldk98) (by rfl))) ?_
        | refine DL.p rfl (POp.quiet (QOp.ldr_ro (by rfl) (by rfl) (by assumption) (by first | exact ldk2 | exact ldk3 | exact ldk4 | exact ldk5 | exact ldk6 | exact ldk7 | exact ldk9 | exact ldk11 | exact ldk12 | exact ldk13 | exact ldk15 | exact ldk16 | exact ldk17 | exact ldk18 | exact ldk19 | exact ldk21 | exact ldk22 | exact ldk23 | exact ldk32 | exact ldk55 | exact ldk98) (Nat.le_of_ble_eq_true (by rfl)))) ?_
        | refine DL.p rfl (POp.quiet (QOp.at_own (by rfl) (by first | exact slk32 | exact slk55) (by rfl) (by rfl) (by rfl) (by rfl) (by rfl) (by rfl) (by first | assumption | omega | decide) (by first | assumption | omega | decide))) ?_
        | refine DL.p rfl (POp.quiet (QOp.len_own (by rfl) (by first | exact slk32 | exact slk55) (by rfl) (by rfl) (by rfl) (by rfl))) ?_
        | (refine DL.p rfl (POp.pcall (by rfl) Try.func104 rfl rfl (by rfl) (by first | exact clo_all (by rfl) | (intro x hx; simp only [List.mem_cons, List.not_mem_nil, or_false] at hx; rcases hx with rfl | rfl | rfl | rfl | rfl | rfl | rfl | rfl <;> first | exact clo_of (by rfl) | exact clo_fn _ | assumption)) (eqEdition_self x (by assumption)) (by first | exact clo_of (by rfl) | assumption)) ?_)
        | refine DL.nil ?_
        | (refine AW.cond (by rfl) (fun h => ?_) ?_; rotate_left; focus (intro h; (try simp only [Bool.not_eq_true', Bool.not_eq_false'] at h); first | (cases h; done) | exact clash (by with_reducible_and_instances assumption) h | exact clash h (by with_reducible_and_instances assumption) | exact absurd h (by decide) | (refine absurd h ?_; simp; done)))
        | (refine AW.cond (by rfl) ?_ (fun h => ?_); focus (intro h; (try simp only [Bool.not_eq_true', Bool.not_eq_false'] at h); first | (cases h; done) | exact clash (by with_reducible_and_instances assumption) h | exact clash h (by with_reducible_and_instances assumption) | exact absurd h (by decide) | (refine absurd h ?_; simp; done)))
        | (refine AW.cond (by rfl) ?_ ?_ <;> (intro h; try simp only [Bool.not_eq_true', Bool.not_eq_false'] at h))
        | refine AW.block ?_
        | refine AW.exit ?_
        | refine AL.nil ?_
        | refine AW.ret ?_) <;> (try dsimp only [dput, List.set, cond_true, cond_false, Nat.zero_add, Nat.add_zero, Nat.reduceAdd, splice, List.take, List.drop, List.length, List.nil_append, List.cons_append, TPoint.en, TSegment.en, TBox.en, TFeature.en, TMeet.en, TPlace.en, TCover.en, TLabel.en, TPiece.en, TLevel.en, TChart.en, TReason.en, TEdit.en, TEntry.en, TEdition.en, TListing.en, TAtlas.en, TEvent.en, TWindow.en]))
      all_goals exact Fin.one rfl (RV.tmp (by rfl)) (clo_c _) ⟨by rfl, rfl⟩

set_option maxRecDepth 100000 in
set_option maxHeartbeats 2000000 in
theorem eqAtlas_self (x : TAtlas) (hs : x.sm) : VCalls Try.prog 34 [.agg x.en, .agg x.en] (fun r M => r = B true ∧ M = []) := by
  refine VCalls.body Try.func34 rfl 32 rfl (fun E => ?_)
  simp only [List.reduceReplicate, List.cons_append, List.nil_append]
  have hclo0 : Clo (.ro 8 (x.log.map TEntry.en)) := clo_list TEntry.clo_en
  have hclo1 : Clo (.ro 3 (x.levels.map TLevel.en)) := clo_list TLevel.clo_en
  have hclo2 : Clo (.ro 3 (x.editions.map TEdition.en)) := clo_list TEdition.clo_en
  have hcle : Clo (.agg x.en) := Clo.agg x.clo_en
  have hs' := hs
  obtain ⟨⟨hs0, hs0'⟩, hs1, ⟨hs2, hs2'⟩⟩ := hs
  dsimp only [TAtlas.en]
  repeat' ((first
    | refine AW.seq ?_
    | refine AW.region ?_
    | refine AW.skip ?_
    | refine AL.q TT_ok rfl (by rfl) ?_
    | refine AL.step rfl ?_
    | refine OpA.quiet (QOp.ld1_ro (by rfl) (by rfl) (by assumption) (by first | exact ldk2 | exact ldk3 | exact ldk4 | exact ldk5 | exact ldk6 | exact ldk7 | exact ldk9 | exact ldk11 | exact ldk12 | exact ldk13 | exact ldk15 | exact ldk17 | exact ldk19 | exact ldk21 | exact ldk23 | exact ldk26 | exact ldk29 | exact ldk32 | exact ldk53 | exact ldk54 | exact ldk55 | exact ldk57 | exact ldk65 | exact ldk68 | exact ldk90 | exact ldk98 | exact ldk118) (by rfl)) ?_
    | refine OpA.quiet (QOp.ldr_ro (by rfl) (by rfl) (by assumption) (by first | exact ldk2 | exact ldk3 | exact ldk4 | exact ldk5 | exact ldk6 | exact ldk7 | exact ldk9 | exact ldk11 | exact ldk12 | exact ldk13 | exact ldk15 | exact ldk17 | exact ldk19 | exact ldk21 | exact ldk23 | exact ldk26 | exact ldk29 | exact ldk32 | exact ldk53 | exact ldk54 | exact ldk55 | exact ldk57 | exact ldk65 | exact ldk68 | exact ldk90 | exact ldk98 | exact ldk118) (Nat.le_of_ble_eq_true (by rfl))) ?_
    | refine OpA.quiet (QOp.sEq (by rfl) (by rfl) (by rfl) (by first | exact flk26.1 | exact flk90.1) (by rfl) (by rfl) (by rfl) (by rfl) (by rfl) (by rfl) (by rfl) (by rfl)) ?_
    | refine OpA.box (by rfl) (by rfl) (by rfl) ?_
    | refine OpA.pcall (by rfl) Try.func71 rfl rfl (by rfl) (by first | exact clo_all (by rfl) | (intro x hx; simp only [List.mem_cons, List.not_mem_nil, or_false] at hx; rcases hx with rfl | rfl | rfl | rfl | rfl | rfl | rfl | rfl <;> first | exact clo_of (by rfl) | exact clo_fn _ | assumption)) (eqEntryS_self _ (by assumption) (by assumption)) (by first | exact clo_of (by rfl) | assumption) ?_
    | refine OpA.pcall (by rfl) Try.func72 rfl rfl (by rfl) (by first | exact clo_all (by rfl) | (intro x hx; simp only [List.mem_cons, List.not_mem_nil, or_false] at hx; rcases hx with rfl | rfl | rfl | rfl | rfl | rfl | rfl | rfl <;> first | exact clo_of (by rfl) | exact clo_fn _ | assumption)) (eqLevelS_self _ (by assumption)) (by first | exact clo_of (by rfl) | assumption) ?_
    | refine OpA.pcall (by rfl) Try.func73 rfl rfl (by rfl) (by first | exact clo_all (by rfl) | (intro x hx; simp only [List.mem_cons, List.not_mem_nil, or_false] at hx; rcases hx with rfl | rfl | rfl | rfl | rfl | rfl | rfl | rfl <;> first | exact clo_of (by rfl) | exact clo_fn _ | assumption)) (eqEditionS_self _ (by assumption) (by assumption)) (by first | exact clo_of (by rfl) | assumption) ?_
    | refine OpA.pcall (by rfl) Try.func74 rfl rfl (by rfl) (by first | exact clo_all (by rfl) | (intro x hx; simp only [List.mem_cons, List.not_mem_nil, or_false] at hx; rcases hx with rfl | rfl | rfl | rfl | rfl | rfl | rfl | rfl <;> first | exact clo_of (by rfl) | exact clo_fn _ | assumption)) (eqCover_self x.cover) (by first | exact clo_of (by rfl) | assumption) ?_
    | (refine AW.cond (by rfl) (fun h => ?_) ?_; rotate_left; focus (intro h; (try simp only [Bool.not_eq_true', Bool.not_eq_false'] at h); first | (cases h; done) | exact clash (by with_reducible_and_instances assumption) h | exact clash h (by with_reducible_and_instances assumption) | exact absurd h (by decide) | (refine absurd h ?_; simp; done)))
    | (refine AW.cond (by rfl) ?_ (fun h => ?_); focus (intro h; (try simp only [Bool.not_eq_true', Bool.not_eq_false'] at h); first | (cases h; done) | exact clash (by with_reducible_and_instances assumption) h | exact clash h (by with_reducible_and_instances assumption) | exact absurd h (by decide) | (refine absurd h ?_; simp; done)))
    | (refine AW.cond (by rfl) ?_ ?_ <;> (intro h; try simp only [Bool.not_eq_true', Bool.not_eq_false'] at h))
    | refine AL.nil ?_
    | refine AW.ret ?_) <;> (try dsimp only [dput, List.set, cond_true, cond_false, Nat.zero_add, Nat.add_zero, Nat.reduceAdd, splice, List.take, List.drop, List.length, List.nil_append, List.cons_append, TPoint.en, TSegment.en, TBox.en, TFeature.en, TMeet.en, TPlace.en, TCover.en, TLabel.en, TPiece.en, TLevel.en, TChart.en, TReason.en, TEdit.en, TEntry.en, TEdition.en, TListing.en, TAtlas.en, TEvent.en, TWindow.en]))
  all_goals exact Fin.one rfl (RV.tmp (by rfl)) (clo_c _) ⟨by simp_all, rfl⟩

set_option maxRecDepth 100000 in
set_option maxHeartbeats 2000000 in
theorem eqEvent_self (x : TEvent) (hs : x.sm) : VCalls Try.prog 45 [.agg x.en, .agg x.en] (fun r M => r = B true ∧ M = []) := by
  refine VCalls.body Try.func45 rfl 41 rfl (fun E => ?_)
  simp only [List.reduceReplicate, List.cons_append, List.nil_append]
  have hclo0 : Clo (.ro 2 (x.feature.points.map TPoint.en)) := clo_list TPoint.clo_en
  have hclo1 : Clo (.ro 8 (x.log.map TEntry.en)) := clo_list TEntry.clo_en
  have hclo2 : Clo (.ro 3 (x.levels.map TLevel.en)) := clo_list TLevel.clo_en
  have hcls0 : Clo (.agg x.feature.en) := Clo.agg x.feature.clo_en
  have hcle : Clo (.agg x.en) := Clo.agg x.clo_en
  have hs' := hs
  obtain ⟨hs1, ⟨hs4, hs4'⟩, hs5⟩ := hs
  dsimp only [TEvent.en]
  repeat' ((first
    | refine AW.seq ?_
    | refine AW.region ?_
    | refine AW.skip ?_
    | refine AL.q TT_ok rfl (by rfl) ?_
    | refine AL.step rfl ?_
    | refine OpA.quiet (QOp.ld1_ro (by rfl) (by rfl) (by assumption) (by first | exact ldk2 | exact ldk3 | exact ldk4 | exact ldk5 | exact ldk6 | exact ldk7 | exact ldk8 | exact ldk9 | exact ldk10 | exact ldk12 | exact ldk14 | exact ldk16 | exact ldk17 | exact ldk18 | exact ldk19 | exact ldk21 | exact ldk22 | exact ldk23 | exact ldk26 | exact ldk32 | exact ldk36 | exact ldk39 | exact ldk53 | exact ldk54 | exact ldk66 | exact ldk68 | exact ldk74 | exact ldk76 | exact ldk90 | exact ldk118) (by rfl)) ?_
    | refine OpA.quiet (QOp.ldr_ro (by rfl) (by rfl) (by assumption) (by first | exact ldk2 | exact ldk3 | exact ldk4 | exact ldk5 | exact ldk6 | exact ldk7 | exact ldk8 | exact ldk9 | exact ldk10 | exact ldk12 | exact ldk14 | exact ldk16 | exact ldk17 | exact ldk18 | exact ldk19 | exact ldk21 | exact ldk22 | exact ldk23 | exact ldk26 | exact ldk32 | exact ldk36 | exact ldk39 | exact ldk53 | exact ldk54 | exact ldk66 | exact ldk68 | exact ldk74 | exact ldk76 | exact ldk90 | exact ldk118) (Nat.le_of_ble_eq_true (by rfl))) ?_
    | refine OpA.quiet (QOp.sEq (by rfl) (by rfl) (by rfl) (by first | exact flk26.1 | exact flk90.1) (by rfl) (by rfl) (by rfl) (by rfl) (by rfl) (by rfl) (by rfl) (by rfl)) ?_
    | refine OpA.box (by rfl) (by rfl) (by rfl) ?_
    | refine OpA.pcall (by rfl) Try.func42 rfl rfl (by rfl) (by first | exact clo_all (by rfl) | (intro x hx; simp only [List.mem_cons, List.not_mem_nil, or_false] at hx; rcases hx with rfl | rfl | rfl | rfl | rfl | rfl | rfl | rfl <;> first | exact clo_of (by rfl) | exact clo_fn _ | assumption)) (eqFeature_self x.feature (by assumption)) (by first | exact clo_of (by rfl) | assumption) ?_
    | refine OpA.pcall (by rfl) Try.func71 rfl rfl (by rfl) (by first | exact clo_all (by rfl) | (intro x hx; simp only [List.mem_cons, List.not_mem_nil, or_false] at hx; rcases hx with rfl | rfl | rfl | rfl | rfl | rfl | rfl | rfl <;> first | exact clo_of (by rfl) | exact clo_fn _ | assumption)) (eqEntryS_self _ (by assumption) (by assumption)) (by first | exact clo_of (by rfl) | assumption) ?_
    | refine OpA.pcall (by rfl) Try.func72 rfl rfl (by rfl) (by first | exact clo_all (by rfl) | (intro x hx; simp only [List.mem_cons, List.not_mem_nil, or_false] at hx; rcases hx with rfl | rfl | rfl | rfl | rfl | rfl | rfl | rfl <;> first | exact clo_of (by rfl) | exact clo_fn _ | assumption)) (eqLevelS_self _ (by assumption)) (by first | exact clo_of (by rfl) | assumption) ?_
    | (refine AW.cond (by rfl) (fun h => ?_) ?_; rotate_left; focus (intro h; (try simp only [Bool.not_eq_true', Bool.not_eq_false'] at h); first | (cases h; done) | exact clash (by with_reducible_and_instances assumption) h | exact clash h (by with_reducible_and_instances assumption) | exact absurd h (by decide) | (refine absurd h ?_; simp; done)))
    | (refine AW.cond (by rfl) ?_ (fun h => ?_); focus (intro h; (try simp only [Bool.not_eq_true', Bool.not_eq_false'] at h); first | (cases h; done) | exact clash (by with_reducible_and_instances assumption) h | exact clash h (by with_reducible_and_instances assumption) | exact absurd h (by decide) | (refine absurd h ?_; simp; done)))
    | (refine AW.cond (by rfl) ?_ ?_ <;> (intro h; try simp only [Bool.not_eq_true', Bool.not_eq_false'] at h))
    | refine AL.nil ?_
    | refine AW.ret ?_) <;> (try dsimp only [dput, List.set, cond_true, cond_false, Nat.zero_add, Nat.add_zero, Nat.reduceAdd, splice, List.take, List.drop, List.length, List.nil_append, List.cons_append, TPoint.en, TSegment.en, TBox.en, TFeature.en, TMeet.en, TPlace.en, TCover.en, TLabel.en, TPiece.en, TLevel.en, TChart.en, TReason.en, TEdit.en, TEntry.en, TEdition.en, TListing.en, TAtlas.en, TEvent.en, TWindow.en]))
  all_goals exact Fin.one rfl (RV.tmp (by rfl)) (clo_c _) ⟨by simp_all, rfl⟩

set_option maxRecDepth 100000 in
set_option maxHeartbeats 2000000 in
theorem eqEventS_self (l : List TEvent) (hl : l.length ≤ 1048576) (hp : ∀ x ∈ l, x.sm) : VCalls Try.prog 22 [.ro 11 (l.map TEvent.en), .ro 11 (l.map TEvent.en)] (fun r M => r = B true ∧ M = []) := by
  refine VCalls.bodyE Try.func22 rfl 25 rfl (fun E hE => ?_)
  simp only [List.reduceReplicate, List.cons_append, List.nil_append]
  repeat' ((first
    | refine AW.seq ?_
    | refine AW.region ?_
    | refine AW.skip ?_
    | refine AL.q TT_ok rfl (by rfl) ?_
    | refine AL.step rfl ?_
    | refine OpA.quiet (QOp.atk_ro (by rfl) (by rfl) (by rfl) (by first | exact slk39 | exact slk53 | exact slk54) (Nat.le_of_ble_eq_true (by rfl)) (by first | assumption | omega) (by assumption)) ?_
    | refine OpA.quiet (QOp.ld1_ro (by rfl) (by rfl) (by assumption) (by first | exact ldk2 | exact ldk3 | exact ldk4 | exact ldk5 | exact ldk6 | exact ldk7 | exact ldk9 | exact ldk11 | exact ldk12 | exact ldk13 | exact ldk15 | exact ldk16 | exact ldk17 | exact ldk18 | exact ldk19 | exact ldk21 | exact ldk22 | exact ldk23 | exact ldk39 | exact ldk53 | exact ldk54 | exact ldk68 | exact ldk76) (by rfl)) ?_
    | refine OpA.quiet (QOp.ldr_ro (by rfl) (by rfl) (by assumption) (by first | exact ldk2 | exact ldk3 | exact ldk4 | exact ldk5 | exact ldk6 | exact ldk7 | exact ldk9 | exact ldk11 | exact ldk12 | exact ldk13 | exact ldk15 | exact ldk16 | exact ldk17 | exact ldk18 | exact ldk19 | exact ldk21 | exact ldk22 | exact ldk23 | exact ldk39 | exact ldk53 | exact ldk54 | exact ldk68 | exact ldk76) (Nat.le_of_ble_eq_true (by rfl))) ?_
    | refine OpA.quiet (QOp.at_own (by rfl) (by first | exact slk39 | exact slk53 | exact slk54) (by rfl) (by rfl) (by rfl) (by rfl) (by rfl) (by rfl) (by first | assumption | omega | decide) (by first | assumption | omega | decide)) ?_
    | refine OpA.quiet (QOp.len_own (by rfl) (by first | exact slk39 | exact slk53 | exact slk54) (by rfl) (by rfl) (by rfl) (by rfl)) ?_
    | refine OpA.pcall (by rfl) Try.func45 rfl rfl (by rfl) (by first | exact clo_all (by rfl) | (intro x hx; simp only [List.mem_cons, List.not_mem_nil, or_false] at hx; rcases hx with rfl | rfl | rfl | rfl | rfl | rfl | rfl | rfl <;> first | exact clo_of (by rfl) | exact clo_fn _ | assumption)) (eqEvent_self x (by assumption)) (by first | exact clo_of (by rfl) | assumption) ?_
    | (refine AW.loopD hE (fun i : Nat => [.ro 11 (l.map TEvent.en), .ro 11 (l.map TEvent.en), .any, .any, .any, I i, .any, .any, .any, .any, .any, .any, .any, .any, .any, .any, .any, .any, .any, .any, .any, .any, .any, .any, .any, .any, .any]) (fun i => []) (fun i => l.length - i) (fun i => i ≤ l.length) 0 (by simp) ?_ (by first | rfl | (simp [fil_zero]; done)) ?_)
    | refine AW.drawn 8 (by kernel_rfl) (by kernel_rfl) (by rfl) ?_
    | refine DL.q TT_ok rfl (by rfl) ?_
    | refine DL.p rfl (POp.quiet (QOp.atk_ro (by rfl) (by rfl) (by rfl) (by first | exact slk39 | exact slk53 | exact slk54) (Nat.le_of_ble_eq_true (by rfl)) (by first | assumption | omega) (by assumption))) ?_
    | refine DL.p rfl (POp.quiet (QOp.ld1_ro (by rfl) (by rfl) (by assumption) (by first | exact ldk2 | exact ldk3 | exact ldk4 | exact ldk5 | exact ldk6 | exact ldk7 | exact ldk9 | exact ldk11 | exact ldk12 | exact ldk13 | exact ldk15 | exact ldk16 | exact ldk17 | exact ldk18 | exact ldk19 | exact ldk21 | exact ldk22 | exact ldk23 | exact ldk39 | exact ldk53 | exact ldk54 | exact ldk68 | exact ldk76) (by rfl))) ?_
    | refine DL.p rfl (POp.quiet (QOp.ldr_ro (by rfl) (by rfl) (by assumption) (by first | exact ldk2 | exact ldk3 | exact ldk4 | exact ldk5 | exact ldk6 | exact ldk7 | exact ldk9 | exact ldk11 | exact ldk12 | exact ldk13 | exact ldk15 | exact ldk16 | exact ldk17 | exact ldk18 | exact ldk19 | exact ldk21 | exact ldk22 | exact ldk23 | exact ldk39 | exact ldk53 | exact ldk54 | exact ldk68 | exact ldk76) (Nat.le_of_ble_eq_true (by rfl)))) ?_
    | refine DL.p rfl (POp.quiet (QOp.at_own (by rfl) (by first | exact slk39 | exact slk53 | exact slk54) (by rfl) (by rfl) (by rfl) (by rfl) (by rfl) (by rfl) (by first | assumption | omega | decide) (by first | assumption | omega | decide))) ?_
    | refine DL.p rfl (POp.quiet (QOp.len_own (by rfl) (by first | exact slk39 | exact slk53 | exact slk54) (by rfl) (by rfl) (by rfl) (by rfl))) ?_
    | (refine DL.p rfl (POp.pcall (by rfl) Try.func45 rfl rfl (by rfl) (by first | exact clo_all (by rfl) | (intro x hx; simp only [List.mem_cons, List.not_mem_nil, or_false] at hx; rcases hx with rfl | rfl | rfl | rfl | rfl | rfl | rfl | rfl <;> first | exact clo_of (by rfl) | exact clo_fn _ | assumption)) (eqEvent_self x (by assumption)) (by first | exact clo_of (by rfl) | assumption)) ?_)
    | refine DL.nil ?_
    | (refine AW.cond (by rfl) (fun h => ?_) ?_; rotate_left; focus (intro h; (try simp only [Bool.not_eq_true', Bool.not_eq_false'] at h); first | (cases h; done) | exact clash (by with_reducible_and_instances assumption) h | exact clash h (by with_reducible_and_instances assumption) | exact absurd h (by decide) | (refine absurd h ?_; simp; done)))
    | (refine AW.cond (by rfl) ?_ (fun h => ?_); focus (intro h; (try simp only [Bool.not_eq_true', Bool.not_eq_false'] at h); first | (cases h; done) | exact clash (by with_reducible_and_instances assumption) h | exact clash h (by with_reducible_and_instances assumption) | exact absurd h (by decide) | (refine absurd h ?_; simp; done)))
    | (refine AW.cond (by rfl) ?_ ?_ <;> (intro h; try simp only [Bool.not_eq_true', Bool.not_eq_false'] at h))
    | refine AW.block ?_
    | refine AW.exit ?_
    | refine AL.nil ?_
    | refine AW.ret ?_) <;> (try dsimp only [dput, List.set, cond_true, cond_false, Nat.zero_add, Nat.add_zero, Nat.reduceAdd, splice, List.take, List.drop, List.length, List.nil_append, List.cons_append, TPoint.en, TSegment.en, TBox.en, TFeature.en, TMeet.en, TPlace.en, TCover.en, TLabel.en, TPiece.en, TLevel.en, TChart.en, TReason.en, TEdit.en, TEntry.en, TEdition.en, TListing.en, TAtlas.en, TEvent.en, TWindow.en]))
  · (repeat' (first | exact Wk.nil | refine Wk.any ?_ | (with_reducible refine Wk.same ?_) | refine Wk.of ?_ ?_)) <;> first | rfl | (simp)
  · intro i hi
    have hclo : Clo (.ro 11 (l.map TEvent.en)) := clo_list TEvent.clo_en
    by_cases hlt : i < l.length
    · obtain ⟨x, hx⟩ : ∃ x, l[i]? = some x := ⟨_, List.getElem?_eq_getElem hlt⟩
      have hg := map_get (f := TEvent.en) hx
      have ht := lt_true (f := TEvent.en) hlt
      have hn := next_ix hlt (by omega)
      have hpx := hp x (List.mem_of_getElem? hx)
      have hclo0 : Clo (.ro 2 (x.feature.points.map TPoint.en)) := clo_list TPoint.clo_en
      have hclo1 : Clo (.ro 8 (x.log.map TEntry.en)) := clo_list TEntry.clo_en
      have hclo2 : Clo (.ro 3 (x.levels.map TLevel.en)) := clo_list TLevel.clo_en
      have hcls0 : Clo (.agg x.feature.en) := Clo.agg x.feature.clo_en
      have hcle : Clo (.agg x.en) := Clo.agg x.clo_en
      repeat' ((first
        | refine AW.seq ?_
        | refine AW.region ?_
        | refine AW.skip ?_
        | refine AL.q TT_ok rfl (by rfl) ?_
        | refine AL.step rfl ?_
        | refine OpA.quiet (QOp.atk_ro (by rfl) (by rfl) (by rfl) (by first | exact slk39 | exact slk53 | exact slk54) (Nat.le_of_ble_eq_true (by rfl)) (by first | assumption | omega) (by assumption)) ?_
        | refine OpA.quiet (QOp.ld1_ro (by rfl) (by rfl) (by assumption) (by first | exact ldk2 | exact ldk3 | exact ldk4 | exact ldk5 | exact ldk6 | exact ldk7 | exact ldk9 | exact ldk11 | exact ldk12 | exact ldk13 | exact ldk15 | exact ldk16 | exact ldk17 | exact ldk18 | exact ldk19 | exact ldk21 | exact ldk22 | exact ldk23 | exact ldk39 | exact ldk53 | exact ldk54 | exact ldk68 | exact ldk76) (by rfl)) ?_
        | refine OpA.quiet (QOp.ldr_ro (by rfl) (by rfl) (by assumption) (by first | exact ldk2 | exact ldk3 | exact ldk4 | exact ldk5 | exact ldk6 | exact ldk7 | exact ldk9 | exact ldk11 | exact ldk12 | exact ldk13 | exact ldk15 | exact ldk16 | exact ldk17 | exact ldk18 | exact ldk19 | exact ldk21 | exact ldk22 | exact ldk23 | exact ldk39 | exact ldk53 | exact ldk54 | exact ldk68 | exact ldk76) (Nat.le_of_ble_eq_true (by rfl))) ?_
        | refine OpA.quiet (QOp.at_own (by rfl) (by first | exact slk39 | exact slk53 | exact slk54) (by rfl) (by rfl) (by rfl) (by rfl) (by rfl) (by rfl) (by first | assumption | omega | decide) (by first | assumption | omega | decide)) ?_
        | refine OpA.quiet (QOp.len_own (by rfl) (by first | exact slk39 | exact slk53 | exact slk54) (by rfl) (by rfl) (by rfl) (by rfl)) ?_
        | refine OpA.pcall (by rfl) Try.func45 rfl rfl (by rfl) (by first | exact clo_all (by rfl) | (intro x hx; simp only [List.mem_cons, List.not_mem_nil, or_false] at hx; rcases hx with rfl | rfl | rfl | rfl | rfl | rfl | rfl | rfl <;> first | exact clo_of (by rfl) | exact clo_fn _ | assumption)) (eqEvent_self x (by assumption)) (by first | exact clo_of (by rfl) | assumption) ?_
        | refine AW.drawn 8 (by kernel_rfl) (by kernel_rfl) (by rfl) ?_
        | refine DL.q TT_ok rfl (by rfl) ?_
        | refine DL.p rfl (POp.quiet (QOp.atk_ro (by rfl) (by rfl) (by rfl) (by first | exact slk39 | exact slk53 | exact slk54) (Nat.le_of_ble_eq_true (by rfl)) (by first | assumption | omega) (by assumption))) ?_
        | refine DL.p rfl (POp.quiet (QOp.ld1_ro (by rfl) (by rfl) (by assumption) (by first | exact ldk2 | exact ldk3 | exact ldk4 | exact ldk5 | exact ldk6 | exact ldk7 | exact ldk9 | exact ldk11 | exact ldk12 | exact ldk13 | exact ldk15 | exact ldk16 | exact ldk17 | exact ldk18 | exact ldk19 | exact ldk21 | exact ldk22 | exact ldk23 | exact ldk39 | exact ldk53 | exact ldk54 | exact ldk68 | exact ldk76) (by rfl))) ?_
        | refine DL.p rfl (POp.quiet (QOp.ldr_ro (by rfl) (by rfl) (by assumption) (by first | exact ldk2 | exact ldk3 | exact ldk4 | exact ldk5 | exact ldk6 | exact ldk7 | exact ldk9 | exact ldk11 | exact ldk12 | exact ldk13 | exact ldk15 | exact ldk16 | exact ldk17 | exact ldk18 | exact ldk19 | exact ldk21 | exact ldk22 | exact ldk23 | exact ldk39 | exact ldk53 | exact ldk54 | exact ldk68 | exact ldk76) (Nat.le_of_ble_eq_true (by rfl)))) ?_
        | refine DL.p rfl (POp.quiet (QOp.at_own (by rfl) (by first | exact slk39 | exact slk53 | exact slk54) (by rfl) (by rfl) (by rfl) (by rfl) (by rfl) (by rfl) (by first | assumption | omega | decide) (by first | assumption | omega | decide))) ?_
        | refine DL.p rfl (POp.quiet (QOp.len_own (by rfl) (by first | exact slk39 | exact slk53 | exact slk54) (by rfl) (by rfl) (by rfl) (by rfl))) ?_
        | (refine DL.p rfl (POp.pcall (by rfl) Try.func45 rfl rfl (by rfl) (by first | exact clo_all (by rfl) | (intro x hx; simp only [List.mem_cons, List.not_mem_nil, or_false] at hx; rcases hx with rfl | rfl | rfl | rfl | rfl | rfl | rfl | rfl <;> first | exact clo_of (by rfl) | exact clo_fn _ | assumption)) (eqEvent_self x (by assumption)) (by first | exact clo_of (by rfl) | assumption)) ?_)
        | refine DL.nil ?_
        | (refine AW.cond (by rfl) (fun h => ?_) ?_; rotate_left; focus (intro h; (try simp only [Bool.not_eq_true', Bool.not_eq_false'] at h); first | (cases h; done) | exact clash (by with_reducible_and_instances assumption) h | exact clash h (by with_reducible_and_instances assumption) | exact absurd h (by decide) | (refine absurd h ?_; simp; done)))
        | (refine AW.cond (by rfl) ?_ (fun h => ?_); focus (intro h; (try simp only [Bool.not_eq_true', Bool.not_eq_false'] at h); first | (cases h; done) | exact clash (by with_reducible_and_instances assumption) h | exact clash h (by with_reducible_and_instances assumption) | exact absurd h (by decide) | (refine absurd h ?_; simp; done)))
        | (refine AW.cond (by rfl) ?_ ?_ <;> (intro h; try simp only [Bool.not_eq_true', Bool.not_eq_false'] at h))
        | refine AW.block ?_
        | refine AW.exit ?_
        | refine AL.nil ?_
        | refine AW.ret ?_) <;> (try dsimp only [dput, List.set, cond_true, cond_false, Nat.zero_add, Nat.add_zero, Nat.reduceAdd, splice, List.take, List.drop, List.length, List.nil_append, List.cons_append, TPoint.en, TSegment.en, TBox.en, TFeature.en, TMeet.en, TPlace.en, TCover.en, TLabel.en, TPiece.en, TLevel.en, TChart.en, TReason.en, TEdit.en, TEntry.en, TEdition.en, TListing.en, TAtlas.en, TEvent.en, TWindow.en]))
      all_goals first
        | (refine ⟨i + 1, _, hlt, by omega, ?_, rfl, ?_, ?_⟩; (focus ((repeat' (first | exact Wk.nil | refine Wk.any ?_ | (with_reducible refine Wk.same ?_) | refine Wk.of ?_ ?_)) <;> (simp_all))); (focus ((repeat' (first | exact Fits.nil _ | refine Fits.cons ?_ ?_ | exact Fits.any _ | exact Fits.c _ _ | exact Fits.own (by rfl) | exact Fits.ref (by rfl) | exact Fits.clo (by assumption) | exact Fits.clo (clo_of (by rfl)) | exact Fits.clo (clo_fn _))))); (focus (exact FitsM.nil _)))
    · have ht := lt_false (f := TEvent.en) hlt
      have e : i = l.length := by omega
      subst e
      try rw [List.take_length]
      repeat' ((first
        | refine AW.seq ?_
        | refine AW.region ?_
        | refine AW.skip ?_
        | refine AL.q TT_ok rfl (by rfl) ?_
        | refine AL.step rfl ?_
        | refine OpA.quiet (QOp.atk_ro (by rfl) (by rfl) (by rfl) (by first | exact slk39 | exact slk53 | exact slk54) (Nat.le_of_ble_eq_true (by rfl)) (by first | assumption | omega) (by assumption)) ?_
        | refine OpA.quiet (QOp.ld1_ro (by rfl) (by rfl) (by assumption) (by first | exact ldk2 | exact ldk3 | exact ldk4 | exact ldk5 | exact ldk6 | exact ldk7 | exact ldk9 | exact ldk11 | exact ldk12 | exact ldk13 | exact ldk15 | exact ldk16 | exact ldk17 | exact ldk18 | exact ldk19 | exact ldk21 | exact ldk22 | exact ldk23 | exact ldk39 | exact ldk53 | exact ldk54 | exact ldk68 | exact ldk76) (by rfl)) ?_
        | refine OpA.quiet (QOp.ldr_ro (by rfl) (by rfl) (by assumption) (by first | exact ldk2 | exact ldk3 | exact ldk4 | exact ldk5 | exact ldk6 | exact ldk7 | exact ldk9 | exact ldk11 | exact ldk12 | exact ldk13 | exact ldk15 | exact ldk16 | exact ldk17 | exact ldk18 | exact ldk19 | exact ldk21 | exact ldk22 | exact ldk23 | exact ldk39 | exact ldk53 | exact ldk54 | exact ldk68 | exact ldk76) (Nat.le_of_ble_eq_true (by rfl))) ?_
        | refine OpA.quiet (QOp.at_own (by rfl) (by first | exact slk39 | exact slk53 | exact slk54) (by rfl) (by rfl) (by rfl) (by rfl) (by rfl) (by rfl) (by first | assumption | omega | decide) (by first | assumption | omega | decide)) ?_
        | refine OpA.quiet (QOp.len_own (by rfl) (by first | exact slk39 | exact slk53 | exact slk54) (by rfl) (by rfl) (by rfl) (by rfl)) ?_
        | refine OpA.pcall (by rfl) Try.func45 rfl rfl (by rfl) (by first | exact clo_all (by rfl) | (intro x hx; simp only [List.mem_cons, List.not_mem_nil, or_false] at hx; rcases hx with rfl | rfl | rfl | rfl | rfl | rfl | rfl | rfl <;> first | exact clo_of (by rfl) | exact clo_fn _ | assumption)) (eqEvent_self x (by assumption)) (by first | exact clo_of (by rfl) | assumption) ?_
        | refine AW.drawn 8 (by kernel_rfl) (by kernel_rfl) (by rfl) ?_
        | refine DL.q TT_ok rfl (by rfl) ?_
        | refine DL.p rfl (POp.quiet (QOp.atk_ro (by rfl) (by rfl) (by rfl) (by first | exact slk39 | exact slk53 | exact slk54) (Nat.le_of_ble_eq_true (by rfl)) (by first | assumption | omega) (by assumption))) ?_
        | refine DL.p rfl (POp.quiet (QOp.ld1_ro (by rfl) (by rfl) (by assumption) (by first | exact ldk2 | exact ldk3 | exact ldk4 | exact ldk5 | exact ldk6 | exact ldk7 | exact ldk9 | exact ldk11 | exact ldk12 | exact ldk13 | exact ldk15 | exact ldk16 | exact ldk17 | exact ldk18 | exact ldk19 | exact ldk21 | exact ldk22 | exact ldk23 | exact ldk39 | exact ldk53 | exact ldk54 | exact ldk68 | exact ldk76) (by rfl))) ?_
        | refine DL.p rfl (POp.quiet (QOp.ldr_ro (by rfl) (by rfl) (by assumption) (by first | exact ldk2 | exact ldk3 | exact ldk4 | exact ldk5 | exact ldk6 | exact ldk7 | exact ldk9 | exact ldk11 | exact ldk12 | exact ldk13 | exact ldk15 | exact ldk16 | exact ldk17 | exact ldk18 | exact ldk19 | exact ldk21 | exact ldk22 | exact ldk23 | exact ldk39 | exact ldk53 | exact ldk54 | exact ldk68 | exact ldk76) (Nat.le_of_ble_eq_true (by rfl)))) ?_
        | refine DL.p rfl (POp.quiet (QOp.at_own (by rfl) (by first | exact slk39 | exact slk53 | exact slk54) (by rfl) (by rfl) (by rfl) (by rfl) (by rfl) (by rfl) (by first | assumption | omega | decide) (by first | assumption | omega | decide))) ?_
        | refine DL.p rfl (POp.quiet (QOp.len_own (by rfl) (by first | exact slk39 | exact slk53 | exact slk54) (by rfl) (by rfl) (by rfl) (by rfl))) ?_
        | (refine DL.p rfl (POp.pcall (by rfl) Try.func45 rfl rfl (by rfl) (by first | exact clo_all (by rfl) | (intro x hx; simp only [List.mem_cons, List.not_mem_nil, or_false] at hx; rcases hx with rfl | rfl | rfl | rfl | rfl | rfl | rfl | rfl <;> first | exact clo_of (by rfl) | exact clo_fn _ | assumption)) (eqEvent_self x (by assumption)) (by first | exact clo_of (by rfl) | assumption)) ?_)
        | refine DL.nil ?_
        | (refine AW.cond (by rfl) (fun h => ?_) ?_; rotate_left; focus (intro h; (try simp only [Bool.not_eq_true', Bool.not_eq_false'] at h); first | (cases h; done) | exact clash (by with_reducible_and_instances assumption) h | exact clash h (by with_reducible_and_instances assumption) | exact absurd h (by decide) | (refine absurd h ?_; simp; done)))
        | (refine AW.cond (by rfl) ?_ (fun h => ?_); focus (intro h; (try simp only [Bool.not_eq_true', Bool.not_eq_false'] at h); first | (cases h; done) | exact clash (by with_reducible_and_instances assumption) h | exact clash h (by with_reducible_and_instances assumption) | exact absurd h (by decide) | (refine absurd h ?_; simp; done)))
        | (refine AW.cond (by rfl) ?_ ?_ <;> (intro h; try simp only [Bool.not_eq_true', Bool.not_eq_false'] at h))
        | refine AW.block ?_
        | refine AW.exit ?_
        | refine AL.nil ?_
        | refine AW.ret ?_) <;> (try dsimp only [dput, List.set, cond_true, cond_false, Nat.zero_add, Nat.add_zero, Nat.reduceAdd, splice, List.take, List.drop, List.length, List.nil_append, List.cons_append, TPoint.en, TSegment.en, TBox.en, TFeature.en, TMeet.en, TPlace.en, TCover.en, TLabel.en, TPiece.en, TLevel.en, TChart.en, TReason.en, TEdit.en, TEntry.en, TEdition.en, TListing.en, TAtlas.en, TEvent.en, TWindow.en]))
      all_goals exact Fin.one rfl (RV.tmp (by rfl)) (clo_c _) ⟨by rfl, rfl⟩

end Go.Proofs.Ytbkcoechoblndaa.Abs
