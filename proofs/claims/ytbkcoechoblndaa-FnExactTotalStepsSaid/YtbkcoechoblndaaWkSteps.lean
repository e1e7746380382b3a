/- The walks of TotalSteps. -/
import Derived.Test.YtbkcoechoblndaaWkFacts
import Derived.Test.YtbkcoechoblndaaWkSegs
namespace Go.Proofs.Ytbkcoechoblndaa.Abs
open Go.Proofs Go.RowKit
set_option linter.unusedVariables false
set_option linter.unusedSimpArgs false
set_option maxRecDepth 100000 in
set_option maxHeartbeats 2000000 in
theorem totSteps_s (l : List TFeature) (hl : l.length ≤ 1048576) (hp : ∀ x ∈ l, x.sm) : VCalls Try.prog 14 [.ro 5 (l.map TFeature.en)] (fun r M => r = I (totSteps l) ∧ M = []) := by
  refine VCalls.bodyE Try.func14 rfl 25 rfl (fun E hE => ?_)
  simp only [List.reduceReplicate, List.cons_append, List.nil_append]
  repeat' ((first
    | refine AW.seq ?_
    | refine AW.region ?_
    | refine AW.skip ?_
    | refine AL.q TT_ok rfl (by rfl) ?_
    | refine AL.step rfl ?_
    | refine OpA.quiet (QOp.atk_ro (by rfl) (by rfl) (by rfl) (by first | exact slk32 | exact slk66) (Nat.le_of_ble_eq_true (by rfl)) (by first | assumption | omega) (by assumption)) ?_
    | refine OpA.quiet (QOp.ld1_ro (by rfl) (by rfl) (by assumption) (by first | exact ldk2 | exact ldk3 | exact ldk4 | exact ldk5 | exact ldk6 | exact ldk7 | exact ldk9 | exact ldk10 | exact ldk11 | exact ldk12 | exact ldk13 | exact ldk14 | exact ldk15 | exact ldk17 | exact ldk18 | exact ldk19 | exact ldk21 | exact ldk23 | exact ldk32 | exact ldk66 | exact ldk68 | exact ldk109) (by rfl)) ?_
    | refine OpA.quiet (QOp.ldr_ro (by rfl) (by rfl) (by assumption) (by first | exact ldk2 | exact ldk3 | exact ldk4 | exact ldk5 | exact ldk6 | exact ldk7 | exact ldk9 | exact ldk10 | exact ldk11 | exact ldk12 | exact ldk13 | exact ldk14 | exact ldk15 | exact ldk17 | exact ldk18 | exact ldk19 | exact ldk21 | exact ldk23 | exact ldk32 | exact ldk66 | exact ldk68 | exact ldk109) (Nat.le_of_ble_eq_true (by rfl))) ?_
    | refine OpA.quiet (QOp.at_own (by rfl) (by first | exact slk32 | exact slk66) (by rfl) (by rfl) (by rfl) (by rfl) (by rfl) (by rfl) (by first | assumption | omega | decide) (by first | assumption | omega | decide)) ?_
    | refine OpA.quiet (QOp.len_own (by rfl) (by first | exact slk32 | exact slk66) (by rfl) (by rfl) (by rfl) (by rfl)) ?_
    | refine OpA.quiet (QOp.sEq (by rfl) (by rfl) (by rfl) (by first | exact flk109.1) (by rfl) (by rfl) (by rfl) (by rfl) (by rfl) (by rfl) (by rfl) (by rfl)) ?_
    | refine OpA.pcall (by rfl) Try.func39 rfl rfl (by rfl) (by first | exact clo_all (by rfl) | (intro x hx; simp only [List.mem_cons, List.not_mem_nil, or_false] at hx; rcases hx with rfl | rfl | rfl | rfl | rfl | rfl | rfl | rfl <;> first | exact clo_of (by rfl) | assumption)) (lineSteps_s _ (by assumption)) (by first | exact clo_of (by rfl) | assumption) ?_
    | (refine AW.loopD hE (fun i : Nat => [.ro 5 (l.map TFeature.en), .any, .any, I (accF stepT l i), I i, .any, .any, .any, .any, .any, .any, .any, .any, .any, .any, .any, .any, .any, .any, .any, .any, .any, .any, .any, .any, .any]) (fun i => []) (fun i => l.length - i) (fun i => i ≤ l.length) 0 (by simp) ?_ (by first | rfl | (simp [fil_zero]; done)) ?_)
    | (refine AW.cond (by rfl) (fun h => ?_) ?_; rotate_left; focus (intro h; (try simp only [Bool.not_eq_true', Bool.not_eq_false'] at h); first | (cases h; done) | exact clash (by with_reducible_and_instances assumption) h | exact clash h (by with_reducible_and_instances assumption) | exact absurd h (by decide) | (refine absurd h ?_; simp; done)))
    | (refine AW.cond (by rfl) ?_ (fun h => ?_); focus (intro h; (try simp only [Bool.not_eq_true', Bool.not_eq_false'] at h); first | (cases h; done) | exact clash (by with_reducible_and_instances assumption) h | exact clash h (by with_reducible_and_instances assumption) | exact absurd h (by decide) | (refine absurd h ?_; simp; done)))
    | (refine AW.cond (by rfl) ?_ ?_ <;> (intro h; try simp only [Bool.not_eq_true', Bool.not_eq_false'] at h))
    | refine AW.block ?_
    | refine AW.exit ?_
    | refine AL.nil ?_
    | refine AW.ret ?_) <;> (try dsimp only [dput, List.set, cond_true, cond_false, Nat.zero_add, Nat.add_zero, Nat.reduceAdd, splice, List.take, List.drop, List.length, List.nil_append, List.cons_append, TPoint.en, TSegment.en, TBox.en, TFeature.en, TMeet.en, TPlace.en, TCover.en, TLabel.en, TPiece.en, TLevel.en, TChart.en, TReason.en, TEdit.en, TEntry.en, TEdition.en, TListing.en, TAtlas.en, TEvent.en, TWindow.en]))
  · (repeat' (first | exact Wk.nil | refine Wk.any ?_ | (with_reducible refine Wk.same ?_) | refine Wk.of ?_ ?_)) <;> first | rfl | (simp_all [accF])
  · intro i hi
    have hclo : Clo (.ro 5 (l.map TFeature.en)) := clo_list TFeature.clo_en
    by_cases hlt : i < l.length
    · obtain ⟨x, hx⟩ : ∃ x, l[i]? = some x := ⟨_, List.getElem?_eq_getElem hlt⟩
      have hg := map_get (f := TFeature.en) hx
      have ht := lt_true (f := TFeature.en) hlt
      have hn := next_ix hlt (by omega)
      have hpx := hp x (List.mem_of_getElem? hx)
      have hpp : x.points.length ≤ 1048576 := hpx
      have hcl1 : Clo (.ro 2 (x.points.map TPoint.en)) := clo_list TPoint.clo_en
      have hac := accF_succ (f := stepT) hx
      repeat' ((first
        | refine AW.seq ?_
        | refine AW.region ?_
        | refine AW.skip ?_
        | refine AL.q TT_ok rfl (by rfl) ?_
        | refine AL.step rfl ?_
        | refine OpA.quiet (QOp.atk_ro (by rfl) (by rfl) (by rfl) (by first | exact slk32 | exact slk66) (Nat.le_of_ble_eq_true (by rfl)) (by first | assumption | omega) (by assumption)) ?_
        | refine OpA.quiet (QOp.ld1_ro (by rfl) (by rfl) (by assumption) (by first | exact ldk2 | exact ldk3 | exact ldk4 | exact ldk5 | exact ldk6 | exact ldk7 | exact ldk9 | exact ldk10 | exact ldk11 | exact ldk12 | exact ldk13 | exact ldk14 | exact ldk15 | exact ldk17 | exact ldk18 | exact ldk19 | exact ldk21 | exact ldk23 | exact ldk32 | exact ldk66 | exact ldk68 | exact ldk109) (by rfl)) ?_
        | refine OpA.quiet (QOp.ldr_ro (by rfl) (by rfl) (by assumption) (by first | exact ldk2 | exact ldk3 | exact ldk4 | exact ldk5 | exact ldk6 | exact ldk7 | exact ldk9 | exact ldk10 | exact ldk11 | exact ldk12 | exact ldk13 | exact ldk14 | exact ldk15 | exact ldk17 | exact ldk18 | exact ldk19 | exact ldk21 | exact ldk23 | exact ldk32 | exact ldk66 | exact ldk68 | exact ldk109) (Nat.le_of_ble_eq_true (by rfl))) ?_
        | refine OpA.quiet (QOp.at_own (by rfl) (by first | exact slk32 | exact slk66) (by rfl) (by rfl) (by rfl) (by rfl) (by rfl) (by rfl) (by first | assumption | omega | decide) (by first | assumption | omega | decide)) ?_
        | refine OpA.quiet (QOp.len_own (by rfl) (by first | exact slk32 | exact slk66) (by rfl) (by rfl) (by rfl) (by rfl)) ?_
        | refine OpA.quiet (QOp.sEq (by rfl) (by rfl) (by rfl) (by first | exact flk109.1) (by rfl) (by rfl) (by rfl) (by rfl) (by rfl) (by rfl) (by rfl) (by rfl)) ?_
        | refine OpA.pcall (by rfl) Try.func39 rfl rfl (by rfl) (by first | exact clo_all (by rfl) | (intro x hx; simp only [List.mem_cons, List.not_mem_nil, or_false] at hx; rcases hx with rfl | rfl | rfl | rfl | rfl | rfl | rfl | rfl <;> first | exact clo_of (by rfl) | assumption)) (lineSteps_s _ (by assumption)) (by first | exact clo_of (by rfl) | assumption) ?_
        | (refine AW.cond (by rfl) (fun h => ?_) ?_; rotate_left; focus (intro h; (try simp only [Bool.not_eq_true', Bool.not_eq_false'] at h); first | (cases h; done) | exact clash (by with_reducible_and_instances assumption) h | exact clash h (by with_reducible_and_instances assumption) | exact absurd h (by decide) | (refine absurd h ?_; simp; done)))
        | (refine AW.cond (by rfl) ?_ (fun h => ?_); focus (intro h; (try simp only [Bool.not_eq_true', Bool.not_eq_false'] at h); first | (cases h; done) | exact clash (by with_reducible_and_instances assumption) h | exact clash h (by with_reducible_and_instances assumption) | exact absurd h (by decide) | (refine absurd h ?_; simp; done)))
        | (refine AW.cond (by rfl) ?_ ?_ <;> (intro h; try simp only [Bool.not_eq_true', Bool.not_eq_false'] at h))
        | refine AW.block ?_
        | refine AW.exit ?_
        | refine AL.nil ?_
        | refine AW.ret ?_) <;> (try dsimp only [dput, List.set, cond_true, cond_false, Nat.zero_add, Nat.add_zero, Nat.reduceAdd, splice, List.take, List.drop, List.length, List.nil_append, List.cons_append, TPoint.en, TSegment.en, TBox.en, TFeature.en, TMeet.en, TPlace.en, TCover.en, TLabel.en, TPiece.en, TLevel.en, TChart.en, TReason.en, TEdit.en, TEntry.en, TEdition.en, TListing.en, TAtlas.en, TEvent.en, TWindow.en]))
      all_goals first
        | (refine ⟨i + 1, _, hlt, by omega, ?_, rfl, ?_, ?_⟩; (focus ((repeat' (first | exact Wk.nil | refine Wk.any ?_ | (with_reducible refine Wk.same ?_) | refine Wk.of ?_ ?_)) <;> (simp_all))); (focus ((repeat' (first | exact Fits.nil _ | refine Fits.cons ?_ ?_ | exact Fits.any _ | exact Fits.c _ _ | exact Fits.own (by rfl) | exact Fits.ref (by rfl) | exact Fits.clo (by assumption))))); (focus (exact FitsM.nil _)))
    · have ht := lt_false (f := TFeature.en) hlt
      have e : i = l.length := by omega
      subst e
      try rw [List.take_length]
      repeat' ((first
        | refine AW.seq ?_
        | refine AW.region ?_
        | refine AW.skip ?_
        | refine AL.q TT_ok rfl (by rfl) ?_
        | refine AL.step rfl ?_
        | refine OpA.quiet (QOp.atk_ro (by rfl) (by rfl) (by rfl) (by first | exact slk32 | exact slk66) (Nat.le_of_ble_eq_true (by rfl)) (by first | assumption | omega) (by assumption)) ?_
        | refine OpA.quiet (QOp.ld1_ro (by rfl) (by rfl) (by assumption) (by first | exact ldk2 | exact ldk3 | exact ldk4 | exact ldk5 | exact ldk6 | exact ldk7 | exact ldk9 | exact ldk10 | exact ldk11 | exact ldk12 | exact ldk13 | exact ldk14 | exact ldk15 | exact ldk17 | exact ldk18 | exact ldk19 | exact ldk21 | exact ldk23 | exact ldk32 | exact ldk66 | exact ldk68 | exact ldk109) (by rfl)) ?_
        | refine OpA.quiet (QOp.ldr_ro (by rfl) (by rfl) (by assumption) (by first | exact ldk2 | exact ldk3 | exact ldk4 | exact ldk5 | exact ldk6 | exact ldk7 | exact ldk9 | exact ldk10 | exact ldk11 | exact ldk12 | exact ldk13 | exact ldk14 | exact ldk15 | exact ldk17 | exact ldk18 | exact ldk19 | exact ldk21 | exact ldk23 | exact ldk32 | exact ldk66 | exact ldk68 | exact ldk109) (Nat.le_of_ble_eq_true (by rfl))) ?_
        | refine OpA.quiet (QOp.at_own (by rfl) (by first | exact slk32 | exact slk66) (by rfl) (by rfl) (by rfl) (by rfl) (by rfl) (by rfl) (by first | assumption | omega | decide) (by first | assumption | omega | decide)) ?_
        | refine OpA.quiet (QOp.len_own (by rfl) (by first | exact slk32 | exact slk66) (by rfl) (by rfl) (by rfl) (by rfl)) ?_
        | refine OpA.quiet (QOp.sEq (by rfl) (by rfl) (by rfl) (by first | exact flk109.1) (by rfl) (by rfl) (by rfl) (by rfl) (by rfl) (by rfl) (by rfl) (by rfl)) ?_
        | refine OpA.pcall (by rfl) Try.func39 rfl rfl (by rfl) (by first | exact clo_all (by rfl) | (intro x hx; simp only [List.mem_cons, List.not_mem_nil, or_false] at hx; rcases hx with rfl | rfl | rfl | rfl | rfl | rfl | rfl | rfl <;> first | exact clo_of (by rfl) | assumption)) (lineSteps_s _ (by assumption)) (by first | exact clo_of (by rfl) | assumption) ?_
        | (refine AW.cond (by rfl) (fun h => ?_) ?_; rotate_left; focus (intro h; (try simp only [Bool.not_eq_true', Bool.not_eq_false'] at h); first | (cases h; done) | exact clash (by with_reducible_and_instances assumption) h | exact clash h (by with_reducible_and_instances assumption) | exact absurd h (by decide) | (refine absurd h ?_; simp; done)))
        | (refine AW.cond (by rfl) ?_ (fun h => ?_); focus (intro h; (try simp only [Bool.not_eq_true', Bool.not_eq_false'] at h); first | (cases h; done) | exact clash (by with_reducible_and_instances assumption) h | exact clash h (by with_reducible_and_instances assumption) | exact absurd h (by decide) | (refine absurd h ?_; simp; done)))
        | (refine AW.cond (by rfl) ?_ ?_ <;> (intro h; try simp only [Bool.not_eq_true', Bool.not_eq_false'] at h))
        | refine AW.block ?_
        | refine AW.exit ?_
        | refine AL.nil ?_
        | refine AW.ret ?_) <;> (try dsimp only [dput, List.set, cond_true, cond_false, Nat.zero_add, Nat.add_zero, Nat.reduceAdd, splice, List.take, List.drop, List.length, List.nil_append, List.cons_append, TPoint.en, TSegment.en, TBox.en, TFeature.en, TMeet.en, TPlace.en, TCover.en, TLabel.en, TPiece.en, TLevel.en, TChart.en, TReason.en, TEdit.en, TEntry.en, TEdition.en, TListing.en, TAtlas.en, TEvent.en, TWindow.en]))
      all_goals exact Fin.one rfl (RV.tmp (by rfl)) (clo_c _) ⟨by rw [accF_all]; rfl, rfl⟩

set_option maxRecDepth 100000 in
set_option maxHeartbeats 2000000 in
theorem totSteps_i (l : List TFeature) (hl : l.length ≤ 1048576) (hp : ∀ x ∈ l, x.sm) : VCalls Try.prog 16 [.ro 5 (l.map TFeature.en)] (fun r M => r = I (totSteps l) ∧ M = []) := by
  refine VCalls.bodyE Try.func16 rfl 21 rfl (fun E hE => ?_)
  simp only [List.reduceReplicate, List.cons_append, List.nil_append]
  repeat' ((first
    | refine AW.seq ?_
    | refine AW.region ?_
    | refine AW.skip ?_
    | refine AL.q TT_ok rfl (by rfl) ?_
    | refine AL.step rfl ?_
    | refine OpA.quiet (QOp.atk_ro (by rfl) (by rfl) (by rfl) (by first | exact slk32 | exact slk66) (Nat.le_of_ble_eq_true (by rfl)) (by first | assumption | omega) (by assumption)) ?_
    | refine OpA.quiet (QOp.ld1_ro (by rfl) (by rfl) (by assumption) (by first | exact ldk2 | exact ldk3 | exact ldk4 | exact ldk5 | exact ldk6 | exact ldk7 | exact ldk8 | exact ldk9 | exact ldk10 | exact ldk11 | exact ldk12 | exact ldk13 | exact ldk15 | exact ldk16 | exact ldk17 | exact ldk18 | exact ldk19 | exact ldk21 | exact ldk32 | exact ldk66 | exact ldk68 | exact ldk109) (by rfl)) ?_
    | refine OpA.quiet (QOp.ldr_ro (by rfl) (by rfl) (by assumption) (by first | exact ldk2 | exact ldk3 | exact ldk4 | exact ldk5 | exact ldk6 | exact ldk7 | exact ldk8 | exact ldk9 | exact ldk10 | exact ldk11 | exact ldk12 | exact ldk13 | exact ldk15 | exact ldk16 | exact ldk17 | exact ldk18 | exact ldk19 | exact ldk21 | exact ldk32 | exact ldk66 | exact ldk68 | exact ldk109) (Nat.le_of_ble_eq_true (by rfl))) ?_
    | refine OpA.quiet (QOp.at_own (by rfl) (by first | exact slk32 | exact slk66) (by rfl) (by rfl) (by rfl) (by rfl) (by rfl) (by rfl) (by first | assumption | omega | decide) (by first | assumption | omega | decide)) ?_
    | refine OpA.quiet (QOp.len_own (by rfl) (by first | exact slk32 | exact slk66) (by rfl) (by rfl) (by rfl) (by rfl)) ?_
    | refine OpA.quiet (QOp.sEq (by rfl) (by rfl) (by rfl) (by first | exact flk109.1) (by rfl) (by rfl) (by rfl) (by rfl) (by rfl) (by rfl) (by rfl) (by rfl)) ?_
    | refine OpA.allocA (by rfl) (by first | exact ze2 | exact ze3 | exact ze4 | exact ze5 | exact ze6 | exact ze7 | exact ze8 | exact ze9 | exact ze10 | exact ze11 | exact ze12 | exact ze13 | exact ze15 | exact ze16 | exact ze17 | exact ze18 | exact ze19 | exact ze21 | exact ze32 | exact ze66 | exact ze68 | exact ze109) ?_
    | refine OpA.sto (by rfl) (by rfl) (by rfl) (by rfl) (by rfl) (by rfl) (by rfl) (by rfl) (by first | exact ldk2 | exact ldk3 | exact ldk4 | exact ldk5 | exact ldk6 | exact ldk7 | exact ldk8 | exact ldk9 | exact ldk10 | exact ldk11 | exact ldk12 | exact ldk13 | exact ldk15 | exact ldk16 | exact ldk17 | exact ldk18 | exact ldk19 | exact ldk21 | exact ldk32 | exact ldk66 | exact ldk68 | exact ldk109) (by rfl) (Nat.le_of_ble_eq_true (by rfl)) ?_
    | refine OpA.sto (by rfl) (by rfl) (by rfl) (by rfl) (by rfl) (by assumption) (by rfl) (by rfl) (by first | exact ldk2 | exact ldk3 | exact ldk4 | exact ldk5 | exact ldk6 | exact ldk7 | exact ldk8 | exact ldk9 | exact ldk10 | exact ldk11 | exact ldk12 | exact ldk13 | exact ldk15 | exact ldk16 | exact ldk17 | exact ldk18 | exact ldk19 | exact ldk21 | exact ldk32 | exact ldk66 | exact ldk68 | exact ldk109) (by rfl) (Nat.le_of_ble_eq_true (by rfl)) ?_
    | refine OpA.pcall (by rfl) Try.func41 rfl rfl (by rfl) (by first | exact clo_all (by rfl) | (intro x hx; simp only [List.mem_cons, List.not_mem_nil, or_false] at hx; rcases hx with rfl | rfl | rfl | rfl | rfl | rfl | rfl | rfl <;> first | exact clo_of (by rfl) | assumption)) (lineSteps_i _ (by assumption)) (by first | exact clo_of (by rfl) | assumption) ?_
    | (refine AW.loopD hE (fun i : Nat => [.any, .any, .any, I (accF stepT l i), .any, .any, .ro 5 (l.map TFeature.en), I (l.map TFeature.en).length, I i, .any, .any, .any, .any, .any, .any, .any, .any, .any, .any, .any, .any, .any]) (fun i => []) (fun i => l.length - i) (fun i => i ≤ l.length) 0 (by simp) ?_ (by first | rfl | (simp [fil_zero]; done)) ?_)
    | (refine AW.cond (by rfl) (fun h => ?_) ?_; rotate_left; focus (intro h; (try simp only [Bool.not_eq_true', Bool.not_eq_false'] at h); first | (cases h; done) | exact clash (by with_reducible_and_instances assumption) h | exact clash h (by with_reducible_and_instances assumption) | exact absurd h (by decide) | (refine absurd h ?_; simp; done)))
    | (refine AW.cond (by rfl) ?_ (fun h => ?_); focus (intro h; (try simp only [Bool.not_eq_true', Bool.not_eq_false'] at h); first | (cases h; done) | exact clash (by with_reducible_and_instances assumption) h | exact clash h (by with_reducible_and_instances assumption) | exact absurd h (by decide) | (refine absurd h ?_; simp; done)))
    | (refine AW.cond (by rfl) ?_ ?_ <;> (intro h; try simp only [Bool.not_eq_true', Bool.not_eq_false'] at h))
    | refine AW.block ?_
    | refine AW.exit ?_
    | refine AL.nil ?_
    | refine AW.ret ?_) <;> (try dsimp only [dput, List.set, cond_true, cond_false, Nat.zero_add, Nat.add_zero, Nat.reduceAdd, splice, List.take, List.drop, List.length, List.nil_append, List.cons_append, TPoint.en, TSegment.en, TBox.en, TFeature.en, TMeet.en, TPlace.en, TCover.en, TLabel.en, TPiece.en, TLevel.en, TChart.en, TReason.en, TEdit.en, TEntry.en, TEdition.en, TListing.en, TAtlas.en, TEvent.en, TWindow.en]))
  · (repeat' (first | exact Wk.nil | refine Wk.any ?_ | (with_reducible refine Wk.same ?_) | refine Wk.of ?_ ?_)) <;> first | rfl | (simp_all [accF])
  · intro i hi
    have hclo : Clo (.ro 5 (l.map TFeature.en)) := clo_list TFeature.clo_en
    by_cases hlt : i < l.length
    · obtain ⟨x, hx⟩ : ∃ x, l[i]? = some x := ⟨_, List.getElem?_eq_getElem hlt⟩
      have hg := map_get (f := TFeature.en) hx
      have ht := lt_true (f := TFeature.en) hlt
      have hn := next_ix hlt (by omega)
      have hpx := hp x (List.mem_of_getElem? hx)
      have hpp : x.points.length ≤ 1048576 := hpx
      have hcl1 : Clo (.ro 2 (x.points.map TPoint.en)) := clo_list TPoint.clo_en
      have hac := accF_succ (f := stepT) hx
      repeat' ((first
        | refine AW.seq ?_
        | refine AW.region ?_
        | refine AW.skip ?_
        | refine AL.q TT_ok rfl (by rfl) ?_
        | refine AL.step rfl ?_
        | refine OpA.quiet (QOp.atk_ro (by rfl) (by rfl) (by rfl) (by first | exact slk32 | exact slk66) (Nat.le_of_ble_eq_true (by rfl)) (by first | assumption | omega) (by assumption)) ?_
        | refine OpA.quiet (QOp.ld1_ro (by rfl) (by rfl) (by assumption) (by first | exact ldk2 | exact ldk3 | exact ldk4 | exact ldk5 | exact ldk6 | exact ldk7 | exact ldk8 | exact ldk9 | exact ldk10 | exact ldk11 | exact ldk12 | exact ldk13 | exact ldk15 | exact ldk16 | exact ldk17 | exact ldk18 | exact ldk19 | exact ldk21 | exact ldk32 | exact ldk66 | exact ldk68 | exact ldk109) (by rfl)) ?_
        | refine OpA.quiet (QOp.ldr_ro (by rfl) (by rfl) (by assumption) (by first | exact ldk2 | exact ldk3 | exact ldk4 | exact ldk5 | exact ldk6 | exact ldk7 | exact ldk8 | exact ldk9 | exact ldk10 | exact ldk11 | exact ldk12 | exact ldk13 | exact ldk15 | exact ldk16 | exact ldk17 | exact ldk18 | exact ldk19 | exact ldk21 | exact ldk32 | exact ldk66 | exact ldk68 | exact ldk109) (Nat.le_of_ble_eq_true (by rfl))) ?_
        | refine OpA.quiet (QOp.at_own (by rfl) (by first | exact slk32 | exact slk66) (by rfl) (by rfl) (by rfl) (by rfl) (by rfl) (by rfl) (by first | assumption | omega | decide) (by first | assumption | omega | decide)) ?_
        | refine OpA.quiet (QOp.len_own (by rfl) (by first | exact slk32 | exact slk66) (by rfl) (by rfl) (by rfl) (by rfl)) ?_
        | refine OpA.quiet (QOp.sEq (by rfl) (by rfl) (by rfl) (by first | exact flk109.1) (by rfl) (by rfl) (by rfl) (by rfl) (by rfl) (by rfl) (by rfl) (by rfl)) ?_
        | refine OpA.allocA (by rfl) (by first | exact ze2 | exact ze3 | exact ze4 | exact ze5 | exact ze6 | exact ze7 | exact ze8 | exact ze9 | exact ze10 | exact ze11 | exact ze12 | exact ze13 | exact ze15 | exact ze16 | exact ze17 | exact ze18 | exact ze19 | exact ze21 | exact ze32 | exact ze66 | exact ze68 | exact ze109) ?_
        | refine OpA.sto (by rfl) (by rfl) (by rfl) (by rfl) (by rfl) (by rfl) (by rfl) (by rfl) (by first | exact ldk2 | exact ldk3 | exact ldk4 | exact ldk5 | exact ldk6 | exact ldk7 | exact ldk8 | exact ldk9 | exact ldk10 | exact ldk11 | exact ldk12 | exact ldk13 | exact ldk15 | exact ldk16 | exact ldk17 | exact ldk18 | exact ldk19 | exact ldk21 | exact ldk32 | exact ldk66 | exact ldk68 | exact ldk109) (by rfl) (Nat.le_of_ble_eq_true (by rfl)) ?_
        | refine OpA.sto (by rfl) (by rfl) (by rfl) (by rfl) (by rfl) (by assumption) (by rfl) (by rfl) (by first | exact ldk2 | exact ldk3 | exact ldk4 | exact ldk5 | exact ldk6 | exact ldk7 | exact ldk8 | exact ldk9 | exact ldk10 | exact ldk11 | exact ldk12 | exact ldk13 | exact ldk15 | exact ldk16 | exact ldk17 | exact ldk18 | exact ldk19 | exact ldk21 | exact ldk32 | exact ldk66 | exact ldk68 | exact ldk109) (by rfl) (Nat.le_of_ble_eq_true (by rfl)) ?_
        | refine OpA.pcall (by rfl) Try.func41 rfl rfl (by rfl) (by first | exact clo_all (by rfl) | (intro x hx; simp only [List.mem_cons, List.not_mem_nil, or_false] at hx; rcases hx with rfl | rfl | rfl | rfl | rfl | rfl | rfl | rfl <;> first | exact clo_of (by rfl) | assumption)) (lineSteps_i _ (by assumption)) (by first | exact clo_of (by rfl) | assumption) ?_
        | (refine AW.cond (by rfl) (fun h => ?_) ?_; rotate_left; focus (intro h; (try simp only [Bool.not_eq_true', Bool.not_eq_false'] at h); first | (cases h; done) | exact clash (by with_reducible_and_instances assumption) h | exact clash h (by with_reducible_and_instances assumption) | exact absurd h (by decide) | (refine absurd h ?_; simp; done)))
        | (refine AW.cond (by rfl) ?_ (fun h => ?_); focus (intro h; (try simp only [Bool.not_eq_true', Bool.not_eq_false'] at h); first | (cases h; done) | exact clash (by with_reducible_and_instances assumption) h | exact clash h (by with_reducible_and_instances assumption) | exact absurd h (by decide) | (refine absurd h ?_; simp; done)))
        | (refine AW.cond (by rfl) ?_ ?_ <;> (intro h; try simp only [Bool.not_eq_true', Bool.not_eq_false'] at h))
        | refine AW.block ?_
        | refine AW.exit ?_
        | refine AL.nil ?_
        | refine AW.ret ?_) <;> (try dsimp only [dput, List.set, cond_true, cond_false, Nat.zero_add, Nat.add_zero, Nat.reduceAdd, splice, List.take, List.drop, List.length, List.nil_append, List.cons_append, TPoint.en, TSegment.en, TBox.en, TFeature.en, TMeet.en, TPlace.en, TCover.en, TLabel.en, TPiece.en, TLevel.en, TChart.en, TReason.en, TEdit.en, TEntry.en, TEdition.en, TListing.en, TAtlas.en, TEvent.en, TWindow.en]))
      all_goals first
        | (refine ⟨i + 1, _, hlt, by omega, ?_, rfl, ?_, ?_⟩; (focus ((repeat' (first | exact Wk.nil | refine Wk.any ?_ | (with_reducible refine Wk.same ?_) | refine Wk.of ?_ ?_)) <;> (simp_all))); (focus ((repeat' (first | exact Fits.nil _ | refine Fits.cons ?_ ?_ | exact Fits.any _ | exact Fits.c _ _ | exact Fits.own (by rfl) | exact Fits.ref (by rfl) | exact Fits.clo (by assumption))))); (focus (exact FitsM.nil _)))
    · have ht := lt_false (f := TFeature.en) hlt
      have e : i = l.length := by omega
      subst e
      try rw [List.take_length]
      repeat' ((first
        | refine AW.seq ?_
        | refine AW.region ?_
        | refine AW.skip ?_
        | refine AL.q TT_ok rfl (by rfl) ?_
        | refine AL.step rfl ?_
        | refine OpA.quiet (QOp.atk_ro (by rfl) (by rfl) (by rfl) (by first | exact slk32 | exact slk66) (Nat.le_of_ble_eq_true (by rfl)) (by first | assumption | omega) (by assumption)) ?_
        | refine OpA.quiet (QOp.ld1_ro (by rfl) (by rfl) (by assumption) (by first | exact ldk2 | exact ldk3 | exact ldk4 | exact ldk5 | exact ldk6 | exact ldk7 | exact ldk8 | exact ldk9 | exact ldk10 | exact ldk11 | exact ldk12 | exact ldk13 | exact ldk15 | exact ldk16 | exact ldk17 | exact ldk18 | exact ldk19 | exact ldk21 | exact ldk32 | exact ldk66 | exact ldk68 | exact ldk109) (by rfl)) ?_
        | refine OpA.quiet (QOp.ldr_ro (by rfl) (by rfl) (by assumption) (by first | exact ldk2 | exact ldk3 | exact ldk4 | exact ldk5 | exact ldk6 | exact ldk7 | exact ldk8 | exact ldk9 | exact ldk10 | exact ldk11 | exact ldk12 | exact ldk13 | exact ldk15 | exact ldk16 | exact ldk17 | exact ldk18 | exact ldk19 | exact ldk21 | exact ldk32 | exact ldk66 | exact ldk68 | exact ldk109) (Nat.le_of_ble_eq_true (by rfl))) ?_
        | refine OpA.quiet (QOp.at_own (by rfl) (by first | exact slk32 | exact slk66) (by rfl) (by rfl) (by rfl) (by rfl) (by rfl) (by rfl) (by first | assumption | omega | decide) (by first | assumption | omega | decide)) ?_
        | refine OpA.quiet (QOp.len_own (by rfl) (by first | exact slk32 | exact slk66) (by rfl) (by rfl) (by rfl) (by rfl)) ?_
        | refine OpA.quiet (QOp.sEq (by rfl) (by rfl) (by rfl) (by first | exact flk109.1) (by rfl) (by rfl) (by rfl) (by rfl) (by rfl) (by rfl) (by rfl) (by rfl)) ?_
        | refine OpA.allocA (by rfl) (by first | exact ze2 | exact ze3 | exact ze4 | exact ze5 | exact ze6 | exact ze7 | exact ze8 | exact ze9 | exact ze10 | exact ze11 | exact ze12 | exact ze13 | exact ze15 | exact ze16 | exact ze17 | exact ze18 | exact ze19 | exact ze21 | exact ze32 | exact ze66 | exact ze68 | exact ze109) ?_
        | refine OpA.sto (by rfl) (by rfl) (by rfl) (by rfl) (by rfl) (by rfl) (by rfl) (by rfl) (by first | exact ldk2 | exact ldk3 | exact ldk4 | exact ldk5 | exact ldk6 | exact ldk7 | exact ldk8 | exact ldk9 | exact ldk10 | exact ldk11 | exact ldk12 | exact ldk13 | exact ldk15 | exact ldk16 | exact ldk17 | exact ldk18 | exact ldk19 | exact ldk21 | exact ldk32 | exact ldk66 | exact ldk68 | exact ldk109) (by rfl) (Nat.le_of_ble_eq_true (by rfl)) ?_
        | refine OpA.sto (by rfl) (by rfl) (by rfl) (by rfl) (by rfl) (by assumption) (by rfl) (by rfl) (by first | exact ldk2 | exact ldk3 | exact ldk4 | exact ldk5 | exact ldk6 | exact ldk7 | exact ldk8 | exact ldk9 | exact ldk10 | exact ldk11 | exact ldk12 | exact ldk13 | exact ldk15 | exact ldk16 | exact ldk17 | exact ldk18 | exact ldk19 | exact ldk21 | exact ldk32 | exact ldk66 | exact ldk68 | exact ldk109) (by rfl) (Nat.le_of_ble_eq_true (by rfl)) ?_
        | refine OpA.pcall (by rfl) Try.func41 rfl rfl (by rfl) (by first | exact clo_all (by rfl) | (intro x hx; simp only [List.mem_cons, List.not_mem_nil, or_false] at hx; rcases hx with rfl | rfl | rfl | rfl | rfl | rfl | rfl | rfl <;> first | exact clo_of (by rfl) | assumption)) (lineSteps_i _ (by assumption)) (by first | exact clo_of (by rfl) | assumption) ?_
        | (refine AW.cond (by rfl) (fun h => ?_) ?_; rotate_left; focus (intro h; (try simp only [Bool.not_eq_true', Bool.not_eq_false'] at h); first | (cases h; done) | exact clash (by with_reducible_and_instances assumption) h | exact clash h (by with_reducible_and_instances assumption) | exact absurd h (by decide) | (refine absurd h ?_; simp; done)))
        | (refine AW.cond (by rfl) ?_ (fun h => ?_); focus (intro h; (try simp only [Bool.not_eq_true', Bool.not_eq_false'] at h); first | (cases h; done) | exact clash (by with_reducible_and_instances assumption) h | exact clash h (by with_reducible_and_instances assumption) | exact absurd h (by decide) | (refine absurd h ?_; simp; done)))
        | (refine AW.cond (by rfl) ?_ ?_ <;> (intro h; try simp only [Bool.not_eq_true', Bool.not_eq_false'] at h))
        | refine AW.block ?_
        | refine AW.exit ?_
        | refine AL.nil ?_
        | refine AW.ret ?_) <;> (try dsimp only [dput, List.set, cond_true, cond_false, Nat.zero_add, Nat.add_zero, Nat.reduceAdd, splice, List.take, List.drop, List.length, List.nil_append, List.cons_append, TPoint.en, TSegment.en, TBox.en, TFeature.en, TMeet.en, TPlace.en, TCover.en, TLabel.en, TPiece.en, TLevel.en, TChart.en, TReason.en, TEdit.en, TEntry.en, TEdition.en, TListing.en, TAtlas.en, TEvent.en, TWindow.en]))
      all_goals exact Fin.one rfl (RV.tmp (by rfl)) (clo_c _) ⟨by rw [accF_all]; rfl, rfl⟩

set_option maxRecDepth 100000 in
set_option maxHeartbeats 2000000 in
theorem law_FnExactTotalSteps (l : List TFeature) (h0 : (l.length ≤ maxLen ∧ ∀ x ∈ l, x.ok)) : VCalls Try.prog 4 [.ro 5 (l.map TFeature.en)] (fun r M => r = B true ∧ M = []) := by
  refine VCalls.body Try.func4 rfl 26 rfl (fun E => ?_)
  simp only [List.reduceReplicate, List.cons_append, List.nil_append]
  have hclo_l : Clo (.ro 5 (l.map TFeature.en)) := clo_list TFeature.clo_en
  obtain ⟨hl0, hp0⟩ := id h0
  rw [maxLen_eq] at hl0
  rcases Szs.split (TFeature.szs.list) l 1048576 h0 (by decide) (by decide) with hz | ⟨hz, ⟨hl0', hp0'⟩, hz0, hz1⟩
  repeat' ((first
    | refine AW.seq ?_
    | refine AW.region ?_
    | refine AW.skip ?_
    | refine AL.q TT_ok rfl (by rfl) ?_
    | refine AL.step rfl ?_
    | refine OpA.pcall (by rfl) Try.func13 rfl rfl (by rfl) (by first | exact clo_all (by rfl) | (intro x hx; simp only [List.mem_cons, List.not_mem_nil, or_false] at hx; rcases hx with rfl | rfl | rfl | rfl | rfl | rfl | rfl | rfl <;> first | exact clo_of (by rfl) | assumption)) (szFeatureS _ _ (by assumption) (by assumption)) (by first | exact clo_of (by rfl) | assumption) ?_
    | refine OpA.pcall (by rfl) Try.func14 rfl rfl (by rfl) (by first | exact clo_all (by rfl) | (intro x hx; simp only [List.mem_cons, List.not_mem_nil, or_false] at hx; rcases hx with rfl | rfl | rfl | rfl | rfl | rfl | rfl | rfl <;> first | exact clo_of (by rfl) | assumption)) (totSteps_s _ (by assumption) (by assumption)) (by first | exact clo_of (by rfl) | assumption) ?_
    | refine OpA.pcall (by rfl) Try.func15 rfl rfl (by rfl) (by first | exact clo_all (by rfl) | (intro x hx; simp only [List.mem_cons, List.not_mem_nil, or_false] at hx; rcases hx with rfl | rfl | rfl | rfl | rfl | rfl | rfl | rfl <;> first | exact clo_of (by rfl) | assumption)) (toFeatureS _ (by assumption) (by assumption)) (by first | exact clo_of (by rfl) | assumption) ?_
    | refine OpA.pcall (by rfl) Try.func16 rfl rfl (by rfl) (by first | exact clo_all (by rfl) | (intro x hx; simp only [List.mem_cons, List.not_mem_nil, or_false] at hx; rcases hx with rfl | rfl | rfl | rfl | rfl | rfl | rfl | rfl <;> first | exact clo_of (by rfl) | assumption)) (totSteps_i _ (by assumption) (by assumption)) (by first | exact clo_of (by rfl) | assumption) ?_
    | refine OpA.pcall (by rfl) Try.func17 rfl rfl (by rfl) (by first | exact clo_all (by rfl) | (intro x hx; simp only [List.mem_cons, List.not_mem_nil, or_false] at hx; rcases hx with rfl | rfl | rfl | rfl | rfl | rfl | rfl | rfl <;> first | exact clo_of (by rfl) | assumption)) (eqFeatureS_self _ (by assumption) (by assumption)) (by first | exact clo_of (by rfl) | assumption) ?_
    | (refine AW.cond (by rfl) (fun h => ?_) ?_; rotate_left; focus (intro h; (try simp only [Bool.not_eq_true', Bool.not_eq_false'] at h); first | (cases h; done) | exact clash (by with_reducible_and_instances assumption) h | exact clash h (by with_reducible_and_instances assumption) | exact absurd h (by decide) | (refine absurd h ?_; simp; done)))
    | (refine AW.cond (by rfl) ?_ (fun h => ?_); focus (intro h; (try simp only [Bool.not_eq_true', Bool.not_eq_false'] at h); first | (cases h; done) | exact clash (by with_reducible_and_instances assumption) h | exact clash h (by with_reducible_and_instances assumption) | exact absurd h (by decide) | (refine absurd h ?_; simp; done)))
    | (refine AW.cond (by rfl) ?_ ?_ <;> (intro h; try simp only [Bool.not_eq_true', Bool.not_eq_false'] at h))
    | refine AL.nil ?_
    | refine AW.ret ?_) <;> (try dsimp only [dput, List.set, cond_true, cond_false, Nat.zero_add, Nat.add_zero, Nat.reduceAdd, splice, List.take, List.drop, List.length, List.nil_append, List.cons_append, TPoint.en, TSegment.en, TBox.en, TFeature.en, TMeet.en, TPlace.en, TCover.en, TLabel.en, TPiece.en, TLevel.en, TChart.en, TReason.en, TEdit.en, TEntry.en, TEdition.en, TListing.en, TAtlas.en, TEvent.en, TWindow.en]))
  all_goals exact Fin.one rfl (RV.tmp (by rfl)) (clo_c _) ⟨by first | rfl | (simp_all; done), rfl⟩

end Go.Proofs.Ytbkcoechoblndaa.Abs
