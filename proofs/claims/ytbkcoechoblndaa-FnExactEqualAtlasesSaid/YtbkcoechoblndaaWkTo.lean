/- The walks of the laws' converters. -/
import Derived.Test.YtbkcoechoblndaaWkFacts
import Derived.Test.YtbkcoechoblndaaWkSz
namespace Go.Proofs.Ytbkcoechoblndaa.Abs
open Go.Proofs Go.RowKit
set_option linter.unusedVariables false
set_option linter.unusedSimpArgs false
set_option maxRecDepth 100000 in
set_option maxHeartbeats 2000000 in
theorem toPoint (x : TPoint) : VCalls Try.prog 108 [.agg x.en] (fun r M => r = .agg x.en ∧ M = []) := by
  refine VCalls.body Try.func108 rfl 10 rfl (fun E => ?_)
  simp only [List.reduceReplicate, List.cons_append, List.nil_append]
  dsimp only [TPoint.en]
  repeat' ((first
    | refine AW.seq ?_
    | refine AW.region ?_
    | refine AW.skip ?_
    | refine AL.q TT_ok rfl (by rfl) ?_
    | refine AL.step rfl ?_
    | refine OpA.box (by rfl) (by rfl) (by rfl) ?_
    | refine OpA.allocA (by rfl) (by first | exact ze2 | exact ze3 | exact ze4 | exact ze5 | exact ze6 | exact ze7 | exact ze8 | exact ze9 | exact ze10 | exact ze109 | exact ze135) ?_
    | refine OpA.sto (by rfl) (by rfl) (by rfl) (by rfl) (by rfl) (by rfl) (by rfl) (by rfl) (by first | exact ldk2 | exact ldk3 | exact ldk4 | exact ldk5 | exact ldk6 | exact ldk7 | exact ldk8 | exact ldk9 | exact ldk10 | exact ldk109 | exact ldk135) (by rfl) (Nat.le_of_ble_eq_true (by rfl)) ?_
    | refine OpA.sto (by rfl) (by rfl) (by rfl) (by rfl) (by rfl) (by assumption) (by rfl) (by rfl) (by first | exact ldk2 | exact ldk3 | exact ldk4 | exact ldk5 | exact ldk6 | exact ldk7 | exact ldk8 | exact ldk9 | exact ldk10 | exact ldk109 | exact ldk135) (by rfl) (Nat.le_of_ble_eq_true (by rfl)) ?_
    | refine AL.nil ?_
    | refine AW.ret ?_) <;> (try dsimp only [dput, List.set, cond_true, cond_false, Nat.zero_add, Nat.add_zero, Nat.reduceAdd, splice, List.take, List.drop, List.length, List.nil_append, List.cons_append, TPoint.en, TSegment.en, TBox.en, TFeature.en, TMeet.en, TPlace.en, TCover.en, TLabel.en, TPiece.en, TLevel.en, TChart.en, TReason.en, TEdit.en, TEntry.en, TEdition.en, TListing.en, TAtlas.en, TEvent.en, TWindow.en]))
  all_goals exact Fin.one rfl (RV.cell (QOp.quietA TT_ok (by rfl))) (Clo.agg x.clo_en) ⟨by rfl, rfl⟩

set_option maxRecDepth 100000 in
set_option maxHeartbeats 2000000 in
theorem toPointS (l : List TPoint) (hl : l.length ≤ 1048576) : VCalls Try.prog 83 [.ro 2 (l.map TPoint.en)] (fun r M => r = .ro 2 (l.map TPoint.en) ∧ M = []) := by
  refine VCalls.bodyE Try.func83 rfl 22 rfl (fun E hE => ?_)
  simp only [List.reduceReplicate, List.cons_append, List.nil_append]
  repeat' ((first
    | refine AW.seq ?_
    | refine AW.region ?_
    | refine AW.skip ?_
    | refine AL.q TT_ok rfl (by rfl) ?_
    | refine AL.step rfl ?_
    | refine OpA.quiet (QOp.atk_ro (by rfl) (by rfl) (by rfl) (by first | exact slk63 | exact slk66) (Nat.le_of_ble_eq_true (by rfl)) (by first | assumption | omega) (by assumption)) ?_
    | refine OpA.quiet (QOp.ld1_ro (by rfl) (by rfl) (by assumption) (by first | exact ldk2 | exact ldk3 | exact ldk4 | exact ldk6 | exact ldk7 | exact ldk8 | exact ldk9 | exact ldk10 | exact ldk12 | exact ldk13 | exact ldk14 | exact ldk15 | exact ldk16 | exact ldk17 | exact ldk18 | exact ldk21 | exact ldk22 | exact ldk63 | exact ldk66 | exact ldk109 | exact ldk135) (by rfl)) ?_
    | refine OpA.quiet (QOp.ldr_ro (by rfl) (by rfl) (by assumption) (by first | exact ldk2 | exact ldk3 | exact ldk4 | exact ldk6 | exact ldk7 | exact ldk8 | exact ldk9 | exact ldk10 | exact ldk12 | exact ldk13 | exact ldk14 | exact ldk15 | exact ldk16 | exact ldk17 | exact ldk18 | exact ldk21 | exact ldk22 | exact ldk63 | exact ldk66 | exact ldk109 | exact ldk135) (Nat.le_of_ble_eq_true (by rfl))) ?_
    | refine OpA.quiet (QOp.at_own (by rfl) (by first | exact slk63 | exact slk66) (by rfl) (by rfl) (by rfl) (by rfl) (by rfl) (by rfl) (by first | assumption | omega | decide) (by first | assumption | omega | decide)) ?_
    | refine OpA.quiet (QOp.len_own (by rfl) (by first | exact slk63 | exact slk66) (by rfl) (by rfl) (by rfl) (by rfl)) ?_
    | (refine OpA.pop (POp.make (by rfl) (by first | exact rwk63 | exact rwk66) (by rfl) (by rfl) (by first | assumption | omega) (by simp; omega) (by simp [maxLen]; omega)) ?_)
    | refine OpA.sto (by rfl) (by rfl) (by rfl) (by rfl) (by rfl) (by rfl) (by rfl) (by rfl) (by first | exact ldk2 | exact ldk3 | exact ldk4 | exact ldk6 | exact ldk7 | exact ldk8 | exact ldk9 | exact ldk10 | exact ldk12 | exact ldk13 | exact ldk14 | exact ldk15 | exact ldk16 | exact ldk17 | exact ldk18 | exact ldk21 | exact ldk22 | exact ldk63 | exact ldk66 | exact ldk109 | exact ldk135) (by rfl) (Nat.le_of_ble_eq_true (by rfl)) ?_
    | refine OpA.sto (by rfl) (by rfl) (by rfl) (by rfl) (by rfl) (by assumption) (by rfl) (by rfl) (by first | exact ldk2 | exact ldk3 | exact ldk4 | exact ldk6 | exact ldk7 | exact ldk8 | exact ldk9 | exact ldk10 | exact ldk12 | exact ldk13 | exact ldk14 | exact ldk15 | exact ldk16 | exact ldk17 | exact ldk18 | exact ldk21 | exact ldk22 | exact ldk63 | exact ldk66 | exact ldk109 | exact ldk135) (by rfl) (Nat.le_of_ble_eq_true (by rfl)) ?_
    | refine OpA.pcall (by rfl) Try.func108 rfl rfl (by rfl) (by first | exact clo_all (by rfl) | (intro x hx; simp only [List.mem_cons, List.not_mem_nil, or_false] at hx; rcases hx with rfl | rfl | rfl | rfl | rfl | rfl | rfl | rfl <;> first | exact clo_of (by rfl) | exact clo_fn _ | assumption)) (toPoint x) (by first | exact clo_of (by rfl) | assumption) ?_
    | (refine AW.loopD hE (fun i : Nat => [.ro 2 (l.map TPoint.en), .any, .any, .own 0 0, I i, .any, .any, .any, .any, .any, .any, .any, .any, .any, .any, .any, .any, .any, .any, .any, .any, .any, .any]) (fun i => [some ⟨109, 2, 0, false, fil TPoint.en [I 0, I 0] l i⟩]) (fun i => l.length - i) (fun i => i ≤ l.length) 0 (by simp) ?_ (by first | rfl | (simp [fil_zero]; done)) ?_)
    | (refine AW.cond (by rfl) (fun h => ?_) ?_; rotate_left; focus (intro h; (try simp only [Bool.not_eq_true', Bool.not_eq_false'] at h); first | (cases h; done) | exact clash (by with_reducible_and_instances assumption) h | exact clash h (by with_reducible_and_instances assumption) | exact absurd h (by decide) | (refine absurd h ?_; simp; done)))
    | (refine AW.cond (by rfl) ?_ (fun h => ?_); focus (intro h; (try simp only [Bool.not_eq_true', Bool.not_eq_false'] at h); first | (cases h; done) | exact clash (by with_reducible_and_instances assumption) h | exact clash h (by with_reducible_and_instances assumption) | exact absurd h (by decide) | (refine absurd h ?_; simp; done)))
    | (refine AW.cond (by rfl) ?_ ?_ <;> (intro h; try simp only [Bool.not_eq_true', Bool.not_eq_false'] at h))
    | refine AW.block ?_
    | refine AW.exit ?_
    | refine AL.nil ?_
    | refine AW.ret ?_) <;> (try dsimp only [dput, List.set, cond_true, cond_false, Nat.zero_add, Nat.add_zero, Nat.reduceAdd, splice, List.take, List.drop, List.length, List.nil_append, List.cons_append, TPoint.en, TSegment.en, TBox.en, TFeature.en, TMeet.en, TPlace.en, TCover.en, TLabel.en, TPiece.en, TLevel.en, TChart.en, TReason.en, TEdit.en, TEntry.en, TEdition.en, TListing.en, TAtlas.en, TEvent.en, TWindow.en]))
  · (repeat' (first | exact Wk.nil | refine Wk.any ?_ | (with_reducible refine Wk.same ?_) | refine Wk.of ?_ ?_)) <;> first | rfl | (simp)
  · intro i hi
    have hclo : Clo (.ro 2 (l.map TPoint.en)) := clo_list TPoint.clo_en
    by_cases hlt : i < l.length
    · obtain ⟨x, hx⟩ : ∃ x, l[i]? = some x := ⟨_, List.getElem?_eq_getElem hlt⟩
      have hg := map_get (f := TPoint.en) hx
      have ht := lt_true (f := TPoint.en) hlt
      have hn := next_ix hlt (by omega)
      have hz := fil_get (en := TPoint.en) (z := [I 0, I 0]) hlt
      have ha := fil_at (en := TPoint.en) (z := [I 0, I 0]) hlt
      have hs := fil_set (en := TPoint.en) (z := [I 0, I 0]) hx
      repeat' ((first
        | refine AW.seq ?_
        | refine AW.region ?_
        | refine AW.skip ?_
        | refine AL.q TT_ok rfl (by rfl) ?_
        | refine AL.step rfl ?_
        | refine OpA.quiet (QOp.atk_ro (by rfl) (by rfl) (by rfl) (by first | exact slk63 | exact slk66) (Nat.le_of_ble_eq_true (by rfl)) (by first | assumption | omega) (by assumption)) ?_
        | refine OpA.quiet (QOp.ld1_ro (by rfl) (by rfl) (by assumption) (by first | exact ldk2 | exact ldk3 | exact ldk4 | exact ldk6 | exact ldk7 | exact ldk8 | exact ldk9 | exact ldk10 | exact ldk12 | exact ldk13 | exact ldk14 | exact ldk15 | exact ldk16 | exact ldk17 | exact ldk18 | exact ldk21 | exact ldk22 | exact ldk63 | exact ldk66 | exact ldk109 | exact ldk135) (by rfl)) ?_
        | refine OpA.quiet (QOp.ldr_ro (by rfl) (by rfl) (by assumption) (by first | exact ldk2 | exact ldk3 | exact ldk4 | exact ldk6 | exact ldk7 | exact ldk8 | exact ldk9 | exact ldk10 | exact ldk12 | exact ldk13 | exact ldk14 | exact ldk15 | exact ldk16 | exact ldk17 | exact ldk18 | exact ldk21 | exact ldk22 | exact ldk63 | exact ldk66 | exact ldk109 | exact ldk135) (Nat.le_of_ble_eq_true (by rfl))) ?_
        | refine OpA.quiet (QOp.at_own (by rfl) (by first | exact slk63 | exact slk66) (by rfl) (by rfl) (by rfl) (by rfl) (by rfl) (by rfl) (by first | assumption | omega | decide) (by first | assumption | omega | decide)) ?_
        | refine OpA.quiet (QOp.len_own (by rfl) (by first | exact slk63 | exact slk66) (by rfl) (by rfl) (by rfl) (by rfl)) ?_
        | (refine OpA.pop (POp.make (by rfl) (by first | exact rwk63 | exact rwk66) (by rfl) (by rfl) (by first | assumption | omega) (by simp; omega) (by simp [maxLen]; omega)) ?_)
        | refine OpA.sto (by rfl) (by rfl) (by rfl) (by rfl) (by rfl) (by rfl) (by rfl) (by rfl) (by first | exact ldk2 | exact ldk3 | exact ldk4 | exact ldk6 | exact ldk7 | exact ldk8 | exact ldk9 | exact ldk10 | exact ldk12 | exact ldk13 | exact ldk14 | exact ldk15 | exact ldk16 | exact ldk17 | exact ldk18 | exact ldk21 | exact ldk22 | exact ldk63 | exact ldk66 | exact ldk109 | exact ldk135) (by rfl) (Nat.le_of_ble_eq_true (by rfl)) ?_
        | refine OpA.sto (by rfl) (by rfl) (by rfl) (by rfl) (by rfl) (by assumption) (by rfl) (by rfl) (by first | exact ldk2 | exact ldk3 | exact ldk4 | exact ldk6 | exact ldk7 | exact ldk8 | exact ldk9 | exact ldk10 | exact ldk12 | exact ldk13 | exact ldk14 | exact ldk15 | exact ldk16 | exact ldk17 | exact ldk18 | exact ldk21 | exact ldk22 | exact ldk63 | exact ldk66 | exact ldk109 | exact ldk135) (by rfl) (Nat.le_of_ble_eq_true (by rfl)) ?_
        | refine OpA.pcall (by rfl) Try.func108 rfl rfl (by rfl) (by first | exact clo_all (by rfl) | (intro x hx; simp only [List.mem_cons, List.not_mem_nil, or_false] at hx; rcases hx with rfl | rfl | rfl | rfl | rfl | rfl | rfl | rfl <;> first | exact clo_of (by rfl) | exact clo_fn _ | assumption)) (toPoint x) (by first | exact clo_of (by rfl) | assumption) ?_
        | (refine AW.cond (by rfl) (fun h => ?_) ?_; rotate_left; focus (intro h; (try simp only [Bool.not_eq_true', Bool.not_eq_false'] at h); first | (cases h; done) | exact clash (by with_reducible_and_instances assumption) h | exact clash h (by with_reducible_and_instances assumption) | exact absurd h (by decide) | (refine absurd h ?_; simp; done)))
        | (refine AW.cond (by rfl) ?_ (fun h => ?_); focus (intro h; (try simp only [Bool.not_eq_true', Bool.not_eq_false'] at h); first | (cases h; done) | exact clash (by with_reducible_and_instances assumption) h | exact clash h (by with_reducible_and_instances assumption) | exact absurd h (by decide) | (refine absurd h ?_; simp; done)))
        | (refine AW.cond (by rfl) ?_ ?_ <;> (intro h; try simp only [Bool.not_eq_true', Bool.not_eq_false'] at h))
        | refine AW.block ?_
        | refine AW.exit ?_
        | refine AL.nil ?_
        | refine AW.ret ?_) <;> (try dsimp only [dput, List.set, cond_true, cond_false, Nat.zero_add, Nat.add_zero, Nat.reduceAdd, splice, List.take, List.drop, List.length, List.nil_append, List.cons_append, TPoint.en, TSegment.en, TBox.en, TFeature.en, TMeet.en, TPlace.en, TCover.en, TLabel.en, TPiece.en, TLevel.en, TChart.en, TReason.en, TEdit.en, TEntry.en, TEdition.en, TListing.en, TAtlas.en, TEvent.en, TWindow.en]))
      all_goals first
        | (refine ⟨i + 1, [], hlt, by omega, ?_, by rw [← hs]; rfl, ?_, ?_⟩; (focus ((repeat' (first | exact Wk.nil | refine Wk.any ?_ | (with_reducible refine Wk.same ?_) | refine Wk.of ?_ ?_)) <;> (simp_all))); (focus ((repeat' (first | exact Fits.nil _ | refine Fits.cons ?_ ?_ | exact Fits.any _ | exact Fits.c _ _ | exact Fits.own (by rfl) | exact Fits.ref (by rfl) | exact Fits.clo (by assumption) | exact Fits.clo (clo_of (by rfl)) | exact Fits.clo (clo_fn _))))); (focus (exact fits_row (fil_clo (clo_all (by rfl)) TPoint.clo_en))))
    · have ht := lt_false (f := TPoint.en) hlt
      have e : i = l.length := by omega
      subst e
      try rw [List.take_length]
      repeat' ((first
        | refine AW.seq ?_
        | refine AW.region ?_
        | refine AW.skip ?_
        | refine AL.q TT_ok rfl (by rfl) ?_
        | refine AL.step rfl ?_
        | refine OpA.quiet (QOp.atk_ro (by rfl) (by rfl) (by rfl) (by first | exact slk63 | exact slk66) (Nat.le_of_ble_eq_true (by rfl)) (by first | assumption | omega) (by assumption)) ?_
        | refine OpA.quiet (QOp.ld1_ro (by rfl) (by rfl) (by assumption) (by first | exact ldk2 | exact ldk3 | exact ldk4 | exact ldk6 | exact ldk7 | exact ldk8 | exact ldk9 | exact ldk10 | exact ldk12 | exact ldk13 | exact ldk14 | exact ldk15 | exact ldk16 | exact ldk17 | exact ldk18 | exact ldk21 | exact ldk22 | exact ldk63 | exact ldk66 | exact ldk109 | exact ldk135) (by rfl)) ?_
        | refine OpA.quiet (QOp.ldr_ro (by rfl) (by rfl) (by assumption) (by first | exact ldk2 | exact ldk3 | exact ldk4 | exact ldk6 | exact ldk7 | exact ldk8 | exact ldk9 | exact ldk10 | exact ldk12 | exact ldk13 | exact ldk14 | exact ldk15 | exact ldk16 | exact ldk17 | exact ldk18 | exact ldk21 | exact ldk22 | exact ldk63 | exact ldk66 | exact ldk109 | exact ldk135) (Nat.le_of_ble_eq_true (by rfl))) ?_
        | refine OpA.quiet (QOp.at_own (by rfl) (by first | exact slk63 | exact slk66) (by rfl) (by rfl) (by rfl) (by rfl) (by rfl) (by rfl) (by first | assumption | omega | decide) (by first | assumption | omega | decide)) ?_
        | refine OpA.quiet (QOp.len_own (by rfl) (by first | exact slk63 | exact slk66) (by rfl) (by rfl) (by rfl) (by rfl)) ?_
        | (refine OpA.pop (POp.make (by rfl) (by first | exact rwk63 | exact rwk66) (by rfl) (by rfl) (by first | assumption | omega) (by simp; omega) (by simp [maxLen]; omega)) ?_)
        | refine OpA.sto (by rfl) (by rfl) (by rfl) (by rfl) (by rfl) (by rfl) (by rfl) (by rfl) (by first | exact ldk2 | exact ldk3 | exact ldk4 | exact ldk6 | exact ldk7 | exact ldk8 | exact ldk9 | exact ldk10 | exact ldk12 | exact ldk13 | exact ldk14 | exact ldk15 | exact ldk16 | exact ldk17 | exact ldk18 | exact ldk21 | exact ldk22 | exact ldk63 | exact ldk66 | exact ldk109 | exact ldk135) (by rfl) (Nat.le_of_ble_eq_true (by rfl)) ?_
        | refine OpA.sto (by rfl) (by rfl) (by rfl) (by rfl) (by rfl) (by assumption) (by rfl) (by rfl) (by first | exact ldk2 | exact ldk3 | exact ldk4 | exact ldk6 | exact ldk7 | exact ldk8 | exact ldk9 | exact ldk10 | exact ldk12 | exact ldk13 | exact ldk14 | exact ldk15 | exact ldk16 | exact ldk17 | exact ldk18 | exact ldk21 | exact ldk22 | exact ldk63 | exact ldk66 | exact ldk109 | exact ldk135) (by rfl) (Nat.le_of_ble_eq_true (by rfl)) ?_
        | refine OpA.pcall (by rfl) Try.func108 rfl rfl (by rfl) (by first | exact clo_all (by rfl) | (intro x hx; simp only [List.mem_cons, List.not_mem_nil, or_false] at hx; rcases hx with rfl | rfl | rfl | rfl | rfl | rfl | rfl | rfl <;> first | exact clo_of (by rfl) | exact clo_fn _ | assumption)) (toPoint x) (by first | exact clo_of (by rfl) | assumption) ?_
        | (refine AW.freezeRet (t := 2) (id := 0) rfl rfl rfl rfl (fil_clo (clo_all (by rfl)) TPoint.clo_en) ?_; simp only [fil_all])
        | (refine AW.cond (by rfl) (fun h => ?_) ?_; rotate_left; focus (intro h; (try simp only [Bool.not_eq_true', Bool.not_eq_false'] at h); first | (cases h; done) | exact clash (by with_reducible_and_instances assumption) h | exact clash h (by with_reducible_and_instances assumption) | exact absurd h (by decide) | (refine absurd h ?_; simp; done)))
        | (refine AW.cond (by rfl) ?_ (fun h => ?_); focus (intro h; (try simp only [Bool.not_eq_true', Bool.not_eq_false'] at h); first | (cases h; done) | exact clash (by with_reducible_and_instances assumption) h | exact clash h (by with_reducible_and_instances assumption) | exact absurd h (by decide) | (refine absurd h ?_; simp; done)))
        | (refine AW.cond (by rfl) ?_ ?_ <;> (intro h; try simp only [Bool.not_eq_true', Bool.not_eq_false'] at h))
        | refine AW.block ?_
        | refine AW.exit ?_
        | refine AL.nil ?_
        | refine AW.ret ?_) <;> (try dsimp only [dput, List.set, cond_true, cond_false, Nat.zero_add, Nat.add_zero, Nat.reduceAdd, splice, List.take, List.drop, List.length, List.nil_append, List.cons_append, TPoint.en, TSegment.en, TBox.en, TFeature.en, TMeet.en, TPlace.en, TCover.en, TLabel.en, TPiece.en, TLevel.en, TChart.en, TReason.en, TEdit.en, TEntry.en, TEdition.en, TListing.en, TAtlas.en, TEvent.en, TWindow.en]))
      all_goals exact Fin.one rfl (RV.tmp (by rfl)) hclo ⟨rfl, rfl⟩

set_option maxRecDepth 100000 in
set_option maxHeartbeats 2000000 in
theorem toFeature (x : TFeature) (hs : x.sm) : VCalls Try.prog 40 [.agg x.en] (fun r M => r = .agg x.en ∧ M = []) := by
  refine VCalls.body Try.func40 rfl 20 rfl (fun E => ?_)
  simp only [List.reduceReplicate, List.cons_append, List.nil_append]
  have hclo0 : Clo (.ro 2 (x.points.map TPoint.en)) := clo_list TPoint.clo_en
  have hcle : Clo (.agg x.en) := Clo.agg x.clo_en
  have hs' := hs
  obtain hs4 := hs
  dsimp only [TFeature.en]
  repeat' ((first
    | refine AW.seq ?_
    | refine AW.region ?_
    | refine AW.skip ?_
    | refine AL.q TT_ok rfl (by rfl) ?_
    | refine AL.step rfl ?_
    | refine OpA.quiet (QOp.ld1_ro (by rfl) (by rfl) (by assumption) (by first | exact ldk2 | exact ldk3 | exact ldk4 | exact ldk5 | exact ldk6 | exact ldk7 | exact ldk8 | exact ldk9 | exact ldk10 | exact ldk11 | exact ldk12 | exact ldk13 | exact ldk14 | exact ldk15 | exact ldk16 | exact ldk17 | exact ldk18 | exact ldk19 | exact ldk63 | exact ldk65 | exact ldk66 | exact ldk68 | exact ldk109 | exact ldk135) (by rfl)) ?_
    | refine OpA.quiet (QOp.ldr_ro (by rfl) (by rfl) (by assumption) (by first | exact ldk2 | exact ldk3 | exact ldk4 | exact ldk5 | exact ldk6 | exact ldk7 | exact ldk8 | exact ldk9 | exact ldk10 | exact ldk11 | exact ldk12 | exact ldk13 | exact ldk14 | exact ldk15 | exact ldk16 | exact ldk17 | exact ldk18 | exact ldk19 | exact ldk63 | exact ldk65 | exact ldk66 | exact ldk68 | exact ldk109 | exact ldk135) (Nat.le_of_ble_eq_true (by rfl))) ?_
    | refine OpA.box (by rfl) (by rfl) (by rfl) ?_
    | refine OpA.allocA (by rfl) (by first | exact ze2 | exact ze3 | exact ze4 | exact ze5 | exact ze6 | exact ze7 | exact ze8 | exact ze9 | exact ze10 | exact ze11 | exact ze12 | exact ze13 | exact ze14 | exact ze15 | exact ze16 | exact ze17 | exact ze18 | exact ze19 | exact ze63 | exact ze65 | exact ze66 | exact ze68 | exact ze109 | exact ze135) ?_
    | refine OpA.sto (by rfl) (by rfl) (by rfl) (by rfl) (by rfl) (by rfl) (by rfl) (by rfl) (by first | exact ldk2 | exact ldk3 | exact ldk4 | exact ldk5 | exact ldk6 | exact ldk7 | exact ldk8 | exact ldk9 | exact ldk10 | exact ldk11 | exact ldk12 | exact ldk13 | exact ldk14 | exact ldk15 | exact ldk16 | exact ldk17 | exact ldk18 | exact ldk19 | exact ldk63 | exact ldk65 | exact ldk66 | exact ldk68 | exact ldk109 | exact ldk135) (by rfl) (Nat.le_of_ble_eq_true (by rfl)) ?_
    | refine OpA.sto (by rfl) (by rfl) (by rfl) (by rfl) (by rfl) (by assumption) (by rfl) (by rfl) (by first | exact ldk2 | exact ldk3 | exact ldk4 | exact ldk5 | exact ldk6 | exact ldk7 | exact ldk8 | exact ldk9 | exact ldk10 | exact ldk11 | exact ldk12 | exact ldk13 | exact ldk14 | exact ldk15 | exact ldk16 | exact ldk17 | exact ldk18 | exact ldk19 | exact ldk63 | exact ldk65 | exact ldk66 | exact ldk68 | exact ldk109 | exact ldk135) (by rfl) (Nat.le_of_ble_eq_true (by rfl)) ?_
    | refine OpA.pcall (by rfl) Try.func83 rfl rfl (by rfl) (by first | exact clo_all (by rfl) | (intro x hx; simp only [List.mem_cons, List.not_mem_nil, or_false] at hx; rcases hx with rfl | rfl | rfl | rfl | rfl | rfl | rfl | rfl <;> first | exact clo_of (by rfl) | exact clo_fn _ | assumption)) (toPointS _ (by assumption)) (by first | exact clo_of (by rfl) | assumption) ?_
    | refine AL.nil ?_
    | refine AW.ret ?_) <;> (try dsimp only [dput, List.set, cond_true, cond_false, Nat.zero_add, Nat.add_zero, Nat.reduceAdd, splice, List.take, List.drop, List.length, List.nil_append, List.cons_append, TPoint.en, TSegment.en, TBox.en, TFeature.en, TMeet.en, TPlace.en, TCover.en, TLabel.en, TPiece.en, TLevel.en, TChart.en, TReason.en, TEdit.en, TEntry.en, TEdition.en, TListing.en, TAtlas.en, TEvent.en, TWindow.en]))
  all_goals exact Fin.one rfl (RV.cell (QOp.quietA TT_ok (by rfl))) (Clo.agg x.clo_en) ⟨by rfl, rfl⟩

set_option maxRecDepth 100000 in
set_option maxHeartbeats 2000000 in
theorem toFeatureS (l : List TFeature) (hl : l.length ≤ 1048576) (hp : ∀ x ∈ l, x.sm) : VCalls Try.prog 15 [.ro 5 (l.map TFeature.en)] (fun r M => r = .ro 5 (l.map TFeature.en) ∧ M = []) := by
  refine VCalls.bodyE Try.func15 rfl 22 rfl (fun E hE => ?_)
  simp only [List.reduceReplicate, List.cons_append, List.nil_append]
  repeat' ((first
    | refine AW.seq ?_
    | refine AW.region ?_
    | refine AW.skip ?_
    | refine AL.q TT_ok rfl (by rfl) ?_
    | refine AL.step rfl ?_
    | refine OpA.quiet (QOp.atk_ro (by rfl) (by rfl) (by rfl) (by first | exact slk29 | exact slk32 | exact slk63 | exact slk66) (Nat.le_of_ble_eq_true (by rfl)) (by first | assumption | omega) (by assumption)) ?_
    | refine OpA.quiet (QOp.ld1_ro (by rfl) (by rfl) (by assumption) (by first | exact ldk2 | exact ldk3 | exact ldk4 | exact ldk6 | exact ldk7 | exact ldk8 | exact ldk9 | exact ldk10 | exact ldk12 | exact ldk13 | exact ldk14 | exact ldk15 | exact ldk16 | exact ldk17 | exact ldk18 | exact ldk21 | exact ldk22 | exact ldk29 | exact ldk32 | exact ldk63 | exact ldk65 | exact ldk66 | exact ldk68) (by rfl)) ?_
    | refine OpA.quiet (QOp.ldr_ro (by rfl) (by rfl) (by assumption) (by first | exact ldk2 | exact ldk3 | exact ldk4 | exact ldk6 | exact ldk7 | exact ldk8 | exact ldk9 | exact ldk10 | exact ldk12 | exact ldk13 | exact ldk14 | exact ldk15 | exact ldk16 | exact ldk17 | exact ldk18 | exact ldk21 | exact ldk22 | exact ldk29 | exact ldk32 | exact ldk63 | exact ldk65 | exact ldk66 | exact ldk68) (Nat.le_of_ble_eq_true (by rfl))) ?_
    | refine OpA.quiet (QOp.at_own (by rfl) (by first | exact slk29 | exact slk32 | exact slk63 | exact slk66) (by rfl) (by rfl) (by rfl) (by rfl) (by rfl) (by rfl) (by first | assumption | omega | decide) (by first | assumption | omega | decide)) ?_
    | refine OpA.quiet (QOp.len_own (by rfl) (by first | exact slk29 | exact slk32 | exact slk63 | exact slk66) (by rfl) (by rfl) (by rfl) (by rfl)) ?_
    | (refine OpA.pop (POp.make (by rfl) (by first | exact rwk29 | exact rwk32 | exact rwk63 | exact rwk66) (by rfl) (by rfl) (by first | assumption | omega) (by simp; omega) (by simp [maxLen]; omega)) ?_)
    | refine OpA.sto (by rfl) (by rfl) (by rfl) (by rfl) (by rfl) (by rfl) (by rfl) (by rfl) (by first | exact ldk2 | exact ldk3 | exact ldk4 | exact ldk6 | exact ldk7 | exact ldk8 | exact ldk9 | exact ldk10 | exact ldk12 | exact ldk13 | exact ldk14 | exact ldk15 | exact ldk16 | exact ldk17 | exact ldk18 | exact ldk21 | exact ldk22 | exact ldk29 | exact ldk32 | exact ldk63 | exact ldk65 | exact ldk66 | exact ldk68) (by rfl) (Nat.le_of_ble_eq_true (by rfl)) ?_
    | refine OpA.sto (by rfl) (by rfl) (by rfl) (by rfl) (by rfl) (by assumption) (by rfl) (by rfl) (by first | exact ldk2 | exact ldk3 | exact ldk4 | exact ldk6 | exact ldk7 | exact ldk8 | exact ldk9 | exact ldk10 | exact ldk12 | exact ldk13 | exact ldk14 | exact ldk15 | exact ldk16 | exact ldk17 | exact ldk18 | exact ldk21 | exact ldk22 | exact ldk29 | exact ldk32 | exact ldk63 | exact ldk65 | exact ldk66 | exact ldk68) (by rfl) (Nat.le_of_ble_eq_true (by rfl)) ?_
    | refine OpA.pcall (by rfl) Try.func40 rfl rfl (by rfl) (by first | exact clo_all (by rfl) | (intro x hx; simp only [List.mem_cons, List.not_mem_nil, or_false] at hx; rcases hx with rfl | rfl | rfl | rfl | rfl | rfl | rfl | rfl <;> first | exact clo_of (by rfl) | exact clo_fn _ | assumption)) (toFeature x (by assumption)) (by first | exact clo_of (by rfl) | assumption) ?_
    | (refine AW.loopD hE (fun i : Nat => [.ro 5 (l.map TFeature.en), .any, .any, .own 0 0, I i, .any, .any, .any, .any, .any, .any, .any, .any, .any, .any, .any, .any, .any, .any, .any, .any, .any, .any]) (fun i => [some ⟨68, 5, 0, false, fil TFeature.en [I 0, I 0, I 0, S ⟨#[]⟩, .c (.slice none 0 0)] l i⟩]) (fun i => l.length - i) (fun i => i ≤ l.length) 0 (by simp) ?_ (by first | rfl | (simp [fil_zero]; done)) ?_)
    | (refine AW.cond (by rfl) (fun h => ?_) ?_; rotate_left; focus (intro h; (try simp only [Bool.not_eq_true', Bool.not_eq_false'] at h); first | (cases h; done) | exact clash (by with_reducible_and_instances assumption) h | exact clash h (by with_reducible_and_instances assumption) | exact absurd h (by decide) | (refine absurd h ?_; simp; done)))
    | (refine AW.cond (by rfl) ?_ (fun h => ?_); focus (intro h; (try simp only [Bool.not_eq_true', Bool.not_eq_false'] at h); first | (cases h; done) | exact clash (by with_reducible_and_instances assumption) h | exact clash h (by with_reducible_and_instances assumption) | exact absurd h (by decide) | (refine absurd h ?_; simp; done)))
    | (refine AW.cond (by rfl) ?_ ?_ <;> (intro h; try simp only [Bool.not_eq_true', Bool.not_eq_false'] at h))
    | refine AW.block ?_
    | refine AW.exit ?_
    | refine AL.nil ?_
    | refine AW.ret ?_) <;> (try dsimp only [dput, List.set, cond_true, cond_false, Nat.zero_add, Nat.add_zero, Nat.reduceAdd, splice, List.take, List.drop, List.length, List.nil_append, List.cons_append, TPoint.en, TSegment.en, TBox.en, TFeature.en, TMeet.en, TPlace.en, TCover.en, TLabel.en, TPiece.en, TLevel.en, TChart.en, TReason.en, TEdit.en, TEntry.en, TEdition.en, TListing.en, TAtlas.en, TEvent.en, TWindow.en]))
  · (repeat' (first | exact Wk.nil | refine Wk.any ?_ | (with_reducible refine Wk.same ?_) | refine Wk.of ?_ ?_)) <;> first | rfl | (simp)
  · intro i hi
    have hclo : Clo (.ro 5 (l.map TFeature.en)) := clo_list TFeature.clo_en
    by_cases hlt : i < l.length
    · obtain ⟨x, hx⟩ : ∃ x, l[i]? = some x := ⟨_, List.getElem?_eq_getElem hlt⟩
      have hg := map_get (f := TFeature.en) hx
      have ht := lt_true (f := TFeature.en) hlt
      have hn := next_ix hlt (by omega)
      have hz := fil_get (en := TFeature.en) (z := [I 0, I 0, I 0, S ⟨#[]⟩, .c (.slice none 0 0)]) hlt
      have ha := fil_at (en := TFeature.en) (z := [I 0, I 0, I 0, S ⟨#[]⟩, .c (.slice none 0 0)]) hlt
      have hs := fil_set (en := TFeature.en) (z := [I 0, I 0, I 0, S ⟨#[]⟩, .c (.slice none 0 0)]) hx
      have hpx := hp x (List.mem_of_getElem? hx)
      have hclo0 : Clo (.ro 2 (x.points.map TPoint.en)) := clo_list TPoint.clo_en
      have hcle : Clo (.agg x.en) := Clo.agg x.clo_en
      repeat' ((first
        | refine AW.seq ?_
        | refine AW.region ?_
        | refine AW.skip ?_
        | refine AL.q TT_ok rfl (by rfl) ?_
        | refine AL.step rfl ?_
        | refine OpA.quiet (QOp.atk_ro (by rfl) (by rfl) (by rfl) (by first | exact slk29 | exact slk32 | exact slk63 | exact slk66) (Nat.le_of_ble_eq_true (by rfl)) (by first | assumption | omega) (by assumption)) ?_
        | refine OpA.quiet (QOp.ld1_ro (by rfl) (by rfl) (by assumption) (by first | exact ldk2 | exact ldk3 | exact ldk4 | exact ldk6 | exact ldk7 | exact ldk8 | exact ldk9 | exact ldk10 | exact ldk12 | exact ldk13 | exact ldk14 | exact ldk15 | exact ldk16 | exact ldk17 | exact ldk18 | exact ldk21 | exact ldk22 | exact ldk29 | exact ldk32 | exact ldk63 | exact ldk65 | exact ldk66 | exact ldk68) (by rfl)) ?_
        | refine OpA.quiet (QOp.ldr_ro (by rfl) (by rfl) (by assumption) (by first | exact ldk2 | exact ldk3 | exact ldk4 | exact ldk6 | exact ldk7 | exact ldk8 | exact ldk9 | exact ldk10 | exact ldk12 | exact ldk13 | exact ldk14 | exact ldk15 | exact ldk16 | exact ldk17 | exact ldk18 | exact ldk21 | exact ldk22 | exact ldk29 | exact ldk32 | exact ldk63 | exact ldk65 | exact ldk66 | exact ldk68) (Nat.le_of_ble_eq_true (by rfl))) ?_
        | refine OpA.quiet (QOp.at_own (by rfl) (by first | exact slk29 | exact slk32 | exact slk63 | exact slk66) (by rfl) (by rfl) (by rfl) (by rfl) (by rfl) (by rfl) (by first | assumption | omega | decide) (by first | assumption | omega | decide)) ?_
        | refine OpA.quiet (QOp.len_own (by rfl) (by first | exact slk29 | exact slk32 | exact slk63 | exact slk66) (by rfl) (by rfl) (by rfl) (by rfl)) ?_
        | (refine OpA.pop (POp.make (by rfl) (by first | exact rwk29 | exact rwk32 | exact rwk63 | exact rwk66) (by rfl) (by rfl) (by first | assumption | omega) (by simp; omega) (by simp [maxLen]; omega)) ?_)
        | refine OpA.sto (by rfl) (by rfl) (by rfl) (by rfl) (by rfl) (by rfl) (by rfl) (by rfl) (by first | exact ldk2 | exact ldk3 | exact ldk4 | exact ldk6 | exact ldk7 | exact ldk8 | exact ldk9 | exact ldk10 | exact ldk12 | exact ldk13 | exact ldk14 | exact ldk15 | exact ldk16 | exact ldk17 | exact ldk18 | exact ldk21 | exact ldk22 | exact ldk29 | exact ldk32 | exact ldk63 | exact ldk65 | exact ldk66 | exact ldk68) (by rfl) (Nat.le_of_ble_eq_true (by rfl)) ?_
        | refine OpA.sto (by rfl) (by rfl) (by rfl) (by rfl) (by rfl) (by assumption) (by rfl) (by rfl) (by first | exact ldk2 | exact ldk3 | exact ldk4 | exact ldk6 | exact ldk7 | exact ldk8 | exact ldk9 | exact ldk10 | exact ldk12 | exact ldk13 | exact ldk14 | exact ldk15 | exact ldk16 | exact ldk17 | exact ldk18 | exact ldk21 | exact ldk22 | exact ldk29 | exact ldk32 | exact ldk63 | exact ldk65 | exact ldk66 | exact ldk68) (by rfl) (Nat.le_of_ble_eq_true (by rfl)) ?_
        | refine OpA.pcall (by rfl) Try.func40 rfl rfl (by rfl) (by first | exact clo_all (by rfl) | (intro x hx; simp only [List.mem_cons, List.not_mem_nil, or_false] at hx; rcases hx with rfl | rfl | rfl | rfl | rfl | rfl | rfl | rfl <;> first | exact clo_of (by rfl) | exact clo_fn _ | assumption)) (toFeature x (by assumption)) (by first | exact clo_of (by rfl) | assumption) ?_
        | (refine AW.cond (by rfl) (fun h => ?_) ?_; rotate_left; focus (intro h; (try simp only [Bool.not_eq_true', Bool.not_eq_false'] at h); first | (cases h; done) | exact clash (by with_reducible_and_instances assumption) h | exact clash h (by with_reducible_and_instances assumption) | exact absurd h (by decide) | (refine absurd h ?_; simp; done)))
        | (refine AW.cond (by rfl) ?_ (fun h => ?_); focus (intro h; (try simp only [Bool.not_eq_true', Bool.not_eq_false'] at h); first | (cases h; done) | exact clash (by with_reducible_and_instances assumption) h | exact clash h (by with_reducible_and_instances assumption) | exact absurd h (by decide) | (refine absurd h ?_; simp; done)))
        | (refine AW.cond (by rfl) ?_ ?_ <;> (intro h; try simp only [Bool.not_eq_true', Bool.not_eq_false'] at h))
        | refine AW.block ?_
        | refine AW.exit ?_
        | refine AL.nil ?_
        | refine AW.ret ?_) <;> (try dsimp only [dput, List.set, cond_true, cond_false, Nat.zero_add, Nat.add_zero, Nat.reduceAdd, splice, List.take, List.drop, List.length, List.nil_append, List.cons_append, TPoint.en, TSegment.en, TBox.en, TFeature.en, TMeet.en, TPlace.en, TCover.en, TLabel.en, TPiece.en, TLevel.en, TChart.en, TReason.en, TEdit.en, TEntry.en, TEdition.en, TListing.en, TAtlas.en, TEvent.en, TWindow.en]))
      all_goals first
        | (refine ⟨i + 1, [], hlt, by omega, ?_, by rw [← hs]; rfl, ?_, ?_⟩; (focus ((repeat' (first | exact Wk.nil | refine Wk.any ?_ | (with_reducible refine Wk.same ?_) | refine Wk.of ?_ ?_)) <;> (simp_all))); (focus ((repeat' (first | exact Fits.nil _ | refine Fits.cons ?_ ?_ | exact Fits.any _ | exact Fits.c _ _ | exact Fits.own (by rfl) | exact Fits.ref (by rfl) | exact Fits.clo (by assumption) | exact Fits.clo (clo_of (by rfl)) | exact Fits.clo (clo_fn _))))); (focus (exact fits_row (fil_clo (clo_all (by rfl)) TFeature.clo_en))))
    · have ht := lt_false (f := TFeature.en) hlt
      have e : i = l.length := by omega
      subst e
      try rw [List.take_length]
      repeat' ((first
        | refine AW.seq ?_
        | refine AW.region ?_
        | refine AW.skip ?_
        | refine AL.q TT_ok rfl (by rfl) ?_
        | refine AL.step rfl ?_
        | refine OpA.quiet (QOp.atk_ro (by rfl) (by rfl) (by rfl) (by first | exact slk29 | exact slk32 | exact slk63 | exact slk66) (Nat.le_of_ble_eq_true (by rfl)) (by first | assumption | omega) (by assumption)) ?_
        | refine OpA.quiet (QOp.ld1_ro (by rfl) (by rfl) (by assumption) (by first | exact ldk2 | exact ldk3 | exact ldk4 | exact ldk6 | exact ldk7 | exact ldk8 | exact ldk9 | exact ldk10 | exact ldk12 | exact ldk13 | exact ldk14 | exact ldk15 | exact ldk16 | exact ldk17 | exact ldk18 | exact ldk21 | exact ldk22 | exact ldk29 | exact ldk32 | exact ldk63 | exact ldk65 | exact ldk66 | exact ldk68) (by rfl)) ?_
        | refine OpA.quiet (QOp.ldr_ro (by rfl) (by rfl) (by assumption) (by first | exact ldk2 | exact ldk3 | exact ldk4 | exact ldk6 | exact ldk7 | exact ldk8 | exact ldk9 | exact ldk10 | exact ldk12 | exact ldk13 | exact ldk14 | exact ldk15 | exact ldk16 | exact ldk17 | exact ldk18 | exact ldk21 | exact ldk22 | exact ldk29 | exact ldk32 | exact ldk63 | exact ldk65 | exact ldk66 | exact ldk68) (Nat.le_of_ble_eq_true (by rfl))) ?_
        | refine OpA.quiet (QOp.at_own (by rfl) (by first | exact slk29 | exact slk32 | exact slk63 | exact slk66) (by rfl) (by rfl) (by rfl) (by rfl) (by rfl) (by rfl) (by first | assumption | omega | decide) (by first | assumption | omega | decide)) ?_
        | refine OpA.quiet (QOp.len_own (by rfl) (by first | exact slk29 | exact slk32 | exact slk63 | exact slk66) (by rfl) (by rfl) (by rfl) (by rfl)) ?_
        | (refine OpA.pop (POp.make (by rfl) (by first | exact rwk29 | exact rwk32 | exact rwk63 | exact rwk66) (by rfl) (by rfl) (by first | assumption | omega) (by simp; omega) (by simp [maxLen]; omega)) ?_)
        | refine OpA.sto (by rfl) (by rfl) (by rfl) (by rfl) (by rfl) (by rfl) (by rfl) (by rfl) (by first | exact ldk2 | exact ldk3 | exact ldk4 | exact ldk6 | exact ldk7 | exact ldk8 | exact ldk9 | exact ldk10 | exact ldk12 | exact ldk13 | exact ldk14 | exact ldk15 | exact ldk16 | exact ldk17 | exact ldk18 | exact ldk21 | exact ldk22 | exact ldk29 | exact ldk32 | exact ldk63 | exact ldk65 | exact ldk66 | exact ldk68) (by rfl) (Nat.le_of_ble_eq_true (by rfl)) ?_
        | refine OpA.sto (by rfl) (by rfl) (by rfl) (by rfl) (by rfl) (by assumption) (by rfl) (by rfl) (by first | exact ldk2 | exact ldk3 | exact ldk4 | exact ldk6 | exact ldk7 | exact ldk8 | exact ldk9 | exact ldk10 | exact ldk12 | exact ldk13 | exact ldk14 | exact ldk15 | exact ldk16 | exact ldk17 | exact ldk18 | exact ldk21 | exact ldk22 | exact ldk29 | exact ldk32 | exact ldk63 | exact ldk65 | exact ldk66 | exact ldk68) (by rfl) (Nat.le_of_ble_eq_true (by rfl)) ?_
        | refine OpA.pcall (by rfl) Try.func40 rfl rfl (by rfl) (by first | exact clo_all (by rfl) | (intro x hx; simp only [List.mem_cons, List.not_mem_nil, or_false] at hx; rcases hx with rfl | rfl | rfl | rfl | rfl | rfl | rfl | rfl <;> first | exact clo_of (by rfl) | exact clo_fn _ | assumption)) (toFeature x (by assumption)) (by first | exact clo_of (by rfl) | assumption) ?_
        | (refine AW.freezeRet (t := 2) (id := 0) rfl rfl rfl rfl (fil_clo (clo_all (by rfl)) TFeature.clo_en) ?_; simp only [fil_all])
        | (refine AW.cond (by rfl) (fun h => ?_) ?_; rotate_left; focus (intro h; (try simp only [Bool.not_eq_true', Bool.not_eq_false'] at h); first | (cases h; done) | exact clash (by with_reducible_and_instances assumption) h | exact clash h (by with_reducible_and_instances assumption) | exact absurd h (by decide) | (refine absurd h ?_; simp; done)))
        | (refine AW.cond (by rfl) ?_ (fun h => ?_); focus (intro h; (try simp only [Bool.not_eq_true', Bool.not_eq_false'] at h); first | (cases h; done) | exact clash (by with_reducible_and_instances assumption) h | exact clash h (by with_reducible_and_instances assumption) | exact absurd h (by decide) | (refine absurd h ?_; simp; done)))
        | (refine AW.cond (by rfl) ?_ ?_ <;> (intro h; try simp only [Bool.not_eq_true', Bool.not_eq_false'] at h))
        | refine AW.block ?_
        | refine AW.exit ?_
        | refine AL.nil ?_
        | refine AW.ret ?_) <;> (try dsimp only [dput, List.set, cond_true, cond_false, Nat.zero_add, Nat.add_zero, Nat.reduceAdd, splice, List.take, List.drop, List.length, List.nil_append, List.cons_append, TPoint.en, TSegment.en, TBox.en, TFeature.en, TMeet.en, TPlace.en, TCover.en, TLabel.en, TPiece.en, TLevel.en, TChart.en, TReason.en, TEdit.en, TEntry.en, TEdition.en, TListing.en, TAtlas.en, TEvent.en, TWindow.en]))
      all_goals exact Fin.one rfl (RV.tmp (by rfl)) hclo ⟨rfl, rfl⟩

set_option maxRecDepth 100000 in
set_option maxHeartbeats 2000000 in
theorem toCover (x : TCover) : VCalls Try.prog 11 [.agg x.en] (fun r M => r = .agg x.en ∧ M = []) := by
  refine VCalls.body Try.func11 rfl 13 rfl (fun E => ?_)
  simp only [List.reduceReplicate, List.cons_append, List.nil_append]
  dsimp only [TCover.en]
  repeat' ((first
    | refine AW.seq ?_
    | refine AW.region ?_
    | refine AW.skip ?_
    | refine AL.q TT_ok rfl (by rfl) ?_
    | refine AL.step rfl ?_
    | refine OpA.box (by rfl) (by rfl) (by rfl) ?_
    | refine OpA.allocA (by rfl) (by first | exact ze2 | exact ze3 | exact ze4 | exact ze5 | exact ze6 | exact ze7 | exact ze8 | exact ze9 | exact ze10 | exact ze11 | exact ze12 | exact ze13 | exact ze23 | exact ze26) ?_
    | refine OpA.sto (by rfl) (by rfl) (by rfl) (by rfl) (by rfl) (by rfl) (by rfl) (by rfl) (by first | exact ldk2 | exact ldk3 | exact ldk4 | exact ldk5 | exact ldk6 | exact ldk7 | exact ldk8 | exact ldk9 | exact ldk10 | exact ldk11 | exact ldk12 | exact ldk13 | exact ldk23 | exact ldk26) (by rfl) (Nat.le_of_ble_eq_true (by rfl)) ?_
    | refine OpA.sto (by rfl) (by rfl) (by rfl) (by rfl) (by rfl) (by assumption) (by rfl) (by rfl) (by first | exact ldk2 | exact ldk3 | exact ldk4 | exact ldk5 | exact ldk6 | exact ldk7 | exact ldk8 | exact ldk9 | exact ldk10 | exact ldk11 | exact ldk12 | exact ldk13 | exact ldk23 | exact ldk26) (by rfl) (Nat.le_of_ble_eq_true (by rfl)) ?_
    | refine AL.nil ?_
    | refine AW.ret ?_) <;> (try dsimp only [dput, List.set, cond_true, cond_false, Nat.zero_add, Nat.add_zero, Nat.reduceAdd, splice, List.take, List.drop, List.length, List.nil_append, List.cons_append, TPoint.en, TSegment.en, TBox.en, TFeature.en, TMeet.en, TPlace.en, TCover.en, TLabel.en, TPiece.en, TLevel.en, TChart.en, TReason.en, TEdit.en, TEntry.en, TEdition.en, TListing.en, TAtlas.en, TEvent.en, TWindow.en]))
  all_goals exact Fin.one rfl (RV.cell (QOp.quietA TT_ok (by rfl))) (Clo.agg x.clo_en) ⟨by rfl, rfl⟩

set_option maxRecDepth 100000 in
set_option maxHeartbeats 2000000 in
theorem toLevel (x : TLevel) : VCalls Try.prog 96 [.agg x.en] (fun r M => r = .agg x.en ∧ M = []) := by
  refine VCalls.body Try.func96 rfl 13 rfl (fun E => ?_)
  simp only [List.reduceReplicate, List.cons_append, List.nil_append]
  dsimp only [TLevel.en]
  repeat' ((first
    | refine AW.seq ?_
    | refine AW.region ?_
    | refine AW.skip ?_
    | refine AL.q TT_ok rfl (by rfl) ?_
    | refine AL.step rfl ?_
    | refine OpA.box (by rfl) (by rfl) (by rfl) ?_
    | refine OpA.allocA (by rfl) (by first | exact ze2 | exact ze3 | exact ze4 | exact ze5 | exact ze6 | exact ze7 | exact ze8 | exact ze9 | exact ze10 | exact ze11 | exact ze12 | exact ze13 | exact ze90 | exact ze127) ?_
    | refine OpA.sto (by rfl) (by rfl) (by rfl) (by rfl) (by rfl) (by rfl) (by rfl) (by rfl) (by first | exact ldk2 | exact ldk3 | exact ldk4 | exact ldk5 | exact ldk6 | exact ldk7 | exact ldk8 | exact ldk9 | exact ldk10 | exact ldk11 | exact ldk12 | exact ldk13 | exact ldk90 | exact ldk127) (by rfl) (Nat.le_of_ble_eq_true (by rfl)) ?_
    | refine OpA.sto (by rfl) (by rfl) (by rfl) (by rfl) (by rfl) (by assumption) (by rfl) (by rfl) (by first | exact ldk2 | exact ldk3 | exact ldk4 | exact ldk5 | exact ldk6 | exact ldk7 | exact ldk8 | exact ldk9 | exact ldk10 | exact ldk11 | exact ldk12 | exact ldk13 | exact ldk90 | exact ldk127) (by rfl) (Nat.le_of_ble_eq_true (by rfl)) ?_
    | refine AL.nil ?_
    | refine AW.ret ?_) <;> (try dsimp only [dput, List.set, cond_true, cond_false, Nat.zero_add, Nat.add_zero, Nat.reduceAdd, splice, List.take, List.drop, List.length, List.nil_append, List.cons_append, TPoint.en, TSegment.en, TBox.en, TFeature.en, TMeet.en, TPlace.en, TCover.en, TLabel.en, TPiece.en, TLevel.en, TChart.en, TReason.en, TEdit.en, TEntry.en, TEdition.en, TListing.en, TAtlas.en, TEvent.en, TWindow.en]))
  all_goals exact Fin.one rfl (RV.cell (QOp.quietA TT_ok (by rfl))) (Clo.agg x.clo_en) ⟨by rfl, rfl⟩

set_option maxRecDepth 100000 in
set_option maxHeartbeats 2000000 in
theorem toLevelS (l : List TLevel) (hl : l.length ≤ 1048576) : VCalls Try.prog 64 [.ro 3 (l.map TLevel.en)] (fun r M => r = .ro 3 (l.map TLevel.en) ∧ M = []) := by
  refine VCalls.bodyE Try.func64 rfl 22 rfl (fun E hE => ?_)
  simp only [List.reduceReplicate, List.cons_append, List.nil_append]
  repeat' ((first
    | refine AW.seq ?_
    | refine AW.region ?_
    | refine AW.skip ?_
    | refine AL.q TT_ok rfl (by rfl) ?_
    | refine AL.step rfl ?_
    | refine OpA.quiet (QOp.atk_ro (by rfl) (by rfl) (by rfl) (by first | exact slk47 | exact slk54) (Nat.le_of_ble_eq_true (by rfl)) (by first | assumption | omega) (by assumption)) ?_
    | refine OpA.quiet (QOp.ld1_ro (by rfl) (by rfl) (by assumption) (by first | exact ldk2 | exact ldk3 | exact ldk4 | exact ldk6 | exact ldk7 | exact ldk8 | exact ldk9 | exact ldk10 | exact ldk12 | exact ldk13 | exact ldk14 | exact ldk15 | exact ldk16 | exact ldk17 | exact ldk18 | exact ldk21 | exact ldk22 | exact ldk47 | exact ldk54 | exact ldk90 | exact ldk127) (by rfl)) ?_
    | refine OpA.quiet (QOp.ldr_ro (by rfl) (by rfl) (by assumption) (by first | exact ldk2 | exact ldk3 | exact ldk4 | exact ldk6 | exact ldk7 | exact ldk8 | exact ldk9 | exact ldk10 | exact ldk12 | exact ldk13 | exact ldk14 | exact ldk15 | exact ldk16 | exact ldk17 | exact ldk18 | exact ldk21 | exact ldk22 | exact ldk47 | exact ldk54 | exact ldk90 | exact ldk127) (Nat.le_of_ble_eq_true (by rfl))) ?_
    | refine OpA.quiet (QOp.at_own (by rfl) (by first | exact slk47 | exact slk54) (by rfl) (by rfl) (by rfl) (by rfl) (by rfl) (by rfl) (by first | assumption | omega | decide) (by first | assumption | omega | decide)) ?_
    | refine OpA.quiet (QOp.len_own (by rfl) (by first | exact slk47 | exact slk54) (by rfl) (by rfl) (by rfl) (by rfl)) ?_
    | (refine OpA.pop (POp.make (by rfl) (by first | exact rwk47 | exact rwk54) (by rfl) (by rfl) (by first | assumption | omega) (by simp; omega) (by simp [maxLen]; omega)) ?_)
    | refine OpA.sto (by rfl) (by rfl) (by rfl) (by rfl) (by rfl) (by rfl) (by rfl) (by rfl) (by first | exact ldk2 | exact ldk3 | exact ldk4 | exact ldk6 | exact ldk7 | exact ldk8 | exact ldk9 | exact ldk10 | exact ldk12 | exact ldk13 | exact ldk14 | exact ldk15 | exact ldk16 | exact ldk17 | exact ldk18 | exact ldk21 | exact ldk22 | exact ldk47 | exact ldk54 | exact ldk90 | exact ldk127) (by rfl) (Nat.le_of_ble_eq_true (by rfl)) ?_
    | refine OpA.sto (by rfl) (by rfl) (by rfl) (by rfl) (by rfl) (by assumption) (by rfl) (by rfl) (by first | exact ldk2 | exact ldk3 | exact ldk4 | exact ldk6 | exact ldk7 | exact ldk8 | exact ldk9 | exact ldk10 | exact ldk12 | exact ldk13 | exact ldk14 | exact ldk15 | exact ldk16 | exact ldk17 | exact ldk18 | exact ldk21 | exact ldk22 | exact ldk47 | exact ldk54 | exact ldk90 | exact ldk127) (by rfl) (Nat.le_of_ble_eq_true (by rfl)) ?_
    | refine OpA.pcall (by rfl) Try.func96 rfl rfl (by rfl) (by first | exact clo_all (by rfl) | (intro x hx; simp only [List.mem_cons, List.not_mem_nil, or_false] at hx; rcases hx with rfl | rfl | rfl | rfl | rfl | rfl | rfl | rfl <;> first | exact clo_of (by rfl) | exact clo_fn _ | assumption)) (toLevel x) (by first | exact clo_of (by rfl) | assumption) ?_
    | (refine AW.loopD hE (fun i : Nat => [.ro 3 (l.map TLevel.en), .any, .any, .own 0 0, I i, .any, .any, .any, .any, .any, .any, .any, .any, .any, .any, .any, .any, .any, .any, .any, .any, .any, .any]) (fun i => [some ⟨90, 3, 0, false, fil TLevel.en [I 0, I 0, I 0] l i⟩]) (fun i => l.length - i) (fun i => i ≤ l.length) 0 (by simp) ?_ (by first | rfl | (simp [fil_zero]; done)) ?_)
    | (refine AW.cond (by rfl) (fun h => ?_) ?_; rotate_left; focus (intro h; (try simp only [Bool.not_eq_true', Bool.not_eq_false'] at h); first | (cases h; done) | exact clash (by with_reducible_and_instances assumption) h | exact clash h (by with_reducible_and_instances assumption) | exact absurd h (by decide) | (refine absurd h ?_; simp; done)))
    | (refine AW.cond (by rfl) ?_ (fun h => ?_); focus (intro h; (try simp only [Bool.not_eq_true', Bool.not_eq_false'] at h); first | (cases h; done) | exact clash (by with_reducible_and_instances assumption) h | exact clash h (by with_reducible_and_instances assumption) | exact absurd h (by decide) | (refine absurd h ?_; simp; done)))
    | (refine AW.cond (by rfl) ?_ ?_ <;> (intro h; try simp only [Bool.not_eq_true', Bool.not_eq_false'] at h))
    | refine AW.block ?_
    | refine AW.exit ?_
    | refine AL.nil ?_
    | refine AW.ret ?_) <;> (try dsimp only [dput, List.set, cond_true, cond_false, Nat.zero_add, Nat.add_zero, Nat.reduceAdd, splice, List.take, List.drop, List.length, List.nil_append, List.cons_append, TPoint.en, TSegment.en, TBox.en, TFeature.en, TMeet.en, TPlace.en, TCover.en, TLabel.en, TPiece.en, TLevel.en, TChart.en, TReason.en, TEdit.en, TEntry.en, TEdition.en, TListing.en, TAtlas.en, TEvent.en, TWindow.en]))
  · (repeat' (first | exact Wk.nil | refine Wk.any ?_ | (with_reducible refine Wk.same ?_) | refine Wk.of ?_ ?_)) <;> first | rfl | (simp)
  · intro i hi
    have hclo : Clo (.ro 3 (l.map TLevel.en)) := clo_list TLevel.clo_en
    by_cases hlt : i < l.length
    · obtain ⟨x, hx⟩ : ∃ x, l[i]? = some x := ⟨_, List.getElem?_eq_getElem hlt⟩
      have hg := map_get (f := TLevel.en) hx
      have ht := lt_true (f := TLevel.en) hlt
      have hn := next_ix hlt (by omega)
      have hz := fil_get (en := TLevel.en) (z := [I 0, I 0, I 0]) hlt
      have ha := fil_at (en := TLevel.en) (z := [I 0, I 0, I 0]) hlt
      have hs := fil_set (en := TLevel.en) (z := [I 0, I 0, I 0]) hx
      repeat' ((first
        | refine AW.seq ?_
        | refine AW.region ?_
        | refine AW.skip ?_
        | refine AL.q TT_ok rfl (by rfl) ?_
        | refine AL.step rfl ?_
        | refine OpA.quiet (QOp.atk_ro (by rfl) (by rfl) (by rfl) (by first | exact slk47 | exact slk54) (Nat.le_of_ble_eq_true (by rfl)) (by first | assumption | omega) (by assumption)) ?_
        | refine OpA.quiet (QOp.ld1_ro (by rfl) (by rfl) (by assumption) (by first | exact ldk2 | exact ldk3 | exact ldk4 | exact ldk6 | exact ldk7 | exact ldk8 | exact ldk9 | exact ldk10 | exact ldk12 | exact ldk13 | exact ldk14 | exact ldk15 | exact ldk16 | exact ldk17 | exact ldk18 | exact ldk21 | exact ldk22 | exact ldk47 | exact ldk54 | exact ldk90 | exact ldk127) (by rfl)) ?_
        | refine OpA.quiet (QOp.ldr_ro (by rfl) (by rfl) (by assumption) (by first | exact ldk2 | exact ldk3 | exact ldk4 | exact ldk6 | exact ldk7 | exact ldk8 | exact ldk9 | exact ldk10 | exact ldk12 | exact ldk13 | exact ldk14 | exact ldk15 | exact ldk16 | exact ldk17 | exact ldk18 | exact ldk21 | exact ldk22 | exact ldk47 | exact ldk54 | exact ldk90 | exact ldk127) (Nat.le_of_ble_eq_true (by rfl))) ?_
        | refine OpA.quiet (QOp.at_own (by rfl) (by first | exact slk47 | exact slk54) (by rfl) (by rfl) (by rfl) (by rfl) (by rfl) (by rfl) (by first | assumption | omega | decide) (by first | assumption | omega | decide)) ?_
        | refine OpA.quiet (QOp.len_own (by rfl) (by first | exact slk47 | exact slk54) (by rfl) (by rfl) (by rfl) (by rfl)) ?_
        | (refine OpA.pop (POp.make (by rfl) (by first | exact rwk47 | exact rwk54) (by rfl) (by rfl) (by first | assumption | omega) (by simp; omega) (by simp [maxLen]; omega)) ?_)
        | refine OpA.sto (by rfl) (by rfl) (by rfl) (by rfl) (by rfl) (by rfl) (by rfl) (by rfl) (by first | exact ldk2 | exact ldk3 | exact ldk4 | exact ldk6 | exact ldk7 | exact ldk8 | exact ldk9 | exact ldk10 | exact ldk12 | exact ldk13 | exact ldk14 | exact ldk15 | exact ldk16 | exact ldk17 | exact ldk18 | exact ldk21 | exact ldk22 | exact ldk47 | exact ldk54 | exact ldk90 | exact ldk127) (by rfl) (Nat.le_of_ble_eq_true (by rfl)) ?_
        | refine OpA.sto (by rfl) (by rfl) (by rfl) (by rfl) (by rfl) (by assumption) (by rfl) (by rfl) (by first | exact ldk2 | exact ldk3 | exact ldk4 | exact ldk6 | exact ldk7 | exact ldk8 | exact ldk9 | exact ldk10 | exact ldk12 | exact ldk13 | exact ldk14 | exact ldk15 | exact ldk16 | exact ldk17 | exact ldk18 | exact ldk21 | exact ldk22 | exact ldk47 | exact ldk54 | exact ldk90 | exact ldk127) (by rfl) (Nat.le_of_ble_eq_true (by rfl)) ?_
        | refine OpA.pcall (by rfl) Try.func96 rfl rfl (by rfl) (by first | exact clo_all (by rfl) | (intro x hx; simp only [List.mem_cons, List.not_mem_nil, or_false] at hx; rcases hx with rfl | rfl | rfl | rfl | rfl | rfl | rfl | rfl <;> first | exact clo_of (by rfl) | exact clo_fn _ | assumption)) (toLevel x) (by first | exact clo_of (by rfl) | assumption) ?_
        | (refine AW.cond (by rfl) (fun h => ?_) ?_; rotate_left; focus (intro h; (try simp only [Bool.not_eq_true', Bool.not_eq_false'] at h); first | (cases h; done) | exact clash (by with_reducible_and_instances assumption) h | exact clash h (by with_reducible_and_instances assumption) | exact absurd h (by decide) | (refine absurd h ?_; simp; done)))
        | (refine AW.cond (by rfl) ?_ (fun h => ?_); focus (intro h; (try simp only [Bool.not_eq_true', Bool.not_eq_false'] at h); first | (cases h; done) | exact clash (by with_reducible_and_instances assumption) h | exact clash h (by with_reducible_and_instances assumption) | exact absurd h (by decide) | (refine absurd h ?_; simp; done)))
        | (refine AW.cond (by rfl) ?_ ?_ <;> (intro h; try simp only [Bool.not_eq_true', Bool.not_eq_false'] at h))
        | refine AW.block ?_
        | refine AW.exit ?_
        | refine AL.nil ?_
        | refine AW.ret ?_) <;> (try dsimp only [dput, List.set, cond_true, cond_false, Nat.zero_add, Nat.add_zero, Nat.reduceAdd, splice, List.take, List.drop, List.length, List.nil_append, List.cons_append, TPoint.en, TSegment.en, TBox.en, TFeature.en, TMeet.en, TPlace.en, TCover.en, TLabel.en, TPiece.en, TLevel.en, TChart.en, TReason.en, TEdit.en, TEntry.en, TEdition.en, TListing.en, TAtlas.en, TEvent.en, TWindow.en]))
      all_goals first
        | (refine ⟨i + 1, [], hlt, by omega, ?_, by rw [← hs]; rfl, ?_, ?_⟩; (focus ((repeat' (first | exact Wk.nil | refine Wk.any ?_ | (with_reducible refine Wk.same ?_) | refine Wk.of ?_ ?_)) <;> (simp_all))); (focus ((repeat' (first | exact Fits.nil _ | refine Fits.cons ?_ ?_ | exact Fits.any _ | exact Fits.c _ _ | exact Fits.own (by rfl) | exact Fits.ref (by rfl) | exact Fits.clo (by assumption) | exact Fits.clo (clo_of (by rfl)) | exact Fits.clo (clo_fn _))))); (focus (exact fits_row (fil_clo (clo_all (by rfl)) TLevel.clo_en))))
    · have ht := lt_false (f := TLevel.en) hlt
      have e : i = l.length := by omega
      subst e
      try rw [List.take_length]
      repeat' ((first
        | refine AW.seq ?_
        | refine AW.region ?_
        | refine AW.skip ?_
        | refine AL.q TT_ok rfl (by rfl) ?_
        | refine AL.step rfl ?_
        | refine OpA.quiet (QOp.atk_ro (by rfl) (by rfl) (by rfl) (by first | exact slk47 | exact slk54) (Nat.le_of_ble_eq_true (by rfl)) (by first | assumption | omega) (by assumption)) ?_
        | refine OpA.quiet (QOp.ld1_ro (by rfl) (by rfl) (by assumption) (by first | exact ldk2 | exact ldk3 | exact ldk4 | exact ldk6 | exact ldk7 | exact ldk8 | exact ldk9 | exact ldk10 | exact ldk12 | exact ldk13 | exact ldk14 | exact ldk15 | exact ldk16 | exact ldk17 | exact ldk18 | exact ldk21 | exact ldk22 | exact ldk47 | exact ldk54 | exact ldk90 | exact ldk127) (by rfl)) ?_
        | refine OpA.quiet (QOp.ldr_ro (by rfl) (by rfl) (by assumption) (by first | exact ldk2 | exact ldk3 | exact ldk4 | exact ldk6 | exact ldk7 | exact ldk8 | exact ldk9 | exact ldk10 | exact ldk12 | exact ldk13 | exact ldk14 | exact ldk15 | exact ldk16 | exact ldk17 | exact ldk18 | exact ldk21 | exact ldk22 | exact ldk47 | exact ldk54 | exact ldk90 | exact ldk127) (Nat.le_of_ble_eq_true (by rfl))) ?_
        | refine OpA.quiet (QOp.at_own (by rfl) (by first | exact slk47 | exact slk54) (by rfl) (by rfl) (by rfl) (by rfl) (by rfl) (by rfl) (by first | assumption | omega | decide) (by first | assumption | omega | decide)) ?_
        | refine OpA.quiet (QOp.len_own (by rfl) (by first | exact slk47 | exact slk54) (by rfl) (by rfl) (by rfl) (by rfl)) ?_
        | (refine OpA.pop (POp.make (by rfl) (by first | exact rwk47 | exact rwk54) (by rfl) (by rfl) (by first | assumption | omega) (by simp; omega) (by simp [maxLen]; omega)) ?_)
        | refine OpA.sto (by rfl) (by rfl) (by rfl) (by rfl) (by rfl) (by rfl) (by rfl) (by rfl) (by first | exact ldk2 | exact ldk3 | exact ldk4 | exact ldk6 | exact ldk7 | exact ldk8 | exact ldk9 | exact ldk10 | exact ldk12 | exact ldk13 | exact ldk14 | exact ldk15 | exact ldk16 | exact ldk17 | exact ldk18 | exact ldk21 | exact ldk22 | exact ldk47 | exact ldk54 | exact ldk90 | exact ldk127) (by rfl) (Nat.le_of_ble_eq_true (by rfl)) ?_
        | refine OpA.sto (by rfl) (by rfl) (by rfl) (by rfl) (by rfl) (by assumption) (by rfl) (by rfl) (by first | exact ldk2 | exact ldk3 | exact ldk4 | exact ldk6 | exact ldk7 | exact ldk8 | exact ldk9 | exact ldk10 | exact ldk12 | exact ldk13 | exact ldk14 | exact ldk15 | exact ldk16 | exact ldk17 | exact ldk18 | exact ldk21 | exact ldk22 | exact ldk47 | exact ldk54 | exact ldk90 | exact ldk127) (by rfl) (Nat.le_of_ble_eq_true (by rfl)) ?_
        | refine OpA.pcall (by rfl) Try.func96 rfl rfl (by rfl) (by first | exact clo_all (by rfl) | (intro x hx; simp only [List.mem_cons, List.not_mem_nil, or_false] at hx; rcases hx with rfl | rfl | rfl | rfl | rfl | rfl | rfl | rfl <;> first | exact clo_of (by rfl) | exact clo_fn _ | assumption)) (toLevel x) (by first | exact clo_of (by rfl) | assumption) ?_
        | (refine AW.freezeRet (t := 2) (id := 0) rfl rfl rfl rfl (fil_clo (clo_all (by rfl)) TLevel.clo_en) ?_; simp only [fil_all])
        | (refine AW.cond (by rfl) (fun h => ?_) ?_; rotate_left; focus (intro h; (try simp only [Bool.not_eq_true', Bool.not_eq_false'] at h); first | (cases h; done) | exact clash (by with_reducible_and_instances assumption) h | exact clash h (by with_reducible_and_instances assumption) | exact absurd h (by decide) | (refine absurd h ?_; simp; done)))
        | (refine AW.cond (by rfl) ?_ (fun h => ?_); focus (intro h; (try simp only [Bool.not_eq_true', Bool.not_eq_false'] at h); first | (cases h; done) | exact clash (by with_reducible_and_instances assumption) h | exact clash h (by with_reducible_and_instances assumption) | exact absurd h (by decide) | (refine absurd h ?_; simp; done)))
        | (refine AW.cond (by rfl) ?_ ?_ <;> (intro h; try simp only [Bool.not_eq_true', Bool.not_eq_false'] at h))
        | refine AW.block ?_
        | refine AW.exit ?_
        | refine AL.nil ?_
        | refine AW.ret ?_) <;> (try dsimp only [dput, List.set, cond_true, cond_false, Nat.zero_add, Nat.add_zero, Nat.reduceAdd, splice, List.take, List.drop, List.length, List.nil_append, List.cons_append, TPoint.en, TSegment.en, TBox.en, TFeature.en, TMeet.en, TPlace.en, TCover.en, TLabel.en, TPiece.en, TLevel.en, TChart.en, TReason.en, TEdit.en, TEntry.en, TEdition.en, TListing.en, TAtlas.en, TEvent.en, TWindow.en]))
      all_goals exact Fin.one rfl (RV.tmp (by rfl)) hclo ⟨rfl, rfl⟩

set_option maxRecDepth 100000 in
set_option maxHeartbeats 2000000 in
theorem toEntry (x : TEntry) (hs : x.sm) : VCalls Try.prog 95 [.agg x.en] (fun r M => r = .agg x.en ∧ M = []) := by
  refine VCalls.body Try.func95 rfl 17 rfl (fun E => ?_)
  simp only [List.reduceReplicate, List.cons_append, List.nil_append]
  have hclo0 : Clo (.ro 2 (x.feature.points.map TPoint.en)) := clo_list TPoint.clo_en
  have hcls0 : Clo (.agg x.feature.en) := Clo.agg x.feature.clo_en
  have hcle : Clo (.agg x.en) := Clo.agg x.clo_en
  have hs' := hs
  obtain hs0 := hs
  dsimp only [TEntry.en]
  repeat' ((first
    | refine AW.seq ?_
    | refine AW.region ?_
    | refine AW.skip ?_
    | refine AL.q TT_ok rfl (by rfl) ?_
    | refine AL.step rfl ?_
    | refine OpA.quiet (QOp.ld1_ro (by rfl) (by rfl) (by assumption) (by first | exact ldk2 | exact ldk3 | exact ldk4 | exact ldk6 | exact ldk7 | exact ldk8 | exact ldk9 | exact ldk10 | exact ldk11 | exact ldk12 | exact ldk13 | exact ldk14 | exact ldk15 | exact ldk16 | exact ldk17 | exact ldk63 | exact ldk65 | exact ldk66 | exact ldk68 | exact ldk118 | exact ldk121) (by rfl)) ?_
    | refine OpA.quiet (QOp.ldr_ro (by rfl) (by rfl) (by assumption) (by first | exact ldk2 | exact ldk3 | exact ldk4 | exact ldk6 | exact ldk7 | exact ldk8 | exact ldk9 | exact ldk10 | exact ldk11 | exact ldk12 | exact ldk13 | exact ldk14 | exact ldk15 | exact ldk16 | exact ldk17 | exact ldk63 | exact ldk65 | exact ldk66 | exact ldk68 | exact ldk118 | exact ldk121) (Nat.le_of_ble_eq_true (by rfl))) ?_
    | refine OpA.box (by rfl) (by rfl) (by rfl) ?_
    | refine OpA.allocA (by rfl) (by first | exact ze2 | exact ze3 | exact ze4 | exact ze6 | exact ze7 | exact ze8 | exact ze9 | exact ze10 | exact ze11 | exact ze12 | exact ze13 | exact ze14 | exact ze15 | exact ze16 | exact ze17 | exact ze63 | exact ze65 | exact ze66 | exact ze68 | exact ze118 | exact ze121) ?_
    | refine OpA.sto (by rfl) (by rfl) (by rfl) (by rfl) (by rfl) (by rfl) (by rfl) (by rfl) (by first | exact ldk2 | exact ldk3 | exact ldk4 | exact ldk6 | exact ldk7 | exact ldk8 | exact ldk9 | exact ldk10 | exact ldk11 | exact ldk12 | exact ldk13 | exact ldk14 | exact ldk15 | exact ldk16 | exact ldk17 | exact ldk63 | exact ldk65 | exact ldk66 | exact ldk68 | exact ldk118 | exact ldk121) (by rfl) (Nat.le_of_ble_eq_true (by rfl)) ?_
    | refine OpA.sto (by rfl) (by rfl) (by rfl) (by rfl) (by rfl) (by assumption) (by rfl) (by rfl) (by first | exact ldk2 | exact ldk3 | exact ldk4 | exact ldk6 | exact ldk7 | exact ldk8 | exact ldk9 | exact ldk10 | exact ldk11 | exact ldk12 | exact ldk13 | exact ldk14 | exact ldk15 | exact ldk16 | exact ldk17 | exact ldk63 | exact ldk65 | exact ldk66 | exact ldk68 | exact ldk118 | exact ldk121) (by rfl) (Nat.le_of_ble_eq_true (by rfl)) ?_
    | refine OpA.pcall (by rfl) Try.func40 rfl rfl (by rfl) (by first | exact clo_all (by rfl) | (intro x hx; simp only [List.mem_cons, List.not_mem_nil, or_false] at hx; rcases hx with rfl | rfl | rfl | rfl | rfl | rfl | rfl | rfl <;> first | exact clo_of (by rfl) | exact clo_fn _ | assumption)) (toFeature x.feature (by assumption)) (by first | exact clo_of (by rfl) | assumption) ?_
    | refine AL.nil ?_
    | refine AW.ret ?_) <;> (try dsimp only [dput, List.set, cond_true, cond_false, Nat.zero_add, Nat.add_zero, Nat.reduceAdd, splice, List.take, List.drop, List.length, List.nil_append, List.cons_append, TPoint.en, TSegment.en, TBox.en, TFeature.en, TMeet.en, TPlace.en, TCover.en, TLabel.en, TPiece.en, TLevel.en, TChart.en, TReason.en, TEdit.en, TEntry.en, TEdition.en, TListing.en, TAtlas.en, TEvent.en, TWindow.en]))
  all_goals exact Fin.one rfl (RV.cell (QOp.quietA TT_ok (by rfl))) (Clo.agg x.clo_en) ⟨by rfl, rfl⟩

set_option maxRecDepth 100000 in
set_option maxHeartbeats 2000000 in
theorem toEntryS (l : List TEntry) (hl : l.length ≤ 1048576) (hp : ∀ x ∈ l, x.sm) : VCalls Try.prog 63 [.ro 8 (l.map TEntry.en)] (fun r M => r = .ro 8 (l.map TEntry.en) ∧ M = []) := by
  refine VCalls.bodyE Try.func63 rfl 22 rfl (fun E hE => ?_)
  simp only [List.reduceReplicate, List.cons_append, List.nil_append]
  repeat' ((first
    | refine AW.seq ?_
    | refine AW.region ?_
    | refine AW.skip ?_
    | refine AL.q TT_ok rfl (by rfl) ?_
    | refine AL.step rfl ?_
    | refine OpA.quiet (QOp.atk_ro (by rfl) (by rfl) (by rfl) (by first | exact slk46 | exact slk53) (Nat.le_of_ble_eq_true (by rfl)) (by first | assumption | omega) (by assumption)) ?_
    | refine OpA.quiet (QOp.ld1_ro (by rfl) (by rfl) (by assumption) (by first | exact ldk2 | exact ldk3 | exact ldk4 | exact ldk6 | exact ldk7 | exact ldk8 | exact ldk9 | exact ldk10 | exact ldk12 | exact ldk13 | exact ldk14 | exact ldk15 | exact ldk16 | exact ldk17 | exact ldk18 | exact ldk21 | exact ldk22 | exact ldk46 | exact ldk53 | exact ldk65 | exact ldk68 | exact ldk118 | exact ldk121) (by rfl)) ?_
    | refine OpA.quiet (QOp.ldr_ro (by rfl) (by rfl) (by assumption) (by first | exact ldk2 | exact ldk3 | exact ldk4 | exact ldk6 | exact ldk7 | exact ldk8 | exact ldk9 | exact ldk10 | exact ldk12 | exact ldk13 | exact ldk14 | exact ldk15 | exact ldk16 | exact ldk17 | exact ldk18 | exact ldk21 | exact ldk22 | exact ldk46 | exact ldk53 | exact ldk65 | exact ldk68 | exact ldk118 | exact ldk121) (Nat.le_of_ble_eq_true (by rfl))) ?_
    | refine OpA.quiet (QOp.at_own (by rfl) (by first | exact slk46 | exact slk53) (by rfl) (by rfl) (by rfl) (by rfl) (by rfl) (by rfl) (by first | assumption | omega | decide) (by first | assumption | omega | decide)) ?_
    | refine OpA.quiet (QOp.len_own (by rfl) (by first | exact slk46 | exact slk53) (by rfl) (by rfl) (by rfl) (by rfl)) ?_
    | (refine OpA.pop (POp.make (by rfl) (by first | exact rwk46 | exact rwk53) (by rfl) (by rfl) (by first | assumption | omega) (by simp; omega) (by simp [maxLen]; omega)) ?_)
    | refine OpA.sto (by rfl) (by rfl) (by rfl) (by rfl) (by rfl) (by rfl) (by rfl) (by rfl) (by first | exact ldk2 | exact ldk3 | exact ldk4 | exact ldk6 | exact ldk7 | exact ldk8 | exact ldk9 | exact ldk10 | exact ldk12 | exact ldk13 | exact ldk14 | exact ldk15 | exact ldk16 | exact ldk17 | exact ldk18 | exact ldk21 | exact ldk22 | exact ldk46 | exact ldk53 | exact ldk65 | exact ldk68 | exact ldk118 | exact ldk121) (by rfl) (Nat.le_of_ble_eq_true (by rfl)) ?_
    | refine OpA.sto (by rfl) (by rfl) (by rfl) (by rfl) (by rfl) (by assumption) (by rfl) (by rfl) (by first | exact ldk2 | exact ldk3 | exact ldk4 | exact ldk6 | exact ldk7 | exact ldk8 | exact ldk9 | exact ldk10 | exact ldk12 | exact ldk13 | exact ldk14 | exact ldk15 | exact ldk16 | exact ldk17 | exact ldk18 | exact ldk21 | exact ldk22 | exact ldk46 | exact ldk53 | exact ldk65 | exact ldk68 | exact ldk118 | exact ldk121) (by rfl) (Nat.le_of_ble_eq_true (by rfl)) ?_
    | refine OpA.pcall (by rfl) Try.func95 rfl rfl (by rfl) (by first | exact clo_all (by rfl) | (intro x hx; simp only [List.mem_cons, List.not_mem_nil, or_false] at hx; rcases hx with rfl | rfl | rfl | rfl | rfl | rfl | rfl | rfl <;> first | exact clo_of (by rfl) | exact clo_fn _ | assumption)) (toEntry x (by assumption)) (by first | exact clo_of (by rfl) | assumption) ?_
    | (refine AW.loopD hE (fun i : Nat => [.ro 8 (l.map TEntry.en), .any, .any, .own 0 0, I i, .any, .any, .any, .any, .any, .any, .any, .any, .any, .any, .any, .any, .any, .any, .any, .any, .any, .any]) (fun i => [some ⟨118, 8, 0, false, fil TEntry.en [I 0, I 0, I 0, S ⟨#[]⟩, .c (.slice none 0 0), I 0, I 0, B false] l i⟩]) (fun i => l.length - i) (fun i => i ≤ l.length) 0 (by simp) ?_ (by first | rfl | (simp [fil_zero]; done)) ?_)
    | (refine AW.cond (by rfl) (fun h => ?_) ?_; rotate_left; focus (intro h; (try simp only [Bool.not_eq_true', Bool.not_eq_false'] at h); first | (cases h; done) | exact clash (by with_reducible_and_instances assumption) h | exact clash h (by with_reducible_and_instances assumption) | exact absurd h (by decide) | (refine absurd h ?_; simp; done)))
    | (refine AW.cond (by rfl) ?_ (fun h => ?_); focus (intro h; (try simp only [Bool.not_eq_true', Bool.not_eq_false'] at h); first | (cases h; done) | exact clash (by with_reducible_and_instances assumption) h | exact clash h (by with_reducible_and_instances assumption) | exact absurd h (by decide) | (refine absurd h ?_; simp; done)))
    | (refine AW.cond (by rfl) ?_ ?_ <;> (intro h; try simp only [Bool.not_eq_true', Bool.not_eq_false'] at h))
    | refine AW.block ?_
    | refine AW.exit ?_
    | refine AL.nil ?_
    | refine AW.ret ?_) <;> (try dsimp only [dput, List.set, cond_true, cond_false, Nat.zero_add, Nat.add_zero, Nat.reduceAdd, splice, List.take, List.drop, List.length, List.nil_append, List.cons_append, TPoint.en, TSegment.en, TBox.en, TFeature.en, TMeet.en, TPlace.en, TCover.en, TLabel.en, TPiece.en, TLevel.en, TChart.en, TReason.en, TEdit.en, TEntry.en, TEdition.en, TListing.en, TAtlas.en, TEvent.en, TWindow.en]))
  · (repeat' (first | exact Wk.nil | refine Wk.any ?_ | (with_reducible refine Wk.same ?_) | refine Wk.of ?_ ?_)) <;> first | rfl | (simp)
  · intro i hi
    have hclo : Clo (.ro 8 (l.map TEntry.en)) := clo_list TEntry.clo_en
    by_cases hlt : i < l.length
    · obtain ⟨x, hx⟩ : ∃ x, l[i]? = some x := ⟨_, List.getElem?_eq_getElem hlt⟩
      have hg := map_get (f := TEntry.en) hx
      have ht := lt_true (f := TEntry.en) hlt
      have hn := next_ix hlt (by omega)
      have hz := fil_get (en := TEntry.en) (z := [I 0, I 0, I 0, S ⟨#[]⟩, .c (.slice none 0 0), I 0, I 0, B false]) hlt
      have ha := fil_at (en := TEntry.en) (z := [I 0, I 0, I 0, S ⟨#[]⟩, .c (.slice none 0 0), I 0, I 0, B false]) hlt
      have hs := fil_set (en := TEntry.en) (z := [I 0, I 0, I 0, S ⟨#[]⟩, .c (.slice none 0 0), I 0, I 0, B false]) hx
      have hpx := hp x (List.mem_of_getElem? hx)
      have hclo0 : Clo (.ro 2 (x.feature.points.map TPoint.en)) := clo_list TPoint.clo_en
      have hcls0 : Clo (.agg x.feature.en) := Clo.agg x.feature.clo_en
      have hcle : Clo (.agg x.en) := Clo.agg x.clo_en
      repeat' ((first
        | refine AW.seq ?_
        | refine AW.region ?_
        | refine AW.skip ?_
        | refine AL.q TT_ok rfl (by rfl) ?_
        | refine AL.step rfl ?_
        | refine OpA.quiet (QOp.atk_ro (by rfl) (by rfl) (by rfl) (by first | exact slk46 | exact slk53) (Nat.le_of_ble_eq_true (by rfl)) (by first | assumption | omega) (by assumption)) ?_
        | refine OpA.quiet (QOp.ld1_ro (by rfl) (by rfl) (by assumption) (by first | exact ldk2 | exact ldk3 | exact ldk4 | exact ldk6 | exact ldk7 | exact ldk8 | exact ldk9 | exact ldk10 | exact ldk12 | exact ldk13 | exact ldk14 | exact ldk15 | exact ldk16 | exact ldk17 | exact ldk18 | exact ldk21 | exact ldk22 | exact ldk46 | exact ldk53 | exact ldk65 | exact ldk68 | exact ldk118 | exact ldk121) (by rfl)) ?_
        | refine OpA.quiet (QOp.ldr_ro (by rfl) (by rfl) (by assumption) (by first | exact ldk2 | exact ldk3 | exact ldk4 | exact ldk6 | exact ldk7 | exact ldk8 | exact ldk9 | exact ldk10 | exact ldk12 | exact ldk13 | exact ldk14 | exact ldk15 | exact ldk16 | exact ldk17 | exact ldk18 | exact ldk21 | exact ldk22 | exact ldk46 | exact ldk53 | exact ldk65 | exact ldk68 | exact ldk118 | exact ldk121) (Nat.le_of_ble_eq_true (by rfl))) ?_
        | refine OpA.quiet (QOp.at_own (by rfl) (by first | exact slk46 | exact slk53) (by rfl) (by rfl) (by rfl) (by rfl) (by rfl) (by rfl) (by first | assumption | omega | decide) (by first | assumption | omega | decide)) ?_
        | refine OpA.quiet (QOp.len_own (by rfl) (by first | exact slk46 | exact slk53) (by rfl) (by rfl) (by rfl) (by rfl)) ?_
        | (refine OpA.pop (POp.make (by rfl) (by first | exact rwk46 | exact rwk53) (by rfl) (by rfl) (by first | assumption | omega) (by simp; omega) (by simp [maxLen]; omega)) ?_)
        | refine OpA.sto (by rfl) (by rfl) (by rfl) (by rfl) (by rfl) (by rfl) (by rfl) (by rfl) (by first | exact ldk2 | exact ldk3 | exact ldk4 | exact ldk6 | exact ldk7 | exact ldk8 | exact ldk9 | exact ldk10 | exact ldk12 | exact ldk13 | exact ldk14 | exact ldk15 | exact ldk16 | exact ldk17 | exact ldk18 | exact ldk21 | exact ldk22 | exact ldk46 | exact ldk53 | exact ldk65 | exact ldk68 | exact ldk118 | exact ldk121) (by rfl) (Nat.le_of_ble_eq_true (by rfl)) ?_
        | refine OpA.sto (by rfl) (by rfl) (by rfl) (by rfl) (by rfl) (by assumption) (by rfl) (by rfl) (by first | exact ldk2 | exact ldk3 | exact ldk4 | exact ldk6 | exact ldk7 | exact ldk8 | exact ldk9 | exact ldk10 | exact ldk12 | exact ldk13 | exact ldk14 | exact ldk15 | exact ldk16 | exact ldk17 | exact ldk18 | exact ldk21 | exact ldk22 | exact ldk46 | exact ldk53 | exact ldk65 | exact ldk68 | exact ldk118 | exact ldk121) (by rfl) (Nat.le_of_ble_eq_true (by rfl)) ?_
        | refine OpA.pcall (by rfl) Try.func95 rfl rfl (by rfl) (by first | exact clo_all (by rfl) | (intro x hx; simp only [List.mem_cons, List.not_mem_nil, or_false] at hx; rcases hx with rfl | rfl | rfl | rfl | rfl | rfl | rfl | rfl <;> first | exact clo_of (by rfl) | exact clo_fn _ | assumption)) (toEntry x (by assumption)) (by first | exact clo_of (by rfl) | assumption) ?_
        | (refine AW.cond (by rfl) (fun h => ?_) ?_; rotate_left; focus (intro h; (try simp only [Bool.not_eq_true', Bool.not_eq_false'] at h); first | (cases h; done) | exact clash (by with_reducible_and_instances assumption) h | exact clash h (by with_reducible_and_instances assumption) | exact absurd h (by decide) | (refine absurd h ?_; simp; done)))
        | (refine AW.cond (by rfl) ?_ (fun h => ?_); focus (intro h; (try simp only [Bool.not_eq_true', Bool.not_eq_false'] at h); first | (cases h; done) | exact clash (by with_reducible_and_instances assumption) h | exact clash h (by with_reducible_and_instances assumption) | exact absurd h (by decide) | (refine absurd h ?_; simp; done)))
        | (refine AW.cond (by rfl) ?_ ?_ <;> (intro h; try simp only [Bool.not_eq_true', Bool.not_eq_false'] at h))
        | refine AW.block ?_
        | refine AW.exit ?_
        | refine AL.nil ?_
        | refine AW.ret ?_) <;> (try dsimp only [dput, List.set, cond_true, cond_false, Nat.zero_add, Nat.add_zero, Nat.reduceAdd, splice, List.take, List.drop, List.length, List.nil_append, List.cons_append, TPoint.en, TSegment.en, TBox.en, TFeature.en, TMeet.en, TPlace.en, TCover.en, TLabel.en, TPiece.en, TLevel.en, TChart.en, TReason.en, TEdit.en, TEntry.en, TEdition.en, TListing.en, TAtlas.en, TEvent.en, TWindow.en]))
      all_goals first
        | (refine ⟨i + 1, [], hlt, by omega, ?_, by rw [← hs]; rfl, ?_, ?_⟩; (focus ((repeat' (first | exact Wk.nil | refine Wk.any ?_ | (with_reducible refine Wk.same ?_) | refine Wk.of ?_ ?_)) <;> (simp_all))); (focus ((repeat' (first | exact Fits.nil _ | refine Fits.cons ?_ ?_ | exact Fits.any _ | exact Fits.c _ _ | exact Fits.own (by rfl) | exact Fits.ref (by rfl) | exact Fits.clo (by assumption) | exact Fits.clo (clo_of (by rfl)) | exact Fits.clo (clo_fn _))))); (focus (exact fits_row (fil_clo (clo_all (by rfl)) TEntry.clo_en))))
    · have ht := lt_false (f := TEntry.en) hlt
      have e : i = l.length := by omega
      subst e
      try rw [List.take_length]
      repeat' ((first
        | refine AW.seq ?_
        | refine AW.region ?_
        | refine AW.skip ?_
        | refine AL.q TT_ok rfl (by rfl) ?_
        | refine AL.step rfl ?_
        | refine OpA.quiet (QOp.atk_ro (by rfl) (by rfl) (by rfl) (by first | exact slk46 | exact slk53) (Nat.le_of_ble_eq_true (by rfl)) (by first | assumption | omega) (by assumption)) ?_
        | refine OpA.quiet (QOp.ld1_ro (by rfl) (by rfl) (by assumption) (by first | exact ldk2 | exact ldk3 | exact ldk4 | exact ldk6 | exact ldk7 | exact ldk8 | exact ldk9 | exact ldk10 | exact ldk12 | exact ldk13 | exact ldk14 | exact ldk15 | exact ldk16 | exact ldk17 | exact ldk18 | exact ldk21 | exact ldk22 | exact ldk46 | exact ldk53 | exact ldk65 | exact ldk68 | exact ldk118 | exact ldk121) (by rfl)) ?_
        | refine OpA.quiet (QOp.ldr_ro (by rfl) (by rfl) (by assumption) (by first | exact ldk2 | exact ldk3 | exact ldk4 | exact ldk6 | exact ldk7 | exact ldk8 | exact ldk9 | exact ldk10 | exact ldk12 | exact ldk13 | exact ldk14 | exact ldk15 | exact ldk16 | exact ldk17 | exact ldk18 | exact ldk21 | exact ldk22 | exact ldk46 | exact ldk53 | exact ldk65 | exact ldk68 | exact ldk118 | exact ldk121) (Nat.le_of_ble_eq_true (by rfl))) ?_
        | refine OpA.quiet (QOp.at_own (by rfl) (by first | exact slk46 | exact slk53) (by rfl) (by rfl) (by rfl) (by rfl) (by rfl) (by rfl) (by first | assumption | omega | decide) (by first | assumption | omega | decide)) ?_
        | refine OpA.quiet (QOp.len_own (by rfl) (by first | exact slk46 | exact slk53) (by rfl) (by rfl) (by rfl) (by rfl)) ?_
        | (refine OpA.pop (POp.make (by rfl) (by first | exact rwk46 | exact rwk53) (by rfl) (by rfl) (by first | assumption | omega) (by simp; omega) (by simp [maxLen]; omega)) ?_)
        | refine OpA.sto (by rfl) (by rfl) (by rfl) (by rfl) (by rfl) (by rfl) (by rfl) (by rfl) (by first | exact ldk2 | exact ldk3 | exact ldk4 | exact ldk6 | exact ldk7 | exact ldk8 | exact ldk9 | exact ldk10 | exact ldk12 | exact ldk13 | exact ldk14 | exact ldk15 | exact ldk16 | exact ldk17 | exact ldk18 | exact ldk21 | exact ldk22 | exact ldk46 | exact ldk53 | exact ldk65 | exact ldk68 | exact ldk118 | exact ldk121) (by rfl) (Nat.le_of_ble_eq_true (by rfl)) ?_
        | refine OpA.sto (by rfl) (by rfl) (by rfl) (by rfl) (by rfl) (by assumption) (by rfl) (by rfl) (by first | exact ldk2 | exact ldk3 | exact ldk4 | exact ldk6 | exact ldk7 | exact ldk8 | exact ldk9 | exact ldk10 | exact ldk12 | exact ldk13 | exact ldk14 | exact ldk15 | exact ldk16 | exact ldk17 | exact ldk18 | exact ldk21 | exact ldk22 | exact ldk46 | exact ldk53 | exact ldk65 | exact ldk68 | exact ldk118 | exact ldk121) (by rfl) (Nat.le_of_ble_eq_true (by rfl)) ?_
        | refine OpA.pcall (by rfl) Try.func95 rfl rfl (by rfl) (by first | exact clo_all (by rfl) | (intro x hx; simp only [List.mem_cons, List.not_mem_nil, or_false] at hx; rcases hx with rfl | rfl | rfl | rfl | rfl | rfl | rfl | rfl <;> first | exact clo_of (by rfl) | exact clo_fn _ | assumption)) (toEntry x (by assumption)) (by first | exact clo_of (by rfl) | assumption) ?_
        | (refine AW.freezeRet (t := 2) (id := 0) rfl rfl rfl rfl (fil_clo (clo_all (by rfl)) TEntry.clo_en) ?_; simp only [fil_all])
        | (refine AW.cond (by rfl) (fun h => ?_) ?_; rotate_left; focus (intro h; (try simp only [Bool.not_eq_true', Bool.not_eq_false'] at h); first | (cases h; done) | exact clash (by with_reducible_and_instances assumption) h | exact clash h (by with_reducible_and_instances assumption) | exact absurd h (by decide) | (refine absurd h ?_; simp; done)))
        | (refine AW.cond (by rfl) ?_ (fun h => ?_); focus (intro h; (try simp only [Bool.not_eq_true', Bool.not_eq_false'] at h); first | (cases h; done) | exact clash (by with_reducible_and_instances assumption) h | exact clash h (by with_reducible_and_instances assumption) | exact absurd h (by decide) | (refine absurd h ?_; simp; done)))
        | (refine AW.cond (by rfl) ?_ ?_ <;> (intro h; try simp only [Bool.not_eq_true', Bool.not_eq_false'] at h))
        | refine AW.block ?_
        | refine AW.exit ?_
        | refine AL.nil ?_
        | refine AW.ret ?_) <;> (try dsimp only [dput, List.set, cond_true, cond_false, Nat.zero_add, Nat.add_zero, Nat.reduceAdd, splice, List.take, List.drop, List.length, List.nil_append, List.cons_append, TPoint.en, TSegment.en, TBox.en, TFeature.en, TMeet.en, TPlace.en, TCover.en, TLabel.en, TPiece.en, TLevel.en, TChart.en, TReason.en, TEdit.en, TEntry.en, TEdition.en, TListing.en, TAtlas.en, TEvent.en, TWindow.en]))
      all_goals exact Fin.one rfl (RV.tmp (by rfl)) hclo ⟨rfl, rfl⟩

set_option maxRecDepth 100000 in
set_option maxHeartbeats 2000000 in
theorem toEdition (x : TEdition) (hs : x.sm) : VCalls Try.prog 97 [.agg x.en] (fun r M => r = .agg x.en ∧ M = []) := by
  refine VCalls.body Try.func97 rfl 14 rfl (fun E => ?_)
  simp only [List.reduceReplicate, List.cons_append, List.nil_append]
  have hclo0 : Clo (.ro 5 (x.source.map TFeature.en)) := clo_list TFeature.clo_en
  have hcle : Clo (.agg x.en) := Clo.agg x.clo_en
  have hs' := hs
  obtain ⟨hs1, hs1'⟩ := hs
  dsimp only [TEdition.en]
  repeat' ((first
    | refine AW.seq ?_
    | refine AW.region ?_
    | refine AW.skip ?_
    | refine AL.q TT_ok rfl (by rfl) ?_
    | refine AL.step rfl ?_
    | refine OpA.quiet (QOp.ld1_ro (by rfl) (by rfl) (by assumption) (by first | exact ldk2 | exact ldk3 | exact ldk4 | exact ldk5 | exact ldk6 | exact ldk7 | exact ldk9 | exact ldk10 | exact ldk11 | exact ldk12 | exact ldk13 | exact ldk14 | exact ldk29 | exact ldk32 | exact ldk65 | exact ldk68 | exact ldk98 | exact ldk124) (by rfl)) ?_
    | refine OpA.quiet (QOp.ldr_ro (by rfl) (by rfl) (by assumption) (by first | exact ldk2 | exact ldk3 | exact ldk4 | exact ldk5 | exact ldk6 | exact ldk7 | exact ldk9 | exact ldk10 | exact ldk11 | exact ldk12 | exact ldk13 | exact ldk14 | exact ldk29 | exact ldk32 | exact ldk65 | exact ldk68 | exact ldk98 | exact ldk124) (Nat.le_of_ble_eq_true (by rfl))) ?_
    | refine OpA.box (by rfl) (by rfl) (by rfl) ?_
    | refine OpA.allocA (by rfl) (by first | exact ze2 | exact ze3 | exact ze4 | exact ze5 | exact ze6 | exact ze7 | exact ze9 | exact ze10 | exact ze11 | exact ze12 | exact ze13 | exact ze14 | exact ze29 | exact ze32 | exact ze65 | exact ze68 | exact ze98 | exact ze124) ?_
    | refine OpA.sto (by rfl) (by rfl) (by rfl) (by rfl) (by rfl) (by rfl) (by rfl) (by rfl) (by first | exact ldk2 | exact ldk3 | exact ldk4 | exact ldk5 | exact ldk6 | exact ldk7 | exact ldk9 | exact ldk10 | exact ldk11 | exact ldk12 | exact ldk13 | exact ldk14 | exact ldk29 | exact ldk32 | exact ldk65 | exact ldk68 | exact ldk98 | exact ldk124) (by rfl) (Nat.le_of_ble_eq_true (by rfl)) ?_
    | refine OpA.sto (by rfl) (by rfl) (by rfl) (by rfl) (by rfl) (by assumption) (by rfl) (by rfl) (by first | exact ldk2 | exact ldk3 | exact ldk4 | exact ldk5 | exact ldk6 | exact ldk7 | exact ldk9 | exact ldk10 | exact ldk11 | exact ldk12 | exact ldk13 | exact ldk14 | exact ldk29 | exact ldk32 | exact ldk65 | exact ldk68 | exact ldk98 | exact ldk124) (by rfl) (Nat.le_of_ble_eq_true (by rfl)) ?_
    | refine OpA.pcall (by rfl) Try.func15 rfl rfl (by rfl) (by first | exact clo_all (by rfl) | (intro x hx; simp only [List.mem_cons, List.not_mem_nil, or_false] at hx; rcases hx with rfl | rfl | rfl | rfl | rfl | rfl | rfl | rfl <;> first | exact clo_of (by rfl) | exact clo_fn _ | assumption)) (toFeatureS _ (by assumption) (by assumption)) (by first | exact clo_of (by rfl) | assumption) ?_
    | refine AL.nil ?_
    | refine AW.ret ?_) <;> (try dsimp only [dput, List.set, cond_true, cond_false, Nat.zero_add, Nat.add_zero, Nat.reduceAdd, splice, List.take, List.drop, List.length, List.nil_append, List.cons_append, TPoint.en, TSegment.en, TBox.en, TFeature.en, TMeet.en, TPlace.en, TCover.en, TLabel.en, TPiece.en, TLevel.en, TChart.en, TReason.en, TEdit.en, TEntry.en, TEdition.en, TListing.en, TAtlas.en, TEvent.en, TWindow.en]))
  all_goals exact Fin.one rfl (RV.cell (QOp.quietA TT_ok (by rfl))) (Clo.agg x.clo_en) ⟨by rfl, rfl⟩

set_option maxRecDepth 100000 in
set_option maxHeartbeats 2000000 in
theorem toEditionS (l : List TEdition) (hl : l.length ≤ 1048576) (hp : ∀ x ∈ l, x.sm) : VCalls Try.prog 65 [.ro 3 (l.map TEdition.en)] (fun r M => r = .ro 3 (l.map TEdition.en) ∧ M = []) := by
  refine VCalls.bodyE Try.func65 rfl 22 rfl (fun E hE => ?_)
  simp only [List.reduceReplicate, List.cons_append, List.nil_append]
  repeat' ((first
    | refine AW.seq ?_
    | refine AW.region ?_
    | refine AW.skip ?_
    | refine AL.q TT_ok rfl (by rfl) ?_
    | refine AL.step rfl ?_
    | refine OpA.quiet (QOp.atk_ro (by rfl) (by rfl) (by rfl) (by first | exact slk29 | exact slk32 | exact slk48 | exact slk55) (Nat.le_of_ble_eq_true (by rfl)) (by first | assumption | omega) (by assumption)) ?_
    | refine OpA.quiet (QOp.ld1_ro (by rfl) (by rfl) (by assumption) (by first | exact ldk2 | exact ldk3 | exact ldk4 | exact ldk6 | exact ldk7 | exact ldk8 | exact ldk9 | exact ldk10 | exact ldk12 | exact ldk13 | exact ldk14 | exact ldk15 | exact ldk16 | exact ldk17 | exact ldk18 | exact ldk21 | exact ldk22 | exact ldk29 | exact ldk32 | exact ldk48 | exact ldk55 | exact ldk98 | exact ldk124) (by rfl)) ?_
    | refine OpA.quiet (QOp.ldr_ro (by rfl) (by rfl) (by assumption) (by first | exact ldk2 | exact ldk3 | exact ldk4 | exact ldk6 | exact ldk7 | exact ldk8 | exact ldk9 | exact ldk10 | exact ldk12 | exact ldk13 | exact ldk14 | exact ldk15 | exact ldk16 | exact ldk17 | exact ldk18 | exact ldk21 | exact ldk22 | exact ldk29 | exact ldk32 | exact ldk48 | exact ldk55 | exact ldk98 | exact ldk124) (Nat.le_of_ble_eq_true (by rfl))) ?_
    | refine OpA.quiet (QOp.at_own (by rfl) (by first | exact slk29 | exact slk32 | exact slk48 | exact slk55) (by rfl) (by rfl) (by rfl) (by rfl) (by rfl) (by rfl) (by first | assumption | omega | decide) (by first | assumption | omega | decide)) ?_
    | refine OpA.quiet (QOp.len_own (by rfl) (by first | exact slk29 | exact slk32 | exact slk48 | exact slk55) (by rfl) (by rfl) (by rfl) (by rfl)) ?_
    | (refine OpA.pop (POp.make (by rfl) (by first | exact rwk29 | exact rwk32 | exact rwk48 | exact rwk55) (by rfl) (by rfl) (by first | assumption | omega) (by simp; omega) (by simp [maxLen]; omega)) ?_)
    | refine OpA.sto (by rfl) (by rfl) (by rfl) (by rfl) (by rfl) (by rfl) (by rfl) (by rfl) (by first | exact ldk2 | exact ldk3 | exact ldk4 | exact ldk6 | exact ldk7 | exact ldk8 | exact ldk9 | exact ldk10 | exact ldk12 | exact ldk13 | exact ldk14 | exact ldk15 | exact ldk16 | exact ldk17 | exact ldk18 | exact ldk21 | exact ldk22 | exact ldk29 | exact ldk32 | exact ldk48 | exact ldk55 | exact ldk98 | exact ldk124) (by rfl) (Nat.le_of_ble_eq_true (by rfl)) ?_
    | refine OpA.sto (by rfl) (by rfl) (by rfl) (by rfl) (by rfl) (by assumption) (by rfl) (by rfl) (by first | exact ldk2 | exact ldk3 | exact ldk4 | exact ldk6 | exact ldk7 | exact ldk8 | exact ldk9 | exact ldk10 | exact ldk12 | exact ldk13 | exact ldk14 | exact ldk15 | exact ldk16 | exact ldk17 | exact ldk18 | exact ldk21 | exact ldk22 | exact ldk29 | exact ldk32 | exact ldk48 | exact ldk55 | exact ldk98 | exact ldk124) (by rfl) (Nat.le_of_ble_eq_true (by rfl)) ?_
    | refine OpA.pcall (by rfl) Try.func97 rfl rfl (by rfl) (by first | exact clo_all (by rfl) | (intro x hx; simp only [List.mem_cons, List.not_mem_nil, or_false] at hx; rcases hx with rfl | rfl | rfl | rfl | rfl | rfl | rfl | rfl <;> first | exact clo_of (by rfl) | exact clo_fn _ | assumption)) (toEdition x (by assumption)) (by first | exact clo_of (by rfl) | assumption) ?_
    | (refine AW.loopD hE (fun i : Nat => [.ro 3 (l.map TEdition.en), .any, .any, .own 0 0, I i, .any, .any, .any, .any, .any, .any, .any, .any, .any, .any, .any, .any, .any, .any, .any, .any, .any, .any]) (fun i => [some ⟨98, 3, 0, false, fil TEdition.en [I 0, .c (.slice none 0 0), I 0] l i⟩]) (fun i => l.length - i) (fun i => i ≤ l.length) 0 (by simp) ?_ (by first | rfl | (simp [fil_zero]; done)) ?_)
    | (refine AW.cond (by rfl) (fun h => ?_) ?_; rotate_left; focus (intro h; (try simp only [Bool.not_eq_true', Bool.not_eq_false'] at h); first | (cases h; done) | exact clash (by with_reducible_and_instances assumption) h | exact clash h (by with_reducible_and_instances assumption) | exact absurd h (by decide) | (refine absurd h ?_; simp; done)))
    | (refine AW.cond (by rfl) ?_ (fun h => ?_); focus (intro h; (try simp only [Bool.not_eq_true', Bool.not_eq_false'] at h); first | (cases h; done) | exact clash (by with_reducible_and_instances assumption) h | exact clash h (by with_reducible_and_instances assumption) | exact absurd h (by decide) | (refine absurd h ?_; simp; done)))
    | (refine AW.cond (by rfl) ?_ ?_ <;> (intro h; try simp only [Bool.not_eq_true', Bool.not_eq_false'] at h))
    | refine AW.block ?_
    | refine AW.exit ?_
    | refine AL.nil ?_
    | refine AW.ret ?_) <;> (try dsimp only [dput, List.set, cond_true, cond_false, Nat.zero_add, Nat.add_zero, Nat.reduceAdd, splice, List.take, List.drop, List.length, List.nil_append, List.cons_append, TPoint.en, TSegment.en, TBox.en, TFeature.en, TMeet.en, TPlace.en, TCover.en, TLabel.en, TPiece.en, TLevel.en, TChart.en, TReason.en, TEdit.en, TEntry.en, TEdition.en, TListing.en, TAtlas.en, TEvent.en, TWindow.en]))
  · (repeat' (first | exact Wk.nil | refine Wk.any ?_ | (with_reducible refine Wk.same ?_) | refine Wk.of ?_ ?_)) <;> first | rfl | (simp)
  · intro i hi
    have hclo : Clo (.ro 3 (l.map TEdition.en)) := clo_list TEdition.clo_en
    by_cases hlt : i < l.length
    · obtain ⟨x, hx⟩ : ∃ x, l[i]? = some x := ⟨_, List.getElem?_eq_getElem hlt⟩
      have hg := map_get (f := TEdition.en) hx
      have ht := lt_true (f := TEdition.en) hlt
      have hn := next_ix hlt (by omega)
      have hz := fil_get (en := TEdition.en) (z := [I 0, .c (.slice none 0 0), I 0]) hlt
      have ha := fil_at (en := TEdition.en) (z := [I 0, .c (.slice none 0 0), I 0]) hlt
      have hs := fil_set (en := TEdition.en) (z := [I 0, .c (.slice none 0 0), I 0]) hx
      have hpx := hp x (List.mem_of_getElem? hx)
      have hclo0 : Clo (.ro 5 (x.source.map TFeature.en)) := clo_list TFeature.clo_en
      have hcle : Clo (.agg x.en) := Clo.agg x.clo_en
      repeat' ((first
        | refine AW.seq ?_
        | refine AW.region ?_
        | refine AW.skip ?_
        | refine AL.q TT_ok rfl (by rfl) ?_
        | refine AL.step rfl ?_
        | refine OpA.quiet (QOp.atk_ro (by rfl) (by rfl) (by rfl) (by first | exact slk29 | exact slk32 | exact slk48 | exact slk55) (Nat.le_of_ble_eq_true (by rfl)) (by first | assumption | omega) (by assumption)) ?_
        | refine OpA.quiet (QOp.ld1_ro (by rfl) (by rfl) (by assumption) (by first | exact ldk2 | exact ldk3 | exact ldk4 | exact ldk6 | exact ldk7 | exact ldk8 | exact ldk9 | exact ldk10 | exact ldk12 | exact ldk13 | exact ldk14 | exact ldk15 | exact ldk16 | exact ldk17 | exact ldk18 | exact ldk21 | exact ldk22 | exact ldk29 | exact ldk32 | exact ldk48 | exact ldk55 | exact ldk98 | exact ldk124) (by rfl)) ?_
        | refine OpA.quiet (QOp.ldr_ro (by rfl) (by rfl) (by assumption) (by first | exact ldk2 | exact ldk3 | exact ldk4 | exact ldk6 | exact ldk7 | exact ldk8 | exact ldk9 | exact ldk10 | exact ldk12 | exact ldk13 | exact ldk14 | exact ldk15 | exact ldk16 | exact ldk17 | exact ldk18 | exact ldk21 | exact ldk22 | exact ldk29 | exact ldk32 | exact ldk48 | exact ldk55 | exact ldk98 | exact ldk124) (Nat.le_of_ble_eq_true (by rfl))) ?_
        | refine OpA.quiet (QOp.at_own (by rfl) (by first | exact slk29 | exact slk32 | exact slk48 | exact slk55) (by rfl) (by rfl) (by rfl) (by rfl) (by rfl) (by rfl) (by first | assumption | omega | decide) (by first | assumption | omega | decide)) ?_
        | refine OpA.quiet (QOp.len_own (by rfl) (by first | exact slk29 | exact slk32 | exact slk48 | exact slk55) (by rfl) (by rfl) (by rfl) (by rfl)) ?_
        | (refine OpA.pop (POp.make (by rfl) (by first | exact rwk29 | exact rwk32 | exact rwk48 | exact rwk55) (by rfl) (by rfl) (by first | assumption | omega) (by simp; omega) (by simp [maxLen]; omega)) ?_)
        | refine OpA.sto (by rfl) (by rfl) (by rfl) (by rfl) (by rfl) (by rfl) (by rfl) (by rfl) (by first | exact ldk2 | exact ldk3 | exact ldk4 | exact ldk6 | exact ldk7 | exact ldk8 | exact ldk9 | exact ldk10 | exact ldk12 | exact ldk13 | exact ldk14 | exact ldk15 | exact ldk16 | exact ldk17 | exact ldk18 | exact ldk21 | exact ldk22 | exact ldk29 | exact ldk32 | exact ldk48 | exact ldk55 | exact ldk98 | exact ldk124) (by rfl) (Nat.le_of_ble_eq_true (by rfl)) ?_
        | refine OpA.sto (by rfl) (by rfl) (by rfl) (by rfl) (by rfl) (by assumption) (by rfl) (by rfl) (by first | exact ldk2 | exact ldk3 | exact ldk4 | exact ldk6 | exact ldk7 | exact ldk8 | exact ldk9 | exact ldk10 | exact ldk12 | exact ldk13 | exact ldk14 | exact ldk15 | exact ldk16 | exact ldk17 | exact ldk18 | exact ldk21 | exact ldk22 | exact ldk29 | exact ldk32 | exact ldk48 | exact ldk55 | exact ldk98 | exact ldk124) (by rfl) (Nat.le_of_ble_eq_true (by rfl)) ?_
        | refine OpA.pcall (by rfl) Try.func97 rfl rfl (by rfl) (by first | exact clo_all (by rfl) | (intro x hx; simp only [List.mem_cons, List.not_mem_nil, or_false] at hx; rcases hx with rfl | rfl | rfl | rfl | rfl | rfl | rfl | rfl <;> first | exact clo_of (by rfl) | exact clo_fn _ | assumption)) (toEdition x (by assumption)) (by first | exact clo_of (by rfl) | assumption) ?_
        | (refine AW.cond (by rfl) (fun h => ?_) ?_; rotate_left; focus (intro h; (try simp only [Bool.not_eq_true', Bool.not_eq_false'] at h); first | (cases h; done) | exact clash (by with_reducible_and_instances assumption) h | exact clash h (by with_reducible_and_instances assumption) | exact absurd h (by decide) | (refine absurd h ?_; simp; done)))
        | (refine AW.cond (by rfl) ?_ (fun h => ?_); focus (intro h; (try simp only [Bool.not_eq_true', Bool.not_eq_false'] at h); first | (cases h; done) | exact clash (by with_reducible_and_instances assumption) h | exact clash h (by with_reducible_and_instances assumption) | exact absurd h (by decide) | (refine absurd h ?_; simp; done)))
        | (refine AW.cond (by rfl) ?_ ?_ <;> (intro h; try simp only [Bool.not_eq_true', Bool.not_eq_false'] at h))
        | refine AW.block ?_
        | refine AW.exit ?_
        | refine AL.nil ?_
        | refine AW.ret ?_) <;> (try dsimp only [dput, List.set, cond_true, cond_false, Nat.zero_add, Nat.add_zero, Nat.reduceAdd, splice, List.take, List.drop, List.length, List.nil_append, List.cons_append, TPoint.en, TSegment.en, TBox.en, TFeature.en, TMeet.en, TPlace.en, TCover.en, TLabel.en, TPiece.en, TLevel.en, TChart.en, TReason.en, TEdit.en, TEntry.en, TEdition.en, TListing.en, TAtlas.en, TEvent.en, TWindow.en]))
      all_goals first
        | (refine ⟨i + 1, [], hlt, by omega, ?_, by rw [← hs]; rfl, ?_, ?_⟩; (focus ((repeat' (first | exact Wk.nil | refine Wk.any ?_ | (with_reducible refine Wk.same ?_) | refine Wk.of ?_ ?_)) <;> (simp_all))); (focus ((repeat' (first | exact Fits.nil _ | refine Fits.cons ?_ ?_ | exact Fits.any _ | exact Fits.c _ _ | exact Fits.own (by rfl) | exact Fits.ref (by rfl) | exact Fits.clo (by assumption) | exact Fits.clo (clo_of (by rfl)) | exact Fits.clo (clo_fn _))))); (focus (exact fits_row (fil_clo (clo_all (by rfl)) TEdition.clo_en))))
    · have ht := lt_false (f := TEdition.en) hlt
      have e : i = l.length := by omega
      subst e
      try rw [List.take_length]
      repeat' ((first
        | refine AW.seq ?_
        | refine AW.region ?_
        | refine AW.skip ?_
        | refine AL.q TT_ok rfl (by rfl) ?_
        | refine AL.step rfl ?_
        | refine OpA.quiet (QOp.atk_ro (by rfl) (by rfl) (by rfl) (by first | exact slk29 | exact slk32 | exact slk48 | exact slk55) (Nat.le_of_ble_eq_true (by rfl)) (by first | assumption | omega) (by assumption)) ?_
        | refine OpA.quiet (QOp.ld1_ro (by rfl) (by rfl) (by assumption) (by first | exact ldk2 | exact ldk3 | exact ldk4 | exact ldk6 | exact ldk7 | exact ldk8 | exact ldk9 | exact ldk10 | exact ldk12 | exact ldk13 | exact ldk14 | exact ldk15 | exact ldk16 | exact ldk17 | exact ldk18 | exact ldk21 | exact ldk22 | exact ldk29 | exact ldk32 | exact ldk48 | exact ldk55 | exact ldk98 | exact ldk124) (by rfl)) ?_
        | refine OpA.quiet (QOp.ldr_ro (by rfl) (by rfl) (by assumption) (by first | exact ldk2 | exact ldk3 | exact ldk4 | exact ldk6 | exact ldk7 | exact ldk8 | exact ldk9 | exact ldk10 | exact ldk12 | exact ldk13 | exact ldk14 | exact ldk15 | exact ldk16 | exact ldk17 | exact ldk18 | exact ldk21 | exact ldk22 | exact ldk29 | exact ldk32 | exact ldk48 | exact ldk55 | exact ldk98 | exact ldk124) (Nat.le_of_ble_eq_true (by rfl))) ?_
        | refine OpA.quiet (QOp.at_own (by rfl) (by first | exact slk29 | exact slk32 | exact slk48 | exact slk55) (by rfl) (by rfl) (by rfl) (by rfl) (by rfl) (by rfl) (by first | assumption | omega | decide) (by first | assumption | omega | decide)) ?_
        | refine OpA.quiet (QOp.len_own (by rfl) (by first | exact slk29 | exact slk32 | exact slk48 | exact slk55) (by rfl) (by rfl) (by rfl) (by rfl)) ?_
        | (refine OpA.pop (POp.make (by rfl) (by first | exact rwk29 | exact rwk32 | exact rwk48 | exact rwk55) (by rfl) (by rfl) (by first | assumption | omega) (by simp; omega) (by simp [maxLen]; omega)) ?_)
        | refine OpA.sto (by rfl) (by rfl) (by rfl) (by rfl) (by rfl) (by rfl) (by rfl) (by rfl) (by first | exact ldk2 | exact ldk3 | exact ldk4 | exact ldk6 | exact ldk7 | exact ldk8 | exact ldk9 | exact ldk10 | exact ldk12 | exact ldk13 | exact ldk14 | exact ldk15 | exact ldk16 | exact ldk17 | exact ldk18 | exact ldk21 | exact ldk22 | exact ldk29 | exact ldk32 | exact ldk48 | exact ldk55 | exact ldk98 | exact ldk124) (by rfl) (Nat.le_of_ble_eq_true (by rfl)) ?_
        | refine OpA.sto (by rfl) (by rfl) (by rfl) (by rfl) (by rfl) (by assumption) (by rfl) (by rfl) (by first | exact ldk2 | exact ldk3 | exact ldk4 | exact ldk6 | exact ldk7 | exact ldk8 | exact ldk9 | exact ldk10 | exact ldk12 | exact ldk13 | exact ldk14 | exact ldk15 | exact ldk16 | exact ldk17 | exact ldk18 | exact ldk21 | exact ldk22 | exact ldk29 | exact ldk32 | exact ldk48 | exact ldk55 | exact ldk98 | exact ldk124) (by rfl) (Nat.le_of_ble_eq_true (by rfl)) ?_
        | refine OpA.pcall (by rfl) Try.func97 rfl rfl (by rfl) (by first | exact clo_all (by rfl) | (intro x hx; simp only [List.mem_cons, List.not_mem_nil, or_false] at hx; rcases hx with rfl | rfl | rfl | rfl | rfl | rfl | rfl | rfl <;> first | exact clo_of (by rfl) | exact clo_fn _ | assumption)) (toEdition x (by assumption)) (by first | exact clo_of (by rfl) | assumption) ?_
        | (refine AW.freezeRet (t := 2) (id := 0) rfl rfl rfl rfl (fil_clo (clo_all (by rfl)) TEdition.clo_en) ?_; simp only [fil_all])
        | (refine AW.cond (by rfl) (fun h => ?_) ?_; rotate_left; focus (intro h; (try simp only [Bool.not_eq_true', Bool.not_eq_false'] at h); first | (cases h; done) | exact clash (by with_reducible_and_instances assumption) h | exact clash h (by with_reducible_and_instances assumption) | exact absurd h (by decide) | (refine absurd h ?_; simp; done)))
        | (refine AW.cond (by rfl) ?_ (fun h => ?_); focus (intro h; (try simp only [Bool.not_eq_true', Bool.not_eq_false'] at h); first | (cases h; done) | exact clash (by with_reducible_and_instances assumption) h | exact clash h (by with_reducible_and_instances assumption) | exact absurd h (by decide) | (refine absurd h ?_; simp; done)))
        | (refine AW.cond (by rfl) ?_ ?_ <;> (intro h; try simp only [Bool.not_eq_true', Bool.not_eq_false'] at h))
        | refine AW.block ?_
        | refine AW.exit ?_
        | refine AL.nil ?_
        | refine AW.ret ?_) <;> (try dsimp only [dput, List.set, cond_true, cond_false, Nat.zero_add, Nat.add_zero, Nat.reduceAdd, splice, List.take, List.drop, List.length, List.nil_append, List.cons_append, TPoint.en, TSegment.en, TBox.en, TFeature.en, TMeet.en, TPlace.en, TCover.en, TLabel.en, TPiece.en, TLevel.en, TChart.en, TReason.en, TEdit.en, TEntry.en, TEdition.en, TListing.en, TAtlas.en, TEvent.en, TWindow.en]))
      all_goals exact Fin.one rfl (RV.tmp (by rfl)) hclo ⟨rfl, rfl⟩

set_option maxRecDepth 100000 in
set_option maxHeartbeats 2000000 in
theorem toAtlas (x : TAtlas) (hs : x.sm) : VCalls Try.prog 32 [.agg x.en] (fun r M => r = .agg x.en ∧ M = []) := by
  refine VCalls.body Try.func32 rfl 23 rfl (fun E => ?_)
  simp only [List.reduceReplicate, List.cons_append, List.nil_append]
  have hclo0 : Clo (.ro 8 (x.log.map TEntry.en)) := clo_list TEntry.clo_en
  have hclo1 : Clo (.ro 3 (x.levels.map TLevel.en)) := clo_list TLevel.clo_en
  have hclo2 : Clo (.ro 3 (x.editions.map TEdition.en)) := clo_list TEdition.clo_en
  have hcle : Clo (.agg x.en) := Clo.agg x.clo_en
  have hs' := hs
  obtain ⟨⟨hs0, hs0'⟩, hs1, ⟨hs2, hs2'⟩⟩ := hs
  dsimp only [TAtlas.en]
  repeat' ((first
    | refine AW.seq ?_
    | refine AW.region ?_
    | refine AW.skip ?_
    | refine AL.q TT_ok rfl (by rfl) ?_
    | refine AL.step rfl ?_
    | refine OpA.quiet (QOp.ld1_ro (by rfl) (by rfl) (by assumption) (by first | exact ldk2 | exact ldk3 | exact ldk4 | exact ldk6 | exact ldk7 | exact ldk8 | exact ldk9 | exact ldk10 | exact ldk11 | exact ldk12 | exact ldk14 | exact ldk15 | exact ldk16 | exact ldk17 | exact ldk18 | exact ldk19 | exact ldk21 | exact ldk22 | exact ldk23 | exact ldk26 | exact ldk46 | exact ldk47 | exact ldk48 | exact ldk50 | exact ldk53 | exact ldk54 | exact ldk55 | exact ldk57 | exact ldk90 | exact ldk98 | exact ldk118 | exact ldk121 | exact ldk124 | exact ldk127) (by rfl)) ?_
    | refine OpA.quiet (QOp.ldr_ro (by rfl) (by rfl) (by assumption) (by first | exact ldk2 | exact ldk3 | exact ldk4 | exact ldk6 | exact ldk7 | exact ldk8 | exact ldk9 | exact ldk10 | exact ldk11 | exact ldk12 | exact ldk14 | exact ldk15 | exact ldk16 | exact ldk17 | exact ldk18 | exact ldk19 | exact ldk21 | exact ldk22 | exact ldk23 | exact ldk26 | exact ldk46 | exact ldk47 | exact ldk48 | exact ldk50 | exact ldk53 | exact ldk54 | exact ldk55 | exact ldk57 | exact ldk90 | exact ldk98 | exact ldk118 | exact ldk121 | exact ldk124 | exact ldk127) (Nat.le_of_ble_eq_true (by rfl))) ?_
    | refine OpA.box (by rfl) (by rfl) (by rfl) ?_
    | refine OpA.allocA (by rfl) (by first | exact ze2 | exact ze3 | exact ze4 | exact ze6 | exact ze7 | exact ze8 | exact ze9 | exact ze10 | exact ze11 | exact ze12 | exact ze14 | exact ze15 | exact ze16 | exact ze17 | exact ze18 | exact ze19 | exact ze21 | exact ze22 | exact ze23 | exact ze26 | exact ze46 | exact ze47 | exact ze48 | exact ze50 | exact ze53 | exact ze54 | exact ze55 | exact ze57 | exact ze90 | exact ze98 | exact ze118 | exact ze121 | exact ze124 | exact ze127) ?_
    | refine OpA.sto (by rfl) (by rfl) (by rfl) (by rfl) (by rfl) (by rfl) (by rfl) (by rfl) (by first | exact ldk2 | exact ldk3 | exact ldk4 | exact ldk6 | exact ldk7 | exact ldk8 | exact ldk9 | exact ldk10 | exact ldk11 | exact ldk12 | exact ldk14 | exact ldk15 | exact ldk16 | exact ldk17 | exact ldk18 | exact ldk19 | exact ldk21 | exact ldk22 | exact ldk23 | exact ldk26 | exact ldk46 | exact ldk47 | exact ldk48 | exact ldk50 | exact ldk53 | exact ldk54 | exact ldk55 | exact ldk57 | exact ldk90 | exact ldk98 | exact ldk118 | exact ldk121 | exact ldk124 | exact ldk127) (by rfl) (Nat.le_of_ble_eq_true (by rfl)) ?_
    | refine OpA.sto (by rfl) (by rfl) (by rfl) (by rfl) (by rfl) (by assumption) (by rfl) (by rfl) (by first | exact ldk2 | exact ldk3 | exact ldk4 | exact ldk6 | exact ldk7 | exact ldk8 | exact ldk9 | exact ldk10 | exact ldk11 | exact ldk12 | exact ldk14 | exact ldk15 | exact ldk16 | exact ldk17 | exact ldk18 | exact ldk19 | exact ldk21 | exact ldk22 | exact ldk23 | exact ldk26 | exact ldk46 | exact ldk47 | exact ldk48 | exact ldk50 | exact ldk53 | exact ldk54 | exact ldk55 | exact ldk57 | exact ldk90 | exact ldk98 | exact ldk118 | exact ldk121 | exact ldk124 | exact ldk127) (by rfl) (Nat.le_of_ble_eq_true (by rfl)) ?_
    | refine OpA.pcall (by rfl) Try.func11 rfl rfl (by rfl) (by first | exact clo_all (by rfl) | (intro x hx; simp only [List.mem_cons, List.not_mem_nil, or_false] at hx; rcases hx with rfl | rfl | rfl | rfl | rfl | rfl | rfl | rfl <;> first | exact clo_of (by rfl) | exact clo_fn _ | assumption)) (toCover x.cover) (by first | exact clo_of (by rfl) | assumption) ?_
    | refine OpA.pcall (by rfl) Try.func63 rfl rfl (by rfl) (by first | exact clo_all (by rfl) | (intro x hx; simp only [List.mem_cons, List.not_mem_nil, or_false] at hx; rcases hx with rfl | rfl | rfl | rfl | rfl | rfl | rfl | rfl <;> first | exact clo_of (by rfl) | exact clo_fn _ | assumption)) (toEntryS _ (by assumption) (by assumption)) (by first | exact clo_of (by rfl) | assumption) ?_
    | refine OpA.pcall (by rfl) Try.func64 rfl rfl (by rfl) (by first | exact clo_all (by rfl) | (intro x hx; simp only [List.mem_cons, List.not_mem_nil, or_false] at hx; rcases hx with rfl | rfl | rfl | rfl | rfl | rfl | rfl | rfl <;> first | exact clo_of (by rfl) | exact clo_fn _ | assumption)) (toLevelS _ (by assumption)) (by first | exact clo_of (by rfl) | assumption) ?_
    | refine OpA.pcall (by rfl) Try.func65 rfl rfl (by rfl) (by first | exact clo_all (by rfl) | (intro x hx; simp only [List.mem_cons, List.not_mem_nil, or_false] at hx; rcases hx with rfl | rfl | rfl | rfl | rfl | rfl | rfl | rfl <;> first | exact clo_of (by rfl) | exact clo_fn _ | assumption)) (toEditionS _ (by assumption) (by assumption)) (by first | exact clo_of (by rfl) | assumption) ?_
    | refine AL.nil ?_
    | refine AW.ret ?_) <;> (try dsimp only [dput, List.set, cond_true, cond_false, Nat.zero_add, Nat.add_zero, Nat.reduceAdd, splice, List.take, List.drop, List.length, List.nil_append, List.cons_append, TPoint.en, TSegment.en, TBox.en, TFeature.en, TMeet.en, TPlace.en, TCover.en, TLabel.en, TPiece.en, TLevel.en, TChart.en, TReason.en, TEdit.en, TEntry.en, TEdition.en, TListing.en, TAtlas.en, TEvent.en, TWindow.en]))
  all_goals exact Fin.one rfl (RV.cell (QOp.quietA TT_ok (by rfl))) (Clo.agg x.clo_en) ⟨by rfl, rfl⟩

set_option maxRecDepth 100000 in
set_option maxHeartbeats 2000000 in
theorem toEvent (x : TEvent) (hs : x.sm) : VCalls Try.prog 44 [.agg x.en] (fun r M => r = .agg x.en ∧ M = []) := by
  refine VCalls.body Try.func44 rfl 28 rfl (fun E => ?_)
  simp only [List.reduceReplicate, List.cons_append, List.nil_append]
  have hclo0 : Clo (.ro 2 (x.feature.points.map TPoint.en)) := clo_list TPoint.clo_en
  have hclo1 : Clo (.ro 8 (x.log.map TEntry.en)) := clo_list TEntry.clo_en
  have hclo2 : Clo (.ro 3 (x.levels.map TLevel.en)) := clo_list TLevel.clo_en
  have hcls0 : Clo (.agg x.feature.en) := Clo.agg x.feature.clo_en
  have hcle : Clo (.agg x.en) := Clo.agg x.clo_en
  have hs' := hs
  obtain ⟨hs1, ⟨hs4, hs4'⟩, hs5⟩ := hs
  dsimp only [TEvent.en]
  repeat' ((first
    | refine AW.seq ?_
    | refine AW.region ?_
    | refine AW.skip ?_
    | refine AL.q TT_ok rfl (by rfl) ?_
    | refine AL.step rfl ?_
    | refine OpA.quiet (QOp.ld1_ro (by rfl) (by rfl) (by assumption) (by first | exact ldk2 | exact ldk3 | exact ldk4 | exact ldk5 | exact ldk6 | exact ldk7 | exact ldk9 | exact ldk10 | exact ldk11 | exact ldk12 | exact ldk13 | exact ldk14 | exact ldk15 | exact ldk16 | exact ldk17 | exact ldk19 | exact ldk21 | exact ldk23 | exact ldk26 | exact ldk46 | exact ldk47 | exact ldk53 | exact ldk54 | exact ldk63 | exact ldk65 | exact ldk66 | exact ldk68 | exact ldk74 | exact ldk76 | exact ldk90 | exact ldk118 | exact ldk121 | exact ldk127) (by rfl)) ?_
    | refine OpA.quiet (QOp.ldr_ro (by rfl) (by rfl) (by assumption) (by first | exact ldk2 | exact ldk3 | exact ldk4 | exact ldk5 | exact ldk6 | exact ldk7 | exact ldk9 | exact ldk10 | exact ldk11 | exact ldk12 | exact ldk13 | exact ldk14 | exact ldk15 | exact ldk16 | exact ldk17 | exact ldk19 | exact ldk21 | exact ldk23 | exact ldk26 | exact ldk46 | exact ldk47 | exact ldk53 | exact ldk54 | exact ldk63 | exact ldk65 | exact ldk66 | exact ldk68 | exact ldk74 | exact ldk76 | exact ldk90 | exact ldk118 | exact ldk121 | exact ldk127) (Nat.le_of_ble_eq_true (by rfl))) ?_
    | refine OpA.box (by rfl) (by rfl) (by rfl) ?_
    | refine OpA.allocA (by rfl) (by first | exact ze2 | exact ze3 | exact ze4 | exact ze5 | exact ze6 | exact ze7 | exact ze9 | exact ze10 | exact ze11 | exact ze12 | exact ze13 | exact ze14 | exact ze15 | exact ze16 | exact ze17 | exact ze19 | exact ze21 | exact ze23 | exact ze26 | exact ze46 | exact ze47 | exact ze53 | exact ze54 | exact ze63 | exact ze65 | exact ze66 | exact ze68 | exact ze74 | exact ze76 | exact ze90 | exact ze118 | exact ze121 | exact ze127) ?_
    | refine OpA.sto (by rfl) (by rfl) (by rfl) (by rfl) (by rfl) (by rfl) (by rfl) (by rfl) (by first | exact ldk2 | exact ldk3 | exact ldk4 | exact ldk5 | exact ldk6 | exact ldk7 | exact ldk9 | exact ldk10 | exact ldk11 | exact ldk12 | exact ldk13 | exact ldk14 | exact ldk15 | exact ldk16 | exact ldk17 | exact ldk19 | exact ldk21 | exact ldk23 | exact ldk26 | exact ldk46 | exact ldk47 | exact ldk53 | exact ldk54 | exact ldk63 | exact ldk65 | exact ldk66 | exact ldk68 | exact ldk74 | exact ldk76 | exact ldk90 | exact ldk118 | exact ldk121 | exact ldk127) (by rfl) (Nat.le_of_ble_eq_true (by rfl)) ?_
    | refine OpA.sto (by rfl) (by rfl) (by rfl) (by rfl) (by rfl) (by assumption) (by rfl) (by rfl) (by first | exact ldk2 | exact ldk3 | exact ldk4 | exact ldk5 | exact ldk6 | exact ldk7 | exact ldk9 | exact ldk10 | exact ldk11 | exact ldk12 | exact ldk13 | exact ldk14 | exact ldk15 | exact ldk16 | exact ldk17 | exact ldk19 | exact ldk21 | exact ldk23 | exact ldk26 | exact ldk46 | exact ldk47 | exact ldk53 | exact ldk54 | exact ldk63 | exact ldk65 | exact ldk66 | exact ldk68 | exact ldk74 | exact ldk76 | exact ldk90 | exact ldk118 | exact ldk121 | exact ldk127) (by rfl) (Nat.le_of_ble_eq_true (by rfl)) ?_
    | refine OpA.pcall (by rfl) Try.func40 rfl rfl (by rfl) (by first | exact clo_all (by rfl) | (intro x hx; simp only [List.mem_cons, List.not_mem_nil, or_false] at hx; rcases hx with rfl | rfl | rfl | rfl | rfl | rfl | rfl | rfl <;> first | exact clo_of (by rfl) | exact clo_fn _ | assumption)) (toFeature x.feature (by assumption)) (by first | exact clo_of (by rfl) | assumption) ?_
    | refine OpA.pcall (by rfl) Try.func63 rfl rfl (by rfl) (by first | exact clo_all (by rfl) | (intro x hx; simp only [List.mem_cons, List.not_mem_nil, or_false] at hx; rcases hx with rfl | rfl | rfl | rfl | rfl | rfl | rfl | rfl <;> first | exact clo_of (by rfl) | exact clo_fn _ | assumption)) (toEntryS _ (by assumption) (by assumption)) (by first | exact clo_of (by rfl) | assumption) ?_
    | refine OpA.pcall (by rfl) Try.func64 rfl rfl (by rfl) (by first | exact clo_all (by rfl) | (intro x hx; simp only [List.mem_cons, List.not_mem_nil, or_false] at hx; rcases hx with rfl | rfl | rfl | rfl | rfl | rfl | rfl | rfl <;> first | exact clo_of (by rfl) | exact clo_fn _ | assumption)) (toLevelS _ (by assumption)) (by first | exact clo_of (by rfl) | assumption) ?_
    | refine AL.nil ?_
    | refine AW.ret ?_) <;> (try dsimp only [dput, List.set, cond_true, cond_false, Nat.zero_add, Nat.add_zero, Nat.reduceAdd, splice, List.take, List.drop, List.length, List.nil_append, List.cons_append, TPoint.en, TSegment.en, TBox.en, TFeature.en, TMeet.en, TPlace.en, TCover.en, TLabel.en, TPiece.en, TLevel.en, TChart.en, TReason.en, TEdit.en, TEntry.en, TEdition.en, TListing.en, TAtlas.en, TEvent.en, TWindow.en]))
  all_goals exact Fin.one rfl (RV.cell (QOp.quietA TT_ok (by rfl))) (Clo.agg x.clo_en) ⟨by rfl, rfl⟩

set_option maxRecDepth 100000 in
set_option maxHeartbeats 2000000 in
theorem toEventS (l : List TEvent) (hl : l.length ≤ 1048576) (hp : ∀ x ∈ l, x.sm) : VCalls Try.prog 20 [.ro 11 (l.map TEvent.en)] (fun r M => r = .ro 11 (l.map TEvent.en) ∧ M = []) := by
  refine VCalls.bodyE Try.func20 rfl 22 rfl (fun E hE => ?_)
  simp only [List.reduceReplicate, List.cons_append, List.nil_append]
  repeat' ((first
    | refine AW.seq ?_
    | refine AW.region ?_
    | refine AW.skip ?_
    | refine AL.q TT_ok rfl (by rfl) ?_
    | refine AL.step rfl ?_
    | refine OpA.quiet (QOp.atk_ro (by rfl) (by rfl) (by rfl) (by first | exact slk36 | exact slk39 | exact slk46 | exact slk47 | exact slk53 | exact slk54) (Nat.le_of_ble_eq_true (by rfl)) (by first | assumption | omega) (by assumption)) ?_
    | refine OpA.quiet (QOp.ld1_ro (by rfl) (by rfl) (by assumption) (by first | exact ldk2 | exact ldk3 | exact ldk4 | exact ldk6 | exact ldk7 | exact ldk8 | exact ldk9 | exact ldk10 | exact ldk12 | exact ldk13 | exact ldk14 | exact ldk15 | exact ldk16 | exact ldk17 | exact ldk18 | exact ldk21 | exact ldk22 | exact ldk36 | exact ldk39 | exact ldk46 | exact ldk47 | exact ldk53 | exact ldk54 | exact ldk65 | exact ldk68 | exact ldk74 | exact ldk76) (by rfl)) ?_
    | refine OpA.quiet (QOp.ldr_ro (by rfl) (by rfl) (by assumption) (by first | exact ldk2 | exact ldk3 | exact ldk4 | exact ldk6 | exact ldk7 | exact ldk8 | exact ldk9 | exact ldk10 | exact ldk12 | exact ldk13 | exact ldk14 | exact ldk15 | exact ldk16 | exact ldk17 | exact ldk18 | exact ldk21 | exact ldk22 | exact ldk36 | exact ldk39 | exact ldk46 | exact ldk47 | exact ldk53 | exact ldk54 | exact ldk65 | exact ldk68 | exact ldk74 | exact ldk76) (Nat.le_of_ble_eq_true (by rfl))) ?_
    | refine OpA.quiet (QOp.at_own (by rfl) (by first | exact slk36 | exact slk39 | exact slk46 | exact slk47 | exact slk53 | exact slk54) (by rfl) (by rfl) (by rfl) (by rfl) (by rfl) (by rfl) (by first | assumption | omega | decide) (by first | assumption | omega | decide)) ?_
    | refine OpA.quiet (QOp.len_own (by rfl) (by first | exact slk36 | exact slk39 | exact slk46 | exact slk47 | exact slk53 | exact slk54) (by rfl) (by rfl) (by rfl) (by rfl)) ?_
    | (refine OpA.pop (POp.make (by rfl) (by first | exact rwk36 | exact rwk39 | exact rwk46 | exact rwk47 | exact rwk53 | exact rwk54) (by rfl) (by rfl) (by first | assumption | omega) (by simp; omega) (by simp [maxLen]; omega)) ?_)
    | refine OpA.sto (by rfl) (by rfl) (by rfl) (by rfl) (by rfl) (by rfl) (by rfl) (by rfl) (by first | exact ldk2 | exact ldk3 | exact ldk4 | exact ldk6 | exact ldk7 | exact ldk8 | exact ldk9 | exact ldk10 | exact ldk12 | exact ldk13 | exact ldk14 | exact ldk15 | exact ldk16 | exact ldk17 | exact ldk18 | exact ldk21 | exact ldk22 | exact ldk36 | exact ldk39 | exact ldk46 | exact ldk47 | exact ldk53 | exact ldk54 | exact ldk65 | exact ldk68 | exact ldk74 | exact ldk76) (by rfl) (Nat.le_of_ble_eq_true (by rfl)) ?_
    | refine OpA.sto (by rfl) (by rfl) (by rfl) (by rfl) (by rfl) (by assumption) (by rfl) (by rfl) (by first | exact ldk2 | exact ldk3 | exact ldk4 | exact ldk6 | exact ldk7 | exact ldk8 | exact ldk9 | exact ldk10 | exact ldk12 | exact ldk13 | exact ldk14 | exact ldk15 | exact ldk16 | exact ldk17 | exact ldk18 | exact ldk21 | exact ldk22 | exact ldk36 | exact ldk39 | exact ldk46 | exact ldk47 | exact ldk53 | exact ldk54 | exact ldk65 | exact ldk68 | exact ldk74 | exact ldk76) (by rfl) (Nat.le_of_ble_eq_true (by rfl)) ?_
    | refine OpA.pcall (by rfl) Try.func44 rfl rfl (by rfl) (by first | exact clo_all (by rfl) | (intro x hx; simp only [List.mem_cons, List.not_mem_nil, or_false] at hx; rcases hx with rfl | rfl | rfl | rfl | rfl | rfl | rfl | rfl <;> first | exact clo_of (by rfl) | exact clo_fn _ | assumption)) (toEvent x (by assumption)) (by first | exact clo_of (by rfl) | assumption) ?_
    | (refine AW.loopD hE (fun i : Nat => [.ro 11 (l.map TEvent.en), .any, .any, .own 0 0, I i, .any, .any, .any, .any, .any, .any, .any, .any, .any, .any, .any, .any, .any, .any, .any, .any, .any, .any]) (fun i => [some ⟨76, 11, 0, false, fil TEvent.en [I 0, I 0, I 0, I 0, S ⟨#[]⟩, .c (.slice none 0 0), I 0, I 0, .c (.slice none 0 0), .c (.slice none 0 0), S ⟨#[]⟩] l i⟩]) (fun i => l.length - i) (fun i => i ≤ l.length) 0 (by simp) ?_ (by first | rfl | (simp [fil_zero]; done)) ?_)
    | (refine AW.cond (by rfl) (fun h => ?_) ?_; rotate_left; focus (intro h; (try simp only [Bool.not_eq_true', Bool.not_eq_false'] at h); first | (cases h; done) | exact clash (by with_reducible_and_instances assumption) h | exact clash h (by with_reducible_and_instances assumption) | exact absurd h (by decide) | (refine absurd h ?_; simp; done)))
    | (refine AW.cond (by rfl) ?_ (fun h => ?_); focus (intro h; (try simp only [Bool.not_eq_true', Bool.not_eq_false'] at h); first | (cases h; done) | exact clash (by with_reducible_and_instances assumption) h | exact clash h (by with_reducible_and_instances assumption) | exact absurd h (by decide) | (refine absurd h ?_; simp; done)))
    | (refine AW.cond (by rfl) ?_ ?_ <;> (intro h; try simp only [Bool.not_eq_true', Bool.not_eq_false'] at h))
    | refine AW.block ?_
    | refine AW.exit ?_
    | refine AL.nil ?_
    | refine AW.ret ?_) <;> (try dsimp only [dput, List.set, cond_true, cond_false, Nat.zero_add, Nat.add_zero, Nat.reduceAdd, splice, List.take, List.drop, List.length, List.nil_append, List.cons_append, TPoint.en, TSegment.en, TBox.en, TFeature.en, TMeet.en, TPlace.en, TCover.en, TLabel.en, TPiece.en, TLevel.en, TChart.en, TReason.en, TEdit.en, TEntry.en, TEdition.en, TListing.en, TAtlas.en, TEvent.en, TWindow.en]))
  · (repeat' (first | exact Wk.nil | refine Wk.any ?_ | (with_reducible refine Wk.same ?_) | refine Wk.of ?_ ?_)) <;> first | rfl | (simp)
  · intro i hi
    have hclo : Clo (.ro 11 (l.map TEvent.en)) := clo_list TEvent.clo_en
    by_cases hlt : i < l.length
    · obtain ⟨x, hx⟩ : ∃ x, l[i]? = some x := ⟨_, List.getElem?_eq_getElem hlt⟩
      have hg := map_get (f := TEvent.en) hx
      have ht := lt_true (f := TEvent.en) hlt
      have hn := next_ix hlt (by omega)
      have hz := fil_get (en := TEvent.en) (z := [I 0, I 0, I 0, I 0, S ⟨#[]⟩, .c (.slice none 0 0), I 0, I 0, .c (.slice none 0 0), .c (.slice none 0 0), S ⟨#[]⟩]) hlt
      have ha := fil_at (en := TEvent.en) (z := [I 0, I 0, I 0, I 0, S ⟨#[]⟩, .c (.slice none 0 0), I 0, I 0, .c (.slice none 0 0), .c (.slice none 0 0), S ⟨#[]⟩]) hlt
      have hs := fil_set (en := TEvent.en) (z := [I 0, I 0, I 0, I 0, S ⟨#[]⟩, .c (.slice none 0 0), I 0, I 0, .c (.slice none 0 0), .c (.slice none 0 0), S ⟨#[]⟩]) hx
      have hpx := hp x (List.mem_of_getElem? hx)
      have hclo0 : Clo (.ro 2 (x.feature.points.map TPoint.en)) := clo_list TPoint.clo_en
      have hclo1 : Clo (.ro 8 (x.log.map TEntry.en)) := clo_list TEntry.clo_en
      have hclo2 : Clo (.ro 3 (x.levels.map TLevel.en)) := clo_list TLevel.clo_en
      have hcls0 : Clo (.agg x.feature.en) := Clo.agg x.feature.clo_en
      have hcle : Clo (.agg x.en) := Clo.agg x.clo_en
      repeat' ((first
        | refine AW.seq ?_
        | refine AW.region ?_
        | refine AW.skip ?_
        | refine AL.q TT_ok rfl (by rfl) ?_
        | refine AL.step rfl ?_
        | refine OpA.quiet (QOp.atk_ro (by rfl) (by rfl) (by rfl) (by first | exact slk36 | exact slk39 | exact slk46 | exact slk47 | exact slk53 | exact slk54) (Nat.le_of_ble_eq_true (by rfl)) (by first | assumption | omega) (by assumption)) ?_
        | refine OpA.quiet (QOp.ld1_ro (by rfl) (by rfl) (by assumption) (by first | exact ldk2 | exact ldk3 | exact ldk4 | exact ldk6 | exact ldk7 | exact ldk8 | exact ldk9 | exact ldk10 | exact ldk12 | exact ldk13 | exact ldk14 | exact ldk15 | exact ldk16 | exact ldk17 | exact ldk18 | exact ldk21 | exact ldk22 | exact ldk36 | exact ldk39 | exact ldk46 | exact ldk47 | exact ldk53 | exact ldk54 | exact ldk65 | exact ldk68 | exact ldk74 | exact ldk76) (by rfl)) ?_
        | refine OpA.quiet (QOp.ldr_ro (by rfl) (by rfl) (by assumption) (by first | exact ldk2 | exact ldk3 | exact ldk4 | exact ldk6 | exact ldk7 | exact ldk8 | exact ldk9 | exact ldk10 | exact ldk12 | exact ldk13 | exact ldk14 | exact ldk15 | exact ldk16 | exact ldk17 | exact ldk18 | exact ldk21 | exact ldk22 | exact ldk36 | exact ldk39 | exact ldk46 | exact ldk47 | exact ldk53 | exact ldk54 | exact ldk65 | exact ldk68 | exact ldk74 | exact ldk76) (Nat.le_of_ble_eq_true (by rfl))) ?_
        | refine OpA.quiet (QOp.at_own (by rfl) (by first | exact slk36 | exact slk39 | exact slk46 | exact slk47 | exact slk53 | exact slk54) (by rfl) (by rfl) (by rfl) (by rfl) (by rfl) (by rfl) (by first | assumption | omega | decide) (by first | assumption | omega | decide)) ?_
        | refine OpA.quiet (QOp.len_own (by rfl) (by first | exact slk36 | exact slk39 | exact slk46 | exact slk47 | exact slk53 | exact slk54) (by rfl) (by rfl) (by rfl) (by rfl)) ?_
        | (refine OpA.pop (POp.make (by rfl) (by first | exact rwk36 | exact rwk39 | exact rwk46 | exact rwk47 | exact rwk53 | exact rwk54) (by rfl) (by rfl) (by first | assumption | omega) (by simp; omega) (by simp [maxLen]; omega)) ?_)
        | refine OpA.sto (by rfl) (by rfl) (by rfl) (by rfl) (by rfl) (by rfl) (by rfl) (by rfl) (by first | exact ldk2 | exact ldk3 | exact ldk4 | exact ldk6 | exact ldk7 | exact ldk8 | exact ldk9 | exact ldk10 | exact ldk12 | exact ldk13 | exact ldk14 | exact ldk15 | exact ldk16 | exact ldk17 | exact ldk18 | exact ldk21 | exact ldk22 | exact ldk36 | exact ldk39 | exact ldk46 | exact ldk47 | exact ldk53 | exact ldk54 | exact ldk65 | exact ldk68 | exact ldk74 | exact ldk76) (by rfl) (Nat.le_of_ble_eq_true (by rfl)) ?_
        | refine OpA.sto (by rfl) (by rfl) (by rfl) (by rfl) (by rfl) (by assumption) (by rfl) (by rfl) (by first | exact ldk2 | exact ldk3 | exact ldk4 | exact ldk6 | exact ldk7 | exact ldk8 | exact ldk9 | exact ldk10 | exact ldk12 | exact ldk13 | exact ldk14 | exact ldk15 | exact ldk16 | exact ldk17 | exact ldk18 | exact ldk21 | exact ldk22 | exact ldk36 | exact ldk39 | exact ldk46 | exact ldk47 | exact ldk53 | exact ldk54 | exact ldk65 | exact ldk68 | exact ldk74 | exact ldk76) (by rfl) (Nat.le_of_ble_eq_true (by rfl)) ?_
        | refine OpA.pcall (by rfl) Try.func44 rfl rfl (by rfl) (by first | exact clo_all (by rfl) | (intro x hx; simp only [List.mem_cons, List.not_mem_nil, or_false] at hx; rcases hx with rfl | rfl | rfl | rfl | rfl | rfl | rfl | rfl <;> first | exact clo_of (by rfl) | exact clo_fn _ | assumption)) (toEvent x (by assumption)) (by first | exact clo_of (by rfl) | assumption) ?_
        | (refine AW.cond (by rfl) (fun h => ?_) ?_; rotate_left; focus (intro h; (try simp only [Bool.not_eq_true', Bool.not_eq_false'] at h); first | (cases h; done) | exact clash (by with_reducible_and_instances assumption) h | exact clash h (by with_reducible_and_instances assumption) | exact absurd h (by decide) | (refine absurd h ?_; simp; done)))
        | (refine AW.cond (by rfl) ?_ (fun h => ?_); focus (intro h; (try simp only [Bool.not_eq_true', Bool.not_eq_false'] at h); first | (cases h; done) | exact clash (by with_reducible_and_instances assumption) h | exact clash h (by with_reducible_and_instances assumption) | exact absurd h (by decide) | (refine absurd h ?_; simp; done)))
        | (refine AW.cond (by rfl) ?_ ?_ <;> (intro h; try simp only [Bool.not_eq_true', Bool.not_eq_false'] at h))
        | refine AW.block ?_
        | refine AW.exit ?_
        | refine AL.nil ?_
        | refine AW.ret ?_) <;> (try dsimp only [dput, List.set, cond_true, cond_false, Nat.zero_add, Nat.add_zero, Nat.reduceAdd, splice, List.take, List.drop, List.length, List.nil_append, List.cons_append, TPoint.en, TSegment.en, TBox.en, TFeature.en, TMeet.en, TPlace.en, TCover.en, TLabel.en, TPiece.en, TLevel.en, TChart.en, TReason.en, TEdit.en, TEntry.en, TEdition.en, TListing.en, TAtlas.en, TEvent.en, TWindow.en]))
      all_goals first
        | (refine ⟨i + 1, [], hlt, by omega, ?_, by rw [← hs]; rfl, ?_, ?_⟩; (focus ((repeat' (first | exact Wk.nil | refine Wk.any ?_ | (with_reducible refine Wk.same ?_) | refine Wk.of ?_ ?_)) <;> (simp_all))); (focus ((repeat' (first | exact Fits.nil _ | refine Fits.cons ?_ ?_ | exact Fits.any _ | exact Fits.c _ _ | exact Fits.own (by rfl) | exact Fits.ref (by rfl) | exact Fits.clo (by assumption) | exact Fits.clo (clo_of (by rfl)) | exact Fits.clo (clo_fn _))))); (focus (exact fits_row (fil_clo (clo_all (by rfl)) TEvent.clo_en))))
    · have ht := lt_false (f := TEvent.en) hlt
      have e : i = l.length := by omega
      subst e
      try rw [List.take_length]
      repeat' ((first
        | refine AW.seq ?_
        | refine AW.region ?_
        | refine AW.skip ?_
        | refine AL.q TT_ok rfl (by rfl) ?_
        | refine AL.step rfl ?_
        | refine OpA.quiet (QOp.atk_ro (by rfl) (by rfl) (by rfl) (by first | exact slk36 | exact slk39 | exact slk46 | exact slk47 | exact slk53 | exact slk54) (Nat.le_of_ble_eq_true (by rfl)) (by first | assumption | omega) (by assumption)) ?_
        | refine OpA.quiet (QOp.ld1_ro (by rfl) (by rfl) (by assumption) (by first | exact ldk2 | exact ldk3 | exact ldk4 | exact ldk6 | exact ldk7 | exact ldk8 | exact ldk9 | exact ldk10 | exact ldk12 | exact ldk13 | exact ldk14 | exact ldk15 | exact ldk16 | exact ldk17 | exact ldk18 | exact ldk21 | exact ldk22 | exact ldk36 | exact ldk39 | exact ldk46 | exact ldk47 | exact ldk53 | exact ldk54 | exact ldk65 | exact ldk68 | exact ldk74 | exact ldk76) (by rfl)) ?_
        | refine OpA.quiet (QOp.ldr_ro (by rfl) (by rfl) (by assumption) (by first | exact ldk2 | exact ldk3 | exact ldk4 | exact ldk6 | exact ldk7 | exact ldk8 | exact ldk9 | exact ldk10 | exact ldk12 | exact ldk13 | exact ldk14 | exact ldk15 | exact ldk16 | exact ldk17 | exact ldk18 | exact ldk21 | exact ldk22 | exact ldk36 | exact ldk39 | exact ldk46 | exact ldk47 | exact ldk53 | exact ldk54 | exact ldk65 | exact ldk68 | exact ldk74 | exact ldk76) (Nat.le_of_ble_eq_true (by rfl))) ?_
        | refine OpA.quiet (QOp.at_own (by rfl) (by first | exact slk36 | exact slk39 | exact slk46 | exact slk47 | exact slk53 | exact slk54) (by rfl) (by rfl) (by rfl) (by rfl) (by rfl) (by rfl) (by first | assumption | omega | decide) (by first | assumption | omega | decide)) ?_
        | refine OpA.quiet (QOp.len_own (by rfl) (by first | exact slk36 | exact slk39 | exact slk46 | exact slk47 | exact slk53 | exact slk54) (by rfl) (by rfl) (by rfl) (by rfl)) ?_
        | (refine OpA.pop (POp.make (by rfl) (by first | exact rwk36 | exact rwk39 | exact rwk46 | exact rwk47 | exact rwk53 | exact rwk54) (by rfl) (by rfl) (by first | assumption | omega) (by simp; omega) (by simp [maxLen]; omega)) ?_)
        | refine OpA.sto (by rfl) (by rfl) (by rfl) (by rfl) (by rfl) (by rfl) (by rfl) (by rfl) (by first | exact ldk2 | exact ldk3 | exact ldk4 | exact ldk6 | exact ldk7 | exact ldk8 | exact ldk9 | exact ldk10 | exact ldk12 | exact ldk13 | exact ldk14 | exact ldk15 | exact ldk16 | exact ldk17 | exact ldk18 | exact ldk21 | exact ldk22 | exact ldk36 | exact ldk39 | exact ldk46 | exact ldk47 | exact ldk53 | exact ldk54 | exact ldk65 | exact ldk68 | exact ldk74 | exact ldk76) (by rfl) (Nat.le_of_ble_eq_true (by rfl)) ?_
        | refine OpA.sto (by rfl) (by rfl) (by rfl) (by rfl) (by rfl) (by assumption) (by rfl) (by rfl) (by first | exact ldk2 | exact ldk3 | exact ldk4 | exact ldk6 | exact ldk7 | exact ldk8 | exact ldk9 | exact ldk10 | exact ldk12 | exact ldk13 | exact ldk14 | exact ldk15 | exact ldk16 | exact ldk17 | exact ldk18 | exact ldk21 | exact ldk22 | exact ldk36 | exact ldk39 | exact ldk46 | exact ldk47 | exact ldk53 | exact ldk54 | exact ldk65 | exact ldk68 | exact ldk74 | exact ldk76) (by rfl) (Nat.le_of_ble_eq_true (by rfl)) ?_
        | refine OpA.pcall (by rfl) Try.func44 rfl rfl (by rfl) (by first | exact clo_all (by rfl) | (intro x hx; simp only [List.mem_cons, List.not_mem_nil, or_false] at hx; rcases hx with rfl | rfl | rfl | rfl | rfl | rfl | rfl | rfl <;> first | exact clo_of (by rfl) | exact clo_fn _ | assumption)) (toEvent x (by assumption)) (by first | exact clo_of (by rfl) | assumption) ?_
        | (refine AW.freezeRet (t := 2) (id := 0) rfl rfl rfl rfl (fil_clo (clo_all (by rfl)) TEvent.clo_en) ?_; simp only [fil_all])
        | (refine AW.cond (by rfl) (fun h => ?_) ?_; rotate_left; focus (intro h; (try simp only [Bool.not_eq_true', Bool.not_eq_false'] at h); first | (cases h; done) | exact clash (by with_reducible_and_instances assumption) h | exact clash h (by with_reducible_and_instances assumption) | exact absurd h (by decide) | (refine absurd h ?_; simp; done)))
        | (refine AW.cond (by rfl) ?_ (fun h => ?_); focus (intro h; (try simp only [Bool.not_eq_true', Bool.not_eq_false'] at h); first | (cases h; done) | exact clash (by with_reducible_and_instances assumption) h | exact clash h (by with_reducible_and_instances assumption) | exact absurd h (by decide) | (refine absurd h ?_; simp; done)))
        | (refine AW.cond (by rfl) ?_ ?_ <;> (intro h; try simp only [Bool.not_eq_true', Bool.not_eq_false'] at h))
        | refine AW.block ?_
        | refine AW.exit ?_
        | refine AL.nil ?_
        | refine AW.ret ?_) <;> (try dsimp only [dput, List.set, cond_true, cond_false, Nat.zero_add, Nat.add_zero, Nat.reduceAdd, splice, List.take, List.drop, List.length, List.nil_append, List.cons_append, TPoint.en, TSegment.en, TBox.en, TFeature.en, TMeet.en, TPlace.en, TCover.en, TLabel.en, TPiece.en, TLevel.en, TChart.en, TReason.en, TEdit.en, TEntry.en, TEdition.en, TListing.en, TAtlas.en, TEvent.en, TWindow.en]))
      all_goals exact Fin.one rfl (RV.tmp (by rfl)) hclo ⟨rfl, rfl⟩

end Go.Proofs.Ytbkcoechoblndaa.Abs
