/- The walks of the laws' converters. -/
import Derived.Test.YtbkcoechoblndaaDoorWkFacts
import Derived.Test.YtbkcoechoblndaaDoorWkSz
namespace Go.Proofs.YtbkcoechoblndaaDoor.Abs
open Go.Proofs Go.RowKit
set_option linter.unusedVariables false
set_option linter.unusedSimpArgs false
set_option maxRecDepth 100000 in
set_option maxHeartbeats 2000000 in
theorem toPoint (x : TPoint) : VCalls Tryd.prog 41 [.agg x.en] (fun r M => r = .agg x.en ∧ M = []) := by
  refine VCalls.body Tryd.func41 rfl 10 rfl (fun E => ?_)
  simp only [List.reduceReplicate, List.cons_append, List.nil_append]
  dsimp only [TPoint.en]
  repeat' ((first
    | refine AW.seq ?_
    | refine AW.region ?_
    | refine AW.skip ?_
    | refine AL.q TT_ok rfl (by rfl) ?_
    | refine AL.step rfl ?_
    | refine OpA.box (by rfl) (by rfl) (by rfl) ?_
    | refine OpA.allocA (by rfl) (by first | exact ze2 | exact ze3 | exact ze4 | exact ze5 | exact ze6 | exact ze7 | exact ze8 | exact ze9 | exact ze10 | exact ze71 | exact ze73) ?_
    | refine OpA.sto (by rfl) (by rfl) (by rfl) (by rfl) (by rfl) (by rfl) (by rfl) (by rfl) (by first | exact ldk2 | exact ldk3 | exact ldk4 | exact ldk5 | exact ldk6 | exact ldk7 | exact ldk8 | exact ldk9 | exact ldk10 | exact ldk71 | exact ldk73) (by rfl) (Nat.le_of_ble_eq_true (by rfl)) ?_
    | refine OpA.sto (by rfl) (by rfl) (by rfl) (by rfl) (by rfl) (by assumption) (by rfl) (by rfl) (by first | exact ldk2 | exact ldk3 | exact ldk4 | exact ldk5 | exact ldk6 | exact ldk7 | exact ldk8 | exact ldk9 | exact ldk10 | exact ldk71 | exact ldk73) (by rfl) (Nat.le_of_ble_eq_true (by rfl)) ?_
    | refine AL.nil ?_
    | refine AW.ret ?_) <;> (try dsimp only [dput, List.set, cond_true, cond_false, Nat.zero_add, Nat.add_zero, Nat.reduceAdd, splice, List.take, List.drop, List.length, List.nil_append, List.cons_append, TPoint.en, TSegment.en, TBox.en, TFeature.en, TMeet.en, TPlace.en, TCover.en, TLabel.en, TPiece.en, TLevel.en, TChart.en, TReason.en, TEdit.en, TEntry.en, TEdition.en, TListing.en, TAtlas.en, TEvent.en, TWindow.en]))
  all_goals exact Fin.one rfl (RV.cell (QOp.quietA TT_ok (by rfl))) (Clo.agg x.clo_en) ⟨by rfl, rfl⟩

set_option maxRecDepth 100000 in
set_option maxHeartbeats 2000000 in
theorem toPointS (l : List TPoint) (hl : l.length ≤ 1048576) : VCalls Tryd.prog 15 [.ro 2 (l.map TPoint.en)] (fun r M => r = .ro 2 (l.map TPoint.en) ∧ M = []) := by
  refine VCalls.bodyE Tryd.func15 rfl 22 rfl (fun E hE => ?_)
  simp only [List.reduceReplicate, List.cons_append, List.nil_append]
  repeat' ((first
    | refine AW.seq ?_
    | refine AW.region ?_
    | refine AW.skip ?_
    | refine AL.q TT_ok rfl (by rfl) ?_
    | refine AL.step rfl ?_
    | refine OpA.quiet (QOp.atk_ro (by rfl) (by rfl) (by rfl) (by first | exact slk22 | exact slk27 | exact slk30) (Nat.le_of_ble_eq_true (by rfl)) (by first | assumption | omega) (by assumption)) ?_
    | refine OpA.quiet (QOp.ld1_ro (by rfl) (by rfl) (by assumption) (by first | exact ldk2 | exact ldk3 | exact ldk4 | exact ldk6 | exact ldk7 | exact ldk8 | exact ldk9 | exact ldk10 | exact ldk12 | exact ldk13 | exact ldk14 | exact ldk15 | exact ldk16 | exact ldk17 | exact ldk18 | exact ldk21 | exact ldk22 | exact ldk27 | exact ldk30 | exact ldk71 | exact ldk73) (by rfl)) ?_
    | refine OpA.quiet (QOp.ldr_ro (by rfl) (by rfl) (by assumption) (by first | exact ldk2 | exact ldk3 | exact ldk4 | exact ldk6 | exact ldk7 | exact ldk8 | exact ldk9 | exact ldk10 | exact ldk12 | exact ldk13 | exact ldk14 | exact ldk15 | exact ldk16 | exact ldk17 | exact ldk18 | exact ldk21 | exact ldk22 | exact ldk27 | exact ldk30 | exact ldk71 | exact ldk73) (Nat.le_of_ble_eq_true (by rfl))) ?_
    | refine OpA.quiet (QOp.at_own (by rfl) (by first | exact slk22 | exact slk27 | exact slk30) (by rfl) (by rfl) (by rfl) (by rfl) (by rfl) (by rfl) (by first | assumption | omega | decide) (by first | assumption | omega | decide)) ?_
    | refine OpA.quiet (QOp.len_own (by rfl) (by first | exact slk22 | exact slk27 | exact slk30) (by rfl) (by rfl) (by rfl) (by rfl)) ?_
    | (refine OpA.quiet (QOp.cat (by rfl) (by rfl) (by rfl) (by first | assumption | (simp only [ByteArray.size_append, bs_size] at *; omega))) ?_)
    | (refine OpA.pop (POp.make (by rfl) (by first | exact rwk22 | exact rwk27 | exact rwk30) (by rfl) (by rfl) (by first | assumption | omega) (by simp; omega) (by simp [maxLen]; omega)) ?_)
    | refine OpA.sto (by rfl) (by rfl) (by rfl) (by rfl) (by rfl) (by rfl) (by rfl) (by rfl) (by first | exact ldk2 | exact ldk3 | exact ldk4 | exact ldk6 | exact ldk7 | exact ldk8 | exact ldk9 | exact ldk10 | exact ldk12 | exact ldk13 | exact ldk14 | exact ldk15 | exact ldk16 | exact ldk17 | exact ldk18 | exact ldk21 | exact ldk22 | exact ldk27 | exact ldk30 | exact ldk71 | exact ldk73) (by rfl) (Nat.le_of_ble_eq_true (by rfl)) ?_
    | refine OpA.sto (by rfl) (by rfl) (by rfl) (by rfl) (by rfl) (by assumption) (by rfl) (by rfl) (by first | exact ldk2 | exact ldk3 | exact ldk4 | exact ldk6 | exact ldk7 | exact ldk8 | exact ldk9 | exact ldk10 | exact ldk12 | exact ldk13 | exact ldk14 | exact ldk15 | exact ldk16 | exact ldk17 | exact ldk18 | exact ldk21 | exact ldk22 | exact ldk27 | exact ldk30 | exact ldk71 | exact ldk73) (by rfl) (Nat.le_of_ble_eq_true (by rfl)) ?_
    | refine OpA.pcall (by rfl) Tryd.func41 rfl rfl (by rfl) (by first | exact clo_all (by rfl) | (intro x hx; simp only [List.mem_cons, List.not_mem_nil, or_false] at hx; rcases hx with rfl | rfl | rfl | rfl | rfl | rfl | rfl | rfl <;> first | exact clo_of (by rfl) | exact clo_fn _ | assumption)) (toPoint x) (by first | exact clo_of (by rfl) | assumption) ?_
    | (refine AW.loopD hE (fun i : Nat => [.ro 2 (l.map TPoint.en), .any, .any, .own 0 0, I i, .any, .any, .any, .any, .any, .any, .any, .any, .any, .any, .any, .any, .any, .any, .any, .any, .any, .any]) (fun i => [some ⟨71, 2, 0, false, fil TPoint.en [I 0, I 0] l i⟩]) (fun i => l.length - i) (fun i => i ≤ l.length) 0 (by simp) ?_ (by first | rfl | (simp [fil_zero]; done)) ?_)
    | (refine AW.cond (by rfl) (fun h => ?_) ?_; rotate_left; focus (intro h; (try simp only [Bool.not_eq_true', Bool.not_eq_false'] at h); first | (cases h; done) | exact clash (by with_reducible_and_instances assumption) h | exact clash h (by with_reducible_and_instances assumption) | exact absurd h (by decide) | (refine absurd h ?_; simp; done)))
    | (refine AW.cond (by rfl) ?_ (fun h => ?_); focus (intro h; (try simp only [Bool.not_eq_true', Bool.not_eq_false'] at h); first | (cases h; done) | exact clash (by with_reducible_and_instances assumption) h | exact clash h (by with_reducible_and_instances assumption) | exact absurd h (by decide) | (refine absurd h ?_; simp; done)))
    | (refine AW.cond (by rfl) ?_ ?_ <;> (intro h; try simp only [Bool.not_eq_true', Bool.not_eq_false'] at h))
    | refine AW.block ?_
    | refine AW.exit ?_
    | refine AL.nil ?_
    | refine AW.ret ?_) <;> (try dsimp only [dput, List.set, cond_true, cond_false, Nat.zero_add, Nat.add_zero, Nat.reduceAdd, splice, List.take, List.drop, List.length, List.nil_append, List.cons_append, TPoint.en, TSegment.en, TBox.en, TFeature.en, TMeet.en, TPlace.en, TCover.en, TLabel.en, TPiece.en, TLevel.en, TChart.en, TReason.en, TEdit.en, TEntry.en, TEdition.en, TListing.en, TAtlas.en, TEvent.en, TWindow.en]))
  · (repeat' (first | exact Wk.nil | refine Wk.any ?_ | (with_reducible refine Wk.same ?_) | refine Wk.of ?_ ?_)) <;> first | rfl | (simp)
  · intro i hi
    have hclo : Clo (.ro 2 (l.map TPoint.en)) := clo_list TPoint.clo_en
    by_cases hlt : i < l.length
    · obtain ⟨x, hx⟩ : ∃ x, l[i]? = some x := ⟨_, List.getElem?_eq_getElem hlt⟩
      have hg := map_get (f := TPoint.en) hx
      have ht := lt_true (f := TPoint.en) hlt
      have hn := next_ix hlt (by omega)
      have hz := fil_get (en := TPoint.en) (z := [I 0, I 0]) hlt
      have ha := fil_at (en := TPoint.en) (z := [I 0, I 0]) hlt
      have hs := fil_set (en := TPoint.en) (z := [I 0, I 0]) hx
      repeat' ((first
        | refine AW.seq ?_
        | refine AW.region ?_
        | refine AW.skip ?_
        | refine AL.q TT_ok rfl (by rfl) ?_
        | refine AL.step rfl ?_
        | refine OpA.quiet (QOp.atk_ro (by rfl) (by rfl) (by rfl) (by first | exact slk22 | exact slk27 | exact slk30) (Nat.le_of_ble_eq_true (by rfl)) (by first | assumption | omega) (by assumption)) ?_
        | refine OpA.quiet (QOp.ld1_ro (by rfl) (by rfl) (by assumption) (by first | exact ldk2 | exact ldk3 | exact ldk4 | exact ldk6 | exact ldk7 | exact ldk8 | exact ldk9 | exact ldk10 | exact ldk12 | exact ldk13 | exact ldk14 | exact ldk15 | exact ldk16 | exact ldk17 | exact ldk18 | exact ldk21 | exact ldk22 | exact ldk27 | exact ldk30 | exact ldk71 | exact ldk73) (by rfl)) ?_
        | refine OpA.quiet (QOp.ldr_ro (by rfl) (by rfl) (by assumption) (by first | exact ldk2 | exact ldk3 | exact ldk4 | exact ldk6 | exact ldk7 | exact ldk8 | exact ldk9 | exact ldk10 | exact ldk12 | exact ldk13 | exact ldk14 | exact ldk15 | exact ldk16 | exact ldk17 | exact ldk18 | exact ldk21 | exact ldk22 | exact ldk27 | exact ldk30 | exact ldk71 | exact ldk73) (Nat.le_of_ble_eq_true (by rfl))) ?_
        | refine OpA.quiet (QOp.at_own (by rfl) (by first | exact slk22 | exact slk27 | exact slk30) (by rfl) (by rfl) (by rfl) (by rfl) (by rfl) (by rfl) (by first | assumption | omega | decide) (by first | assumption | omega | decide)) ?_
        | refine OpA.quiet (QOp.len_own (by rfl) (by first | exact slk22 | exact slk27 | exact slk30) (by rfl) (by rfl) (by rfl) (by rfl)) ?_
        | (refine OpA.quiet (QOp.cat (by rfl) (by rfl) (by rfl) (by first | assumption | (simp only [ByteArray.size_append, bs_size] at *; omega))) ?_)
        | (refine OpA.pop (POp.make (by rfl) (by first | exact rwk22 | exact rwk27 | exact rwk30) (by rfl) (by rfl) (by first | assumption | omega) (by simp; omega) (by simp [maxLen]; omega)) ?_)
        | refine OpA.sto (by rfl) (by rfl) (by rfl) (by rfl) (by rfl) (by rfl) (by rfl) (by rfl) (by first | exact ldk2 | exact ldk3 | exact ldk4 | exact ldk6 | exact ldk7 | exact ldk8 | exact ldk9 | exact ldk10 | exact ldk12 | exact ldk13 | exact ldk14 | exact ldk15 | exact ldk16 | exact ldk17 | exact ldk18 | exact ldk21 | exact ldk22 | exact ldk27 | exact ldk30 | exact ldk71 | exact ldk73) (by rfl) (Nat.le_of_ble_eq_true (by rfl)) ?_
        | refine OpA.sto (by rfl) (by rfl) (by rfl) (by rfl) (by rfl) (by assumption) (by rfl) (by rfl) (by first | exact ldk2 | exact ldk3 | exact ldk4 | exact ldk6 | exact ldk7 | exact ldk8 | exact ldk9 | exact ldk10 | exact ldk12 | exact ldk13 | exact ldk14 | exact ldk15 | exact ldk16 | exact ldk17 | exact ldk18 | exact ldk21 | exact ldk22 | exact ldk27 | exact ldk30 | exact ldk71 | exact ldk73) (by rfl) (Nat.le_of_ble_eq_true (by rfl)) ?_
        | refine OpA.pcall (by rfl) Tryd.func41 rfl rfl (by rfl) (by first | exact clo_all (by rfl) | (intro x hx; simp only [List.mem_cons, List.not_mem_nil, or_false] at hx; rcases hx with rfl | rfl | rfl | rfl | rfl | rfl | rfl | rfl <;> first | exact clo_of (by rfl) | exact clo_fn _ | assumption)) (toPoint x) (by first | exact clo_of (by rfl) | assumption) ?_
        | (refine AW.cond (by rfl) (fun h => ?_) ?_; rotate_left; focus (intro h; (try simp only [Bool.not_eq_true', Bool.not_eq_false'] at h); first | (cases h; done) | exact clash (by with_reducible_and_instances assumption) h | exact clash h (by with_reducible_and_instances assumption) | exact absurd h (by decide) | (refine absurd h ?_; simp; done)))
        | (refine AW.cond (by rfl) ?_ (fun h => ?_); focus (intro h; (try simp only [Bool.not_eq_true', Bool.not_eq_false'] at h); first | (cases h; done) | exact clash (by with_reducible_and_instances assumption) h | exact clash h (by with_reducible_and_instances assumption) | exact absurd h (by decide) | (refine absurd h ?_; simp; done)))
        | (refine AW.cond (by rfl) ?_ ?_ <;> (intro h; try simp only [Bool.not_eq_true', Bool.not_eq_false'] at h))
        | refine AW.block ?_
        | refine AW.exit ?_
        | refine AL.nil ?_
        | refine AW.ret ?_) <;> (try dsimp only [dput, List.set, cond_true, cond_false, Nat.zero_add, Nat.add_zero, Nat.reduceAdd, splice, List.take, List.drop, List.length, List.nil_append, List.cons_append, TPoint.en, TSegment.en, TBox.en, TFeature.en, TMeet.en, TPlace.en, TCover.en, TLabel.en, TPiece.en, TLevel.en, TChart.en, TReason.en, TEdit.en, TEntry.en, TEdition.en, TListing.en, TAtlas.en, TEvent.en, TWindow.en]))
      all_goals first
        | (refine ⟨i + 1, [], hlt, by omega, ?_, by rw [← hs] <;> rfl, ?_, ?_⟩; (focus ((repeat' (first | exact Wk.nil | refine Wk.any ?_ | (with_reducible refine Wk.same ?_) | refine Wk.of ?_ ?_)) <;> (simp_all))); (focus ((repeat' (first | exact Fits.nil _ | refine Fits.cons ?_ ?_ | exact Fits.any _ | exact Fits.c _ _ | exact Fits.own (by rfl) | exact Fits.ref (by rfl) | exact Fits.clo (by assumption) | exact Fits.clo (clo_of (by rfl)) | exact Fits.clo (clo_fn _))))); (focus (exact fits_row (fil_clo (clo_all (by rfl)) TPoint.clo_en))))
    · have ht := lt_false (f := TPoint.en) hlt
      have e : i = l.length := by omega
      subst e
      try rw [List.take_length]
      repeat' ((first
        | refine AW.seq ?_
        | refine AW.region ?_
        | refine AW.skip ?_
        | refine AL.q TT_ok rfl (by rfl) ?_
        | refine AL.step rfl ?_
        | refine OpA.quiet (QOp.atk_ro (by rfl) (by rfl) (by rfl) (by first | exact slk22 | exact slk27 | exact slk30) (Nat.le_of_ble_eq_true (by rfl)) (by first | assumption | omega) (by assumption)) ?_
        | refine OpA.quiet (QOp.ld1_ro (by rfl) (by rfl) (by assumption) (by first | exact ldk2 | exact ldk3 | exact ldk4 | exact ldk6 | exact ldk7 | exact ldk8 | exact ldk9 | exact ldk10 | exact ldk12 | exact ldk13 | exact ldk14 | exact ldk15 | exact ldk16 | exact ldk17 | exact ldk18 | exact ldk21 | exact ldk22 | exact ldk27 | exact ldk30 | exact ldk71 | exact ldk73) (by rfl)) ?_
        | refine OpA.quiet (QOp.ldr_ro (by rfl) (by rfl) (by assumption) (by first | exact ldk2 | exact ldk3 | exact ldk4 | exact ldk6 | exact ldk7 | exact ldk8 | exact ldk9 | exact ldk10 | exact ldk12 | exact ldk13 | exact ldk14 | exact ldk15 | exact ldk16 | exact ldk17 | exact ldk18 | exact ldk21 | exact ldk22 | exact ldk27 | exact ldk30 | exact ldk71 | exact ldk73) (Nat.le_of_ble_eq_true (by rfl))) ?_
        | refine OpA.quiet (QOp.at_own (by rfl) (by first | exact slk22 | exact slk27 | exact slk30) (by rfl) (by rfl) (by rfl) (by rfl) (by rfl) (by rfl) (by first | assumption | omega | decide) (by first | assumption | omega | decide)) ?_
        | refine OpA.quiet (QOp.len_own (by rfl) (by first | exact slk22 | exact slk27 | exact slk30) (by rfl) (by rfl) (by rfl) (by rfl)) ?_
        | (refine OpA.quiet (QOp.cat (by rfl) (by rfl) (by rfl) (by first | assumption | (simp only [ByteArray.size_append, bs_size] at *; omega))) ?_)
        | (refine OpA.pop (POp.make (by rfl) (by first | exact rwk22 | exact rwk27 | exact rwk30) (by rfl) (by rfl) (by first | assumption | omega) (by simp; omega) (by simp [maxLen]; omega)) ?_)
        | refine OpA.sto (by rfl) (by rfl) (by rfl) (by rfl) (by rfl) (by rfl) (by rfl) (by rfl) (by first | exact ldk2 | exact ldk3 | exact ldk4 | exact ldk6 | exact ldk7 | exact ldk8 | exact ldk9 | exact ldk10 | exact ldk12 | exact ldk13 | exact ldk14 | exact ldk15 | exact ldk16 | exact ldk17 | exact ldk18 | exact ldk21 | exact ldk22 | exact ldk27 | exact ldk30 | exact ldk71 | exact ldk73) (by rfl) (Nat.le_of_ble_eq_true (by rfl)) ?_
        | refine OpA.sto (by rfl) (by rfl) (by rfl) (by rfl) (by rfl) (by assumption) (by rfl) (by rfl) (by first | exact ldk2 | exact ldk3 | exact ldk4 | exact ldk6 | exact ldk7 | exact ldk8 | exact ldk9 | exact ldk10 | exact ldk12 | exact ldk13 | exact ldk14 | exact ldk15 | exact ldk16 | exact ldk17 | exact ldk18 | exact ldk21 | exact ldk22 | exact ldk27 | exact ldk30 | exact ldk71 | exact ldk73) (by rfl) (Nat.le_of_ble_eq_true (by rfl)) ?_
        | refine OpA.pcall (by rfl) Tryd.func41 rfl rfl (by rfl) (by first | exact clo_all (by rfl) | (intro x hx; simp only [List.mem_cons, List.not_mem_nil, or_false] at hx; rcases hx with rfl | rfl | rfl | rfl | rfl | rfl | rfl | rfl <;> first | exact clo_of (by rfl) | exact clo_fn _ | assumption)) (toPoint x) (by first | exact clo_of (by rfl) | assumption) ?_
        | (refine AW.freezeRet (t := 2) (id := 0) rfl rfl rfl rfl (fil_clo (clo_all (by rfl)) TPoint.clo_en) ?_; simp only [fil_all])
        | (refine AW.cond (by rfl) (fun h => ?_) ?_; rotate_left; focus (intro h; (try simp only [Bool.not_eq_true', Bool.not_eq_false'] at h); first | (cases h; done) | exact clash (by with_reducible_and_instances assumption) h | exact clash h (by with_reducible_and_instances assumption) | exact absurd h (by decide) | (refine absurd h ?_; simp; done)))
        | (refine AW.cond (by rfl) ?_ (fun h => ?_); focus (intro h; (try simp only [Bool.not_eq_true', Bool.not_eq_false'] at h); first | (cases h; done) | exact clash (by with_reducible_and_instances assumption) h | exact clash h (by with_reducible_and_instances assumption) | exact absurd h (by decide) | (refine absurd h ?_; simp; done)))
        | (refine AW.cond (by rfl) ?_ ?_ <;> (intro h; try simp only [Bool.not_eq_true', Bool.not_eq_false'] at h))
        | refine AW.block ?_
        | refine AW.exit ?_
        | refine AL.nil ?_
        | refine AW.ret ?_) <;> (try dsimp only [dput, List.set, cond_true, cond_false, Nat.zero_add, Nat.add_zero, Nat.reduceAdd, splice, List.take, List.drop, List.length, List.nil_append, List.cons_append, TPoint.en, TSegment.en, TBox.en, TFeature.en, TMeet.en, TPlace.en, TCover.en, TLabel.en, TPiece.en, TLevel.en, TChart.en, TReason.en, TEdit.en, TEntry.en, TEdition.en, TListing.en, TAtlas.en, TEvent.en, TWindow.en]))
      all_goals exact Fin.one rfl (RV.tmp (by rfl)) hclo ⟨rfl, rfl⟩

set_option maxRecDepth 100000 in
set_option maxHeartbeats 2000000 in
theorem toBox (x : TBox) : VCalls Tryd.prog 75 [.agg x.en] (fun r M => r = .agg x.en ∧ M = []) := by
  refine VCalls.body Tryd.func75 rfl 12 rfl (fun E => ?_)
  simp only [List.reduceReplicate, List.cons_append, List.nil_append]
  dsimp only [TBox.en]
  repeat' ((first
    | refine AW.seq ?_
    | refine AW.region ?_
    | refine AW.skip ?_
    | refine AL.q TT_ok rfl (by rfl) ?_
    | refine AL.step rfl ?_
    | refine OpA.box (by rfl) (by rfl) (by rfl) ?_
    | refine OpA.allocA (by rfl) (by first | exact ze2 | exact ze3 | exact ze4 | exact ze6 | exact ze7 | exact ze8 | exact ze10 | exact ze11 | exact ze12 | exact ze71 | exact ze73 | exact ze91 | exact ze102) ?_
    | refine OpA.sto (by rfl) (by rfl) (by rfl) (by rfl) (by rfl) (by rfl) (by rfl) (by rfl) (by first | exact ldk2 | exact ldk3 | exact ldk4 | exact ldk6 | exact ldk7 | exact ldk8 | exact ldk10 | exact ldk11 | exact ldk12 | exact ldk71 | exact ldk73 | exact ldk91 | exact ldk102) (by rfl) (Nat.le_of_ble_eq_true (by rfl)) ?_
    | refine OpA.sto (by rfl) (by rfl) (by rfl) (by rfl) (by rfl) (by assumption) (by rfl) (by rfl) (by first | exact ldk2 | exact ldk3 | exact ldk4 | exact ldk6 | exact ldk7 | exact ldk8 | exact ldk10 | exact ldk11 | exact ldk12 | exact ldk71 | exact ldk73 | exact ldk91 | exact ldk102) (by rfl) (Nat.le_of_ble_eq_true (by rfl)) ?_
    | refine OpA.pcall (by rfl) Tryd.func41 rfl rfl (by rfl) (by first | exact clo_all (by rfl) | (intro x hx; simp only [List.mem_cons, List.not_mem_nil, or_false] at hx; rcases hx with rfl | rfl | rfl | rfl | rfl | rfl | rfl | rfl <;> first | exact clo_of (by rfl) | exact clo_fn _ | assumption)) (toPoint x.low) (by first | exact clo_of (by rfl) | assumption) ?_
    | refine OpA.pcall (by rfl) Tryd.func41 rfl rfl (by rfl) (by first | exact clo_all (by rfl) | (intro x hx; simp only [List.mem_cons, List.not_mem_nil, or_false] at hx; rcases hx with rfl | rfl | rfl | rfl | rfl | rfl | rfl | rfl <;> first | exact clo_of (by rfl) | exact clo_fn _ | assumption)) (toPoint x.high) (by first | exact clo_of (by rfl) | assumption) ?_
    | refine AL.nil ?_
    | refine AW.ret ?_) <;> (try dsimp only [dput, List.set, cond_true, cond_false, Nat.zero_add, Nat.add_zero, Nat.reduceAdd, splice, List.take, List.drop, List.length, List.nil_append, List.cons_append, TPoint.en, TSegment.en, TBox.en, TFeature.en, TMeet.en, TPlace.en, TCover.en, TLabel.en, TPiece.en, TLevel.en, TChart.en, TReason.en, TEdit.en, TEntry.en, TEdition.en, TListing.en, TAtlas.en, TEvent.en, TWindow.en]))
  all_goals exact Fin.one rfl (RV.cell (QOp.quietA TT_ok (by rfl))) (Clo.agg x.clo_en) ⟨by rfl, rfl⟩

set_option maxRecDepth 100000 in
set_option maxHeartbeats 2000000 in
theorem toFeature (x : TFeature) (hs : x.sm) : VCalls Tryd.prog 29 [.agg x.en] (fun r M => r = .agg x.en ∧ M = []) := by
  refine VCalls.body Tryd.func29 rfl 20 rfl (fun E => ?_)
  simp only [List.reduceReplicate, List.cons_append, List.nil_append]
  have hclo0 : Clo (.ro 2 (x.points.map TPoint.en)) := clo_list TPoint.clo_en
  have hcle : Clo (.agg x.en) := Clo.agg x.clo_en
  have hs' := hs
  obtain hs4 := hs
  dsimp only [TFeature.en]
  repeat' ((first
    | refine AW.seq ?_
    | refine AW.region ?_
    | refine AW.skip ?_
    | refine AL.q TT_ok rfl (by rfl) ?_
    | refine AL.step rfl ?_
    | refine OpA.quiet (QOp.ld1_ro (by rfl) (by rfl) (by assumption) (by first | exact ldk2 | exact ldk3 | exact ldk4 | exact ldk5 | exact ldk6 | exact ldk7 | exact ldk8 | exact ldk9 | exact ldk10 | exact ldk11 | exact ldk12 | exact ldk13 | exact ldk14 | exact ldk15 | exact ldk16 | exact ldk17 | exact ldk18 | exact ldk19 | exact ldk27 | exact ldk30 | exact ldk46 | exact ldk50 | exact ldk71 | exact ldk73) (by rfl)) ?_
    | refine OpA.quiet (QOp.ldr_ro (by rfl) (by rfl) (by assumption) (by first | exact ldk2 | exact ldk3 | exact ldk4 | exact ldk5 | exact ldk6 | exact ldk7 | exact ldk8 | exact ldk9 | exact ldk10 | exact ldk11 | exact ldk12 | exact ldk13 | exact ldk14 | exact ldk15 | exact ldk16 | exact ldk17 | exact ldk18 | exact ldk19 | exact ldk27 | exact ldk30 | exact ldk46 | exact ldk50 | exact ldk71 | exact ldk73) (Nat.le_of_ble_eq_true (by rfl))) ?_
    | refine OpA.box (by rfl) (by rfl) (by rfl) ?_
    | refine OpA.allocA (by rfl) (by first | exact ze2 | exact ze3 | exact ze4 | exact ze5 | exact ze6 | exact ze7 | exact ze8 | exact ze9 | exact ze10 | exact ze11 | exact ze12 | exact ze13 | exact ze14 | exact ze15 | exact ze16 | exact ze17 | exact ze18 | exact ze19 | exact ze27 | exact ze30 | exact ze46 | exact ze50 | exact ze71 | exact ze73) ?_
    | refine OpA.sto (by rfl) (by rfl) (by rfl) (by rfl) (by rfl) (by rfl) (by rfl) (by rfl) (by first | exact ldk2 | exact ldk3 | exact ldk4 | exact ldk5 | exact ldk6 | exact ldk7 | exact ldk8 | exact ldk9 | exact ldk10 | exact ldk11 | exact ldk12 | exact ldk13 | exact ldk14 | exact ldk15 | exact ldk16 | exact ldk17 | exact ldk18 | exact ldk19 | exact ldk27 | exact ldk30 | exact ldk46 | exact ldk50 | exact ldk71 | exact ldk73) (by rfl) (Nat.le_of_ble_eq_true (by rfl)) ?_
    | refine OpA.sto (by rfl) (by rfl) (by rfl) (by rfl) (by rfl) (by assumption) (by rfl) (by rfl) (by first | exact ldk2 | exact ldk3 | exact ldk4 | exact ldk5 | exact ldk6 | exact ldk7 | exact ldk8 | exact ldk9 | exact ldk10 | exact ldk11 | exact ldk12 | exact ldk13 | exact ldk14 | exact ldk15 | exact ldk16 | exact ldk17 | exact ldk18 | exact ldk19 | exact ldk27 | exact ldk30 | exact ldk46 | exact ldk50 | exact ldk71 | exact ldk73) (by rfl) (Nat.le_of_ble_eq_true (by rfl)) ?_
    | refine OpA.pcall (by rfl) Tryd.func15 rfl rfl (by rfl) (by first | exact clo_all (by rfl) | (intro x hx; simp only [List.mem_cons, List.not_mem_nil, or_false] at hx; rcases hx with rfl | rfl | rfl | rfl | rfl | rfl | rfl | rfl <;> first | exact clo_of (by rfl) | exact clo_fn _ | assumption)) (toPointS _ (by assumption)) (by first | exact clo_of (by rfl) | assumption) ?_
    | refine AL.nil ?_
    | refine AW.ret ?_) <;> (try dsimp only [dput, List.set, cond_true, cond_false, Nat.zero_add, Nat.add_zero, Nat.reduceAdd, splice, List.take, List.drop, List.length, List.nil_append, List.cons_append, TPoint.en, TSegment.en, TBox.en, TFeature.en, TMeet.en, TPlace.en, TCover.en, TLabel.en, TPiece.en, TLevel.en, TChart.en, TReason.en, TEdit.en, TEntry.en, TEdition.en, TListing.en, TAtlas.en, TEvent.en, TWindow.en]))
  all_goals exact Fin.one rfl (RV.cell (QOp.quietA TT_ok (by rfl))) (Clo.agg x.clo_en) ⟨by rfl, rfl⟩

set_option maxRecDepth 100000 in
set_option maxHeartbeats 2000000 in
theorem toFeatureS (l : List TFeature) (hl : l.length ≤ 1048576) (hp : ∀ x ∈ l, x.sm) : VCalls Tryd.prog 56 [.ro 5 (l.map TFeature.en)] (fun r M => r = .ro 5 (l.map TFeature.en) ∧ M = []) := by
  refine VCalls.bodyE Tryd.func56 rfl 22 rfl (fun E hE => ?_)
  simp only [List.reduceReplicate, List.cons_append, List.nil_append]
  repeat' ((first
    | refine AW.seq ?_
    | refine AW.region ?_
    | refine AW.skip ?_
    | refine AL.q TT_ok rfl (by rfl) ?_
    | refine AL.step rfl ?_
    | refine OpA.quiet (QOp.atk_ro (by rfl) (by rfl) (by rfl) (by first | exact slk22 | exact slk27 | exact slk30 | exact slk54 | exact slk60) (Nat.le_of_ble_eq_true (by rfl)) (by first | assumption | omega) (by assumption)) ?_
    | refine OpA.quiet (QOp.ld1_ro (by rfl) (by rfl) (by assumption) (by first | exact ldk2 | exact ldk3 | exact ldk4 | exact ldk6 | exact ldk7 | exact ldk8 | exact ldk9 | exact ldk10 | exact ldk12 | exact ldk13 | exact ldk14 | exact ldk15 | exact ldk16 | exact ldk17 | exact ldk18 | exact ldk21 | exact ldk22 | exact ldk27 | exact ldk30 | exact ldk46 | exact ldk50 | exact ldk54 | exact ldk60) (by rfl)) ?_
    | refine OpA.quiet (QOp.ldr_ro (by rfl) (by rfl) (by assumption) (by first | exact ldk2 | exact ldk3 | exact ldk4 | exact ldk6 | exact ldk7 | exact ldk8 | exact ldk9 | exact ldk10 | exact ldk12 | exact ldk13 | exact ldk14 | exact ldk15 | exact ldk16 | exact ldk17 | exact ldk18 | exact ldk21 | exact ldk22 | exact ldk27 | exact ldk30 | exact ldk46 | exact ldk50 | exact ldk54 | exact ldk60) (Nat.le_of_ble_eq_true (by rfl))) ?_
    | refine OpA.quiet (QOp.at_own (by rfl) (by first | exact slk22 | exact slk27 | exact slk30 | exact slk54 | exact slk60) (by rfl) (by rfl) (by rfl) (by rfl) (by rfl) (by rfl) (by first | assumption | omega | decide) (by first | assumption | omega | decide)) ?_
    | refine OpA.quiet (QOp.len_own (by rfl) (by first | exact slk22 | exact slk27 | exact slk30 | exact slk54 | exact slk60) (by rfl) (by rfl) (by rfl) (by rfl)) ?_
    | (refine OpA.quiet (QOp.cat (by rfl) (by rfl) (by rfl) (by first | assumption | (simp only [ByteArray.size_append, bs_size] at *; omega))) ?_)
    | (refine OpA.pop (POp.make (by rfl) (by first | exact rwk22 | exact rwk27 | exact rwk30 | exact rwk54 | exact rwk60) (by rfl) (by rfl) (by first | assumption | omega) (by simp; omega) (by simp [maxLen]; omega)) ?_)
    | refine OpA.sto (by rfl) (by rfl) (by rfl) (by rfl) (by rfl) (by rfl) (by rfl) (by rfl) (by first | exact ldk2 | exact ldk3 | exact ldk4 | exact ldk6 | exact ldk7 | exact ldk8 | exact ldk9 | exact ldk10 | exact ldk12 | exact ldk13 | exact ldk14 | exact ldk15 | exact ldk16 | exact ldk17 | exact ldk18 | exact ldk21 | exact ldk22 | exact ldk27 | exact ldk30 | exact ldk46 | exact ldk50 | exact ldk54 | exact ldk60) (by rfl) (Nat.le_of_ble_eq_true (by rfl)) ?_
    | refine OpA.sto (by rfl) (by rfl) (by rfl) (by rfl) (by rfl) (by assumption) (by rfl) (by rfl) (by first | exact ldk2 | exact ldk3 | exact ldk4 | exact ldk6 | exact ldk7 | exact ldk8 | exact ldk9 | exact ldk10 | exact ldk12 | exact ldk13 | exact ldk14 | exact ldk15 | exact ldk16 | exact ldk17 | exact ldk18 | exact ldk21 | exact ldk22 | exact ldk27 | exact ldk30 | exact ldk46 | exact ldk50 | exact ldk54 | exact ldk60) (by rfl) (Nat.le_of_ble_eq_true (by rfl)) ?_
    | refine OpA.pcall (by rfl) Tryd.func29 rfl rfl (by rfl) (by first | exact clo_all (by rfl) | (intro x hx; simp only [List.mem_cons, List.not_mem_nil, or_false] at hx; rcases hx with rfl | rfl | rfl | rfl | rfl | rfl | rfl | rfl <;> first | exact clo_of (by rfl) | exact clo_fn _ | assumption)) (toFeature x (by assumption)) (by first | exact clo_of (by rfl) | assumption) ?_
    | (refine AW.loopD hE (fun i : Nat => [.ro 5 (l.map TFeature.en), .any, .any, .own 0 0, I i, .any, .any, .any, .any, .any, .any, .any, .any, .any, .any, .any, .any, .any, .any, .any, .any, .any, .any]) (fun i => [some ⟨50, 5, 0, false, fil TFeature.en [I 0, I 0, I 0, S ⟨#[]⟩, .c (.slice none 0 0)] l i⟩]) (fun i => l.length - i) (fun i => i ≤ l.length) 0 (by simp) ?_ (by first | rfl | (simp [fil_zero]; done)) ?_)
    | (refine AW.cond (by rfl) (fun h => ?_) ?_; rotate_left; focus (intro h; (try simp only [Bool.not_eq_true', Bool.not_eq_false'] at h); first | (cases h; done) | exact clash (by with_reducible_and_instances assumption) h | exact clash h (by with_reducible_and_instances assumption) | exact absurd h (by decide) | (refine absurd h ?_; simp; done)))
    | (refine AW.cond (by rfl) ?_ (fun h => ?_); focus (intro h; (try simp only [Bool.not_eq_true', Bool.not_eq_false'] at h); first | (cases h; done) | exact clash (by with_reducible_and_instances assumption) h | exact clash h (by with_reducible_and_instances assumption) | exact absurd h (by decide) | (refine absurd h ?_; simp; done)))
    | (refine AW.cond (by rfl) ?_ ?_ <;> (intro h; try simp only [Bool.not_eq_true', Bool.not_eq_false'] at h))
    | refine AW.block ?_
    | refine AW.exit ?_
    | refine AL.nil ?_
    | refine AW.ret ?_) <;> (try dsimp only [dput, List.set, cond_true, cond_false, Nat.zero_add, Nat.add_zero, Nat.reduceAdd, splice, List.take, List.drop, List.length, List.nil_append, List.cons_append, TPoint.en, TSegment.en, TBox.en, TFeature.en, TMeet.en, TPlace.en, TCover.en, TLabel.en, TPiece.en, TLevel.en, TChart.en, TReason.en, TEdit.en, TEntry.en, TEdition.en, TListing.en, TAtlas.en, TEvent.en, TWindow.en]))
  · (repeat' (first | exact Wk.nil | refine Wk.any ?_ | (with_reducible refine Wk.same ?_) | refine Wk.of ?_ ?_)) <;> first | rfl | (simp)
  · intro i hi
    have hclo : Clo (.ro 5 (l.map TFeature.en)) := clo_list TFeature.clo_en
    by_cases hlt : i < l.length
    · obtain ⟨x, hx⟩ : ∃ x, l[i]? = some x := ⟨_, List.getElem?_eq_getElem hlt⟩
      have hg := map_get (f := TFeature.en) hx
      have ht := lt_true (f := TFeature.en) hlt
      have hn := next_ix hlt (by omega)
      have hz := fil_get (en := TFeature.en) (z := [I 0, I 0, I 0, S ⟨#[]⟩, .c (.slice none 0 0)]) hlt
      have ha := fil_at (en := TFeature.en) (z := [I 0, I 0, I 0, S ⟨#[]⟩, .c (.slice none 0 0)]) hlt
      have hs := fil_set (en := TFeature.en) (z := [I 0, I 0, I 0, S ⟨#[]⟩, .c (.slice none 0 0)]) hx
      have hpx := hp x (List.mem_of_getElem? hx)
      have hclo0 : Clo (.ro 2 (x.points.map TPoint.en)) := clo_list TPoint.clo_en
      have hcle : Clo (.agg x.en) := Clo.agg x.clo_en
      repeat' ((first
        | refine AW.seq ?_
        | refine AW.region ?_
        | refine AW.skip ?_
        | refine AL.q TT_ok rfl (by rfl) ?_
        | refine AL.step rfl ?_
        | refine OpA.quiet (QOp.atk_ro (by rfl) (by rfl) (by rfl) (by first | exact slk22 | exact slk27 | exact slk30 | exact slk54 | exact slk60) (Nat.le_of_ble_eq_true (by rfl)) (by first | assumption | omega) (by assumption)) ?_
        | refine OpA.quiet (QOp.ld1_ro (by rfl) (by rfl) (by assumption) (by first | exact ldk2 | exact ldk3 | exact ldk4 | exact ldk6 | exact ldk7 | exact ldk8 | exact ldk9 | exact ldk10 | exact ldk12 | exact ldk13 | exact ldk14 | exact ldk15 | exact ldk16 | exact ldk17 | exact ldk18 | exact ldk21 | exact ldk22 | exact ldk27 | exact ldk30 | exact ldk46 | exact ldk50 | exact ldk54 | exact ldk60) (by rfl)) ?_
        | refine OpA.quiet (QOp.ldr_ro (by rfl) (by rfl) (by assumption) (by first | exact ldk2 | exact ldk3 | exact ldk4 | exact ldk6 | exact ldk7 | exact ldk8 | exact ldk9 | exact ldk10 | exact ldk12 | exact ldk13 | exact ldk14 | exact ldk15 | exact ldk16 | exact ldk17 | exact ldk18 | exact ldk21 | exact ldk22 | exact ldk27 | exact ldk30 | exact ldk46 | exact ldk50 | exact ldk54 | exact ldk60) (Nat.le_of_ble_eq_true (by rfl))) ?_
        | refine OpA.quiet (QOp.at_own (by rfl) (by first | exact slk22 | exact slk27 | exact slk30 | exact slk54 | exact slk60) (by rfl) (by rfl) (by rfl) (by rfl) (by rfl) (by rfl) (by first | assumption | omega | decide) (by first | assumption | omega | decide)) ?_
        | refine OpA.quiet (QOp.len_own (by rfl) (by first | exact slk22 | exact slk27 | exact slk30 | exact slk54 | exact slk60) (by rfl) (by rfl) (by rfl) (by rfl)) ?_
        | (refine OpA.quiet (QOp.cat (by rfl) (by rfl) (by rfl) (by first | assumption | (simp only [ByteArray.size_append, bs_size] at *; omega))) ?_)
        | (refine OpA.pop (POp.make (by rfl) (by first | exact rwk22 | exact rwk27 | exact rwk30 | exact rwk54 | exact rwk60) (by rfl) (by rfl) (by first | assumption | omega) (by simp; omega) (by simp [maxLen]; omega)) ?_)
        | refine OpA.sto (by rfl) (by rfl) (by rfl) (by rfl) (by rfl) (by rfl) (by rfl) (by rfl) (by first | exact ldk2 | exact ldk3 | exact ldk4 | exact ldk6 | exact ldk7 | exact ldk8 | exact ldk9 | exact ldk10 | exact ldk12 | exact ldk13 | exact ldk14 | exact ldk15 | exact ldk16 | exact ldk17 | exact ldk18 | exact ldk21 | exact ldk22 | exact ldk27 | exact ldk30 | exact ldk46 | exact ldk50 | exact ldk54 | exact ldk60) (by rfl) (Nat.le_of_ble_eq_true (by rfl)) ?_
        | refine OpA.sto (by rfl) (by rfl) (by rfl) (by rfl) (by rfl) (by assumption) (by rfl) (by rfl) (by first | exact ldk2 | exact ldk3 | exact ldk4 | exact ldk6 | exact ldk7 | exact ldk8 | exact ldk9 | exact ldk10 | exact ldk12 | exact ldk13 | exact ldk14 | exact ldk15 | exact ldk16 | exact ldk17 | exact ldk18 | exact ldk21 | exact ldk22 | exact ldk27 | exact ldk30 | exact ldk46 | exact ldk50 | exact ldk54 | exact ldk60) (by rfl) (Nat.le_of_ble_eq_true (by rfl)) ?_
        | refine OpA.pcall (by rfl) Tryd.func29 rfl rfl (by rfl) (by first | exact clo_all (by rfl) | (intro x hx; simp only [List.mem_cons, List.not_mem_nil, or_false] at hx; rcases hx with rfl | rfl | rfl | rfl | rfl | rfl | rfl | rfl <;> first | exact clo_of (by rfl) | exact clo_fn _ | assumption)) (toFeature x (by assumption)) (by first | exact clo_of (by rfl) | assumption) ?_
        | (refine AW.cond (by rfl) (fun h => ?_) ?_; rotate_left; focus (intro h; (try simp only [Bool.not_eq_true', Bool.not_eq_false'] at h); first | (cases h; done) | exact clash (by with_reducible_and_instances assumption) h | exact clash h (by with_reducible_and_instances assumption) | exact absurd h (by decide) | (refine absurd h ?_; simp; done)))
        | (refine AW.cond (by rfl) ?_ (fun h => ?_); focus (intro h; (try simp only [Bool.not_eq_true', Bool.not_eq_false'] at h); first | (cases h; done) | exact clash (by with_reducible_and_instances assumption) h | exact clash h (by with_reducible_and_instances assumption) | exact absurd h (by decide) | (refine absurd h ?_; simp; done)))
        | (refine AW.cond (by rfl) ?_ ?_ <;> (intro h; try simp only [Bool.not_eq_true', Bool.not_eq_false'] at h))
        | refine AW.block ?_
        | refine AW.exit ?_
        | refine AL.nil ?_
        | refine AW.ret ?_) <;> (try dsimp only [dput, List.set, cond_true, cond_false, Nat.zero_add, Nat.add_zero, Nat.reduceAdd, splice, List.take, List.drop, List.length, List.nil_append, List.cons_append, TPoint.en, TSegment.en, TBox.en, TFeature.en, TMeet.en, TPlace.en, TCover.en, TLabel.en, TPiece.en, TLevel.en, TChart.en, TReason.en, TEdit.en, TEntry.en, TEdition.en, TListing.en, TAtlas.en, TEvent.en, TWindow.en]))
      all_goals first
        | (refine ⟨i + 1, [], hlt, by omega, ?_, by rw [← hs] <;> rfl, ?_, ?_⟩; (focus ((repeat' (first | exact Wk.nil | refine Wk.any ?_ | (with_reducible refine Wk.same ?_) | refine Wk.of ?_ ?_)) <;> (simp_all))); (focus ((repeat' (first | exact Fits.nil _ | refine Fits.cons ?_ ?_ | exact Fits.any _ | exact Fits.c _ _ | exact Fits.own (by rfl) | exact Fits.ref (by rfl) | exact Fits.clo (by assumption) | exact Fits.clo (clo_of (by rfl)) | exact Fits.clo (clo_fn _))))); (focus (exact fits_row (fil_clo (clo_all (by rfl)) TFeature.clo_en))))
    · have ht := lt_false (f := TFeature.en) hlt
      have e : i = l.length := by omega
      subst e
      try rw [List.take_length]
      repeat' ((first
        | refine AW.seq ?_
        | refine AW.region ?_
        | refine AW.skip ?_
        | refine AL.q TT_ok rfl (by rfl) ?_
        | refine AL.step rfl ?_
        | refine OpA.quiet (QOp.atk_ro (by rfl) (by rfl) (by rfl) (by first | exact slk22 | exact slk27 | exact slk30 | exact slk54 | exact slk60) (Nat.le_of_ble_eq_true (by rfl)) (by first | assumption | omega) (by assumption)) ?_
        | refine OpA.quiet (QOp.ld1_ro (by rfl) (by rfl) (by assumption) (by first | exact ldk2 | exact ldk3 | exact ldk4 | exact ldk6 | exact ldk7 | exact ldk8 | exact ldk9 | exact ldk10 | exact ldk12 | exact ldk13 | exact ldk14 | exact ldk15 | exact ldk16 | exact ldk17 | exact ldk18 | exact ldk21 | exact ldk22 | exact ldk27 | exact ldk30 | exact ldk46 | exact ldk50 | exact ldk54 | exact ldk60) (by rfl)) ?_
        | refine OpA.quiet (QOp.ldr_ro (by rfl) (by rfl) (by assumption) (by first | exact ldk2 | exact ldk3 | exact ldk4 | exact ldk6 | exact ldk7 | exact ldk8 | exact ldk9 | exact ldk10 | exact ldk12 | exact ldk13 | exact ldk14 | exact ldk15 | exact ldk16 | exact ldk17 | exact ldk18 | exact ldk21 | exact ldk22 | exact ldk27 | exact ldk30 | exact ldk46 | exact ldk50 | exact ldk54 | exact ldk60) (Nat.le_of_ble_eq_true (by rfl))) ?_
        | refine OpA.quiet (QOp.at_own (by rfl) (by first | exact slk22 | exact slk27 | exact slk30 | exact slk54 | exact slk60) (by rfl) (by rfl) (by rfl) (by rfl) (by rfl) (by rfl) (by first | assumption | omega | decide) (by first | assumption | omega | decide)) ?_
        | refine OpA.quiet (QOp.len_own (by rfl) (by first | exact slk22 | exact slk27 | exact slk30 | exact slk54 | exact slk60) (by rfl) (by rfl) (by rfl) (by rfl)) ?_
        | (refine OpA.quiet (QOp.cat (by rfl) (by rfl) (by rfl) (by first | assumption | (simp only [ByteArray.size_append, bs_size] at *; omega))) ?_)
        | (refine OpA.pop (POp.make (by rfl) (by first | exact rwk22 | exact rwk27 | exact rwk30 | exact rwk54 | exact rwk60) (by rfl) (by rfl) (by first | assumption | omega) (by simp; omega) (by simp [maxLen]; omega)) ?_)
        | refine OpA.sto (by rfl) (by rfl) (by rfl) (by rfl) (by rfl) (by rfl) (by rfl) (by rfl) (by first | exact ldk2 | exact ldk3 | exact ldk4 | exact ldk6 | exact ldk7 | exact ldk8 | exact ldk9 | exact ldk10 | exact ldk12 | exact ldk13 | exact ldk14 | exact ldk15 | exact ldk16 | exact ldk17 | exact ldk18 | exact ldk21 | exact ldk22 | exact ldk27 | exact ldk30 | exact ldk46 | exact ldk50 | exact ldk54 | exact ldk60) (by rfl) (Nat.le_of_ble_eq_true (by rfl)) ?_
        | refine OpA.sto (by rfl) (by rfl) (by rfl) (by rfl) (by rfl) (by assumption) (by rfl) (by rfl) (by first | exact ldk2 | exact ldk3 | exact ldk4 | exact ldk6 | exact ldk7 | exact ldk8 | exact ldk9 | exact ldk10 | exact ldk12 | exact ldk13 | exact ldk14 | exact ldk15 | exact ldk16 | exact ldk17 | exact ldk18 | exact ldk21 | exact ldk22 | exact ldk27 | exact ldk30 | exact ldk46 | exact ldk50 | exact ldk54 | exact ldk60) (by rfl) (Nat.le_of_ble_eq_true (by rfl)) ?_
        | refine OpA.pcall (by rfl) Tryd.func29 rfl rfl (by rfl) (by first | exact clo_all (by rfl) | (intro x hx; simp only [List.mem_cons, List.not_mem_nil, or_false] at hx; rcases hx with rfl | rfl | rfl | rfl | rfl | rfl | rfl | rfl <;> first | exact clo_of (by rfl) | exact clo_fn _ | assumption)) (toFeature x (by assumption)) (by first | exact clo_of (by rfl) | assumption) ?_
        | (refine AW.freezeRet (t := 2) (id := 0) rfl rfl rfl rfl (fil_clo (clo_all (by rfl)) TFeature.clo_en) ?_; simp only [fil_all])
        | (refine AW.cond (by rfl) (fun h => ?_) ?_; rotate_left; focus (intro h; (try simp only [Bool.not_eq_true', Bool.not_eq_false'] at h); first | (cases h; done) | exact clash (by with_reducible_and_instances assumption) h | exact clash h (by with_reducible_and_instances assumption) | exact absurd h (by decide) | (refine absurd h ?_; simp; done)))
        | (refine AW.cond (by rfl) ?_ (fun h => ?_); focus (intro h; (try simp only [Bool.not_eq_true', Bool.not_eq_false'] at h); first | (cases h; done) | exact clash (by with_reducible_and_instances assumption) h | exact clash h (by with_reducible_and_instances assumption) | exact absurd h (by decide) | (refine absurd h ?_; simp; done)))
        | (refine AW.cond (by rfl) ?_ ?_ <;> (intro h; try simp only [Bool.not_eq_true', Bool.not_eq_false'] at h))
        | refine AW.block ?_
        | refine AW.exit ?_
        | refine AL.nil ?_
        | refine AW.ret ?_) <;> (try dsimp only [dput, List.set, cond_true, cond_false, Nat.zero_add, Nat.add_zero, Nat.reduceAdd, splice, List.take, List.drop, List.length, List.nil_append, List.cons_append, TPoint.en, TSegment.en, TBox.en, TFeature.en, TMeet.en, TPlace.en, TCover.en, TLabel.en, TPiece.en, TLevel.en, TChart.en, TReason.en, TEdit.en, TEntry.en, TEdition.en, TListing.en, TAtlas.en, TEvent.en, TWindow.en]))
      all_goals exact Fin.one rfl (RV.tmp (by rfl)) hclo ⟨rfl, rfl⟩

set_option maxRecDepth 100000 in
set_option maxHeartbeats 2000000 in
theorem toLabel (x : TLabel) : VCalls Tryd.prog 65 [.agg x.en] (fun r M => r = .agg x.en ∧ M = []) := by
  refine VCalls.body Tryd.func65 rfl 14 rfl (fun E => ?_)
  simp only [List.reduceReplicate, List.cons_append, List.nil_append]
  dsimp only [TLabel.en]
  repeat' ((first
    | refine AW.seq ?_
    | refine AW.region ?_
    | refine AW.skip ?_
    | refine AL.q TT_ok rfl (by rfl) ?_
    | refine AL.step rfl ?_
    | refine OpA.box (by rfl) (by rfl) (by rfl) ?_
    | refine OpA.allocA (by rfl) (by first | exact ze2 | exact ze3 | exact ze4 | exact ze5 | exact ze6 | exact ze7 | exact ze8 | exact ze9 | exact ze10 | exact ze12 | exact ze13 | exact ze14 | exact ze71 | exact ze73 | exact ze91 | exact ze93 | exact ze102 | exact ze104) ?_
    | refine OpA.sto (by rfl) (by rfl) (by rfl) (by rfl) (by rfl) (by rfl) (by rfl) (by rfl) (by first | exact ldk2 | exact ldk3 | exact ldk4 | exact ldk5 | exact ldk6 | exact ldk7 | exact ldk8 | exact ldk9 | exact ldk10 | exact ldk12 | exact ldk13 | exact ldk14 | exact ldk71 | exact ldk73 | exact ldk91 | exact ldk93 | exact ldk102 | exact ldk104) (by rfl) (Nat.le_of_ble_eq_true (by rfl)) ?_
    | refine OpA.sto (by rfl) (by rfl) (by rfl) (by rfl) (by rfl) (by assumption) (by rfl) (by rfl) (by first | exact ldk2 | exact ldk3 | exact ldk4 | exact ldk5 | exact ldk6 | exact ldk7 | exact ldk8 | exact ldk9 | exact ldk10 | exact ldk12 | exact ldk13 | exact ldk14 | exact ldk71 | exact ldk73 | exact ldk91 | exact ldk93 | exact ldk102 | exact ldk104) (by rfl) (Nat.le_of_ble_eq_true (by rfl)) ?_
    | refine OpA.pcall (by rfl) Tryd.func75 rfl rfl (by rfl) (by first | exact clo_all (by rfl) | (intro x hx; simp only [List.mem_cons, List.not_mem_nil, or_false] at hx; rcases hx with rfl | rfl | rfl | rfl | rfl | rfl | rfl | rfl <;> first | exact clo_of (by rfl) | exact clo_fn _ | assumption)) (toBox x.box) (by first | exact clo_of (by rfl) | assumption) ?_
    | refine AL.nil ?_
    | refine AW.ret ?_) <;> (try dsimp only [dput, List.set, cond_true, cond_false, Nat.zero_add, Nat.add_zero, Nat.reduceAdd, splice, List.take, List.drop, List.length, List.nil_append, List.cons_append, TPoint.en, TSegment.en, TBox.en, TFeature.en, TMeet.en, TPlace.en, TCover.en, TLabel.en, TPiece.en, TLevel.en, TChart.en, TReason.en, TEdit.en, TEntry.en, TEdition.en, TListing.en, TAtlas.en, TEvent.en, TWindow.en]))
  all_goals exact Fin.one rfl (RV.cell (QOp.quietA TT_ok (by rfl))) (Clo.agg x.clo_en) ⟨by rfl, rfl⟩

set_option maxRecDepth 100000 in
set_option maxHeartbeats 2000000 in
theorem toLabelS (l : List TLabel) (hl : l.length ≤ 1048576) : VCalls Tryd.prog 57 [.ro 6 (l.map TLabel.en)] (fun r M => r = .ro 6 (l.map TLabel.en) ∧ M = []) := by
  refine VCalls.bodyE Tryd.func57 rfl 22 rfl (fun E hE => ?_)
  simp only [List.reduceReplicate, List.cons_append, List.nil_append]
  repeat' ((first
    | refine AW.seq ?_
    | refine AW.region ?_
    | refine AW.skip ?_
    | refine AL.q TT_ok rfl (by rfl) ?_
    | refine AL.step rfl ?_
    | refine OpA.quiet (QOp.atk_ro (by rfl) (by rfl) (by rfl) (by first | exact slk22 | exact slk55 | exact slk61) (Nat.le_of_ble_eq_true (by rfl)) (by first | assumption | omega) (by assumption)) ?_
    | refine OpA.quiet (QOp.ld1_ro (by rfl) (by rfl) (by assumption) (by first | exact ldk2 | exact ldk3 | exact ldk4 | exact ldk6 | exact ldk7 | exact ldk8 | exact ldk9 | exact ldk10 | exact ldk12 | exact ldk13 | exact ldk14 | exact ldk15 | exact ldk16 | exact ldk17 | exact ldk18 | exact ldk21 | exact ldk22 | exact ldk55 | exact ldk61 | exact ldk91 | exact ldk93 | exact ldk102 | exact ldk104) (by rfl)) ?_
    | refine OpA.quiet (QOp.ldr_ro (by rfl) (by rfl) (by assumption) (by first | exact ldk2 | exact ldk3 | exact ldk4 | exact ldk6 | exact ldk7 | exact ldk8 | exact ldk9 | exact ldk10 | exact ldk12 | exact ldk13 | exact ldk14 | exact ldk15 | exact ldk16 | exact ldk17 | exact ldk18 | exact ldk21 | exact ldk22 | exact ldk55 | exact ldk61 | exact ldk91 | exact ldk93 | exact ldk102 | exact ldk104) (Nat.le_of_ble_eq_true (by rfl))) ?_
    | refine OpA.quiet (QOp.at_own (by rfl) (by first | exact slk22 | exact slk55 | exact slk61) (by rfl) (by rfl) (by rfl) (by rfl) (by rfl) (by rfl) (by first | assumption | omega | decide) (by first | assumption | omega | decide)) ?_
    | refine OpA.quiet (QOp.len_own (by rfl) (by first | exact slk22 | exact slk55 | exact slk61) (by rfl) (by rfl) (by rfl) (by rfl)) ?_
    | (refine OpA.quiet (QOp.cat (by rfl) (by rfl) (by rfl) (by first | assumption | (simp only [ByteArray.size_append, bs_size] at *; omega))) ?_)
    | (refine OpA.pop (POp.make (by rfl) (by first | exact rwk22 | exact rwk55 | exact rwk61) (by rfl) (by rfl) (by first | assumption | omega) (by simp; omega) (by simp [maxLen]; omega)) ?_)
    | refine OpA.sto (by rfl) (by rfl) (by rfl) (by rfl) (by rfl) (by rfl) (by rfl) (by rfl) (by first | exact ldk2 | exact ldk3 | exact ldk4 | exact ldk6 | exact ldk7 | exact ldk8 | exact ldk9 | exact ldk10 | exact ldk12 | exact ldk13 | exact ldk14 | exact ldk15 | exact ldk16 | exact ldk17 | exact ldk18 | exact ldk21 | exact ldk22 | exact ldk55 | exact ldk61 | exact ldk91 | exact ldk93 | exact ldk102 | exact ldk104) (by rfl) (Nat.le_of_ble_eq_true (by rfl)) ?_
    | refine OpA.sto (by rfl) (by rfl) (by rfl) (by rfl) (by rfl) (by assumption) (by rfl) (by rfl) (by first | exact ldk2 | exact ldk3 | exact ldk4 | exact ldk6 | exact ldk7 | exact ldk8 | exact ldk9 | exact ldk10 | exact ldk12 | exact ldk13 | exact ldk14 | exact ldk15 | exact ldk16 | exact ldk17 | exact ldk18 | exact ldk21 | exact ldk22 | exact ldk55 | exact ldk61 | exact ldk91 | exact ldk93 | exact ldk102 | exact ldk104) (by rfl) (Nat.le_of_ble_eq_true (by rfl)) ?_
    | refine OpA.pcall (by rfl) Tryd.func65 rfl rfl (by rfl) (by first | exact clo_all (by rfl) | (intro x hx; simp only [List.mem_cons, List.not_mem_nil, or_false] at hx; rcases hx with rfl | rfl | rfl | rfl | rfl | rfl | rfl | rfl <;> first | exact clo_of (by rfl) | exact clo_fn _ | assumption)) (toLabel x) (by first | exact clo_of (by rfl) | assumption) ?_
    | (refine AW.loopD hE (fun i : Nat => [.ro 6 (l.map TLabel.en), .any, .any, .own 0 0, I i, .any, .any, .any, .any, .any, .any, .any, .any, .any, .any, .any, .any, .any, .any, .any, .any, .any, .any]) (fun i => [some ⟨93, 6, 0, false, fil TLabel.en [I 0, S ⟨#[]⟩, I 0, I 0, I 0, I 0] l i⟩]) (fun i => l.length - i) (fun i => i ≤ l.length) 0 (by simp) ?_ (by first | rfl | (simp [fil_zero]; done)) ?_)
    | (refine AW.cond (by rfl) (fun h => ?_) ?_; rotate_left; focus (intro h; (try simp only [Bool.not_eq_true', Bool.not_eq_false'] at h); first | (cases h; done) | exact clash (by with_reducible_and_instances assumption) h | exact clash h (by with_reducible_and_instances assumption) | exact absurd h (by decide) | (refine absurd h ?_; simp; done)))
    | (refine AW.cond (by rfl) ?_ (fun h => ?_); focus (intro h; (try simp only [Bool.not_eq_true', Bool.not_eq_false'] at h); first | (cases h; done) | exact clash (by with_reducible_and_instances assumption) h | exact clash h (by with_reducible_and_instances assumption) | exact absurd h (by decide) | (refine absurd h ?_; simp; done)))
    | (refine AW.cond (by rfl) ?_ ?_ <;> (intro h; try simp only [Bool.not_eq_true', Bool.not_eq_false'] at h))
    | refine AW.block ?_
    | refine AW.exit ?_
    | refine AL.nil ?_
    | refine AW.ret ?_) <;> (try dsimp only [dput, List.set, cond_true, cond_false, Nat.zero_add, Nat.add_zero, Nat.reduceAdd, splice, List.take, List.drop, List.length, List.nil_append, List.cons_append, TPoint.en, TSegment.en, TBox.en, TFeature.en, TMeet.en, TPlace.en, TCover.en, TLabel.en, TPiece.en, TLevel.en, TChart.en, TReason.en, TEdit.en, TEntry.en, TEdition.en, TListing.en, TAtlas.en, TEvent.en, TWindow.en]))
  · (repeat' (first | exact Wk.nil | refine Wk.any ?_ | (with_reducible refine Wk.same ?_) | refine Wk.of ?_ ?_)) <;> first | rfl | (simp)
  · intro i hi
    have hclo : Clo (.ro 6 (l.map TLabel.en)) := clo_list TLabel.clo_en
    by_cases hlt : i < l.length
    · obtain ⟨x, hx⟩ : ∃ x, l[i]? = some x := ⟨_, List.getElem?_eq_getElem hlt⟩
      have hg := map_get (f := TLabel.en) hx
      have ht := lt_true (f := TLabel.en) hlt
      have hn := next_ix hlt (by omega)
      have hz := fil_get (en := TLabel.en) (z := [I 0, S ⟨#[]⟩, I 0, I 0, I 0, I 0]) hlt
      have ha := fil_at (en := TLabel.en) (z := [I 0, S ⟨#[]⟩, I 0, I 0, I 0, I 0]) hlt
      have hs := fil_set (en := TLabel.en) (z := [I 0, S ⟨#[]⟩, I 0, I 0, I 0, I 0]) hx
      repeat' ((first
        | refine AW.seq ?_
        | refine AW.region ?_
        | refine AW.skip ?_
        | refine AL.q TT_ok rfl (by rfl) ?_
        | refine AL.step rfl ?_
        | refine OpA.quiet (QOp.atk_ro (by rfl) (by rfl) (by rfl) (by first | exact slk22 | exact slk55 | exact slk61) (Nat.le_of_ble_eq_true (by rfl)) (by first | assumption | omega) (by assumption)) ?_
        | refine OpA.quiet (QOp.ld1_ro (by rfl) (by rfl) (by assumption) (by first | exact ldk2 | exact ldk3 | exact ldk4 | exact ldk6 | exact ldk7 | exact ldk8 | exact ldk9 | exact ldk10 | exact ldk12 | exact ldk13 | exact ldk14 | exact ldk15 | exact ldk16 | exact ldk17 | exact ldk18 | exact ldk21 | exact ldk22 | exact ldk55 | exact ldk61 | exact ldk91 | exact ldk93 | exact ldk102 | exact ldk104) (by rfl)) ?_
        | refine OpA.quiet (QOp.ldr_ro (by rfl) (by rfl) (by assumption) (by first | exact ldk2 | exact ldk3 | exact ldk4 | exact ldk6 | exact ldk7 | exact ldk8 | exact ldk9 | exact ldk10 | exact ldk12 | exact ldk13 | exact ldk14 | exact ldk15 | exact ldk16 | exact ldk17 | exact ldk18 | exact ldk21 | exact ldk22 | exact ldk55 | exact ldk61 | exact ldk91 | exact ldk93 | exact ldk102 | exact ldk104) (Nat.le_of_ble_eq_true (by rfl))) ?_
        | refine OpA.quiet (QOp.at_own (by rfl) (by first | exact slk22 | exact slk55 | exact slk61) (by rfl) (by rfl) (by rfl) (by rfl) (by rfl) (by rfl) (by first | assumption | omega | decide) (by first | assumption | omega | decide)) ?_
        | refine OpA.quiet (QOp.len_own (by rfl) (by first | exact slk22 | exact slk55 | exact slk61) (by rfl) (by rfl) (by rfl) (by rfl)) ?_
        | (refine OpA.quiet (QOp.cat (by rfl) (by rfl) (by rfl) (by first | assumption | (simp only [ByteArray.size_append, bs_size] at *; omega))) ?_)
        | (refine OpA.pop (POp.make (by rfl) (by first | exact rwk22 | exact rwk55 | exact rwk61) (by rfl) (by rfl) (by first | assumption | omega) (by simp; omega) (by simp [maxLen]; omega)) ?_)
        | refine OpA.sto (by rfl) (by rfl) (by rfl) (by rfl) (by rfl) (by rfl) (by rfl) (by rfl) (by first | exact ldk2 | exact ldk3 | exact ldk4 | exact ldk6 | exact ldk7 | exact ldk8 | exact ldk9 | exact ldk10 | exact ldk12 | exact ldk13 | exact ldk14 | exact ldk15 | exact ldk16 | exact ldk17 | exact ldk18 | exact ldk21 | exact ldk22 | exact ldk55 | exact ldk61 | exact ldk91 | exact ldk93 | exact ldk102 | exact ldk104) (by rfl) (Nat.le_of_ble_eq_true (by rfl)) ?_
        | refine OpA.sto (by rfl) (by rfl) (by rfl) (by rfl) (by rfl) (by assumption) (by rfl) (by rfl) (by first | exact ldk2 | exact ldk3 | exact ldk4 | exact ldk6 | exact ldk7 | exact ldk8 | exact ldk9 | exact ldk10 | exact ldk12 | exact ldk13 | exact ldk14 | exact ldk15 | exact ldk16 | exact ldk17 | exact ldk18 | exact ldk21 | exact ldk22 | exact ldk55 | exact ldk61 | exact ldk91 | exact ldk93 | exact ldk102 | exact ldk104) (by rfl) (Nat.le_of_ble_eq_true (by rfl)) ?_
        | refine OpA.pcall (by rfl) Tryd.func65 rfl rfl (by rfl) (by first | exact clo_all (by rfl) | (intro x hx; simp only [List.mem_cons, List.not_mem_nil, or_false] at hx; rcases hx with rfl | rfl | rfl | rfl | rfl | rfl | rfl | rfl <;> first | exact clo_of (by rfl) | exact clo_fn _ | assumption)) (toLabel x) (by first | exact clo_of (by rfl) | assumption) ?_
        | (refine AW.cond (by rfl) (fun h => ?_) ?_; rotate_left; focus (intro h; (try simp only [Bool.not_eq_true', Bool.not_eq_false'] at h); first | (cases h; done) | exact clash (by with_reducible_and_instances assumption) h | exact clash h (by with_reducible_and_instances assumption) | exact absurd h (by decide) | (refine absurd h ?_; simp; done)))
        | (refine AW.cond (by rfl) ?_ (fun h => ?_); focus (intro h; (try simp only [Bool.not_eq_true', Bool.not_eq_false'] at h); first | (cases h; done) | exact clash (by with_reducible_and_instances assumption) h | exact clash h (by with_reducible_and_instances assumption) | exact absurd h (by decide) | (refine absurd h ?_; simp; done)))
        | (refine AW.cond (by rfl) ?_ ?_ <;> (intro h; try simp only [Bool.not_eq_true', Bool.not_eq_false'] at h))
        | refine AW.block ?_
        | refine AW.exit ?_
        | refine AL.nil ?_
        | refine AW.ret ?_) <;> (try dsimp only [dput, List.set, cond_true, cond_false, Nat.zero_add, Nat.add_zero, Nat.reduceAdd, splice, List.take, List.drop, List.length, List.nil_append, List.cons_append, TPoint.en, TSegment.en, TBox.en, TFeature.en, TMeet.en, TPlace.en, TCover.en, TLabel.en, TPiece.en, TLevel.en, TChart.en, TReason.en, TEdit.en, TEntry.en, TEdition.en, TListing.en, TAtlas.en, TEvent.en, TWindow.en]))
      all_goals first
        | (refine ⟨i + 1, [], hlt, by omega, ?_, by rw [← hs] <;> rfl, ?_, ?_⟩; (focus ((repeat' (first | exact Wk.nil | refine Wk.any ?_ | (with_reducible refine Wk.same ?_) | refine Wk.of ?_ ?_)) <;> (simp_all))); (focus ((repeat' (first | exact Fits.nil _ | refine Fits.cons ?_ ?_ | exact Fits.any _ | exact Fits.c _ _ | exact Fits.own (by rfl) | exact Fits.ref (by rfl) | exact Fits.clo (by assumption) | exact Fits.clo (clo_of (by rfl)) | exact Fits.clo (clo_fn _))))); (focus (exact fits_row (fil_clo (clo_all (by rfl)) TLabel.clo_en))))
    · have ht := lt_false (f := TLabel.en) hlt
      have e : i = l.length := by omega
      subst e
      try rw [List.take_length]
      repeat' ((first
        | refine AW.seq ?_
        | refine AW.region ?_
        | refine AW.skip ?_
        | refine AL.q TT_ok rfl (by rfl) ?_
        | refine AL.step rfl ?_
        | refine OpA.quiet (QOp.atk_ro (by rfl) (by rfl) (by rfl) (by first | exact slk22 | exact slk55 | exact slk61) (Nat.le_of_ble_eq_true (by rfl)) (by first | assumption | omega) (by assumption)) ?_
        | refine OpA.quiet (QOp.ld1_ro (by rfl) (by rfl) (by assumption) (by first | exact ldk2 | exact ldk3 | exact ldk4 | exact ldk6 | exact ldk7 | exact ldk8 | exact ldk9 | exact ldk10 | exact ldk12 | exact ldk13 | exact ldk14 | exact ldk15 | exact ldk16 | exact ldk17 | exact ldk18 | exact ldk21 | exact ldk22 | exact ldk55 | exact ldk61 | exact ldk91 | exact ldk93 | exact ldk102 | exact ldk104) (by rfl)) ?_
        | refine OpA.quiet (QOp.ldr_ro (by rfl) (by rfl) (by assumption) (by first | exact ldk2 | exact ldk3 | exact ldk4 | exact ldk6 | exact ldk7 | exact ldk8 | exact ldk9 | exact ldk10 | exact ldk12 | exact ldk13 | exact ldk14 | exact ldk15 | exact ldk16 | exact ldk17 | exact ldk18 | exact ldk21 | exact ldk22 | exact ldk55 | exact ldk61 | exact ldk91 | exact ldk93 | exact ldk102 | exact ldk104) (Nat.le_of_ble_eq_true (by rfl))) ?_
        | refine OpA.quiet (QOp.at_own (by rfl) (by first | exact slk22 | exact slk55 | exact slk61) (by rfl) (by rfl) (by rfl) (by rfl) (by rfl) (by rfl) (by first | assumption | omega | decide) (by first | assumption | omega | decide)) ?_
        | refine OpA.quiet (QOp.len_own (by rfl) (by first | exact slk22 | exact slk55 | exact slk61) (by rfl) (by rfl) (by rfl) (by rfl)) ?_
        | (refine OpA.quiet (QOp.cat (by rfl) (by rfl) (by rfl) (by first | assumption | (simp only [ByteArray.size_append, bs_size] at *; omega))) ?_)
        | (refine OpA.pop (POp.make (by rfl) (by first | exact rwk22 | exact rwk55 | exact rwk61) (by rfl) (by rfl) (by first | assumption | omega) (by simp; omega) (by simp [maxLen]; omega)) ?_)
        | refine OpA.sto (by rfl) (by rfl) (by rfl) (by rfl) (by rfl) (by rfl) (by rfl) (by rfl) (by first | exact ldk2 | exact ldk3 | exact ldk4 | exact ldk6 | exact ldk7 | exact ldk8 | exact ldk9 | exact ldk10 | exact ldk12 | exact ldk13 | exact ldk14 | exact ldk15 | exact ldk16 | exact ldk17 | exact ldk18 | exact ldk21 | exact ldk22 | exact ldk55 | exact ldk61 | exact ldk91 | exact ldk93 | exact ldk102 | exact ldk104) (by rfl) (Nat.le_of_ble_eq_true (by rfl)) ?_
        | refine OpA.sto (by rfl) (by rfl) (by rfl) (by rfl) (by rfl) (by assumption) (by rfl) (by rfl) (by first | exact ldk2 | exact ldk3 | exact ldk4 | exact ldk6 | exact ldk7 | exact ldk8 | exact ldk9 | exact ldk10 | exact ldk12 | exact ldk13 | exact ldk14 | exact ldk15 | exact ldk16 | exact ldk17 | exact ldk18 | exact ldk21 | exact ldk22 | exact ldk55 | exact ldk61 | exact ldk91 | exact ldk93 | exact ldk102 | exact ldk104) (by rfl) (Nat.le_of_ble_eq_true (by rfl)) ?_
        | refine OpA.pcall (by rfl) Tryd.func65 rfl rfl (by rfl) (by first | exact clo_all (by rfl) | (intro x hx; simp only [List.mem_cons, List.not_mem_nil, or_false] at hx; rcases hx with rfl | rfl | rfl | rfl | rfl | rfl | rfl | rfl <;> first | exact clo_of (by rfl) | exact clo_fn _ | assumption)) (toLabel x) (by first | exact clo_of (by rfl) | assumption) ?_
        | (refine AW.freezeRet (t := 2) (id := 0) rfl rfl rfl rfl (fil_clo (clo_all (by rfl)) TLabel.clo_en) ?_; simp only [fil_all])
        | (refine AW.cond (by rfl) (fun h => ?_) ?_; rotate_left; focus (intro h; (try simp only [Bool.not_eq_true', Bool.not_eq_false'] at h); first | (cases h; done) | exact clash (by with_reducible_and_instances assumption) h | exact clash h (by with_reducible_and_instances assumption) | exact absurd h (by decide) | (refine absurd h ?_; simp; done)))
        | (refine AW.cond (by rfl) ?_ (fun h => ?_); focus (intro h; (try simp only [Bool.not_eq_true', Bool.not_eq_false'] at h); first | (cases h; done) | exact clash (by with_reducible_and_instances assumption) h | exact clash h (by with_reducible_and_instances assumption) | exact absurd h (by decide) | (refine absurd h ?_; simp; done)))
        | (refine AW.cond (by rfl) ?_ ?_ <;> (intro h; try simp only [Bool.not_eq_true', Bool.not_eq_false'] at h))
        | refine AW.block ?_
        | refine AW.exit ?_
        | refine AL.nil ?_
        | refine AW.ret ?_) <;> (try dsimp only [dput, List.set, cond_true, cond_false, Nat.zero_add, Nat.add_zero, Nat.reduceAdd, splice, List.take, List.drop, List.length, List.nil_append, List.cons_append, TPoint.en, TSegment.en, TBox.en, TFeature.en, TMeet.en, TPlace.en, TCover.en, TLabel.en, TPiece.en, TLevel.en, TChart.en, TReason.en, TEdit.en, TEntry.en, TEdition.en, TListing.en, TAtlas.en, TEvent.en, TWindow.en]))
      all_goals exact Fin.one rfl (RV.tmp (by rfl)) hclo ⟨rfl, rfl⟩

set_option maxRecDepth 100000 in
set_option maxHeartbeats 2000000 in
theorem toChart (x : TChart) (hs : x.sm) : VCalls Tryd.prog 34 [.agg x.en] (fun r M => r = .agg x.en ∧ M = []) := by
  refine VCalls.body Tryd.func34 rfl 12 rfl (fun E => ?_)
  simp only [List.reduceReplicate, List.cons_append, List.nil_append]
  have hclo0 : Clo (.ro 5 (x.features.map TFeature.en)) := clo_list TFeature.clo_en
  have hclo1 : Clo (.ro 6 (x.labels.map TLabel.en)) := clo_list TLabel.clo_en
  have hcle : Clo (.agg x.en) := Clo.agg x.clo_en
  have hs' := hs
  obtain ⟨⟨hs0, hs0'⟩, hs1⟩ := hs
  dsimp only [TChart.en]
  repeat' ((first
    | refine AW.seq ?_
    | refine AW.region ?_
    | refine AW.skip ?_
    | refine AL.q TT_ok rfl (by rfl) ?_
    | refine AL.step rfl ?_
    | refine OpA.quiet (QOp.ld1_ro (by rfl) (by rfl) (by assumption) (by first | exact ldk2 | exact ldk3 | exact ldk4 | exact ldk6 | exact ldk7 | exact ldk8 | exact ldk10 | exact ldk11 | exact ldk12 | exact ldk46 | exact ldk50 | exact ldk54 | exact ldk55 | exact ldk57 | exact ldk60 | exact ldk61 | exact ldk63 | exact ldk93 | exact ldk104) (by rfl)) ?_
    | refine OpA.quiet (QOp.ldr_ro (by rfl) (by rfl) (by assumption) (by first | exact ldk2 | exact ldk3 | exact ldk4 | exact ldk6 | exact ldk7 | exact ldk8 | exact ldk10 | exact ldk11 | exact ldk12 | exact ldk46 | exact ldk50 | exact ldk54 | exact ldk55 | exact ldk57 | exact ldk60 | exact ldk61 | exact ldk63 | exact ldk93 | exact ldk104) (Nat.le_of_ble_eq_true (by rfl))) ?_
    | refine OpA.box (by rfl) (by rfl) (by rfl) ?_
    | refine OpA.allocA (by rfl) (by first | exact ze2 | exact ze3 | exact ze4 | exact ze6 | exact ze7 | exact ze8 | exact ze10 | exact ze11 | exact ze12 | exact ze46 | exact ze50 | exact ze54 | exact ze55 | exact ze57 | exact ze60 | exact ze61 | exact ze63 | exact ze93 | exact ze104) ?_
    | refine OpA.sto (by rfl) (by rfl) (by rfl) (by rfl) (by rfl) (by rfl) (by rfl) (by rfl) (by first | exact ldk2 | exact ldk3 | exact ldk4 | exact ldk6 | exact ldk7 | exact ldk8 | exact ldk10 | exact ldk11 | exact ldk12 | exact ldk46 | exact ldk50 | exact ldk54 | exact ldk55 | exact ldk57 | exact ldk60 | exact ldk61 | exact ldk63 | exact ldk93 | exact ldk104) (by rfl) (Nat.le_of_ble_eq_true (by rfl)) ?_
    | refine OpA.sto (by rfl) (by rfl) (by rfl) (by rfl) (by rfl) (by assumption) (by rfl) (by rfl) (by first | exact ldk2 | exact ldk3 | exact ldk4 | exact ldk6 | exact ldk7 | exact ldk8 | exact ldk10 | exact ldk11 | exact ldk12 | exact ldk46 | exact ldk50 | exact ldk54 | exact ldk55 | exact ldk57 | exact ldk60 | exact ldk61 | exact ldk63 | exact ldk93 | exact ldk104) (by rfl) (Nat.le_of_ble_eq_true (by rfl)) ?_
    | refine OpA.pcall (by rfl) Tryd.func56 rfl rfl (by rfl) (by first | exact clo_all (by rfl) | (intro x hx; simp only [List.mem_cons, List.not_mem_nil, or_false] at hx; rcases hx with rfl | rfl | rfl | rfl | rfl | rfl | rfl | rfl <;> first | exact clo_of (by rfl) | exact clo_fn _ | assumption)) (toFeatureS _ (by assumption) (by assumption)) (by first | exact clo_of (by rfl) | assumption) ?_
    | refine OpA.pcall (by rfl) Tryd.func57 rfl rfl (by rfl) (by first | exact clo_all (by rfl) | (intro x hx; simp only [List.mem_cons, List.not_mem_nil, or_false] at hx; rcases hx with rfl | rfl | rfl | rfl | rfl | rfl | rfl | rfl <;> first | exact clo_of (by rfl) | exact clo_fn _ | assumption)) (toLabelS _ (by assumption)) (by first | exact clo_of (by rfl) | assumption) ?_
    | refine AL.nil ?_
    | refine AW.ret ?_) <;> (try dsimp only [dput, List.set, cond_true, cond_false, Nat.zero_add, Nat.add_zero, Nat.reduceAdd, splice, List.take, List.drop, List.length, List.nil_append, List.cons_append, TPoint.en, TSegment.en, TBox.en, TFeature.en, TMeet.en, TPlace.en, TCover.en, TLabel.en, TPiece.en, TLevel.en, TChart.en, TReason.en, TEdit.en, TEntry.en, TEdition.en, TListing.en, TAtlas.en, TEvent.en, TWindow.en]))
  all_goals exact Fin.one rfl (RV.cell (QOp.quietA TT_ok (by rfl))) (Clo.agg x.clo_en) ⟨by rfl, rfl⟩

set_option maxRecDepth 100000 in
set_option maxHeartbeats 2000000 in
theorem toReason (x : TReason) : VCalls Tryd.prog 50 [.agg x.en] (fun r M => r = .agg x.en ∧ M = []) := by
  refine VCalls.body Tryd.func50 rfl 13 rfl (fun E => ?_)
  simp only [List.reduceReplicate, List.cons_append, List.nil_append]
  dsimp only [TReason.en]
  repeat' ((first
    | refine AW.seq ?_
    | refine AW.region ?_
    | refine AW.skip ?_
    | refine AL.q TT_ok rfl (by rfl) ?_
    | refine AL.step rfl ?_
    | refine OpA.box (by rfl) (by rfl) (by rfl) ?_
    | refine OpA.allocA (by rfl) (by first | exact ze2 | exact ze3 | exact ze4 | exact ze5 | exact ze6 | exact ze7 | exact ze8 | exact ze9 | exact ze10 | exact ze11 | exact ze12 | exact ze13 | exact ze83 | exact ze85) ?_
    | refine OpA.sto (by rfl) (by rfl) (by rfl) (by rfl) (by rfl) (by rfl) (by rfl) (by rfl) (by first | exact ldk2 | exact ldk3 | exact ldk4 | exact ldk5 | exact ldk6 | exact ldk7 | exact ldk8 | exact ldk9 | exact ldk10 | exact ldk11 | exact ldk12 | exact ldk13 | exact ldk83 | exact ldk85) (by rfl) (Nat.le_of_ble_eq_true (by rfl)) ?_
    | refine OpA.sto (by rfl) (by rfl) (by rfl) (by rfl) (by rfl) (by assumption) (by rfl) (by rfl) (by first | exact ldk2 | exact ldk3 | exact ldk4 | exact ldk5 | exact ldk6 | exact ldk7 | exact ldk8 | exact ldk9 | exact ldk10 | exact ldk11 | exact ldk12 | exact ldk13 | exact ldk83 | exact ldk85) (by rfl) (Nat.le_of_ble_eq_true (by rfl)) ?_
    | refine AL.nil ?_
    | refine AW.ret ?_) <;> (try dsimp only [dput, List.set, cond_true, cond_false, Nat.zero_add, Nat.add_zero, Nat.reduceAdd, splice, List.take, List.drop, List.length, List.nil_append, List.cons_append, TPoint.en, TSegment.en, TBox.en, TFeature.en, TMeet.en, TPlace.en, TCover.en, TLabel.en, TPiece.en, TLevel.en, TChart.en, TReason.en, TEdit.en, TEntry.en, TEdition.en, TListing.en, TAtlas.en, TEvent.en, TWindow.en]))
  all_goals exact Fin.one rfl (RV.cell (QOp.quietA TT_ok (by rfl))) (Clo.agg x.clo_en) ⟨by rfl, rfl⟩

set_option maxRecDepth 100000 in
set_option maxHeartbeats 2000000 in
theorem toReasonS (l : List TReason) (hl : l.length ≤ 1048576) : VCalls Tryd.prog 24 [.ro 3 (l.map TReason.en)] (fun r M => r = .ro 3 (l.map TReason.en) ∧ M = []) := by
  refine VCalls.bodyE Tryd.func24 rfl 22 rfl (fun E hE => ?_)
  simp only [List.reduceReplicate, List.cons_append, List.nil_append]
  repeat' ((first
    | refine AW.seq ?_
    | refine AW.region ?_
    | refine AW.skip ?_
    | refine AL.q TT_ok rfl (by rfl) ?_
    | refine AL.step rfl ?_
    | refine OpA.quiet (QOp.atk_ro (by rfl) (by rfl) (by rfl) (by first | exact slk22 | exact slk38 | exact slk41) (Nat.le_of_ble_eq_true (by rfl)) (by first | assumption | omega) (by assumption)) ?_
    | refine OpA.quiet (QOp.ld1_ro (by rfl) (by rfl) (by assumption) (by first | exact ldk2 | exact ldk3 | exact ldk4 | exact ldk6 | exact ldk7 | exact ldk8 | exact ldk9 | exact ldk10 | exact ldk12 | exact ldk13 | exact ldk14 | exact ldk15 | exact ldk16 | exact ldk17 | exact ldk18 | exact ldk21 | exact ldk22 | exact ldk38 | exact ldk41 | exact ldk83 | exact ldk85) (by rfl)) ?_
    | refine OpA.quiet (QOp.ldr_ro (by rfl) (by rfl) (by assumption) (by first | exact ldk2 | exact ldk3 | exact ldk4 | exact ldk6 | exact ldk7 | exact ldk8 | exact ldk9 | exact ldk10 | exact ldk12 | exact ldk13 | exact ldk14 | exact ldk15 | exact ldk16 | exact ldk17 | exact ldk18 | exact ldk21 | exact ldk22 | exact ldk38 | exact ldk41 | exact ldk83 | exact ldk85) (Nat.le_of_ble_eq_true (by rfl))) ?_
    | refine OpA.quiet (QOp.at_own (by rfl) (by first | exact slk22 | exact slk38 | exact slk41) (by rfl) (by rfl) (by rfl) (by rfl) (by rfl) (by rfl) (by first | assumption | omega | decide) (by first | assumption | omega | decide)) ?_
    | refine OpA.quiet (QOp.len_own (by rfl) (by first | exact slk22 | exact slk38 | exact slk41) (by rfl) (by rfl) (by rfl) (by rfl)) ?_
    | (refine OpA.quiet (QOp.cat (by rfl) (by rfl) (by rfl) (by first | assumption | (simp only [ByteArray.size_append, bs_size] at *; omega))) ?_)
    | (refine OpA.pop (POp.make (by rfl) (by first | exact rwk22 | exact rwk38 | exact rwk41) (by rfl) (by rfl) (by first | assumption | omega) (by simp; omega) (by simp [maxLen]; omega)) ?_)
    | refine OpA.sto (by rfl) (by rfl) (by rfl) (by rfl) (by rfl) (by rfl) (by rfl) (by rfl) (by first | exact ldk2 | exact ldk3 | exact ldk4 | exact ldk6 | exact ldk7 | exact ldk8 | exact ldk9 | exact ldk10 | exact ldk12 | exact ldk13 | exact ldk14 | exact ldk15 | exact ldk16 | exact ldk17 | exact ldk18 | exact ldk21 | exact ldk22 | exact ldk38 | exact ldk41 | exact ldk83 | exact ldk85) (by rfl) (Nat.le_of_ble_eq_true (by rfl)) ?_
    | refine OpA.sto (by rfl) (by rfl) (by rfl) (by rfl) (by rfl) (by assumption) (by rfl) (by rfl) (by first | exact ldk2 | exact ldk3 | exact ldk4 | exact ldk6 | exact ldk7 | exact ldk8 | exact ldk9 | exact ldk10 | exact ldk12 | exact ldk13 | exact ldk14 | exact ldk15 | exact ldk16 | exact ldk17 | exact ldk18 | exact ldk21 | exact ldk22 | exact ldk38 | exact ldk41 | exact ldk83 | exact ldk85) (by rfl) (Nat.le_of_ble_eq_true (by rfl)) ?_
    | refine OpA.pcall (by rfl) Tryd.func50 rfl rfl (by rfl) (by first | exact clo_all (by rfl) | (intro x hx; simp only [List.mem_cons, List.not_mem_nil, or_false] at hx; rcases hx with rfl | rfl | rfl | rfl | rfl | rfl | rfl | rfl <;> first | exact clo_of (by rfl) | exact clo_fn _ | assumption)) (toReason x) (by first | exact clo_of (by rfl) | assumption) ?_
    | (refine AW.loopD hE (fun i : Nat => [.ro 3 (l.map TReason.en), .any, .any, .own 0 0, I i, .any, .any, .any, .any, .any, .any, .any, .any, .any, .any, .any, .any, .any, .any, .any, .any, .any, .any]) (fun i => [some ⟨83, 3, 0, false, fil TReason.en [I 0, I 0, I 0] l i⟩]) (fun i => l.length - i) (fun i => i ≤ l.length) 0 (by simp) ?_ (by first | rfl | (simp [fil_zero]; done)) ?_)
    | (refine AW.cond (by rfl) (fun h => ?_) ?_; rotate_left; focus (intro h; (try simp only [Bool.not_eq_true', Bool.not_eq_false'] at h); first | (cases h; done) | exact clash (by with_reducible_and_instances assumption) h | exact clash h (by with_reducible_and_instances assumption) | exact absurd h (by decide) | (refine absurd h ?_; simp; done)))
    | (refine AW.cond (by rfl) ?_ (fun h => ?_); focus (intro h; (try simp only [Bool.not_eq_true', Bool.not_eq_false'] at h); first | (cases h; done) | exact clash (by with_reducible_and_instances assumption) h | exact clash h (by with_reducible_and_instances assumption) | exact absurd h (by decide) | (refine absurd h ?_; simp; done)))
    | (refine AW.cond (by rfl) ?_ ?_ <;> (intro h; try simp only [Bool.not_eq_true', Bool.not_eq_false'] at h))
    | refine AW.block ?_
    | refine AW.exit ?_
    | refine AL.nil ?_
    | refine AW.ret ?_) <;> (try dsimp only [dput, List.set, cond_true, cond_false, Nat.zero_add, Nat.add_zero, Nat.reduceAdd, splice, List.take, List.drop, List.length, List.nil_append, List.cons_append, TPoint.en, TSegment.en, TBox.en, TFeature.en, TMeet.en, TPlace.en, TCover.en, TLabel.en, TPiece.en, TLevel.en, TChart.en, TReason.en, TEdit.en, TEntry.en, TEdition.en, TListing.en, TAtlas.en, TEvent.en, TWindow.en]))
  · (repeat' (first | exact Wk.nil | refine Wk.any ?_ | (with_reducible refine Wk.same ?_) | refine Wk.of ?_ ?_)) <;> first | rfl | (simp)
  · intro i hi
    have hclo : Clo (.ro 3 (l.map TReason.en)) := clo_list TReason.clo_en
    by_cases hlt : i < l.length
    · obtain ⟨x, hx⟩ : ∃ x, l[i]? = some x := ⟨_, List.getElem?_eq_getElem hlt⟩
      have hg := map_get (f := TReason.en) hx
      have ht := lt_true (f := TReason.en) hlt
      have hn := next_ix hlt (by omega)
      have hz := fil_get (en := TReason.en) (z := [I 0, I 0, I 0]) hlt
      have ha := fil_at (en := TReason.en) (z := [I 0, I 0, I 0]) hlt
      have hs := fil_set (en := TReason.en) (z := [I 0, I 0, I 0]) hx
      repeat' ((first
        | refine AW.seq ?_
        | refine AW.region ?_
        | refine AW.skip ?_
        | refine AL.q TT_ok rfl (by rfl) ?_
        | refine AL.step rfl ?_
        | refine OpA.quiet (QOp.atk_ro (by rfl) (by rfl) (by rfl) (by first | exact slk22 | exact slk38 | exact slk41) (Nat.le_of_ble_eq_true (by rfl)) (by first | assumption | omega) (by assumption)) ?_
        | refine OpA.quiet (QOp.ld1_ro (by rfl) (by rfl) (by assumption) (by first | exact ldk2 | exact ldk3 | exact ldk4 | exact ldk6 | exact ldk7 | exact ldk8 | exact ldk9 | exact ldk10 | exact ldk12 | exact ldk13 | exact ldk14 | exact ldk15 | exact ldk16 | exact ldk17 | exact ldk18 | exact ldk21 | exact ldk22 | exact ldk38 | exact ldk41 | exact ldk83 | exact ldk85) (by rfl)) ?_
        | refine OpA.quiet (QOp.ldr_ro (by rfl) (by rfl) (by assumption) (by first | exact ldk2 | exact ldk3 | exact ldk4 | exact ldk6 | exact ldk7 | exact ldk8 | exact ldk9 | exact ldk10 | exact ldk12 | exact ldk13 | exact ldk14 | exact ldk15 | exact ldk16 | exact ldk17 | exact ldk18 | exact ldk21 | exact ldk22 | exact ldk38 | exact ldk41 | exact ldk83 | exact ldk85) (Nat.le_of_ble_eq_true (by rfl))) ?_
        | refine OpA.quiet (QOp.at_own (by rfl) (by first | exact slk22 | exact slk38 | exact slk41) (by rfl) (by rfl) (by rfl) (by rfl) (by rfl) (by rfl) (by first | assumption | omega | decide) (by first | assumption | omega | decide)) ?_
        | refine OpA.quiet (QOp.len_own (by rfl) (by first | exact slk22 | exact slk38 | exact slk41) (by rfl) (by rfl) (by rfl) (by rfl)) ?_
        | (refine OpA.quiet (QOp.cat (by rfl) (by rfl) (by rfl) (by first | assumption | (simp only [ByteArray.size_append, bs_size] at *; omega))) ?_)
        | (refine OpA.pop (POp.make (by rfl) (by first | exact rwk22 | exact rwk38 | exact rwk41) (by rfl) (by rfl) (by first | assumption | omega) (by simp; omega) (by simp [maxLen]; omega)) ?_)
        | refine OpA.sto (by rfl) (by rfl) (by rfl) (by rfl) (by rfl) (by rfl) (by rfl) (by rfl) (by first | exact ldk2 | exact ldk3 | exact ldk4 | exact ldk6 | exact ldk7 | exact ldk8 | exact ldk9 | exact ldk10 | exact ldk12 | exact ldk13 | exact ldk14 | exact ldk15 | exact ldk16 | exact ldk17 | exact ldk18 | exact ldk21 | exact ldk22 | exact ldk38 | exact ldk41 | exact ldk83 | exact ldk85) (by rfl) (Nat.le_of_ble_eq_true (by rfl)) ?_
        | refine OpA.sto (by rfl) (by rfl) (by rfl) (by rfl) (by rfl) (by assumption) (by rfl) (by rfl) (by first | exact ldk2 | exact ldk3 | exact ldk4 | exact ldk6 | exact ldk7 | exact ldk8 | exact ldk9 | exact ldk10 | exact ldk12 | exact ldk13 | exact ldk14 | exact ldk15 | exact ldk16 | exact ldk17 | exact ldk18 | exact ldk21 | exact ldk22 | exact ldk38 | exact ldk41 | exact ldk83 | exact ldk85) (by rfl) (Nat.le_of_ble_eq_true (by rfl)) ?_
        | refine OpA.pcall (by rfl) Tryd.func50 rfl rfl (by rfl) (by first | exact clo_all (by rfl) | (intro x hx; simp only [List.mem_cons, List.not_mem_nil, or_false] at hx; rcases hx with rfl | rfl | rfl | rfl | rfl | rfl | rfl | rfl <;> first | exact clo_of (by rfl) | exact clo_fn _ | assumption)) (toReason x) (by first | exact clo_of (by rfl) | assumption) ?_
        | (refine AW.cond (by rfl) (fun h => ?_) ?_; rotate_left; focus (intro h; (try simp only [Bool.not_eq_true', Bool.not_eq_false'] at h); first | (cases h; done) | exact clash (by with_reducible_and_instances assumption) h | exact clash h (by with_reducible_and_instances assumption) | exact absurd h (by decide) | (refine absurd h ?_; simp; done)))
        | (refine AW.cond (by rfl) ?_ (fun h => ?_); focus (intro h; (try simp only [Bool.not_eq_true', Bool.not_eq_false'] at h); first | (cases h; done) | exact clash (by with_reducible_and_instances assumption) h | exact clash h (by with_reducible_and_instances assumption) | exact absurd h (by decide) | (refine absurd h ?_; simp; done)))
        | (refine AW.cond (by rfl) ?_ ?_ <;> (intro h; try simp only [Bool.not_eq_true', Bool.not_eq_false'] at h))
        | refine AW.block ?_
        | refine AW.exit ?_
        | refine AL.nil ?_
        | refine AW.ret ?_) <;> (try dsimp only [dput, List.set, cond_true, cond_false, Nat.zero_add, Nat.add_zero, Nat.reduceAdd, splice, List.take, List.drop, List.length, List.nil_append, List.cons_append, TPoint.en, TSegment.en, TBox.en, TFeature.en, TMeet.en, TPlace.en, TCover.en, TLabel.en, TPiece.en, TLevel.en, TChart.en, TReason.en, TEdit.en, TEntry.en, TEdition.en, TListing.en, TAtlas.en, TEvent.en, TWindow.en]))
      all_goals first
        | (refine ⟨i + 1, [], hlt, by omega, ?_, by rw [← hs] <;> rfl, ?_, ?_⟩; (focus ((repeat' (first | exact Wk.nil | refine Wk.any ?_ | (with_reducible refine Wk.same ?_) | refine Wk.of ?_ ?_)) <;> (simp_all))); (focus ((repeat' (first | exact Fits.nil _ | refine Fits.cons ?_ ?_ | exact Fits.any _ | exact Fits.c _ _ | exact Fits.own (by rfl) | exact Fits.ref (by rfl) | exact Fits.clo (by assumption) | exact Fits.clo (clo_of (by rfl)) | exact Fits.clo (clo_fn _))))); (focus (exact fits_row (fil_clo (clo_all (by rfl)) TReason.clo_en))))
    · have ht := lt_false (f := TReason.en) hlt
      have e : i = l.length := by omega
      subst e
      try rw [List.take_length]
      repeat' ((first
        | refine AW.seq ?_
        | refine AW.region ?_
        | refine AW.skip ?_
        | refine AL.q TT_ok rfl (by rfl) ?_
        | refine AL.step rfl ?_
        | refine OpA.quiet (QOp.atk_ro (by rfl) (by rfl) (by rfl) (by first | exact slk22 | exact slk38 | exact slk41) (Nat.le_of_ble_eq_true (by rfl)) (by first | assumption | omega) (by assumption)) ?_
        | refine OpA.quiet (QOp.ld1_ro (by rfl) (by rfl) (by assumption) (by first | exact ldk2 | exact ldk3 | exact ldk4 | exact ldk6 | exact ldk7 | exact ldk8 | exact ldk9 | exact ldk10 | exact ldk12 | exact ldk13 | exact ldk14 | exact ldk15 | exact ldk16 | exact ldk17 | exact ldk18 | exact ldk21 | exact ldk22 | exact ldk38 | exact ldk41 | exact ldk83 | exact ldk85) (by rfl)) ?_
        | refine OpA.quiet (QOp.ldr_ro (by rfl) (by rfl) (by assumption) (by first | exact ldk2 | exact ldk3 | exact ldk4 | exact ldk6 | exact ldk7 | exact ldk8 | exact ldk9 | exact ldk10 | exact ldk12 | exact ldk13 | exact ldk14 | exact ldk15 | exact ldk16 | exact ldk17 | exact ldk18 | exact ldk21 | exact ldk22 | exact ldk38 | exact ldk41 | exact ldk83 | exact ldk85) (Nat.le_of_ble_eq_true (by rfl))) ?_
        | refine OpA.quiet (QOp.at_own (by rfl) (by first | exact slk22 | exact slk38 | exact slk41) (by rfl) (by rfl) (by rfl) (by rfl) (by rfl) (by rfl) (by first | assumption | omega | decide) (by first | assumption | omega | decide)) ?_
        | refine OpA.quiet (QOp.len_own (by rfl) (by first | exact slk22 | exact slk38 | exact slk41) (by rfl) (by rfl) (by rfl) (by rfl)) ?_
        | (refine OpA.quiet (QOp.cat (by rfl) (by rfl) (by rfl) (by first | assumption | (simp only [ByteArray.size_append, bs_size] at *; omega))) ?_)
        | (refine OpA.pop (POp.make (by rfl) (by first | exact rwk22 | exact rwk38 | exact rwk41) (by rfl) (by rfl) (by first | assumption | omega) (by simp; omega) (by simp [maxLen]; omega)) ?_)
        | refine OpA.sto (by rfl) (by rfl) (by rfl) (by rfl) (by rfl) (by rfl) (by rfl) (by rfl) (by first | exact ldk2 | exact ldk3 | exact ldk4 | exact ldk6 | exact ldk7 | exact ldk8 | exact ldk9 | exact ldk10 | exact ldk12 | exact ldk13 | exact ldk14 | exact ldk15 | exact ldk16 | exact ldk17 | exact ldk18 | exact ldk21 | exact ldk22 | exact ldk38 | exact ldk41 | exact ldk83 | exact ldk85) (by rfl) (Nat.le_of_ble_eq_true (by rfl)) ?_
        | refine OpA.sto (by rfl) (by rfl) (by rfl) (by rfl) (by rfl) (by assumption) (by rfl) (by rfl) (by first | exact ldk2 | exact ldk3 | exact ldk4 | exact ldk6 | exact ldk7 | exact ldk8 | exact ldk9 | exact ldk10 | exact ldk12 | exact ldk13 | exact ldk14 | exact ldk15 | exact ldk16 | exact ldk17 | exact ldk18 | exact ldk21 | exact ldk22 | exact ldk38 | exact ldk41 | exact ldk83 | exact ldk85) (by rfl) (Nat.le_of_ble_eq_true (by rfl)) ?_
        | refine OpA.pcall (by rfl) Tryd.func50 rfl rfl (by rfl) (by first | exact clo_all (by rfl) | (intro x hx; simp only [List.mem_cons, List.not_mem_nil, or_false] at hx; rcases hx with rfl | rfl | rfl | rfl | rfl | rfl | rfl | rfl <;> first | exact clo_of (by rfl) | exact clo_fn _ | assumption)) (toReason x) (by first | exact clo_of (by rfl) | assumption) ?_
        | (refine AW.freezeRet (t := 2) (id := 0) rfl rfl rfl rfl (fil_clo (clo_all (by rfl)) TReason.clo_en) ?_; simp only [fil_all])
        | (refine AW.cond (by rfl) (fun h => ?_) ?_; rotate_left; focus (intro h; (try simp only [Bool.not_eq_true', Bool.not_eq_false'] at h); first | (cases h; done) | exact clash (by with_reducible_and_instances assumption) h | exact clash h (by with_reducible_and_instances assumption) | exact absurd h (by decide) | (refine absurd h ?_; simp; done)))
        | (refine AW.cond (by rfl) ?_ (fun h => ?_); focus (intro h; (try simp only [Bool.not_eq_true', Bool.not_eq_false'] at h); first | (cases h; done) | exact clash (by with_reducible_and_instances assumption) h | exact clash h (by with_reducible_and_instances assumption) | exact absurd h (by decide) | (refine absurd h ?_; simp; done)))
        | (refine AW.cond (by rfl) ?_ ?_ <;> (intro h; try simp only [Bool.not_eq_true', Bool.not_eq_false'] at h))
        | refine AW.block ?_
        | refine AW.exit ?_
        | refine AL.nil ?_
        | refine AW.ret ?_) <;> (try dsimp only [dput, List.set, cond_true, cond_false, Nat.zero_add, Nat.add_zero, Nat.reduceAdd, splice, List.take, List.drop, List.length, List.nil_append, List.cons_append, TPoint.en, TSegment.en, TBox.en, TFeature.en, TMeet.en, TPlace.en, TCover.en, TLabel.en, TPiece.en, TLevel.en, TChart.en, TReason.en, TEdit.en, TEntry.en, TEdition.en, TListing.en, TAtlas.en, TEvent.en, TWindow.en]))
      all_goals exact Fin.one rfl (RV.tmp (by rfl)) hclo ⟨rfl, rfl⟩

set_option maxRecDepth 100000 in
set_option maxHeartbeats 2000000 in
theorem toIntS (l : List Int) (hl : l.length ≤ 1048576) : VCalls Tryd.prog 10 [.ro 1 (l.map (fun n => [I n]))] (fun r M => r = .ro 1 (l.map (fun n => [I n])) ∧ M = []) := by
  refine VCalls.bodyE Tryd.func10 rfl 21 rfl (fun E hE => ?_)
  simp only [List.reduceReplicate, List.cons_append, List.nil_append]
  repeat' ((first
    | refine AW.seq ?_
    | refine AW.region ?_
    | refine AW.skip ?_
    | refine AL.q TT_ok rfl (by rfl) ?_
    | refine AL.step rfl ?_
    | refine OpA.quiet (QOp.atk_ro (by rfl) (by rfl) (by rfl) (by first | exact slk22) (Nat.le_of_ble_eq_true (by rfl)) (by first | assumption | omega) (by assumption)) ?_
    | refine OpA.quiet (QOp.ld1_ro (by rfl) (by rfl) (by assumption) (by first | exact ldk2 | exact ldk3 | exact ldk4 | exact ldk6 | exact ldk7 | exact ldk8 | exact ldk9 | exact ldk10 | exact ldk12 | exact ldk13 | exact ldk14 | exact ldk15 | exact ldk16 | exact ldk17 | exact ldk18 | exact ldk19 | exact ldk21 | exact ldk22) (by rfl)) ?_
    | refine OpA.quiet (QOp.ldr_ro (by rfl) (by rfl) (by assumption) (by first | exact ldk2 | exact ldk3 | exact ldk4 | exact ldk6 | exact ldk7 | exact ldk8 | exact ldk9 | exact ldk10 | exact ldk12 | exact ldk13 | exact ldk14 | exact ldk15 | exact ldk16 | exact ldk17 | exact ldk18 | exact ldk19 | exact ldk21 | exact ldk22) (Nat.le_of_ble_eq_true (by rfl))) ?_
    | refine OpA.quiet (QOp.at_own (by rfl) (by first | exact slk22) (by rfl) (by rfl) (by rfl) (by rfl) (by rfl) (by rfl) (by first | assumption | omega | decide) (by first | assumption | omega | decide)) ?_
    | refine OpA.quiet (QOp.len_own (by rfl) (by first | exact slk22) (by rfl) (by rfl) (by rfl) (by rfl)) ?_
    | (refine OpA.quiet (QOp.cat (by rfl) (by rfl) (by rfl) (by first | assumption | (simp only [ByteArray.size_append, bs_size] at *; omega))) ?_)
    | (refine OpA.pop (POp.make (by rfl) (by first | exact rwk22) (by rfl) (by rfl) (by first | assumption | omega) (by simp; omega) (by simp [maxLen]; omega)) ?_)
    | refine OpA.sto (by rfl) (by rfl) (by rfl) (by rfl) (by rfl) (by rfl) (by rfl) (by rfl) (by first | exact ldk2 | exact ldk3 | exact ldk4 | exact ldk6 | exact ldk7 | exact ldk8 | exact ldk9 | exact ldk10 | exact ldk12 | exact ldk13 | exact ldk14 | exact ldk15 | exact ldk16 | exact ldk17 | exact ldk18 | exact ldk19 | exact ldk21 | exact ldk22) (by rfl) (Nat.le_of_ble_eq_true (by rfl)) ?_
    | refine OpA.sto (by rfl) (by rfl) (by rfl) (by rfl) (by rfl) (by assumption) (by rfl) (by rfl) (by first | exact ldk2 | exact ldk3 | exact ldk4 | exact ldk6 | exact ldk7 | exact ldk8 | exact ldk9 | exact ldk10 | exact ldk12 | exact ldk13 | exact ldk14 | exact ldk15 | exact ldk16 | exact ldk17 | exact ldk18 | exact ldk19 | exact ldk21 | exact ldk22) (by rfl) (Nat.le_of_ble_eq_true (by rfl)) ?_
    | (refine AW.loopD hE (fun i : Nat => [.ro 1 (l.map (fun n => [I n])), .any, .any, .own 0 0, I i, .any, .any, .any, .any, .any, .any, .any, .any, .any, .any, .any, .any, .any, .any, .any, .any, .any]) (fun i => [some ⟨3, 1, 0, false, fil (fun n => [I n]) [I 0] l i⟩]) (fun i => l.length - i) (fun i => i ≤ l.length) 0 (by simp) ?_ (by first | rfl | (simp [fil_zero]; done)) ?_)
    | (refine AW.cond (by rfl) (fun h => ?_) ?_; rotate_left; focus (intro h; (try simp only [Bool.not_eq_true', Bool.not_eq_false'] at h); first | (cases h; done) | exact clash (by with_reducible_and_instances assumption) h | exact clash h (by with_reducible_and_instances assumption) | exact absurd h (by decide) | (refine absurd h ?_; simp; done)))
    | (refine AW.cond (by rfl) ?_ (fun h => ?_); focus (intro h; (try simp only [Bool.not_eq_true', Bool.not_eq_false'] at h); first | (cases h; done) | exact clash (by with_reducible_and_instances assumption) h | exact clash h (by with_reducible_and_instances assumption) | exact absurd h (by decide) | (refine absurd h ?_; simp; done)))
    | (refine AW.cond (by rfl) ?_ ?_ <;> (intro h; try simp only [Bool.not_eq_true', Bool.not_eq_false'] at h))
    | refine AW.block ?_
    | refine AW.exit ?_
    | refine AL.nil ?_
    | refine AW.ret ?_) <;> (try dsimp only [dput, List.set, cond_true, cond_false, Nat.zero_add, Nat.add_zero, Nat.reduceAdd, splice, List.take, List.drop, List.length, List.nil_append, List.cons_append, TPoint.en, TSegment.en, TBox.en, TFeature.en, TMeet.en, TPlace.en, TCover.en, TLabel.en, TPiece.en, TLevel.en, TChart.en, TReason.en, TEdit.en, TEntry.en, TEdition.en, TListing.en, TAtlas.en, TEvent.en, TWindow.en]))
  · (repeat' (first | exact Wk.nil | refine Wk.any ?_ | (with_reducible refine Wk.same ?_) | refine Wk.of ?_ ?_)) <;> first | rfl | (simp)
  · intro i hi
    have hclo : Clo (.ro 1 (l.map (fun n => [I n]))) := clo_list (fun _ => clo_cons (clo_c _) clo_nil)
    by_cases hlt : i < l.length
    · obtain ⟨x, hx⟩ : ∃ x, l[i]? = some x := ⟨_, List.getElem?_eq_getElem hlt⟩
      have hg := map_get (f := (fun n => [I n])) hx
      have ht := lt_true (f := (fun n => [I n])) hlt
      have hn := next_ix hlt (by omega)
      have hz := fil_get (en := (fun n => [I n])) (z := [I 0]) hlt
      have ha := fil_at (en := (fun n => [I n])) (z := [I 0]) hlt
      have hs := fil_set (en := (fun n => [I n])) (z := [I 0]) hx
      repeat' ((first
        | refine AW.seq ?_
        | refine AW.region ?_
        | refine AW.skip ?_
        | refine AL.q TT_ok rfl (by rfl) ?_
        | refine AL.step rfl ?_
        | refine OpA.quiet (QOp.atk_ro (by rfl) (by rfl) (by rfl) (by first | exact slk22) (Nat.le_of_ble_eq_true (by rfl)) (by first | assumption | omega) (by assumption)) ?_
        | refine OpA.quiet (QOp.ld1_ro (by rfl) (by rfl) (by assumption) (by first | exact ldk2 | exact ldk3 | exact ldk4 | exact ldk6 | exact ldk7 | exact ldk8 | exact ldk9 | exact ldk10 | exact ldk12 | exact ldk13 | exact ldk14 | exact ldk15 | exact ldk16 | exact ldk17 | exact ldk18 | exact ldk19 | exact ldk21 | exact ldk22) (by rfl)) ?_
        | refine OpA.quiet (QOp.ldr_ro (by rfl) (by rfl) (by assumption) (by first | exact ldk2 | exact ldk3 | exact ldk4 | exact ldk6 | exact ldk7 | exact ldk8 | exact ldk9 | exact ldk10 | exact ldk12 | exact ldk13 | exact ldk14 | exact ldk15 | exact ldk16 | exact ldk17 | exact ldk18 | exact ldk19 | exact ldk21 | exact ldk22) (Nat.le_of_ble_eq_true (by rfl))) ?_
        | refine OpA.quiet (QOp.at_own (by rfl) (by first | exact slk22) (by rfl) (by rfl) (by rfl) (by rfl) (by rfl) (by rfl) (by first | assumption | omega | decide) (by first | assumption | omega | decide)) ?_
        | refine OpA.quiet (QOp.len_own (by rfl) (by first | exact slk22) (by rfl) (by rfl) (by rfl) (by rfl)) ?_
        | (refine OpA.quiet (QOp.cat (by rfl) (by rfl) (by rfl) (by first | assumption | (simp only [ByteArray.size_append, bs_size] at *; omega))) ?_)
        | (refine OpA.pop (POp.make (by rfl) (by first | exact rwk22) (by rfl) (by rfl) (by first | assumption | omega) (by simp; omega) (by simp [maxLen]; omega)) ?_)
        | refine OpA.sto (by rfl) (by rfl) (by rfl) (by rfl) (by rfl) (by rfl) (by rfl) (by rfl) (by first | exact ldk2 | exact ldk3 | exact ldk4 | exact ldk6 | exact ldk7 | exact ldk8 | exact ldk9 | exact ldk10 | exact ldk12 | exact ldk13 | exact ldk14 | exact ldk15 | exact ldk16 | exact ldk17 | exact ldk18 | exact ldk19 | exact ldk21 | exact ldk22) (by rfl) (Nat.le_of_ble_eq_true (by rfl)) ?_
        | refine OpA.sto (by rfl) (by rfl) (by rfl) (by rfl) (by rfl) (by assumption) (by rfl) (by rfl) (by first | exact ldk2 | exact ldk3 | exact ldk4 | exact ldk6 | exact ldk7 | exact ldk8 | exact ldk9 | exact ldk10 | exact ldk12 | exact ldk13 | exact ldk14 | exact ldk15 | exact ldk16 | exact ldk17 | exact ldk18 | exact ldk19 | exact ldk21 | exact ldk22) (by rfl) (Nat.le_of_ble_eq_true (by rfl)) ?_
        | (refine AW.cond (by rfl) (fun h => ?_) ?_; rotate_left; focus (intro h; (try simp only [Bool.not_eq_true', Bool.not_eq_false'] at h); first | (cases h; done) | exact clash (by with_reducible_and_instances assumption) h | exact clash h (by with_reducible_and_instances assumption) | exact absurd h (by decide) | (refine absurd h ?_; simp; done)))
        | (refine AW.cond (by rfl) ?_ (fun h => ?_); focus (intro h; (try simp only [Bool.not_eq_true', Bool.not_eq_false'] at h); first | (cases h; done) | exact clash (by with_reducible_and_instances assumption) h | exact clash h (by with_reducible_and_instances assumption) | exact absurd h (by decide) | (refine absurd h ?_; simp; done)))
        | (refine AW.cond (by rfl) ?_ ?_ <;> (intro h; try simp only [Bool.not_eq_true', Bool.not_eq_false'] at h))
        | refine AW.block ?_
        | refine AW.exit ?_
        | refine AL.nil ?_
        | refine AW.ret ?_) <;> (try dsimp only [dput, List.set, cond_true, cond_false, Nat.zero_add, Nat.add_zero, Nat.reduceAdd, splice, List.take, List.drop, List.length, List.nil_append, List.cons_append, TPoint.en, TSegment.en, TBox.en, TFeature.en, TMeet.en, TPlace.en, TCover.en, TLabel.en, TPiece.en, TLevel.en, TChart.en, TReason.en, TEdit.en, TEntry.en, TEdition.en, TListing.en, TAtlas.en, TEvent.en, TWindow.en]))
      all_goals first
        | (refine ⟨i + 1, [], hlt, by omega, ?_, by rw [← hs] <;> rfl, ?_, ?_⟩; (focus ((repeat' (first | exact Wk.nil | refine Wk.any ?_ | (with_reducible refine Wk.same ?_) | refine Wk.of ?_ ?_)) <;> (simp_all))); (focus ((repeat' (first | exact Fits.nil _ | refine Fits.cons ?_ ?_ | exact Fits.any _ | exact Fits.c _ _ | exact Fits.own (by rfl) | exact Fits.ref (by rfl) | exact Fits.clo (by assumption) | exact Fits.clo (clo_of (by rfl)) | exact Fits.clo (clo_fn _))))); (focus (exact fits_row (fil_clo (clo_all (by rfl)) (fun _ => clo_cons (clo_c _) clo_nil)))))
    · have ht := lt_false (f := (fun n => [I n])) hlt
      have e : i = l.length := by omega
      subst e
      try rw [List.take_length]
      repeat' ((first
        | refine AW.seq ?_
        | refine AW.region ?_
        | refine AW.skip ?_
        | refine AL.q TT_ok rfl (by rfl) ?_
        | refine AL.step rfl ?_
        | refine OpA.quiet (QOp.atk_ro (by rfl) (by rfl) (by rfl) (by first | exact slk22) (Nat.le_of_ble_eq_true (by rfl)) (by first | assumption | omega) (by assumption)) ?_
        | refine OpA.quiet (QOp.ld1_ro (by rfl) (by rfl) (by assumption) (by first | exact ldk2 | exact ldk3 | exact ldk4 | exact ldk6 | exact ldk7 | exact ldk8 | exact ldk9 | exact ldk10 | exact ldk12 | exact ldk13 | exact ldk14 | exact ldk15 | exact ldk16 | exact ldk17 | exact ldk18 | exact ldk19 | exact ldk21 | exact ldk22) (by rfl)) ?_
        | refine OpA.quiet (QOp.ldr_ro (by rfl) (by rfl) (by assumption) (by first | exact ldk2 | exact ldk3 | exact ldk4 | exact ldk6 | exact ldk7 | exact ldk8 | exact ldk9 | exact ldk10 | exact ldk12 | exact ldk13 | exact ldk14 | exact ldk15 | exact ldk16 | exact ldk17 | exact ldk18 | exact ldk19 | exact ldk21 | exact ldk22) (Nat.le_of_ble_eq_true (by rfl))) ?_
        | refine OpA.quiet (QOp.at_own (by rfl) (by first | exact slk22) (by rfl) (by rfl) (by rfl) (by rfl) (by rfl) (by rfl) (by first | assumption | omega | decide) (by first | assumption | omega | decide)) ?_
        | refine OpA.quiet (QOp.len_own (by rfl) (by first | exact slk22) (by rfl) (by rfl) (by rfl) (by rfl)) ?_
        | (refine OpA.quiet (QOp.cat (by rfl) (by rfl) (by rfl) (by first | assumption | (simp only [ByteArray.size_append, bs_size] at *; omega))) ?_)
        | (refine OpA.pop (POp.make (by rfl) (by first | exact rwk22) (by rfl) (by rfl) (by first | assumption | omega) (by simp; omega) (by simp [maxLen]; omega)) ?_)
        | refine OpA.sto (by rfl) (by rfl) (by rfl) (by rfl) (by rfl) (by rfl) (by rfl) (by rfl) (by first | exact ldk2 | exact ldk3 | exact ldk4 | exact ldk6 | exact ldk7 | exact ldk8 | exact ldk9 | exact ldk10 | exact ldk12 | exact ldk13 | exact ldk14 | exact ldk15 | exact ldk16 | exact ldk17 | exact ldk18 | exact ldk19 | exact ldk21 | exact ldk22) (by rfl) (Nat.le_of_ble_eq_true (by rfl)) ?_
        | refine OpA.sto (by rfl) (by rfl) (by rfl) (by rfl) (by rfl) (by assumption) (by rfl) (by rfl) (by first | exact ldk2 | exact ldk3 | exact ldk4 | exact ldk6 | exact ldk7 | exact ldk8 | exact ldk9 | exact ldk10 | exact ldk12 | exact ldk13 | exact ldk14 | exact ldk15 | exact ldk16 | exact ldk17 | exact ldk18 | exact ldk19 | exact ldk21 | exact ldk22) (by rfl) (Nat.le_of_ble_eq_true (by rfl)) ?_
        | (refine AW.freezeRet (t := 2) (id := 0) rfl rfl rfl rfl (fil_clo (clo_all (by rfl)) (fun _ => clo_cons (clo_c _) clo_nil)) ?_; simp only [fil_all])
        | (refine AW.cond (by rfl) (fun h => ?_) ?_; rotate_left; focus (intro h; (try simp only [Bool.not_eq_true', Bool.not_eq_false'] at h); first | (cases h; done) | exact clash (by with_reducible_and_instances assumption) h | exact clash h (by with_reducible_and_instances assumption) | exact absurd h (by decide) | (refine absurd h ?_; simp; done)))
        | (refine AW.cond (by rfl) ?_ (fun h => ?_); focus (intro h; (try simp only [Bool.not_eq_true', Bool.not_eq_false'] at h); first | (cases h; done) | exact clash (by with_reducible_and_instances assumption) h | exact clash h (by with_reducible_and_instances assumption) | exact absurd h (by decide) | (refine absurd h ?_; simp; done)))
        | (refine AW.cond (by rfl) ?_ ?_ <;> (intro h; try simp only [Bool.not_eq_true', Bool.not_eq_false'] at h))
        | refine AW.block ?_
        | refine AW.exit ?_
        | refine AL.nil ?_
        | refine AW.ret ?_) <;> (try dsimp only [dput, List.set, cond_true, cond_false, Nat.zero_add, Nat.add_zero, Nat.reduceAdd, splice, List.take, List.drop, List.length, List.nil_append, List.cons_append, TPoint.en, TSegment.en, TBox.en, TFeature.en, TMeet.en, TPlace.en, TCover.en, TLabel.en, TPiece.en, TLevel.en, TChart.en, TReason.en, TEdit.en, TEntry.en, TEdition.en, TListing.en, TAtlas.en, TEvent.en, TWindow.en]))
      all_goals exact Fin.one rfl (RV.tmp (by rfl)) hclo ⟨rfl, rfl⟩

end Go.Proofs.YtbkcoechoblndaaDoor.Abs
