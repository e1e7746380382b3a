/- The walks of the laws' converters. -/
import Derived.Test.YtbkcoechoblndaaWkFacts
import Derived.Test.YtbkcoechoblndaaWkSz
namespace Go.Proofs.Ytbkcoechoblndaa.Abs
open Go.Proofs Go.RowKit
set_option linter.unusedVariables false
set_option linter.unusedSimpArgs false
attribute [local irreducible] OpA AL AW DL DLM DLR QOp POp VCalls VCallsI
set_option maxRecDepth 100000 in
set_option maxHeartbeats 2000000 in
theorem toPoint (x : TPoint) : VCalls Try.prog 108 [.agg x.en] (fun r M => r = .agg x.en ∧ M = []) := by
  refine VCalls.body Try.func108 rfl 10 rfl (fun E => ?_)
  simp only [List.reduceReplicate, List.cons_append, List.nil_append]
  dsimp only [TPoint.en]
  repeat' ((first
    | ((with_reducible show OpA _ _ _ _ _ _); first
      | refine OpA.box (by rfl) (by rfl) (by rfl) ?_
      | refine OpA.allocA (by rfl) (by first | exact ze2 | exact ze3 | exact ze4 | exact ze5 | exact ze6 | exact ze7 | exact ze8 | exact ze9 | exact ze10 | exact ze109 | exact ze135) ?_
      | refine OpA.sto (by rfl) (by rfl) (by rfl) (by rfl) (by rfl) (by rfl) (by rfl) (by rfl) (TT_ok.ld _ _ (by rfl)) (by rfl) (Nat.le_of_ble_eq_true (by rfl)) ?_
      | refine OpA.sto (by rfl) (by rfl) (by rfl) (by rfl) (by rfl) (by assumption) (by rfl) (by rfl) (TT_ok.ld _ _ (by rfl)) (by rfl) (Nat.le_of_ble_eq_true (by rfl)) ?_)
    | ((with_reducible show AL _ _ _ _ _ _ _); first
      | refine AL.q TT_ok rfl (by rfl) ?_
      | refine AL.step rfl ?_
      | refine AL.nil ?_)
    | ((with_reducible show AW _ _ _ _ _ _); first
      | refine AW.seq ?_
      | refine AW.region ?_
      | refine AW.skip ?_
      | refine AW.ret ?_)
    | with_reducible refine (if_pos rfl).mpr ?_
    | with_reducible refine (if_neg (by decide)).mpr ?_) <;> (try dsimp only [dput, List.set, cond_true, cond_false, Nat.zero_add, Nat.add_zero, Nat.reduceAdd, splice, List.take, List.drop, List.length, List.nil_append, List.cons_append, List.append, TPoint.en, TSegment.en, TBox.en, TFeature.en, TMeet.en, TPlace.en, TCover.en, TLabel.en, TPiece.en, TLevel.en, TChart.en, TReason.en, TEdit.en, TEntry.en, TEdition.en, TListing.en, TAtlas.en, TEvent.en, TWindow.en]))
  all_goals exact Fin.one rfl (RV.cell (QOp.quietA TT_ok (by rfl))) (Clo.agg x.clo_en) ⟨by rfl, rfl⟩

set_option maxRecDepth 100000 in
set_option maxHeartbeats 2000000 in
theorem toPointS (l : List TPoint) (hl : l.length ≤ 1048576) : VCalls Try.prog 83 [.ro 2 (l.map TPoint.en)] (fun r M => r = .ro 2 (l.map TPoint.en) ∧ M = []) := by
  refine VCalls.bodyE Try.func83 rfl 22 rfl (fun E hE => ?_)
  simp only [List.reduceReplicate, List.cons_append, List.nil_append]
  repeat' ((first
    | ((with_reducible show OpA _ _ _ _ _ _); first
      | refine OpA.quiet (QOp.atk_ro (by rfl) (by rfl) (by rfl) (TT_ok.sl _ _ (by rfl)) (Nat.le_of_ble_eq_true (by rfl)) (by first | assumption | omega) (by assumption)) ?_
      | refine OpA.quiet (QOp.ld1_ro (by rfl) (by rfl) (by assumption) (TT_ok.ld _ _ (by rfl)) (by rfl)) ?_
      | refine OpA.quiet (QOp.ldr_ro (by rfl) (by rfl) (by assumption) (TT_ok.ld _ _ (by rfl)) (Nat.le_of_ble_eq_true (by rfl))) ?_
      | refine OpA.quiet (QOp.at_own (by rfl) (TT_ok.sl _ _ (by rfl)) (by rfl) (by rfl) (by rfl) (by rfl) (by rfl) (by rfl) (by first | assumption | omega | decide) (by first | assumption | omega | decide)) ?_
      | refine OpA.quiet (QOp.ldr_ref (by rfl) (by rfl) (by rfl) (by rfl) (by rfl) (by assumption) (TT_ok.ld _ _ (by rfl)) (Nat.le_of_ble_eq_true (by rfl))) ?_
      | refine OpA.quiet (QOp.ld1_ref (by rfl) (by rfl) (by rfl) (by rfl) (by rfl) (by assumption) (TT_ok.ld _ _ (by rfl)) (by rfl)) ?_
      | refine OpA.quiet (QOp.len_own (by rfl) (TT_ok.sl _ _ (by rfl)) (by rfl) (by rfl) (by rfl) (by rfl)) ?_
      | (refine OpA.quiet (QOp.cat (by rfl) (by rfl) (by rfl) (by first | assumption | (simp only [ByteArray.size_append, bs_size] at *; omega))) ?_)
      | (refine OpA.pop (POp.make (by rfl) (by first | exact rwk63 | exact rwk66) (by rfl) (by rfl) (by first | assumption | omega) (by simp; omega) (by simp [maxLen]; omega)) ?_)
      | refine OpA.sto (by rfl) (by rfl) (by rfl) (by rfl) (by rfl) (by rfl) (by rfl) (by rfl) (TT_ok.ld _ _ (by rfl)) (by rfl) (Nat.le_of_ble_eq_true (by rfl)) ?_
      | refine OpA.sto (by rfl) (by rfl) (by rfl) (by rfl) (by rfl) (by assumption) (by rfl) (by rfl) (TT_ok.ld _ _ (by rfl)) (by rfl) (Nat.le_of_ble_eq_true (by rfl)) ?_
      | refine OpA.pcall (by rfl) Try.func108 rfl rfl (by rfl) (by first | exact clo_all (by rfl) | repeat' (first | exact clo_nil | refine clo_cons ?_ ?_ | exact clo_of (by rfl) | exact clo_fn _ | assumption)) (toPoint x) (by first | exact clo_of (by rfl) | assumption) ?_)
    | ((with_reducible show AL _ _ _ _ _ _ _); first
      | refine AL.q TT_ok rfl (by rfl) ?_
      | refine AL.step rfl ?_
      | refine AL.nil ?_)
    | ((with_reducible show AW _ _ _ _ _ _); first
      | refine AW.seq ?_
      | refine AW.region ?_
      | refine AW.skip ?_
      | (refine AW.loopD hE (fun i : Nat => [.ro 2 (l.map TPoint.en), .any, .any, .own 0 0, I i, .any, .any, .any, .any, .any, .any, .any, .any, .any, .any, .any, .any, .any, .any, .any, .any, .any, .any]) (fun i => [some ⟨109, 2, 0, false, fil TPoint.en [I 0, I 0] l i⟩]) (fun i => l.length - i) (fun i => i ≤ l.length) 0 (by simp) ?_ (by first | rfl | (simp [fil_zero]; done)) ?_)
      | (refine AW.cond (by rfl) (fun h => ?_) ?_; rotate_left; focus (intro h; (try simp only [Bool.not_eq_true', Bool.not_eq_false'] at h); first | (cases h; done) | exact clash (by with_reducible_and_instances assumption) h | exact clash h (by with_reducible_and_instances assumption) | exact absurd h (by decide) | (refine absurd h ?_; simp; done)))
      | (refine AW.cond (by rfl) ?_ (fun h => ?_); focus (intro h; (try simp only [Bool.not_eq_true', Bool.not_eq_false'] at h); first | (cases h; done) | exact clash (by with_reducible_and_instances assumption) h | exact clash h (by with_reducible_and_instances assumption) | exact absurd h (by decide) | (refine absurd h ?_; simp; done)))
      | (refine AW.cond (by rfl) ?_ ?_ <;> (intro h; try simp only [Bool.not_eq_true', Bool.not_eq_false'] at h))
      | refine AW.block ?_
      | refine AW.exit ?_
      | refine AW.ret ?_)
    | with_reducible refine (if_pos rfl).mpr ?_
    | with_reducible refine (if_neg (by decide)).mpr ?_) <;> (try dsimp only [dput, List.set, cond_true, cond_false, Nat.zero_add, Nat.add_zero, Nat.reduceAdd, splice, List.take, List.drop, List.length, List.nil_append, List.cons_append, List.append, TPoint.en, TSegment.en, TBox.en, TFeature.en, TMeet.en, TPlace.en, TCover.en, TLabel.en, TPiece.en, TLevel.en, TChart.en, TReason.en, TEdit.en, TEntry.en, TEdition.en, TListing.en, TAtlas.en, TEvent.en, TWindow.en]))
  · (repeat' (first | exact Wk.nil | refine Wk.any ?_ | (with_reducible refine Wk.same ?_) | refine Wk.of ?_ ?_)) <;> first | rfl | (simp)
  · intro i hi
    have hclo : Clo (.ro 2 (l.map TPoint.en)) := clo_list TPoint.clo_en
    by_cases hlt : i < l.length
    · obtain ⟨x, hx⟩ : ∃ x, l[i]? = some x := ⟨_, List.getElem?_eq_getElem hlt⟩
      have hg := map_get (f := TPoint.en) hx
      have ht := lt_true (f := TPoint.en) hlt
      have hn := next_ix hlt (by omega)
      have hz := fil_get (en := TPoint.en) (z := [I 0, I 0]) hlt
      have ha := fil_at (en := TPoint.en) (z := [I 0, I 0]) hlt
      have hs := fil_set (en := TPoint.en) (z := [I 0, I 0]) hx
      repeat' ((first
        | ((with_reducible show OpA _ _ _ _ _ _); first
          | refine OpA.quiet (QOp.atk_ro (by rfl) (by rfl) (by rfl) (TT_ok.sl _ _ (by rfl)) (Nat.le_of_ble_eq_true (by rfl)) (by first | assumption | omega) (by assumption)) ?_
          | refine OpA.quiet (QOp.ld1_ro (by rfl) (by rfl) (by assumption) (TT_ok.ld _ _ (by rfl)) (by rfl)) ?_
          | refine OpA.quiet (QOp.ldr_ro (by rfl) (by rfl) (by assumption) (TT_ok.ld _ _ (by rfl)) (Nat.le_of_ble_eq_true (by rfl))) ?_
          | refine OpA.quiet (QOp.at_own (by rfl) (TT_ok.sl _ _ (by rfl)) (by rfl) (by rfl) (by rfl) (by rfl) (by rfl) (by rfl) (by first | assumption | omega | decide) (by first | assumption | omega | decide)) ?_
          | refine OpA.quiet (QOp.ldr_ref (by rfl) (by rfl) (by rfl) (by rfl) (by rfl) (by assumption) (TT_ok.ld _ _ (by rfl)) (Nat.le_of_ble_eq_true (by rfl))) ?_
          | refine OpA.quiet (QOp.ld1_ref (by rfl) (by rfl) (by rfl) (by rfl) (by rfl) (by assumption) (TT_ok.ld _ _ (by rfl)) (by rfl)) ?_
          | refine OpA.quiet (QOp.len_own (by rfl) (TT_ok.sl _ _ (by rfl)) (by rfl) (by rfl) (by rfl) (by rfl)) ?_
          | (refine OpA.quiet (QOp.cat (by rfl) (by rfl) (by rfl) (by first | assumption | (simp only [ByteArray.size_append, bs_size] at *; omega))) ?_)
          | (refine OpA.pop (POp.make (by rfl) (by first | exact rwk63 | exact rwk66) (by rfl) (by rfl) (by first | assumption | omega) (by simp; omega) (by simp [maxLen]; omega)) ?_)
          | refine OpA.sto (by rfl) (by rfl) (by rfl) (by rfl) (by rfl) (by rfl) (by rfl) (by rfl) (TT_ok.ld _ _ (by rfl)) (by rfl) (Nat.le_of_ble_eq_true (by rfl)) ?_
          | refine OpA.sto (by rfl) (by rfl) (by rfl) (by rfl) (by rfl) (by assumption) (by rfl) (by rfl) (TT_ok.ld _ _ (by rfl)) (by rfl) (Nat.le_of_ble_eq_true (by rfl)) ?_
          | refine OpA.pcall (by rfl) Try.func108 rfl rfl (by rfl) (by first | exact clo_all (by rfl) | repeat' (first | exact clo_nil | refine clo_cons ?_ ?_ | exact clo_of (by rfl) | exact clo_fn _ | assumption)) (toPoint x) (by first | exact clo_of (by rfl) | assumption) ?_)
        | ((with_reducible show AL _ _ _ _ _ _ _); first
          | refine AL.q TT_ok rfl (by rfl) ?_
          | refine AL.step rfl ?_
          | refine AL.nil ?_)
        | ((with_reducible show AW _ _ _ _ _ _); first
          | refine AW.seq ?_
          | refine AW.region ?_
          | refine AW.skip ?_
          | (refine AW.cond (by rfl) (fun h => ?_) ?_; rotate_left; focus (intro h; (try simp only [Bool.not_eq_true', Bool.not_eq_false'] at h); first | (cases h; done) | exact clash (by with_reducible_and_instances assumption) h | exact clash h (by with_reducible_and_instances assumption) | exact absurd h (by decide) | (refine absurd h ?_; simp; done)))
          | (refine AW.cond (by rfl) ?_ (fun h => ?_); focus (intro h; (try simp only [Bool.not_eq_true', Bool.not_eq_false'] at h); first | (cases h; done) | exact clash (by with_reducible_and_instances assumption) h | exact clash h (by with_reducible_and_instances assumption) | exact absurd h (by decide) | (refine absurd h ?_; simp; done)))
          | (refine AW.cond (by rfl) ?_ ?_ <;> (intro h; try simp only [Bool.not_eq_true', Bool.not_eq_false'] at h))
          | refine AW.block ?_
          | refine AW.exit ?_
          | refine AW.ret ?_)
        | with_reducible refine (if_pos rfl).mpr ?_
        | with_reducible refine (if_neg (by decide)).mpr ?_) <;> (try dsimp only [dput, List.set, cond_true, cond_false, Nat.zero_add, Nat.add_zero, Nat.reduceAdd, splice, List.take, List.drop, List.length, List.nil_append, List.cons_append, List.append, TPoint.en, TSegment.en, TBox.en, TFeature.en, TMeet.en, TPlace.en, TCover.en, TLabel.en, TPiece.en, TLevel.en, TChart.en, TReason.en, TEdit.en, TEntry.en, TEdition.en, TListing.en, TAtlas.en, TEvent.en, TWindow.en]))
      all_goals first
        | (refine ⟨i + 1, [], hlt, by omega, ?_, by rw [← hs] <;> rfl, ?_, ?_⟩; (focus ((repeat' (first | exact Wk.nil | refine Wk.any ?_ | (with_reducible refine Wk.same ?_) | refine Wk.of ?_ ?_)) <;> (simp_all))); (focus ((repeat' (first | exact Fits.nil _ | refine Fits.cons ?_ ?_ | exact Fits.any _ | exact Fits.c _ _ | exact Fits.own (by rfl) | exact Fits.ref (by rfl) | exact Fits.clo (by assumption) | exact Fits.clo (clo_of (by rfl)) | exact Fits.clo (clo_fn _))))); (focus (exact fits_row (fil_clo (clo_all (by rfl)) TPoint.clo_en))))
    · have ht := lt_false (f := TPoint.en) hlt
      have e : i = l.length := by omega
      subst e
      try rw [List.take_length]
      repeat' ((first
        | ((with_reducible show OpA _ _ _ _ _ _); first
          | refine OpA.quiet (QOp.atk_ro (by rfl) (by rfl) (by rfl) (TT_ok.sl _ _ (by rfl)) (Nat.le_of_ble_eq_true (by rfl)) (by first | assumption | omega) (by assumption)) ?_
          | refine OpA.quiet (QOp.ld1_ro (by rfl) (by rfl) (by assumption) (TT_ok.ld _ _ (by rfl)) (by rfl)) ?_
          | refine OpA.quiet (QOp.ldr_ro (by rfl) (by rfl) (by assumption) (TT_ok.ld _ _ (by rfl)) (Nat.le_of_ble_eq_true (by rfl))) ?_
          | refine OpA.quiet (QOp.at_own (by rfl) (TT_ok.sl _ _ (by rfl)) (by rfl) (by rfl) (by rfl) (by rfl) (by rfl) (by rfl) (by first | assumption | omega | decide) (by first | assumption | omega | decide)) ?_
          | refine OpA.quiet (QOp.ldr_ref (by rfl) (by rfl) (by rfl) (by rfl) (by rfl) (by assumption) (TT_ok.ld _ _ (by rfl)) (Nat.le_of_ble_eq_true (by rfl))) ?_
          | refine OpA.quiet (QOp.ld1_ref (by rfl) (by rfl) (by rfl) (by rfl) (by rfl) (by assumption) (TT_ok.ld _ _ (by rfl)) (by rfl)) ?_
          | refine OpA.quiet (QOp.len_own (by rfl) (TT_ok.sl _ _ (by rfl)) (by rfl) (by rfl) (by rfl) (by rfl)) ?_
          | (refine OpA.quiet (QOp.cat (by rfl) (by rfl) (by rfl) (by first | assumption | (simp only [ByteArray.size_append, bs_size] at *; omega))) ?_)
          | (refine OpA.pop (POp.make (by rfl) (by first | exact rwk63 | exact rwk66) (by rfl) (by rfl) (by first | assumption | omega) (by simp; omega) (by simp [maxLen]; omega)) ?_)
          | refine OpA.sto (by rfl) (by rfl) (by rfl) (by rfl) (by rfl) (by rfl) (by rfl) (by rfl) (TT_ok.ld _ _ (by rfl)) (by rfl) (Nat.le_of_ble_eq_true (by rfl)) ?_
          | refine OpA.sto (by rfl) (by rfl) (by rfl) (by rfl) (by rfl) (by assumption) (by rfl) (by rfl) (TT_ok.ld _ _ (by rfl)) (by rfl) (Nat.le_of_ble_eq_true (by rfl)) ?_
          | refine OpA.pcall (by rfl) Try.func108 rfl rfl (by rfl) (by first | exact clo_all (by rfl) | repeat' (first | exact clo_nil | refine clo_cons ?_ ?_ | exact clo_of (by rfl) | exact clo_fn _ | assumption)) (toPoint x) (by first | exact clo_of (by rfl) | assumption) ?_)
        | ((with_reducible show AL _ _ _ _ _ _ _); first
          | refine AL.q TT_ok rfl (by rfl) ?_
          | refine AL.step rfl ?_
          | refine AL.nil ?_)
        | ((with_reducible show AW _ _ _ _ _ _); first
          | refine AW.seq ?_
          | refine AW.region ?_
          | refine AW.skip ?_
          | (refine AW.freezeRet (t := 2) (id := 0) rfl rfl rfl rfl (fil_clo (clo_all (by rfl)) TPoint.clo_en) ?_; simp only [fil_all])
          | (refine AW.cond (by rfl) (fun h => ?_) ?_; rotate_left; focus (intro h; (try simp only [Bool.not_eq_true', Bool.not_eq_false'] at h); first | (cases h; done) | exact clash (by with_reducible_and_instances assumption) h | exact clash h (by with_reducible_and_instances assumption) | exact absurd h (by decide) | (refine absurd h ?_; simp; done)))
          | (refine AW.cond (by rfl) ?_ (fun h => ?_); focus (intro h; (try simp only [Bool.not_eq_true', Bool.not_eq_false'] at h); first | (cases h; done) | exact clash (by with_reducible_and_instances assumption) h | exact clash h (by with_reducible_and_instances assumption) | exact absurd h (by decide) | (refine absurd h ?_; simp; done)))
          | (refine AW.cond (by rfl) ?_ ?_ <;> (intro h; try simp only [Bool.not_eq_true', Bool.not_eq_false'] at h))
          | refine AW.block ?_
          | refine AW.exit ?_
          | refine AW.ret ?_)
        | with_reducible refine (if_pos rfl).mpr ?_
        | with_reducible refine (if_neg (by decide)).mpr ?_) <;> (try dsimp only [dput, List.set, cond_true, cond_false, Nat.zero_add, Nat.add_zero, Nat.reduceAdd, splice, List.take, List.drop, List.length, List.nil_append, List.cons_append, List.append, TPoint.en, TSegment.en, TBox.en, TFeature.en, TMeet.en, TPlace.en, TCover.en, TLabel.en, TPiece.en, TLevel.en, TChart.en, TReason.en, TEdit.en, TEntry.en, TEdition.en, TListing.en, TAtlas.en, TEvent.en, TWindow.en]))
      all_goals exact Fin.one rfl (RV.tmp (by rfl)) hclo ⟨rfl, rfl⟩

set_option maxRecDepth 100000 in
set_option maxHeartbeats 2000000 in
theorem toFeature (x : TFeature) (hs : x.sm) : VCalls Try.prog 40 [.agg x.en] (fun r M => r = .agg x.en ∧ M = []) := by
  refine VCalls.body Try.func40 rfl 20 rfl (fun E => ?_)
  simp only [List.reduceReplicate, List.cons_append, List.nil_append]
  have hclo0 : Clo (.ro 2 (x.points.map TPoint.en)) := clo_list TPoint.clo_en
  have hcle : Clo (.agg x.en) := Clo.agg x.clo_en
  have hs' := hs
  obtain hs4 := hs
  dsimp only [TFeature.en]
  repeat' ((first
    | ((with_reducible show OpA _ _ _ _ _ _); first
      | refine OpA.quiet (QOp.ld1_ro (by rfl) (by rfl) (by assumption) (TT_ok.ld _ _ (by rfl)) (by rfl)) ?_
      | refine OpA.quiet (QOp.ldr_ro (by rfl) (by rfl) (by assumption) (TT_ok.ld _ _ (by rfl)) (Nat.le_of_ble_eq_true (by rfl))) ?_
      | refine OpA.box (by rfl) (by rfl) (by rfl) ?_
      | refine OpA.allocA (by rfl) (by first | exact ze2 | exact ze3 | exact ze4 | exact ze5 | exact ze6 | exact ze7 | exact ze8 | exact ze9 | exact ze10 | exact ze11 | exact ze12 | exact ze13 | exact ze14 | exact ze15 | exact ze16 | exact ze17 | exact ze18 | exact ze19 | exact ze63 | exact ze65 | exact ze66 | exact ze68 | exact ze109 | exact ze135) ?_
      | refine OpA.sto (by rfl) (by rfl) (by rfl) (by rfl) (by rfl) (by rfl) (by rfl) (by rfl) (TT_ok.ld _ _ (by rfl)) (by rfl) (Nat.le_of_ble_eq_true (by rfl)) ?_
      | refine OpA.sto (by rfl) (by rfl) (by rfl) (by rfl) (by rfl) (by assumption) (by rfl) (by rfl) (TT_ok.ld _ _ (by rfl)) (by rfl) (Nat.le_of_ble_eq_true (by rfl)) ?_
      | refine OpA.pcall (by rfl) Try.func83 rfl rfl (by rfl) (by first | exact clo_all (by rfl) | repeat' (first | exact clo_nil | refine clo_cons ?_ ?_ | exact clo_of (by rfl) | exact clo_fn _ | assumption)) (toPointS _ (by assumption)) (by first | exact clo_of (by rfl) | assumption) ?_)
    | ((with_reducible show AL _ _ _ _ _ _ _); first
      | refine AL.q TT_ok rfl (by rfl) ?_
      | refine AL.step rfl ?_
      | refine AL.nil ?_)
    | ((with_reducible show AW _ _ _ _ _ _); first
      | refine AW.seq ?_
      | refine AW.region ?_
      | refine AW.skip ?_
      | refine AW.ret ?_)
    | with_reducible refine (if_pos rfl).mpr ?_
    | with_reducible refine (if_neg (by decide)).mpr ?_) <;> (try dsimp only [dput, List.set, cond_true, cond_false, Nat.zero_add, Nat.add_zero, Nat.reduceAdd, splice, List.take, List.drop, List.length, List.nil_append, List.cons_append, List.append, TPoint.en, TSegment.en, TBox.en, TFeature.en, TMeet.en, TPlace.en, TCover.en, TLabel.en, TPiece.en, TLevel.en, TChart.en, TReason.en, TEdit.en, TEntry.en, TEdition.en, TListing.en, TAtlas.en, TEvent.en, TWindow.en]))
  all_goals exact Fin.one rfl (RV.cell (QOp.quietA TT_ok (by rfl))) (Clo.agg x.clo_en) ⟨by rfl, rfl⟩

set_option maxRecDepth 100000 in
set_option maxHeartbeats 2000000 in
theorem toFeatureS (l : List TFeature) (hl : l.length ≤ 1048576) (hp : ∀ x ∈ l, x.sm) : VCalls Try.prog 15 [.ro 5 (l.map TFeature.en)] (fun r M => r = .ro 5 (l.map TFeature.en) ∧ M = []) := by
  refine VCalls.bodyE Try.func15 rfl 22 rfl (fun E hE => ?_)
  simp only [List.reduceReplicate, List.cons_append, List.nil_append]
  repeat' ((first
    | ((with_reducible show OpA _ _ _ _ _ _); first
      | refine OpA.quiet (QOp.atk_ro (by rfl) (by rfl) (by rfl) (TT_ok.sl _ _ (by rfl)) (Nat.le_of_ble_eq_true (by rfl)) (by first | assumption | omega) (by assumption)) ?_
      | refine OpA.quiet (QOp.ld1_ro (by rfl) (by rfl) (by assumption) (TT_ok.ld _ _ (by rfl)) (by rfl)) ?_
      | refine OpA.quiet (QOp.ldr_ro (by rfl) (by rfl) (by assumption) (TT_ok.ld _ _ (by rfl)) (Nat.le_of_ble_eq_true (by rfl))) ?_
      | refine OpA.quiet (QOp.at_own (by rfl) (TT_ok.sl _ _ (by rfl)) (by rfl) (by rfl) (by rfl) (by rfl) (by rfl) (by rfl) (by first | assumption | omega | decide) (by first | assumption | omega | decide)) ?_
      | refine OpA.quiet (QOp.ldr_ref (by rfl) (by rfl) (by rfl) (by rfl) (by rfl) (by assumption) (TT_ok.ld _ _ (by rfl)) (Nat.le_of_ble_eq_true (by rfl))) ?_
      | refine OpA.quiet (QOp.ld1_ref (by rfl) (by rfl) (by rfl) (by rfl) (by rfl) (by assumption) (TT_ok.ld _ _ (by rfl)) (by rfl)) ?_
      | refine OpA.quiet (QOp.len_own (by rfl) (TT_ok.sl _ _ (by rfl)) (by rfl) (by rfl) (by rfl) (by rfl)) ?_
      | (refine OpA.quiet (QOp.cat (by rfl) (by rfl) (by rfl) (by first | assumption | (simp only [ByteArray.size_append, bs_size] at *; omega))) ?_)
      | (refine OpA.pop (POp.make (by rfl) (by first | exact rwk29 | exact rwk32 | exact rwk63 | exact rwk66) (by rfl) (by rfl) (by first | assumption | omega) (by simp; omega) (by simp [maxLen]; omega)) ?_)
      | refine OpA.sto (by rfl) (by rfl) (by rfl) (by rfl) (by rfl) (by rfl) (by rfl) (by rfl) (TT_ok.ld _ _ (by rfl)) (by rfl) (Nat.le_of_ble_eq_true (by rfl)) ?_
      | refine OpA.sto (by rfl) (by rfl) (by rfl) (by rfl) (by rfl) (by assumption) (by rfl) (by rfl) (TT_ok.ld _ _ (by rfl)) (by rfl) (Nat.le_of_ble_eq_true (by rfl)) ?_
      | refine OpA.pcall (by rfl) Try.func40 rfl rfl (by rfl) (by first | exact clo_all (by rfl) | repeat' (first | exact clo_nil | refine clo_cons ?_ ?_ | exact clo_of (by rfl) | exact clo_fn _ | assumption)) (toFeature x (by assumption)) (by first | exact clo_of (by rfl) | assumption) ?_)
    | ((with_reducible show AL _ _ _ _ _ _ _); first
      | refine AL.q TT_ok rfl (by rfl) ?_
      | refine AL.step rfl ?_
      | refine AL.nil ?_)
    | ((with_reducible show AW _ _ _ _ _ _); first
      | refine AW.seq ?_
      | refine AW.region ?_
      | refine AW.skip ?_
      | (refine AW.loopD hE (fun i : Nat => [.ro 5 (l.map TFeature.en), .any, .any, .own 0 0, I i, .any, .any, .any, .any, .any, .any, .any, .any, .any, .any, .any, .any, .any, .any, .any, .any, .any, .any]) (fun i => [some ⟨68, 5, 0, false, fil TFeature.en [I 0, I 0, I 0, S ⟨#[]⟩, .c (.slice none 0 0)] l i⟩]) (fun i => l.length - i) (fun i => i ≤ l.length) 0 (by simp) ?_ (by first | rfl | (simp [fil_zero]; done)) ?_)
      | (refine AW.cond (by rfl) (fun h => ?_) ?_; rotate_left; focus (intro h; (try simp only [Bool.not_eq_true', Bool.not_eq_false'] at h); first | (cases h; done) | exact clash (by with_reducible_and_instances assumption) h | exact clash h (by with_reducible_and_instances assumption) | exact absurd h (by decide) | (refine absurd h ?_; simp; done)))
      | (refine AW.cond (by rfl) ?_ (fun h => ?_); focus (intro h; (try simp only [Bool.not_eq_true', Bool.not_eq_false'] at h); first | (cases h; done) | exact clash (by with_reducible_and_instances assumption) h | exact clash h (by with_reducible_and_instances assumption) | exact absurd h (by decide) | (refine absurd h ?_; simp; done)))
      | (refine AW.cond (by rfl) ?_ ?_ <;> (intro h; try simp only [Bool.not_eq_true', Bool.not_eq_false'] at h))
      | refine AW.block ?_
      | refine AW.exit ?_
      | refine AW.ret ?_)
    | with_reducible refine (if_pos rfl).mpr ?_
    | with_reducible refine (if_neg (by decide)).mpr ?_) <;> (try dsimp only [dput, List.set, cond_true, cond_false, Nat.zero_add, Nat.add_zero, Nat.reduceAdd, splice, List.take, List.drop, List.length, List.nil_append, List.cons_append, List.append, TPoint.en, TSegment.en, TBox.en, TFeature.en, TMeet.en, TPlace.en, TCover.en, TLabel.en, TPiece.en, TLevel.en, TChart.en, TReason.en, TEdit.en, TEntry.en, TEdition.en, TListing.en, TAtlas.en, TEvent.en, TWindow.en]))
  · (repeat' (first | exact Wk.nil | refine Wk.any ?_ | (with_reducible refine Wk.same ?_) | refine Wk.of ?_ ?_)) <;> first | rfl | (simp)
  · intro i hi
    have hclo : Clo (.ro 5 (l.map TFeature.en)) := clo_list TFeature.clo_en
    by_cases hlt : i < l.length
    · obtain ⟨x, hx⟩ : ∃ x, l[i]? = some x := ⟨_, List.getElem?_eq_getElem hlt⟩
      have hg := map_get (f := TFeature.en) hx
      have ht := lt_true (f := TFeature.en) hlt
      have hn := next_ix hlt (by omega)
      have hz := fil_get (en := TFeature.en) (z := [I 0, I 0, I 0, S ⟨#[]⟩, .c (.slice none 0 0)]) hlt
      have ha := fil_at (en := TFeature.en) (z := [I 0, I 0, I 0, S ⟨#[]⟩, .c (.slice none 0 0)]) hlt
      have hs := fil_set (en := TFeature.en) (z := [I 0, I 0, I 0, S ⟨#[]⟩, .c (.slice none 0 0)]) hx
      have hpx := hp x (List.mem_of_getElem? hx)
      have hclo0 : Clo (.ro 2 (x.points.map TPoint.en)) := clo_list TPoint.clo_en
      have hcle : Clo (.agg x.en) := Clo.agg x.clo_en
      repeat' ((first
        | ((with_reducible show OpA _ _ _ _ _ _); first
          | refine OpA.quiet (QOp.atk_ro (by rfl) (by rfl) (by rfl) (TT_ok.sl _ _ (by rfl)) (Nat.le_of_ble_eq_true (by rfl)) (by first | assumption | omega) (by assumption)) ?_
          | refine OpA.quiet (QOp.ld1_ro (by rfl) (by rfl) (by assumption) (TT_ok.ld _ _ (by rfl)) (by rfl)) ?_
          | refine OpA.quiet (QOp.ldr_ro (by rfl) (by rfl) (by assumption) (TT_ok.ld _ _ (by rfl)) (Nat.le_of_ble_eq_true (by rfl))) ?_
          | refine OpA.quiet (QOp.at_own (by rfl) (TT_ok.sl _ _ (by rfl)) (by rfl) (by rfl) (by rfl) (by rfl) (by rfl) (by rfl) (by first | assumption | omega | decide) (by first | assumption | omega | decide)) ?_
          | refine OpA.quiet (QOp.ldr_ref (by rfl) (by rfl) (by rfl) (by rfl) (by rfl) (by assumption) (TT_ok.ld _ _ (by rfl)) (Nat.le_of_ble_eq_true (by rfl))) ?_
          | refine OpA.quiet (QOp.ld1_ref (by rfl) (by rfl) (by rfl) (by rfl) (by rfl) (by assumption) (TT_ok.ld _ _ (by rfl)) (by rfl)) ?_
          | refine OpA.quiet (QOp.len_own (by rfl) (TT_ok.sl _ _ (by rfl)) (by rfl) (by rfl) (by rfl) (by rfl)) ?_
          | (refine OpA.quiet (QOp.cat (by rfl) (by rfl) (by rfl) (by first | assumption | (simp only [ByteArray.size_append, bs_size] at *; omega))) ?_)
          | (refine OpA.pop (POp.make (by rfl) (by first | exact rwk29 | exact rwk32 | exact rwk63 | exact rwk66) (by rfl) (by rfl) (by first | assumption | omega) (by simp; omega) (by simp [maxLen]; omega)) ?_)
          | refine OpA.sto (by rfl) (by rfl) (by rfl) (by rfl) (by rfl) (by rfl) (by rfl) (by rfl) (TT_ok.ld _ _ (by rfl)) (by rfl) (Nat.le_of_ble_eq_true (by rfl)) ?_
          | refine OpA.sto (by rfl) (by rfl) (by rfl) (by rfl) (by rfl) (by assumption) (by rfl) (by rfl) (TT_ok.ld _ _ (by rfl)) (by rfl) (Nat.le_of_ble_eq_true (by rfl)) ?_
          | refine OpA.pcall (by rfl) Try.func40 rfl rfl (by rfl) (by first | exact clo_all (by rfl) | repeat' (first | exact clo_nil | refine clo_cons ?_ ?_ | exact clo_of (by rfl) | exact clo_fn _ | assumption)) (toFeature x (by assumption)) (by first | exact clo_of (by rfl) | assumption) ?_)
        | ((with_reducible show AL _ _ _ _ _ _ _); first
          | refine AL.q TT_ok rfl (by rfl) ?_
          | refine AL.step rfl ?_
          | refine AL.nil ?_)
        | ((with_reducible show AW _ _ _ _ _ _); first
          | refine AW.seq ?_
          | refine AW.region ?_
          | refine AW.skip ?_
          | (refine AW.cond (by rfl) (fun h => ?_) ?_; rotate_left; focus (intro h; (try simp only [Bool.not_eq_true', Bool.not_eq_false'] at h); first | (cases h; done) | exact clash (by with_reducible_and_instances assumption) h | exact clash h (by with_reducible_and_instances assumption) | exact absurd h (by decide) | (refine absurd h ?_; simp; done)))
          | (refine AW.cond (by rfl) ?_ (fun h => ?_); focus (intro h; (try simp only [Bool.not_eq_true', Bool.not_eq_false'] at h); first | (cases h; done) | exact clash (by with_reducible_and_instances assumption) h | exact clash h (by with_reducible_and_instances assumption) | exact absurd h (by decide) | (refine absurd h ?_; simp; done)))
          | (refine AW.cond (by rfl) ?_ ?_ <;> (intro h; try simp only [Bool.not_eq_true', Bool.not_eq_false'] at h))
          | refine AW.block ?_
          | refine AW.exit ?_
          | refine AW.ret ?_)
        | with_reducible refine (if_pos rfl).mpr ?_
        | with_reducible refine (if_neg (by decide)).mpr ?_) <;> (try dsimp only [dput, List.set, cond_true, cond_false, Nat.zero_add, Nat.add_zero, Nat.reduceAdd, splice, List.take, List.drop, List.length, List.nil_append, List.cons_append, List.append, TPoint.en, TSegment.en, TBox.en, TFeature.en, TMeet.en, TPlace.en, TCover.en, TLabel.en, TPiece.en, TLevel.en, TChart.en, TReason.en, TEdit.en, TEntry.en, TEdition.en, TListing.en, TAtlas.en, TEvent.en, TWindow.en]))
      all_goals first
        | (refine ⟨i + 1, [], hlt, by omega, ?_, by rw [← hs] <;> rfl, ?_, ?_⟩; (focus ((repeat' (first | exact Wk.nil | refine Wk.any ?_ | (with_reducible refine Wk.same ?_) | refine Wk.of ?_ ?_)) <;> (simp_all))); (focus ((repeat' (first | exact Fits.nil _ | refine Fits.cons ?_ ?_ | exact Fits.any _ | exact Fits.c _ _ | exact Fits.own (by rfl) | exact Fits.ref (by rfl) | exact Fits.clo (by assumption) | exact Fits.clo (clo_of (by rfl)) | exact Fits.clo (clo_fn _))))); (focus (exact fits_row (fil_clo (clo_all (by rfl)) TFeature.clo_en))))
    · have ht := lt_false (f := TFeature.en) hlt
      have e : i = l.length := by omega
      subst e
      try rw [List.take_length]
      repeat' ((first
        | ((with_reducible show OpA _ _ _ _ _ _); first
          | refine OpA.quiet (QOp.atk_ro (by rfl) (by rfl) (by rfl) (TT_ok.sl _ _ (by rfl)) (Nat.le_of_ble_eq_true (by rfl)) (by first | assumption | omega) (by assumption)) ?_
          | refine OpA.quiet (QOp.ld1_ro (by rfl) (by rfl) (by assumption) (TT_ok.ld _ _ (by rfl)) (by rfl)) ?_
          | refine OpA.quiet (QOp.ldr_ro (by rfl) (by rfl) (by assumption) (TT_ok.ld _ _ (by rfl)) (Nat.le_of_ble_eq_true (by rfl))) ?_
          | refine OpA.quiet (QOp.at_own (by rfl) (TT_ok.sl _ _ (by rfl)) (by rfl) (by rfl) (by rfl) (by rfl) (by rfl) (by rfl) (by first | assumption | omega | decide) (by first | assumption | omega | decide)) ?_
          | refine OpA.quiet (QOp.ldr_ref (by rfl) (by rfl) (by rfl) (by rfl) (by rfl) (by assumption) (TT_ok.ld _ _ (by rfl)) (Nat.le_of_ble_eq_true (by rfl))) ?_
          | refine OpA.quiet (QOp.ld1_ref (by rfl) (by rfl) (by rfl) (by rfl) (by rfl) (by assumption) (TT_ok.ld _ _ (by rfl)) (by rfl)) ?_
          | refine OpA.quiet (QOp.len_own (by rfl) (TT_ok.sl _ _ (by rfl)) (by rfl) (by rfl) (by rfl) (by rfl)) ?_
          | (refine OpA.quiet (QOp.cat (by rfl) (by rfl) (by rfl) (by first | assumption | (simp only [ByteArray.size_append, bs_size] at *; omega))) ?_)
          | (refine OpA.pop (POp.make (by rfl) (by first | exact rwk29 | exact rwk32 | exact rwk63 | exact rwk66) (by rfl) (by rfl) (by first | assumption | omega) (by simp; omega) (by simp [maxLen]; omega)) ?_)
          | refine OpA.sto (by rfl) (by rfl) (by rfl) (by rfl) (by rfl) (by rfl) (by rfl) (by rfl) (TT_ok.ld _ _ (by rfl)) (by rfl) (Nat.le_of_ble_eq_true (by rfl)) ?_
          | refine OpA.sto (by rfl) (by rfl) (by rfl) (by rfl) (by rfl) (by assumption) (by rfl) (by rfl) (TT_ok.ld _ _ (by rfl)) (by rfl) (Nat.le_of_ble_eq_true (by rfl)) ?_
          | refine OpA.pcall (by rfl) Try.func40 rfl rfl (by rfl) (by first | exact clo_all (by rfl) | repeat' (first | exact clo_nil | refine clo_cons ?_ ?_ | exact clo_of (by rfl) | exact clo_fn _ | assumption)) (toFeature x (by assumption)) (by first | exact clo_of (by rfl) | assumption) ?_)
        | ((with_reducible show AL _ _ _ _ _ _ _); first
          | refine AL.q TT_ok rfl (by rfl) ?_
          | refine AL.step rfl ?_
          | refine AL.nil ?_)
        | ((with_reducible show AW _ _ _ _ _ _); first
          | refine AW.seq ?_
          | refine AW.region ?_
          | refine AW.skip ?_
          | (refine AW.freezeRet (t := 2) (id := 0) rfl rfl rfl rfl (fil_clo (clo_all (by rfl)) TFeature.clo_en) ?_; simp only [fil_all])
          | (refine AW.cond (by rfl) (fun h => ?_) ?_; rotate_left; focus (intro h; (try simp only [Bool.not_eq_true', Bool.not_eq_false'] at h); first | (cases h; done) | exact clash (by with_reducible_and_instances assumption) h | exact clash h (by with_reducible_and_instances assumption) | exact absurd h (by decide) | (refine absurd h ?_; simp; done)))
          | (refine AW.cond (by rfl) ?_ (fun h => ?_); focus (intro h; (try simp only [Bool.not_eq_true', Bool.not_eq_false'] at h); first | (cases h; done) | exact clash (by with_reducible_and_instances assumption) h | exact clash h (by with_reducible_and_instances assumption) | exact absurd h (by decide) | (refine absurd h ?_; simp; done)))
          | (refine AW.cond (by rfl) ?_ ?_ <;> (intro h; try simp only [Bool.not_eq_true', Bool.not_eq_false'] at h))
          | refine AW.block ?_
          | refine AW.exit ?_
          | refine AW.ret ?_)
        | with_reducible refine (if_pos rfl).mpr ?_
        | with_reducible refine (if_neg (by decide)).mpr ?_) <;> (try dsimp only [dput, List.set, cond_true, cond_false, Nat.zero_add, Nat.add_zero, Nat.reduceAdd, splice, List.take, List.drop, List.length, List.nil_append, List.cons_append, List.append, TPoint.en, TSegment.en, TBox.en, TFeature.en, TMeet.en, TPlace.en, TCover.en, TLabel.en, TPiece.en, TLevel.en, TChart.en, TReason.en, TEdit.en, TEntry.en, TEdition.en, TListing.en, TAtlas.en, TEvent.en, TWindow.en]))
      all_goals exact Fin.one rfl (RV.tmp (by rfl)) hclo ⟨rfl, rfl⟩

end Go.Proofs.Ytbkcoechoblndaa.Abs
