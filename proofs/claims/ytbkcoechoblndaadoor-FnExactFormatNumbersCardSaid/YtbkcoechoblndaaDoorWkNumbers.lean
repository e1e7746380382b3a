/- The walks of FormatNumbers. -/
import Derived.Test.YtbkcoechoblndaaDoorWkFacts
import Derived.Test.YtbkcoechoblndaaDoorWkFmt2
namespace Go.Proofs.YtbkcoechoblndaaDoor.Abs
open Go.Proofs Go.RowKit
set_option linter.unusedVariables false
set_option linter.unusedSimpArgs false
set_option maxRecDepth 100000 in
set_option maxHeartbeats 2000000 in
theorem nums_s (l : List Int) (hl : l.length ≤ 1048576) (hok : ∀ x ∈ l, i64 x) : VCalls Tryd.prog 9 [.ro 1 (l.map (fun n => [I n]))] (fun r M => r = S (joinR (l.map fmtI) ⟨#[32]⟩) ∧ M = []) := by
  refine VCalls.bodyE Tryd.func9 rfl 21 rfl (fun E hE => ?_)
  simp only [List.reduceReplicate, List.cons_append, List.nil_append]
  repeat' ((first
    | refine AW.seq ?_
    | refine AW.region ?_
    | refine AW.skip ?_
    | refine AL.q TT_ok rfl (by rfl) ?_
    | refine AL.step rfl ?_
    | refine OpA.quiet (QOp.atk_ro (by rfl) (by rfl) (by rfl) (by first | exact slk22 | exact slk67) (Nat.le_of_ble_eq_true (by rfl)) (by first | assumption | omega) (by assumption)) ?_
    | refine OpA.quiet (QOp.ld1_ro (by rfl) (by rfl) (by assumption) (by first | exact ldk2 | exact ldk3 | exact ldk4 | exact ldk5 | exact ldk6 | exact ldk8 | exact ldk9 | exact ldk10 | exact ldk11 | exact ldk12 | exact ldk13 | exact ldk14 | exact ldk15 | exact ldk17 | exact ldk19 | exact ldk21 | exact ldk22 | exact ldk67) (by rfl)) ?_
    | refine OpA.quiet (QOp.ldr_ro (by rfl) (by rfl) (by assumption) (by first | exact ldk2 | exact ldk3 | exact ldk4 | exact ldk5 | exact ldk6 | exact ldk8 | exact ldk9 | exact ldk10 | exact ldk11 | exact ldk12 | exact ldk13 | exact ldk14 | exact ldk15 | exact ldk17 | exact ldk19 | exact ldk21 | exact ldk22 | exact ldk67) (Nat.le_of_ble_eq_true (by rfl))) ?_
    | refine OpA.quiet (QOp.at_own (by rfl) (by first | exact slk22 | exact slk67) (by rfl) (by rfl) (by rfl) (by rfl) (by rfl) (by rfl) (by first | assumption | omega | decide) (by first | assumption | omega | decide)) ?_
    | refine OpA.quiet (QOp.len_own (by rfl) (by first | exact slk22 | exact slk67) (by rfl) (by rfl) (by rfl) (by rfl)) ?_
    | (refine OpA.quiet (QOp.cat (by rfl) (by rfl) (by rfl) (by first | assumption | (simp only [ByteArray.size_append, bs_size] at *; omega))) ?_)
    | refine OpA.pop (POp.empty (by rfl) (by rfl) (by first | exact rwk22 | exact rwk67)) ?_
    | refine OpA.pop (POp.literal (by rfl) (by first | exact rwk22 | exact rwk67) (by rfl) (by rfl) (by rfl) (by rfl) (by rfl) (by rfl)) ?_
    | (refine OpA.pop (POp.append (by rfl) (by first | exact rwk22 | exact rwk67) (by rfl) (by rfl) (by rfl) (by rfl) (by rfl) (by rfl) (by rfl) (SrcA.own (by rfl) (by rfl) (by rfl) (by rfl)) (by first | (simp; omega) | omega | (simp_all; omega)) (by first | (simp [maxLen]; omega) | (simp_all [maxLen]; omega))) ?_)
    | (refine OpA.pop (POp.append (by rfl) (by first | exact rwk22 | exact rwk67) (by rfl) (by rfl) (by rfl) (by rfl) (by rfl) (by rfl) (by rfl) SrcA.ro (by first | (simp; omega) | omega | (simp_all; omega)) (by first | (simp [maxLen]; omega) | (simp_all [maxLen]; omega))) ?_)
    | refine OpA.pcall (by rfl) Tryd.func37 rfl rfl (by rfl) (by first | exact clo_all (by rfl) | (intro x hx; simp only [List.mem_cons, List.not_mem_nil, or_false] at hx; rcases hx with rfl | rfl | rfl | rfl | rfl | rfl | rfl | rfl <;> first | exact clo_of (by rfl) | exact clo_fn _ | assumption)) (fmt_s _ (by assumption)) (by first | exact clo_of (by rfl) | assumption) ?_
    | refine OpA.pcall (by rfl) Tryd.func38 rfl rfl (by rfl) (by first | exact clo_all (by rfl) | (intro x hx; simp only [List.mem_cons, List.not_mem_nil, or_false] at hx; rcases hx with rfl | rfl | rfl | rfl | rfl | rfl | rfl | rfl <;> first | exact clo_of (by rfl) | exact clo_fn _ | assumption)) (join_s (l.map fmtI) _ (by assumption) (by assumption) (by first | assumption | decide)) (by first | exact clo_of (by rfl) | assumption) ?_
    | (refine AW.loopD hE (fun i : Nat => [.ro 1 (l.map (fun n => [I n])), .any, .any, .own 0 i, I i, .any, .any, .any, .any, .any, .any, .any, .any, .any, .any, .any, .any, .any, .any, .any, .any, .any]) (fun i => [some ⟨9, 1, i, false, ((l.map fmtI).take i).map (fun s => [S s])⟩]) (fun i => l.length - i) (fun i => i ≤ l.length) 0 (by simp) ?_ (by first | rfl | (simp [fil_zero]; done)) ?_)
    | (refine AW.cond (by rfl) (fun h => ?_) ?_; rotate_left; focus (intro h; (try simp only [Bool.not_eq_true', Bool.not_eq_false'] at h); first | (cases h; done) | exact clash (by with_reducible_and_instances assumption) h | exact clash h (by with_reducible_and_instances assumption) | exact absurd h (by decide) | (refine absurd h ?_; simp; done)))
    | (refine AW.cond (by rfl) ?_ (fun h => ?_); focus (intro h; (try simp only [Bool.not_eq_true', Bool.not_eq_false'] at h); first | (cases h; done) | exact clash (by with_reducible_and_instances assumption) h | exact clash h (by with_reducible_and_instances assumption) | exact absurd h (by decide) | (refine absurd h ?_; simp; done)))
    | (refine AW.cond (by rfl) ?_ ?_ <;> (intro h; try simp only [Bool.not_eq_true', Bool.not_eq_false'] at h))
    | refine AW.block ?_
    | refine AW.exit ?_
    | refine AL.nil ?_
    | refine AW.ret ?_) <;> (try dsimp only [dput, List.set, cond_true, cond_false, Nat.zero_add, Nat.add_zero, Nat.reduceAdd, splice, List.take, List.drop, List.length, List.nil_append, List.cons_append, TPoint.en, TSegment.en, TBox.en, TFeature.en, TMeet.en, TPlace.en, TCover.en, TLabel.en, TPiece.en, TLevel.en, TChart.en, TReason.en, TEdit.en, TEntry.en, TEdition.en, TListing.en, TAtlas.en, TEvent.en, TWindow.en]))
  · (repeat' (first | exact Wk.nil | refine Wk.any ?_ | (with_reducible refine Wk.same ?_) | refine Wk.of ?_ ?_)) <;> first | rfl | (simp)
  · intro i hi
    have hclo : Clo (.ro 1 (l.map (fun n => [I n]))) := clo_list (fun _ => clo_cons (clo_c _) clo_nil)
    by_cases hlt : i < l.length
    · obtain ⟨x, hx⟩ : ∃ x, l[i]? = some x := ⟨_, List.getElem?_eq_getElem hlt⟩
      have hg := map_get (f := (fun n => [I n])) hx
      have ht := lt_true (f := (fun n => [I n])) hlt
      have hn := next_ix hlt (by omega)
      have hxm := List.mem_of_getElem? hx
      have hs : (l.map fmtI)[i]? = some (fmtI x) := by rw [List.getElem?_map, hx]; rfl
      have hm := map_take_succS (f := fun s => [S s]) hs
      have hnx := hok x hxm
      repeat' ((first
        | refine AW.seq ?_
        | refine AW.region ?_
        | refine AW.skip ?_
        | refine AL.q TT_ok rfl (by rfl) ?_
        | refine AL.step rfl ?_
        | refine OpA.quiet (QOp.atk_ro (by rfl) (by rfl) (by rfl) (by first | exact slk22 | exact slk67) (Nat.le_of_ble_eq_true (by rfl)) (by first | assumption | omega) (by assumption)) ?_
        | refine OpA.quiet (QOp.ld1_ro (by rfl) (by rfl) (by assumption) (by first | exact ldk2 | exact ldk3 | exact ldk4 | exact ldk5 | exact ldk6 | exact ldk8 | exact ldk9 | exact ldk10 | exact ldk11 | exact ldk12 | exact ldk13 | exact ldk14 | exact ldk15 | exact ldk17 | exact ldk19 | exact ldk21 | exact ldk22 | exact ldk67) (by rfl)) ?_
        | refine OpA.quiet (QOp.ldr_ro (by rfl) (by rfl) (by assumption) (by first | exact ldk2 | exact ldk3 | exact ldk4 | exact ldk5 | exact ldk6 | exact ldk8 | exact ldk9 | exact ldk10 | exact ldk11 | exact ldk12 | exact ldk13 | exact ldk14 | exact ldk15 | exact ldk17 | exact ldk19 | exact ldk21 | exact ldk22 | exact ldk67) (Nat.le_of_ble_eq_true (by rfl))) ?_
        | refine OpA.quiet (QOp.at_own (by rfl) (by first | exact slk22 | exact slk67) (by rfl) (by rfl) (by rfl) (by rfl) (by rfl) (by rfl) (by first | assumption | omega | decide) (by first | assumption | omega | decide)) ?_
        | refine OpA.quiet (QOp.len_own (by rfl) (by first | exact slk22 | exact slk67) (by rfl) (by rfl) (by rfl) (by rfl)) ?_
        | (refine OpA.quiet (QOp.cat (by rfl) (by rfl) (by rfl) (by first | assumption | (simp only [ByteArray.size_append, bs_size] at *; omega))) ?_)
        | refine OpA.pop (POp.empty (by rfl) (by rfl) (by first | exact rwk22 | exact rwk67)) ?_
        | refine OpA.pop (POp.literal (by rfl) (by first | exact rwk22 | exact rwk67) (by rfl) (by rfl) (by rfl) (by rfl) (by rfl) (by rfl)) ?_
        | (refine OpA.pop (POp.append (by rfl) (by first | exact rwk22 | exact rwk67) (by rfl) (by rfl) (by rfl) (by rfl) (by rfl) (by rfl) (by rfl) (SrcA.own (by rfl) (by rfl) (by rfl) (by rfl)) (by first | (simp; omega) | omega | (simp_all; omega)) (by first | (simp [maxLen]; omega) | (simp_all [maxLen]; omega))) ?_)
        | (refine OpA.pop (POp.append (by rfl) (by first | exact rwk22 | exact rwk67) (by rfl) (by rfl) (by rfl) (by rfl) (by rfl) (by rfl) (by rfl) SrcA.ro (by first | (simp; omega) | omega | (simp_all; omega)) (by first | (simp [maxLen]; omega) | (simp_all [maxLen]; omega))) ?_)
        | refine OpA.pcall (by rfl) Tryd.func37 rfl rfl (by rfl) (by first | exact clo_all (by rfl) | (intro x hx; simp only [List.mem_cons, List.not_mem_nil, or_false] at hx; rcases hx with rfl | rfl | rfl | rfl | rfl | rfl | rfl | rfl <;> first | exact clo_of (by rfl) | exact clo_fn _ | assumption)) (fmt_s _ (by assumption)) (by first | exact clo_of (by rfl) | assumption) ?_
        | refine OpA.pcall (by rfl) Tryd.func38 rfl rfl (by rfl) (by first | exact clo_all (by rfl) | (intro x hx; simp only [List.mem_cons, List.not_mem_nil, or_false] at hx; rcases hx with rfl | rfl | rfl | rfl | rfl | rfl | rfl | rfl <;> first | exact clo_of (by rfl) | exact clo_fn _ | assumption)) (join_s (l.map fmtI) _ (by assumption) (by assumption) (by first | assumption | decide)) (by first | exact clo_of (by rfl) | assumption) ?_
        | (refine AW.cond (by rfl) (fun h => ?_) ?_; rotate_left; focus (intro h; (try simp only [Bool.not_eq_true', Bool.not_eq_false'] at h); first | (cases h; done) | exact clash (by with_reducible_and_instances assumption) h | exact clash h (by with_reducible_and_instances assumption) | exact absurd h (by decide) | (refine absurd h ?_; simp; done)))
        | (refine AW.cond (by rfl) ?_ (fun h => ?_); focus (intro h; (try simp only [Bool.not_eq_true', Bool.not_eq_false'] at h); first | (cases h; done) | exact clash (by with_reducible_and_instances assumption) h | exact clash h (by with_reducible_and_instances assumption) | exact absurd h (by decide) | (refine absurd h ?_; simp; done)))
        | (refine AW.cond (by rfl) ?_ ?_ <;> (intro h; try simp only [Bool.not_eq_true', Bool.not_eq_false'] at h))
        | refine AW.block ?_
        | refine AW.exit ?_
        | refine AL.nil ?_
        | refine AW.ret ?_) <;> (try dsimp only [dput, List.set, cond_true, cond_false, Nat.zero_add, Nat.add_zero, Nat.reduceAdd, splice, List.take, List.drop, List.length, List.nil_append, List.cons_append, TPoint.en, TSegment.en, TBox.en, TFeature.en, TMeet.en, TPlace.en, TCover.en, TLabel.en, TPiece.en, TLevel.en, TChart.en, TReason.en, TEdit.en, TEntry.en, TEdition.en, TListing.en, TAtlas.en, TEvent.en, TWindow.en]))
      all_goals first
        | (refine ⟨i + 1, _, hlt, by omega, ?_, by rw [hm] <;> rfl, ?_, ?_⟩; (focus ((repeat' (first | exact Wk.nil | refine Wk.any ?_ | (with_reducible refine Wk.same ?_) | refine Wk.of ?_ ?_)) <;> (simp_all))); (focus ((repeat' (first | exact Fits.nil _ | refine Fits.cons ?_ ?_ | exact Fits.any _ | exact Fits.c _ _ | exact Fits.own (by rfl) | exact Fits.ref (by rfl) | exact Fits.clo (by assumption) | exact Fits.clo (clo_of (by rfl)) | exact Fits.clo (clo_fn _))))); (focus (exact fits_row (clo_rowsS cloS))))
    · have ht := lt_false (f := (fun n => [I n])) hlt
      have e : i = l.length := by omega
      subst e
      try rw [List.take_length]
      have hlm : (l.map fmtI).length ≤ 1048576 := by simpa using hl
      have hclR : Clo (.ro 1 ((l.map fmtI).map (fun s => [S s]))) := clo_list cloS
      rw [take_map_all]
      have hB : ∀ x ∈ l.map fmtI, x.size ≤ 67108864 := fun x hx => by
        obtain ⟨y, hy, rfl⟩ := List.mem_map.1 hx
        have := fmtI_size (hok y hy)
        omega
      refine AW.freeze (t := 3) (id := 0) rfl rfl rfl rfl (clo_rowsS cloS) ?_
      try dsimp only [dput, List.set, cond_true, cond_false, Nat.zero_add, Nat.add_zero, Nat.reduceAdd, splice, List.take, List.drop, List.length, List.nil_append, List.cons_append, TPoint.en, TSegment.en, TBox.en, TFeature.en, TMeet.en, TPlace.en, TCover.en, TLabel.en, TPiece.en, TLevel.en, TChart.en, TReason.en, TEdit.en, TEntry.en, TEdition.en, TListing.en, TAtlas.en, TEvent.en, TWindow.en]
      repeat' ((first
        | refine AW.seq ?_
        | refine AW.region ?_
        | refine AW.skip ?_
        | refine AL.q TT_ok rfl (by rfl) ?_
        | refine AL.step rfl ?_
        | refine OpA.quiet (QOp.atk_ro (by rfl) (by rfl) (by rfl) (by first | exact slk22 | exact slk67) (Nat.le_of_ble_eq_true (by rfl)) (by first | assumption | omega) (by assumption)) ?_
        | refine OpA.quiet (QOp.ld1_ro (by rfl) (by rfl) (by assumption) (by first | exact ldk2 | exact ldk3 | exact ldk4 | exact ldk5 | exact ldk6 | exact ldk8 | exact ldk9 | exact ldk10 | exact ldk11 | exact ldk12 | exact ldk13 | exact ldk14 | exact ldk15 | exact ldk17 | exact ldk19 | exact ldk21 | exact ldk22 | exact ldk67) (by rfl)) ?_
        | refine OpA.quiet (QOp.ldr_ro (by rfl) (by rfl) (by assumption) (by first | exact ldk2 | exact ldk3 | exact ldk4 | exact ldk5 | exact ldk6 | exact ldk8 | exact ldk9 | exact ldk10 | exact ldk11 | exact ldk12 | exact ldk13 | exact ldk14 | exact ldk15 | exact ldk17 | exact ldk19 | exact ldk21 | exact ldk22 | exact ldk67) (Nat.le_of_ble_eq_true (by rfl))) ?_
        | refine OpA.quiet (QOp.at_own (by rfl) (by first | exact slk22 | exact slk67) (by rfl) (by rfl) (by rfl) (by rfl) (by rfl) (by rfl) (by first | assumption | omega | decide) (by first | assumption | omega | decide)) ?_
        | refine OpA.quiet (QOp.len_own (by rfl) (by first | exact slk22 | exact slk67) (by rfl) (by rfl) (by rfl) (by rfl)) ?_
        | (refine OpA.quiet (QOp.cat (by rfl) (by rfl) (by rfl) (by first | assumption | (simp only [ByteArray.size_append, bs_size] at *; omega))) ?_)
        | refine OpA.pop (POp.empty (by rfl) (by rfl) (by first | exact rwk22 | exact rwk67)) ?_
        | refine OpA.pop (POp.literal (by rfl) (by first | exact rwk22 | exact rwk67) (by rfl) (by rfl) (by rfl) (by rfl) (by rfl) (by rfl)) ?_
        | (refine OpA.pop (POp.append (by rfl) (by first | exact rwk22 | exact rwk67) (by rfl) (by rfl) (by rfl) (by rfl) (by rfl) (by rfl) (by rfl) (SrcA.own (by rfl) (by rfl) (by rfl) (by rfl)) (by first | (simp; omega) | omega | (simp_all; omega)) (by first | (simp [maxLen]; omega) | (simp_all [maxLen]; omega))) ?_)
        | (refine OpA.pop (POp.append (by rfl) (by first | exact rwk22 | exact rwk67) (by rfl) (by rfl) (by rfl) (by rfl) (by rfl) (by rfl) (by rfl) SrcA.ro (by first | (simp; omega) | omega | (simp_all; omega)) (by first | (simp [maxLen]; omega) | (simp_all [maxLen]; omega))) ?_)
        | refine OpA.pcall (by rfl) Tryd.func37 rfl rfl (by rfl) (by first | exact clo_all (by rfl) | (intro x hx; simp only [List.mem_cons, List.not_mem_nil, or_false] at hx; rcases hx with rfl | rfl | rfl | rfl | rfl | rfl | rfl | rfl <;> first | exact clo_of (by rfl) | exact clo_fn _ | assumption)) (fmt_s _ (by assumption)) (by first | exact clo_of (by rfl) | assumption) ?_
        | refine OpA.pcall (by rfl) Tryd.func38 rfl rfl (by rfl) (by first | exact clo_all (by rfl) | (intro x hx; simp only [List.mem_cons, List.not_mem_nil, or_false] at hx; rcases hx with rfl | rfl | rfl | rfl | rfl | rfl | rfl | rfl <;> first | exact clo_of (by rfl) | exact clo_fn _ | assumption)) (join_s (l.map fmtI) _ (by assumption) (by assumption) (by first | assumption | decide)) (by first | exact clo_of (by rfl) | assumption) ?_
        | (refine AW.cond (by rfl) (fun h => ?_) ?_; rotate_left; focus (intro h; (try simp only [Bool.not_eq_true', Bool.not_eq_false'] at h); first | (cases h; done) | exact clash (by with_reducible_and_instances assumption) h | exact clash h (by with_reducible_and_instances assumption) | exact absurd h (by decide) | (refine absurd h ?_; simp; done)))
        | (refine AW.cond (by rfl) ?_ (fun h => ?_); focus (intro h; (try simp only [Bool.not_eq_true', Bool.not_eq_false'] at h); first | (cases h; done) | exact clash (by with_reducible_and_instances assumption) h | exact clash h (by with_reducible_and_instances assumption) | exact absurd h (by decide) | (refine absurd h ?_; simp; done)))
        | (refine AW.cond (by rfl) ?_ ?_ <;> (intro h; try simp only [Bool.not_eq_true', Bool.not_eq_false'] at h))
        | refine AW.block ?_
        | refine AW.exit ?_
        | refine AL.nil ?_
        | refine AW.ret ?_) <;> (try dsimp only [dput, List.set, cond_true, cond_false, Nat.zero_add, Nat.add_zero, Nat.reduceAdd, splice, List.take, List.drop, List.length, List.nil_append, List.cons_append, TPoint.en, TSegment.en, TBox.en, TFeature.en, TMeet.en, TPlace.en, TCover.en, TLabel.en, TPiece.en, TLevel.en, TChart.en, TReason.en, TEdit.en, TEntry.en, TEdition.en, TListing.en, TAtlas.en, TEvent.en, TWindow.en]))
      all_goals exact Fin.one rfl (RV.tmp (by rfl)) (clo_c _) ⟨rfl, rfl⟩

set_option maxRecDepth 100000 in
set_option maxHeartbeats 2000000 in
theorem nums_i (l : List Int) (hl : l.length ≤ 1048576) (hok : ∀ x ∈ l, i64 x) : VCallsI Tryd.prog TabI 11 [.ro 1 (l.map (fun n => [I n]))] (fun r M => r = S (joinR (l.map fmtI) ⟨#[32]⟩) ∧ M = []) := by
  refine VCallsI.bodyE Tryd.func11 rfl 20 rfl (fun E hE hK => ?_)
  simp only [List.reduceReplicate, List.cons_append, List.nil_append]
  repeat' ((first
    | refine AW.seq ?_
    | refine AW.region ?_
    | refine AW.skip ?_
    | refine AL.q TT_ok rfl (by rfl) ?_
    | refine AL.step rfl ?_
    | refine OpA.quiet (QOp.atk_ro (by rfl) (by rfl) (by rfl) (by first | exact slk22 | exact slk67) (Nat.le_of_ble_eq_true (by rfl)) (by first | assumption | omega) (by assumption)) ?_
    | refine OpA.quiet (QOp.ld1_ro (by rfl) (by rfl) (by assumption) (by first | exact ldk2 | exact ldk3 | exact ldk4 | exact ldk5 | exact ldk6 | exact ldk7 | exact ldk8 | exact ldk9 | exact ldk11 | exact ldk12 | exact ldk17 | exact ldk18 | exact ldk22 | exact ldk67) (by rfl)) ?_
    | refine OpA.quiet (QOp.ldr_ro (by rfl) (by rfl) (by assumption) (by first | exact ldk2 | exact ldk3 | exact ldk4 | exact ldk5 | exact ldk6 | exact ldk7 | exact ldk8 | exact ldk9 | exact ldk11 | exact ldk12 | exact ldk17 | exact ldk18 | exact ldk22 | exact ldk67) (Nat.le_of_ble_eq_true (by rfl))) ?_
    | refine OpA.quiet (QOp.at_own (by rfl) (by first | exact slk22 | exact slk67) (by rfl) (by rfl) (by rfl) (by rfl) (by rfl) (by rfl) (by first | assumption | omega | decide) (by first | assumption | omega | decide)) ?_
    | refine OpA.quiet (QOp.len_own (by rfl) (by first | exact slk22 | exact slk67) (by rfl) (by rfl) (by rfl) (by rfl)) ?_
    | (refine OpA.quiet (QOp.cat (by rfl) (by rfl) (by rfl) (by first | assumption | (simp only [ByteArray.size_append, bs_size] at *; omega))) ?_)
    | refine OpA.pop (POp.empty (by rfl) (by rfl) (by first | exact rwk22 | exact rwk67)) ?_
    | refine OpA.pop (POp.literal (by rfl) (by first | exact rwk22 | exact rwk67) (by rfl) (by rfl) (by rfl) (by rfl) (by rfl) (by rfl)) ?_
    | (refine OpA.pop (POp.append (by rfl) (by first | exact rwk22 | exact rwk67) (by rfl) (by rfl) (by rfl) (by rfl) (by rfl) (by rfl) (by rfl) (SrcA.own (by rfl) (by rfl) (by rfl) (by rfl)) (by first | (simp; omega) | omega | (simp_all; omega)) (by first | (simp [maxLen]; omega) | (simp_all [maxLen]; omega))) ?_)
    | (refine OpA.pop (POp.append (by rfl) (by first | exact rwk22 | exact rwk67) (by rfl) (by rfl) (by rfl) (by rfl) (by rfl) (by rfl) (by rfl) SrcA.ro (by first | (simp; omega) | omega | (simp_all; omega)) (by first | (simp [maxLen]; omega) | (simp_all [maxLen]; omega))) ?_)
    | refine OpA.pcallI hK (by rfl) Tryd.func39 rfl rfl (by rfl) (by first | exact clo_all (by rfl) | (intro x hx; simp only [List.mem_cons, List.not_mem_nil, or_false] at hx; rcases hx with rfl | rfl | rfl | rfl | rfl | rfl | rfl | rfl <;> first | exact clo_of (by rfl) | exact clo_fn _ | assumption)) (fmt_i _ (by assumption)) (by first | exact clo_of (by rfl) | assumption) ?_
    | refine OpA.pcall (by rfl) Tryd.func40 rfl rfl (by rfl) (by first | exact clo_all (by rfl) | (intro x hx; simp only [List.mem_cons, List.not_mem_nil, or_false] at hx; rcases hx with rfl | rfl | rfl | rfl | rfl | rfl | rfl | rfl <;> first | exact clo_of (by rfl) | exact clo_fn _ | assumption)) (joined_i (l.map fmtI) _ (by assumption) (by assumption) (by first | assumption | decide)) (by first | exact clo_of (by rfl) | assumption) ?_
    | (refine AW.loopD hE (fun i : Nat => [.any, .any, .any, .own 0 i, .any, .any, .any, .ro 1 (l.map (fun n => [I n])), I (l.map (fun n => [I n])).length, I i, .any, .any, .any, .any, .any, .any, .any, .any, .any, .any, .any]) (fun i => [some ⟨9, 1, i, false, ((l.map fmtI).take i).map (fun s => [S s])⟩]) (fun i => l.length - i) (fun i => i ≤ l.length) 0 (by simp) ?_ (by first | rfl | (simp [fil_zero]; done)) ?_)
    | (refine AW.cond (by rfl) (fun h => ?_) ?_; rotate_left; focus (intro h; (try simp only [Bool.not_eq_true', Bool.not_eq_false'] at h); first | (cases h; done) | exact clash (by with_reducible_and_instances assumption) h | exact clash h (by with_reducible_and_instances assumption) | exact absurd h (by decide) | (refine absurd h ?_; simp; done)))
    | (refine AW.cond (by rfl) ?_ (fun h => ?_); focus (intro h; (try simp only [Bool.not_eq_true', Bool.not_eq_false'] at h); first | (cases h; done) | exact clash (by with_reducible_and_instances assumption) h | exact clash h (by with_reducible_and_instances assumption) | exact absurd h (by decide) | (refine absurd h ?_; simp; done)))
    | (refine AW.cond (by rfl) ?_ ?_ <;> (intro h; try simp only [Bool.not_eq_true', Bool.not_eq_false'] at h))
    | refine AW.block ?_
    | refine AW.exit ?_
    | refine AL.nil ?_
    | refine AW.ret ?_) <;> (try dsimp only [dput, List.set, cond_true, cond_false, Nat.zero_add, Nat.add_zero, Nat.reduceAdd, splice, List.take, List.drop, List.length, List.nil_append, List.cons_append, TPoint.en, TSegment.en, TBox.en, TFeature.en, TMeet.en, TPlace.en, TCover.en, TLabel.en, TPiece.en, TLevel.en, TChart.en, TReason.en, TEdit.en, TEntry.en, TEdition.en, TListing.en, TAtlas.en, TEvent.en, TWindow.en]))
  · (repeat' (first | exact Wk.nil | refine Wk.any ?_ | (with_reducible refine Wk.same ?_) | refine Wk.of ?_ ?_)) <;> first | rfl | (simp)
  · intro i hi
    have hclo : Clo (.ro 1 (l.map (fun n => [I n]))) := clo_list (fun _ => clo_cons (clo_c _) clo_nil)
    by_cases hlt : i < l.length
    · obtain ⟨x, hx⟩ : ∃ x, l[i]? = some x := ⟨_, List.getElem?_eq_getElem hlt⟩
      have hg := map_get (f := (fun n => [I n])) hx
      have ht := lt_true (f := (fun n => [I n])) hlt
      have hn := next_ix hlt (by omega)
      have hxm := List.mem_of_getElem? hx
      have hs : (l.map fmtI)[i]? = some (fmtI x) := by rw [List.getElem?_map, hx]; rfl
      have hm := map_take_succS (f := fun s => [S s]) hs
      have hnx := hok x hxm
      repeat' ((first
        | refine AW.seq ?_
        | refine AW.region ?_
        | refine AW.skip ?_
        | refine AL.q TT_ok rfl (by rfl) ?_
        | refine AL.step rfl ?_
        | refine OpA.quiet (QOp.atk_ro (by rfl) (by rfl) (by rfl) (by first | exact slk22 | exact slk67) (Nat.le_of_ble_eq_true (by rfl)) (by first | assumption | omega) (by assumption)) ?_
        | refine OpA.quiet (QOp.ld1_ro (by rfl) (by rfl) (by assumption) (by first | exact ldk2 | exact ldk3 | exact ldk4 | exact ldk5 | exact ldk6 | exact ldk7 | exact ldk8 | exact ldk9 | exact ldk11 | exact ldk12 | exact ldk17 | exact ldk18 | exact ldk22 | exact ldk67) (by rfl)) ?_
        | refine OpA.quiet (QOp.ldr_ro (by rfl) (by rfl) (by assumption) (by first | exact ldk2 | exact ldk3 | exact ldk4 | exact ldk5 | exact ldk6 | exact ldk7 | exact ldk8 | exact ldk9 | exact ldk11 | exact ldk12 | exact ldk17 | exact ldk18 | exact ldk22 | exact ldk67) (Nat.le_of_ble_eq_true (by rfl))) ?_
        | refine OpA.quiet (QOp.at_own (by rfl) (by first | exact slk22 | exact slk67) (by rfl) (by rfl) (by rfl) (by rfl) (by rfl) (by rfl) (by first | assumption | omega | decide) (by first | assumption | omega | decide)) ?_
        | refine OpA.quiet (QOp.len_own (by rfl) (by first | exact slk22 | exact slk67) (by rfl) (by rfl) (by rfl) (by rfl)) ?_
        | (refine OpA.quiet (QOp.cat (by rfl) (by rfl) (by rfl) (by first | assumption | (simp only [ByteArray.size_append, bs_size] at *; omega))) ?_)
        | refine OpA.pop (POp.empty (by rfl) (by rfl) (by first | exact rwk22 | exact rwk67)) ?_
        | refine OpA.pop (POp.literal (by rfl) (by first | exact rwk22 | exact rwk67) (by rfl) (by rfl) (by rfl) (by rfl) (by rfl) (by rfl)) ?_
        | (refine OpA.pop (POp.append (by rfl) (by first | exact rwk22 | exact rwk67) (by rfl) (by rfl) (by rfl) (by rfl) (by rfl) (by rfl) (by rfl) (SrcA.own (by rfl) (by rfl) (by rfl) (by rfl)) (by first | (simp; omega) | omega | (simp_all; omega)) (by first | (simp [maxLen]; omega) | (simp_all [maxLen]; omega))) ?_)
        | (refine OpA.pop (POp.append (by rfl) (by first | exact rwk22 | exact rwk67) (by rfl) (by rfl) (by rfl) (by rfl) (by rfl) (by rfl) (by rfl) SrcA.ro (by first | (simp; omega) | omega | (simp_all; omega)) (by first | (simp [maxLen]; omega) | (simp_all [maxLen]; omega))) ?_)
        | refine OpA.pcallI hK (by rfl) Tryd.func39 rfl rfl (by rfl) (by first | exact clo_all (by rfl) | (intro x hx; simp only [List.mem_cons, List.not_mem_nil, or_false] at hx; rcases hx with rfl | rfl | rfl | rfl | rfl | rfl | rfl | rfl <;> first | exact clo_of (by rfl) | exact clo_fn _ | assumption)) (fmt_i _ (by assumption)) (by first | exact clo_of (by rfl) | assumption) ?_
        | refine OpA.pcall (by rfl) Tryd.func40 rfl rfl (by rfl) (by first | exact clo_all (by rfl) | (intro x hx; simp only [List.mem_cons, List.not_mem_nil, or_false] at hx; rcases hx with rfl | rfl | rfl | rfl | rfl | rfl | rfl | rfl <;> first | exact clo_of (by rfl) | exact clo_fn _ | assumption)) (joined_i (l.map fmtI) _ (by assumption) (by assumption) (by first | assumption | decide)) (by first | exact clo_of (by rfl) | assumption) ?_
        | (refine AW.cond (by rfl) (fun h => ?_) ?_; rotate_left; focus (intro h; (try simp only [Bool.not_eq_true', Bool.not_eq_false'] at h); first | (cases h; done) | exact clash (by with_reducible_and_instances assumption) h | exact clash h (by with_reducible_and_instances assumption) | exact absurd h (by decide) | (refine absurd h ?_; simp; done)))
        | (refine AW.cond (by rfl) ?_ (fun h => ?_); focus (intro h; (try simp only [Bool.not_eq_true', Bool.not_eq_false'] at h); first | (cases h; done) | exact clash (by with_reducible_and_instances assumption) h | exact clash h (by with_reducible_and_instances assumption) | exact absurd h (by decide) | (refine absurd h ?_; simp; done)))
        | (refine AW.cond (by rfl) ?_ ?_ <;> (intro h; try simp only [Bool.not_eq_true', Bool.not_eq_false'] at h))
        | refine AW.block ?_
        | refine AW.exit ?_
        | refine AL.nil ?_
        | refine AW.ret ?_) <;> (try dsimp only [dput, List.set, cond_true, cond_false, Nat.zero_add, Nat.add_zero, Nat.reduceAdd, splice, List.take, List.drop, List.length, List.nil_append, List.cons_append, TPoint.en, TSegment.en, TBox.en, TFeature.en, TMeet.en, TPlace.en, TCover.en, TLabel.en, TPiece.en, TLevel.en, TChart.en, TReason.en, TEdit.en, TEntry.en, TEdition.en, TListing.en, TAtlas.en, TEvent.en, TWindow.en]))
      all_goals first
        | (refine ⟨i + 1, _, hlt, by omega, ?_, by rw [hm] <;> rfl, ?_, ?_⟩; (focus ((repeat' (first | exact Wk.nil | refine Wk.any ?_ | (with_reducible refine Wk.same ?_) | refine Wk.of ?_ ?_)) <;> (simp_all))); (focus ((repeat' (first | exact Fits.nil _ | refine Fits.cons ?_ ?_ | exact Fits.any _ | exact Fits.c _ _ | exact Fits.own (by rfl) | exact Fits.ref (by rfl) | exact Fits.clo (by assumption) | exact Fits.clo (clo_of (by rfl)) | exact Fits.clo (clo_fn _))))); (focus (exact fits_row (clo_rowsS cloS))))
    · have ht := lt_false (f := (fun n => [I n])) hlt
      have e : i = l.length := by omega
      subst e
      try rw [List.take_length]
      have hlm : (l.map fmtI).length ≤ 1048576 := by simpa using hl
      have hclR : Clo (.ro 1 ((l.map fmtI).map (fun s => [S s]))) := clo_list cloS
      rw [take_map_all]
      have hB : ∀ x ∈ l.map fmtI, x.size ≤ 67108864 := fun x hx => by
        obtain ⟨y, hy, rfl⟩ := List.mem_map.1 hx
        have := fmtI_size (hok y hy)
        omega
      refine AW.freeze (t := 3) (id := 0) rfl rfl rfl rfl (clo_rowsS cloS) ?_
      try dsimp only [dput, List.set, cond_true, cond_false, Nat.zero_add, Nat.add_zero, Nat.reduceAdd, splice, List.take, List.drop, List.length, List.nil_append, List.cons_append, TPoint.en, TSegment.en, TBox.en, TFeature.en, TMeet.en, TPlace.en, TCover.en, TLabel.en, TPiece.en, TLevel.en, TChart.en, TReason.en, TEdit.en, TEntry.en, TEdition.en, TListing.en, TAtlas.en, TEvent.en, TWindow.en]
      repeat' ((first
        | refine AW.seq ?_
        | refine AW.region ?_
        | refine AW.skip ?_
        | refine AL.q TT_ok rfl (by rfl) ?_
        | refine AL.step rfl ?_
        | refine OpA.quiet (QOp.atk_ro (by rfl) (by rfl) (by rfl) (by first | exact slk22 | exact slk67) (Nat.le_of_ble_eq_true (by rfl)) (by first | assumption | omega) (by assumption)) ?_
        | refine OpA.quiet (QOp.ld1_ro (by rfl) (by rfl) (by assumption) (by first | exact ldk2 | exact ldk3 | exact ldk4 | exact ldk5 | exact ldk6 | exact ldk7 | exact ldk8 | exact ldk9 | exact ldk11 | exact ldk12 | exact ldk17 | exact ldk18 | exact ldk22 | exact ldk67) (by rfl)) ?_
        | refine OpA.quiet (QOp.ldr_ro (by rfl) (by rfl) (by assumption) (by first | exact ldk2 | exact ldk3 | exact ldk4 | exact ldk5 | exact ldk6 | exact ldk7 | exact ldk8 | exact ldk9 | exact ldk11 | exact ldk12 | exact ldk17 | exact ldk18 | exact ldk22 | exact ldk67) (Nat.le_of_ble_eq_true (by rfl))) ?_
        | refine OpA.quiet (QOp.at_own (by rfl) (by first | exact slk22 | exact slk67) (by rfl) (by rfl) (by rfl) (by rfl) (by rfl) (by rfl) (by first | assumption | omega | decide) (by first | assumption | omega | decide)) ?_
        | refine OpA.quiet (QOp.len_own (by rfl) (by first | exact slk22 | exact slk67) (by rfl) (by rfl) (by rfl) (by rfl)) ?_
        | (refine OpA.quiet (QOp.cat (by rfl) (by rfl) (by rfl) (by first | assumption | (simp only [ByteArray.size_append, bs_size] at *; omega))) ?_)
        | refine OpA.pop (POp.empty (by rfl) (by rfl) (by first | exact rwk22 | exact rwk67)) ?_
        | refine OpA.pop (POp.literal (by rfl) (by first | exact rwk22 | exact rwk67) (by rfl) (by rfl) (by rfl) (by rfl) (by rfl) (by rfl)) ?_
        | (refine OpA.pop (POp.append (by rfl) (by first | exact rwk22 | exact rwk67) (by rfl) (by rfl) (by rfl) (by rfl) (by rfl) (by rfl) (by rfl) (SrcA.own (by rfl) (by rfl) (by rfl) (by rfl)) (by first | (simp; omega) | omega | (simp_all; omega)) (by first | (simp [maxLen]; omega) | (simp_all [maxLen]; omega))) ?_)
        | (refine OpA.pop (POp.append (by rfl) (by first | exact rwk22 | exact rwk67) (by rfl) (by rfl) (by rfl) (by rfl) (by rfl) (by rfl) (by rfl) SrcA.ro (by first | (simp; omega) | omega | (simp_all; omega)) (by first | (simp [maxLen]; omega) | (simp_all [maxLen]; omega))) ?_)
        | refine OpA.pcallI hK (by rfl) Tryd.func39 rfl rfl (by rfl) (by first | exact clo_all (by rfl) | (intro x hx; simp only [List.mem_cons, List.not_mem_nil, or_false] at hx; rcases hx with rfl | rfl | rfl | rfl | rfl | rfl | rfl | rfl <;> first | exact clo_of (by rfl) | exact clo_fn _ | assumption)) (fmt_i _ (by assumption)) (by first | exact clo_of (by rfl) | assumption) ?_
        | refine OpA.pcall (by rfl) Tryd.func40 rfl rfl (by rfl) (by first | exact clo_all (by rfl) | (intro x hx; simp only [List.mem_cons, List.not_mem_nil, or_false] at hx; rcases hx with rfl | rfl | rfl | rfl | rfl | rfl | rfl | rfl <;> first | exact clo_of (by rfl) | exact clo_fn _ | assumption)) (joined_i (l.map fmtI) _ (by assumption) (by assumption) (by first | assumption | decide)) (by first | exact clo_of (by rfl) | assumption) ?_
        | (refine AW.cond (by rfl) (fun h => ?_) ?_; rotate_left; focus (intro h; (try simp only [Bool.not_eq_true', Bool.not_eq_false'] at h); first | (cases h; done) | exact clash (by with_reducible_and_instances assumption) h | exact clash h (by with_reducible_and_instances assumption) | exact absurd h (by decide) | (refine absurd h ?_; simp; done)))
        | (refine AW.cond (by rfl) ?_ (fun h => ?_); focus (intro h; (try simp only [Bool.not_eq_true', Bool.not_eq_false'] at h); first | (cases h; done) | exact clash (by with_reducible_and_instances assumption) h | exact clash h (by with_reducible_and_instances assumption) | exact absurd h (by decide) | (refine absurd h ?_; simp; done)))
        | (refine AW.cond (by rfl) ?_ ?_ <;> (intro h; try simp only [Bool.not_eq_true', Bool.not_eq_false'] at h))
        | refine AW.block ?_
        | refine AW.exit ?_
        | refine AL.nil ?_
        | refine AW.ret ?_) <;> (try dsimp only [dput, List.set, cond_true, cond_false, Nat.zero_add, Nat.add_zero, Nat.reduceAdd, splice, List.take, List.drop, List.length, List.nil_append, List.cons_append, TPoint.en, TSegment.en, TBox.en, TFeature.en, TMeet.en, TPlace.en, TCover.en, TLabel.en, TPiece.en, TLevel.en, TChart.en, TReason.en, TEdit.en, TEntry.en, TEdition.en, TListing.en, TAtlas.en, TEvent.en, TWindow.en]))
      all_goals exact Fin.one rfl (RV.tmp (by rfl)) (clo_c _) ⟨rfl, rfl⟩

set_option maxRecDepth 100000 in
set_option maxHeartbeats 2000000 in
theorem law_FnExactFormatNumbers (l : List Int) (h0 : l.length ≤ maxLen ∧ ∀ x ∈ l, i64 x) : VCallsI Tryd.prog TabI 3 [.ro 1 (l.map (fun n => [I n]))] (fun r M => r = B true ∧ M = []) := by
  refine VCallsI.bodyE Tryd.func3 rfl 23 rfl (fun E hE hK => ?_)
  simp only [List.reduceReplicate, List.cons_append, List.nil_append]
  have hok := h0.2
  have hclo : Clo (.ro 1 (l.map (fun n => [I n]))) := clo_list (fun _ => clo_cons (clo_c _) clo_nil)
  rcases big_cases (fun n => [I n]) l with hz | ⟨hz, hl⟩
  repeat' ((first
    | refine AW.seq ?_
    | refine AW.region ?_
    | refine AW.skip ?_
    | refine AL.q TT_ok rfl (by rfl) ?_
    | refine AL.step rfl ?_
    | refine OpA.quiet (QOp.len_own (by rfl) (by first | exact slk22) (by rfl) (by rfl) (by rfl) (by rfl)) ?_
    | refine OpA.pcall (by rfl) Tryd.func9 rfl rfl (by rfl) (by first | exact clo_all (by rfl) | (intro x hx; simp only [List.mem_cons, List.not_mem_nil, or_false] at hx; rcases hx with rfl | rfl | rfl | rfl | rfl | rfl | rfl | rfl <;> first | exact clo_of (by rfl) | exact clo_fn _ | assumption)) (nums_s l (by assumption) (by assumption)) (by first | exact clo_of (by rfl) | assumption) ?_
    | refine OpA.pcall (by rfl) Tryd.func10 rfl rfl (by rfl) (by first | exact clo_all (by rfl) | (intro x hx; simp only [List.mem_cons, List.not_mem_nil, or_false] at hx; rcases hx with rfl | rfl | rfl | rfl | rfl | rfl | rfl | rfl <;> first | exact clo_of (by rfl) | exact clo_fn _ | assumption)) (toIntS _ (by assumption)) (by first | exact clo_of (by rfl) | assumption) ?_
    | refine OpA.pcallI hK (by rfl) Tryd.func11 rfl rfl (by rfl) (by first | exact clo_all (by rfl) | (intro x hx; simp only [List.mem_cons, List.not_mem_nil, or_false] at hx; rcases hx with rfl | rfl | rfl | rfl | rfl | rfl | rfl | rfl <;> first | exact clo_of (by rfl) | exact clo_fn _ | assumption)) (nums_i l (by assumption) (by assumption)) (by first | exact clo_of (by rfl) | assumption) ?_
    | refine OpA.pcall (by rfl) Tryd.func12 rfl rfl (by rfl) (by first | exact clo_all (by rfl) | (intro x hx; simp only [List.mem_cons, List.not_mem_nil, or_false] at hx; rcases hx with rfl | rfl | rfl | rfl | rfl | rfl | rfl | rfl <;> first | exact clo_of (by rfl) | exact clo_fn _ | assumption)) (eqIntS_self _ (by assumption)) (by first | exact clo_of (by rfl) | assumption) ?_
    | (refine AW.cond (by rfl) (fun h => ?_) ?_; rotate_left; focus (intro h; (try simp only [Bool.not_eq_true', Bool.not_eq_false'] at h); first | (cases h; done) | exact clash (by with_reducible_and_instances assumption) h | exact clash h (by with_reducible_and_instances assumption) | exact absurd h (by decide) | (refine absurd h ?_; simp; done)))
    | (refine AW.cond (by rfl) ?_ (fun h => ?_); focus (intro h; (try simp only [Bool.not_eq_true', Bool.not_eq_false'] at h); first | (cases h; done) | exact clash (by with_reducible_and_instances assumption) h | exact clash h (by with_reducible_and_instances assumption) | exact absurd h (by decide) | (refine absurd h ?_; simp; done)))
    | (refine AW.cond (by rfl) ?_ ?_ <;> (intro h; try simp only [Bool.not_eq_true', Bool.not_eq_false'] at h))
    | refine AL.nil ?_
    | refine AW.ret ?_) <;> (try dsimp only [dput, List.set, cond_true, cond_false, Nat.zero_add, Nat.add_zero, Nat.reduceAdd, splice, List.take, List.drop, List.length, List.nil_append, List.cons_append, TPoint.en, TSegment.en, TBox.en, TFeature.en, TMeet.en, TPlace.en, TCover.en, TLabel.en, TPiece.en, TLevel.en, TChart.en, TReason.en, TEdit.en, TEntry.en, TEdition.en, TListing.en, TAtlas.en, TEvent.en, TWindow.en]))
  all_goals exact Fin.one rfl (RV.tmp (by rfl)) (clo_c _) ⟨by first | rfl | (simp_all; done), rfl⟩

end Go.Proofs.YtbkcoechoblndaaDoor.Abs
