/- The walks of TwiceArea and TotalArea. -/
import Derived.Test.YtbkcoechoblndaaWkFacts
import Derived.Test.YtbkcoechoblndaaWkIsRing
namespace Go.Proofs.Ytbkcoechoblndaa.Abs
open Go.Proofs Go.RowKit
set_option linter.unusedVariables false
set_option linter.unusedSimpArgs false
attribute [local irreducible] OpA AL AW DL DLM DLR QOp POp VCalls VCallsI
set_option maxRecDepth 100000 in
set_option maxHeartbeats 2000000 in
theorem ringSegs_i (l : List TPoint) (hl : l.length ≤ 1048576) : VCalls Try.prog 89 [.ro 2 (l.map TPoint.en)] (fun r M => r = .ro 4 ((ringSegs l).map TSegment.en) ∧ M = []) := by
  refine VCalls.body Try.func89 rfl 8 rfl (fun E => ?_)
  simp only [List.reduceReplicate, List.cons_append, List.nil_append]
  have hclo : Clo (.ro 2 (l.map TPoint.en)) := clo_list TPoint.clo_en
  have hclA : Clo (.ro 4 ((arnd l).map TSegment.en)) := clo_list TSegment.clo_en
  have hal := arnd_len l
  repeat' ((first
    | ((with_reducible show OpA _ _ _ _ _ _); first
      | refine OpA.pop (POp.empty (by rfl) (by rfl) (by first | exact rwk66 | exact rwk105)) ?_
      | refine OpA.pop (POp.literal (by rfl) (by first | exact rwk66 | exact rwk105) (by rfl) (by rfl) (by rfl) (by rfl) (by rfl) (by rfl)) ?_
      | refine OpA.pcall (by rfl) Try.func114 rfl rfl (by rfl) (by first | exact clo_all (by rfl) | repeat' (first | exact clo_nil | refine clo_cons ?_ ?_ | exact clo_of (by rfl) | exact clo_fn _ | assumption)) (isRing_i _ (by assumption)) (by first | exact clo_of (by rfl) | assumption) ?_
      | refine OpA.pcall (by rfl) Try.func115 rfl rfl (by rfl) (by first | exact clo_all (by rfl) | repeat' (first | exact clo_nil | refine clo_cons ?_ ?_ | exact clo_of (by rfl) | exact clo_fn _ | assumption)) (arnd_i _ (by assumption)) (by first | exact clo_of (by rfl) | assumption) ?_)
    | ((with_reducible show AL _ _ _ _ _ _ _); first
      | refine AL.q TT_ok rfl (by rfl) ?_
      | refine AL.step rfl ?_
      | refine AL.nil ?_)
    | ((with_reducible show AW _ _ _ _ _ _); first
      | refine AW.seq ?_
      | refine AW.region ?_
      | refine AW.skip ?_
      | (refine AW.freezeRet (t := 2) (id := 0) rfl rfl rfl rfl clo_rows_nil ?_; (try simp only [List.take_length]))
      | (refine AW.cond (by rfl) (fun h => ?_) ?_; rotate_left; focus (intro h; (try simp only [Bool.not_eq_true', Bool.not_eq_false'] at h); first | (cases h; done) | exact clash (by with_reducible_and_instances assumption) h | exact clash h (by with_reducible_and_instances assumption) | exact absurd h (by decide) | (refine absurd h ?_; simp; done)))
      | (refine AW.cond (by rfl) ?_ (fun h => ?_); focus (intro h; (try simp only [Bool.not_eq_true', Bool.not_eq_false'] at h); first | (cases h; done) | exact clash (by with_reducible_and_instances assumption) h | exact clash h (by with_reducible_and_instances assumption) | exact absurd h (by decide) | (refine absurd h ?_; simp; done)))
      | (refine AW.cond (by rfl) ?_ ?_ <;> (intro h; try simp only [Bool.not_eq_true', Bool.not_eq_false'] at h))
      | refine AW.ret ?_)
    | with_reducible refine (if_pos rfl).mpr ?_
    | with_reducible refine (if_neg (by decide)).mpr ?_) <;> (try dsimp only [dput, List.set, cond_true, cond_false, Nat.zero_add, Nat.add_zero, Nat.reduceAdd, splice, List.take, List.drop, List.length, List.nil_append, List.cons_append, List.append, TPoint.en, TSegment.en, TBox.en, TFeature.en, TMeet.en, TPlace.en, TCover.en, TLabel.en, TPiece.en, TLevel.en, TChart.en, TReason.en, TEdit.en, TEntry.en, TEdition.en, TListing.en, TAtlas.en, TEvent.en, TWindow.en]))
  all_goals first | exact Fin.one rfl (RV.tmp (by rfl)) (Clo.ro fun r hr => by simp at hr) ⟨by rw [ringSegs_f (by assumption)]; rfl, rfl⟩ | exact Fin.one rfl (RV.tmp (by rfl)) (clo_list TSegment.clo_en) ⟨by rw [ringSegs_t (by assumption)], rfl⟩

set_option maxRecDepth 100000 in
set_option maxHeartbeats 2000000 in
theorem twice_s (l : List TPoint) (hl : l.length ≤ 1048576) : VCalls Try.prog 46 [.ro 2 (l.map TPoint.en)] (fun r M => r = I (twice l) ∧ M = []) := by
  refine VCalls.bodyE Try.func46 rfl 47 rfl (fun E hE => ?_)
  simp only [List.reduceReplicate, List.cons_append, List.nil_append]
  have hclo : Clo (.ro 2 (l.map TPoint.en)) := clo_list TPoint.clo_en
  have hclA : Clo (.ro 4 ((arnd l).map TSegment.en)) := clo_list TSegment.clo_en
  have hal := arnd_len l
  have hclR : Clo (.ro 4 ((ringSegs l).map TSegment.en)) := clo_list TSegment.clo_en
  have hrl := ringSegs_le l
  repeat' ((first
    | ((with_reducible show OpA _ _ _ _ _ _); first
      | refine OpA.q TT_ok (by rfl) ?_
      | (refine OpA.quiet (QOp.pickT (by rfl) (by rfl) ?_ (by rfl)) ?_; focus (first | (with_reducible rfl) | (with_reducible_and_instances assumption) | (simp only [Bool.not_eq_true', Bool.not_eq_false']; with_reducible_and_instances assumption)))
      | (refine OpA.quiet (QOp.pickF (by rfl) (by rfl) ?_ (by rfl)) ?_; focus (first | (with_reducible rfl) | (with_reducible_and_instances assumption) | (simp only [Bool.not_eq_true', Bool.not_eq_false']; with_reducible_and_instances assumption)))
      | refine OpA.quiet (QOp.atk_ro (by rfl) (by rfl) (by rfl) (TT_ok.sl _ _ (by rfl)) (Nat.le_of_ble_eq_true (by rfl)) (by first | assumption | omega) (by assumption)) ?_
      | refine OpA.quiet (QOp.ld1_ro (by rfl) (by rfl) (by assumption) (TT_ok.ld _ _ (by rfl)) (by rfl)) ?_
      | refine OpA.quiet (QOp.ldr_ro (by rfl) (by rfl) (by assumption) (TT_ok.ld _ _ (by rfl)) (Nat.le_of_ble_eq_true (by rfl))) ?_
      | refine OpA.quiet (QOp.at_own (by rfl) (TT_ok.sl _ _ (by rfl)) (by rfl) (by rfl) (by rfl) (by rfl) (by rfl) (by rfl) (by first | assumption | omega | decide) (by first | assumption | omega | decide)) ?_
      | refine OpA.quiet (QOp.len_own (by rfl) (TT_ok.sl _ _ (by rfl)) (by rfl) (by rfl) (by rfl) (by rfl)) ?_
      | (refine OpA.quiet (QOp.cat (by rfl) (by rfl) (by rfl) (by first | assumption | (simp only [ByteArray.size_append, bs_size] at *; omega))) ?_)
      | refine OpA.pcall (by rfl) Try.func87 rfl rfl (by rfl) (by first | exact clo_all (by rfl) | repeat' (first | exact clo_nil | refine clo_cons ?_ ?_ | exact clo_of (by rfl) | exact clo_fn _ | assumption)) (arnd_s _ (by assumption)) (by first | exact clo_of (by rfl) | assumption) ?_
      | refine OpA.pcall (by rfl) Try.func88 rfl rfl (by rfl) (by first | exact clo_all (by rfl) | repeat' (first | exact clo_nil | refine clo_cons ?_ ?_ | exact clo_of (by rfl) | exact clo_fn _ | assumption)) (isRing_s _ (by assumption)) (by first | exact clo_of (by rfl) | assumption) ?_
      | refine OpA.quiet (QOp.pickAnd (by rfl) (by rfl) (by rfl) (by rfl) (by rfl)) ?_
      | refine OpA.quiet (QOp.pickOr (by rfl) (by rfl) (by rfl) (by rfl) (by rfl)) ?_)
    | ((with_reducible show AL _ _ _ _ _ _ _); first
      | refine AL.q TT_ok rfl (by rfl) ?_
      | refine AL.step rfl ?_
      | refine AL.guardU (by rfl) (by rfl) (by rfl) (by rfl) ?_
      | refine AL.gF (by rfl) (by rfl) (by rfl) (by rfl) (by first | rfl | assumption) ?_
      | refine AL.gT (by rfl) (by rfl) (by rfl) (by rfl) (by first | rfl | assumption) ?_
      | refine AL.guardW (by rfl) (by rfl) (by rfl) (by rfl) (fun h => by (try rw [h]); first | exact OpA.quietW (QOp.quietA TT_ok (by rfl)) | exact OpA.pcall (by rfl) Try.func87 rfl rfl (by rfl) (by first | exact clo_all (by rfl) | repeat' (first | exact clo_nil | refine clo_cons ?_ ?_ | exact clo_of (by rfl) | exact clo_fn _ | assumption)) (arnd_s _ (by assumption)) (by first | exact clo_of (by rfl) | assumption) ⟨by rfl, rfl⟩ | exact OpA.pcall (by rfl) Try.func88 rfl rfl (by rfl) (by first | exact clo_all (by rfl) | repeat' (first | exact clo_nil | refine clo_cons ?_ ?_ | exact clo_of (by rfl) | exact clo_fn _ | assumption)) (isRing_s _ (by assumption)) (by first | exact clo_of (by rfl) | assumption) ⟨by rfl, rfl⟩ | exact OpA.quietW (QOp.atk_ro (by rfl) (by rfl) (by rfl) (TT_ok.sl _ _ (by rfl)) (Nat.le_of_ble_eq_true (by rfl)) (by first | assumption | omega) (by assumption)) | exact OpA.quietW (QOp.ld1_ro (by rfl) (by rfl) (by assumption) (TT_ok.ld _ _ (by rfl)) (by rfl)) | exact OpA.quietW (QOp.ldr_ro (by rfl) (by rfl) (by assumption) (TT_ok.ld _ _ (by rfl)) (Nat.le_of_ble_eq_true (by rfl))) | exact OpA.quietW (QOp.at_own (by rfl) (TT_ok.sl _ _ (by rfl)) (by rfl) (by rfl) (by rfl) (by rfl) (by rfl) (by rfl) (by first | assumption | omega | decide) (by first | assumption | omega | decide)) | exact OpA.quietW (QOp.len_own (by rfl) (TT_ok.sl _ _ (by rfl)) (by rfl) (by rfl) (by rfl) (by rfl)) | exact OpA.quietW (QOp.cat (by rfl) (by rfl) (by rfl) (by first | assumption | (simp only [ByteArray.size_append, bs_size] at *; omega))) | exact OpA.quietW (QOp.pickAnd (by rfl) (by rfl) (by rfl) (by rfl) (by rfl)) | exact OpA.quietW (QOp.pickOr (by rfl) (by rfl) (by rfl) (by rfl) (by rfl))) ?_
      | (refine AL.guardT (by rfl) (by rfl) (by rfl) (by rfl) (fun h => ?_) ?_; rotate_left; focus (intro h; (try simp only [Bool.not_eq_true', Bool.not_eq_false'] at h); first | (cases h; done) | exact clash (by with_reducible_and_instances assumption) h | exact clash h (by with_reducible_and_instances assumption) | exact absurd h (by decide) | (refine absurd h ?_; simp; done)))
      | (refine AL.guardT (by rfl) (by rfl) (by rfl) (by rfl) ?_ (fun h => ?_); focus (intro h; (try simp only [Bool.not_eq_true', Bool.not_eq_false'] at h); first | (cases h; done) | exact clash (by with_reducible_and_instances assumption) h | exact clash h (by with_reducible_and_instances assumption) | exact absurd h (by decide) | (refine absurd h ?_; simp; done)))
      | (refine AL.guardT (by rfl) (by rfl) (by rfl) (by rfl) ?_ ?_ <;> (intro h; try simp only [Bool.not_eq_true', Bool.not_eq_false'] at h))
      | (refine AL.guardF (by rfl) (by rfl) (by rfl) (by rfl) (fun h => ?_) ?_; rotate_left; focus (intro h; (try simp only [Bool.not_eq_true', Bool.not_eq_false'] at h); first | (cases h; done) | exact clash (by with_reducible_and_instances assumption) h | exact clash h (by with_reducible_and_instances assumption) | exact absurd h (by decide) | (refine absurd h ?_; simp; done)))
      | (refine AL.guardF (by rfl) (by rfl) (by rfl) (by rfl) ?_ (fun h => ?_); focus (intro h; (try simp only [Bool.not_eq_true', Bool.not_eq_false'] at h); first | (cases h; done) | exact clash (by with_reducible_and_instances assumption) h | exact clash h (by with_reducible_and_instances assumption) | exact absurd h (by decide) | (refine absurd h ?_; simp; done)))
      | (refine AL.guardF (by rfl) (by rfl) (by rfl) (by rfl) ?_ ?_ <;> (intro h; try simp only [Bool.not_eq_true', Bool.not_eq_false'] at h))
      | refine AL.nil ?_)
    | ((with_reducible show DL _ _ _ _ _ _ _); first
      | refine DL.q TT_ok rfl (by rfl) ?_
      | refine DL.p rfl (POp.quiet (QOp.atk_ro (by rfl) (by rfl) (by rfl) (TT_ok.sl _ _ (by rfl)) (Nat.le_of_ble_eq_true (by rfl)) (by first | assumption | omega) (by assumption))) ?_
      | refine DL.p rfl (POp.quiet (QOp.ld1_ro (by rfl) (by rfl) (by assumption) (TT_ok.ld _ _ (by rfl)) (by rfl))) ?_
      | refine DL.p rfl (POp.quiet (QOp.ldr_ro (by rfl) (by rfl) (by assumption) (TT_ok.ld _ _ (by rfl)) (Nat.le_of_ble_eq_true (by rfl)))) ?_
      | refine DL.p rfl (POp.quiet (QOp.at_own (by rfl) (TT_ok.sl _ _ (by rfl)) (by rfl) (by rfl) (by rfl) (by rfl) (by rfl) (by rfl) (by first | assumption | omega | decide) (by first | assumption | omega | decide))) ?_
      | refine DL.p rfl (POp.quiet (QOp.len_own (by rfl) (TT_ok.sl _ _ (by rfl)) (by rfl) (by rfl) (by rfl) (by rfl))) ?_
      | (refine DL.p rfl (POp.quiet (QOp.cat (by rfl) (by rfl) (by rfl) (by first | assumption | (simp only [ByteArray.size_append, bs_size] at *; omega)))) ?_)
      | refine DL.p rfl (POp.quiet (QOp.pickAnd (by rfl) (by rfl) (by rfl) (by rfl) (by rfl))) ?_
      | refine DL.p rfl (POp.quiet (QOp.pickOr (by rfl) (by rfl) (by rfl) (by rfl) (by rfl))) ?_
      | refine DL.p rfl (POp.quiet (QOp.pickT (by rfl) (by rfl) (by with_reducible_and_instances assumption) (by rfl))) ?_
      | refine DL.p rfl (POp.quiet (QOp.pickF (by rfl) (by rfl) (by with_reducible_and_instances assumption) (by rfl))) ?_
      | refine DL.p rfl (POp.pcall (by rfl) Try.func87 rfl rfl (by rfl) (by first | exact clo_all (by rfl) | repeat' (first | exact clo_nil | refine clo_cons ?_ ?_ | exact clo_of (by rfl) | exact clo_fn _ | assumption)) (arnd_s _ (by assumption)) (by first | exact clo_of (by rfl) | assumption)) ?_
      | refine DL.p rfl (POp.pcall (by rfl) Try.func88 rfl rfl (by rfl) (by first | exact clo_all (by rfl) | repeat' (first | exact clo_nil | refine clo_cons ?_ ?_ | exact clo_of (by rfl) | exact clo_fn _ | assumption)) (isRing_s _ (by assumption)) (by first | exact clo_of (by rfl) | assumption)) ?_
      | refine DL.gU (by rfl) (by rfl) (by rfl) (by rfl) ?_
      | refine DL.gF (by rfl) (by rfl) (by rfl) (by rfl) (by first | rfl | assumption) ?_
      | refine DL.gT (by rfl) (by rfl) (by rfl) (by rfl) (by first | rfl | assumption) (POp.q TT_ok (by rfl)) ?_
      | refine DL.gT (by rfl) (by rfl) (by rfl) (by rfl) (by first | rfl | assumption) (POp.quiet (QOp.atk_ro (by rfl) (by rfl) (by rfl) (TT_ok.sl _ _ (by rfl)) (Nat.le_of_ble_eq_true (by rfl)) (by first | assumption | omega) (by assumption))) ?_
      | refine DL.gT (by rfl) (by rfl) (by rfl) (by rfl) (by first | rfl | assumption) (POp.quiet (QOp.ld1_ro (by rfl) (by rfl) (by assumption) (TT_ok.ld _ _ (by rfl)) (by rfl))) ?_
      | refine DL.gT (by rfl) (by rfl) (by rfl) (by rfl) (by first | rfl | assumption) (POp.quiet (QOp.ldr_ro (by rfl) (by rfl) (by assumption) (TT_ok.ld _ _ (by rfl)) (Nat.le_of_ble_eq_true (by rfl)))) ?_
      | refine DL.gT (by rfl) (by rfl) (by rfl) (by rfl) (by first | rfl | assumption) (POp.quiet (QOp.at_own (by rfl) (TT_ok.sl _ _ (by rfl)) (by rfl) (by rfl) (by rfl) (by rfl) (by rfl) (by rfl) (by first | assumption | omega | decide) (by first | assumption | omega | decide))) ?_
      | refine DL.gT (by rfl) (by rfl) (by rfl) (by rfl) (by first | rfl | assumption) (POp.quiet (QOp.len_own (by rfl) (TT_ok.sl _ _ (by rfl)) (by rfl) (by rfl) (by rfl) (by rfl))) ?_
      | (refine DL.gT (by rfl) (by rfl) (by rfl) (by rfl) (by first | rfl | assumption) (POp.quiet (QOp.cat (by rfl) (by rfl) (by rfl) (by first | assumption | (simp only [ByteArray.size_append, bs_size] at *; omega)))) ?_)
      | refine DL.gT (by rfl) (by rfl) (by rfl) (by rfl) (by first | rfl | assumption) (POp.quiet (QOp.pickAnd (by rfl) (by rfl) (by rfl) (by rfl) (by rfl))) ?_
      | refine DL.gT (by rfl) (by rfl) (by rfl) (by rfl) (by first | rfl | assumption) (POp.quiet (QOp.pickOr (by rfl) (by rfl) (by rfl) (by rfl) (by rfl))) ?_
      | refine DL.gT (by rfl) (by rfl) (by rfl) (by rfl) (by first | rfl | assumption) (POp.quiet (QOp.pickT (by rfl) (by rfl) (by with_reducible_and_instances assumption) (by rfl))) ?_
      | refine DL.gT (by rfl) (by rfl) (by rfl) (by rfl) (by first | rfl | assumption) (POp.quiet (QOp.pickF (by rfl) (by rfl) (by with_reducible_and_instances assumption) (by rfl))) ?_
      | refine DL.gT (by rfl) (by rfl) (by rfl) (by rfl) (by first | rfl | assumption) (POp.pcall (by rfl) Try.func87 rfl rfl (by rfl) (by first | exact clo_all (by rfl) | repeat' (first | exact clo_nil | refine clo_cons ?_ ?_ | exact clo_of (by rfl) | exact clo_fn _ | assumption)) (arnd_s _ (by assumption)) (by first | exact clo_of (by rfl) | assumption)) ?_
      | refine DL.gT (by rfl) (by rfl) (by rfl) (by rfl) (by first | rfl | assumption) (POp.pcall (by rfl) Try.func88 rfl rfl (by rfl) (by first | exact clo_all (by rfl) | repeat' (first | exact clo_nil | refine clo_cons ?_ ?_ | exact clo_of (by rfl) | exact clo_fn _ | assumption)) (isRing_s _ (by assumption)) (by first | exact clo_of (by rfl) | assumption)) ?_
      | refine DL.g (by rfl) (by rfl) (by rfl) (by rfl) (fun h => by (try rw [h]); first | exact POp.q TT_ok (by rfl) | exact POp.quiet (QOp.atk_ro (by rfl) (by rfl) (by rfl) (TT_ok.sl _ _ (by rfl)) (Nat.le_of_ble_eq_true (by rfl)) (by first | assumption | omega) (by assumption)) | exact POp.quiet (QOp.ld1_ro (by rfl) (by rfl) (by assumption) (TT_ok.ld _ _ (by rfl)) (by rfl)) | exact POp.quiet (QOp.ldr_ro (by rfl) (by rfl) (by assumption) (TT_ok.ld _ _ (by rfl)) (Nat.le_of_ble_eq_true (by rfl))) | exact POp.quiet (QOp.at_own (by rfl) (TT_ok.sl _ _ (by rfl)) (by rfl) (by rfl) (by rfl) (by rfl) (by rfl) (by rfl) (by first | assumption | omega | decide) (by first | assumption | omega | decide)) | exact POp.quiet (QOp.len_own (by rfl) (TT_ok.sl _ _ (by rfl)) (by rfl) (by rfl) (by rfl) (by rfl)) | exact POp.quiet (QOp.cat (by rfl) (by rfl) (by rfl) (by first | assumption | (simp only [ByteArray.size_append, bs_size] at *; omega))) | exact POp.quiet (QOp.pickAnd (by rfl) (by rfl) (by rfl) (by rfl) (by rfl)) | exact POp.quiet (QOp.pickOr (by rfl) (by rfl) (by rfl) (by rfl) (by rfl)) | exact POp.quiet (QOp.pickT (by rfl) (by rfl) (by with_reducible_and_instances assumption) (by rfl)) | exact POp.quiet (QOp.pickF (by rfl) (by rfl) (by with_reducible_and_instances assumption) (by rfl)) | exact POp.pcall (by rfl) Try.func87 rfl rfl (by rfl) (by first | exact clo_all (by rfl) | repeat' (first | exact clo_nil | refine clo_cons ?_ ?_ | exact clo_of (by rfl) | exact clo_fn _ | assumption)) (arnd_s _ (by assumption)) (by first | exact clo_of (by rfl) | assumption) | exact POp.pcall (by rfl) Try.func88 rfl rfl (by rfl) (by first | exact clo_all (by rfl) | repeat' (first | exact clo_nil | refine clo_cons ?_ ?_ | exact clo_of (by rfl) | exact clo_fn _ | assumption)) (isRing_s _ (by assumption)) (by first | exact clo_of (by rfl) | assumption)) ?_
      | refine DL.nil ?_)
    | ((with_reducible show AW _ _ _ _ _ _); first
      | refine AW.seq ?_
      | refine AW.region ?_
      | refine AW.skip ?_
      | (refine AW.loopD hE (fun i : Nat => [.ro 2 (l.map TPoint.en), .any, .any, I (accF twS (ringSegs l) i), .ro 4 ((arnd l).map TSegment.en), I (i : Int), .any, .any, .any, .any, .any, .any, .any, .any, .any, .any, .any, .any, .any, .any, .any, .any, .any, .any, .any, .any, .any, .any, .any, .any, .any, .any, .any, .any, .any, .any, .any, .any, .any, .any, .any, .any, .any, .any, .any, .any, .any, .any]) (fun i => []) (fun i => (ringSegs l).length - i) (fun i => i ≤ (ringSegs l).length) 0 (Nat.zero_le _) ?_ (by first | rfl | (simp [fil_zero]; done)) ?_)
      | refine AW.drawn (id := 6) 28 (by kernel_rfl) (by kernel_rfl) (by rfl) ?_
      | (refine AW.cond (by rfl) (fun h => ?_) ?_; rotate_left; focus (intro h; (try simp only [Bool.not_eq_true', Bool.not_eq_false'] at h); first | (cases h; done) | exact clash (by with_reducible_and_instances assumption) h | exact clash h (by with_reducible_and_instances assumption) | exact absurd h (by decide) | (refine absurd h ?_; simp; done)))
      | (refine AW.cond (by rfl) ?_ (fun h => ?_); focus (intro h; (try simp only [Bool.not_eq_true', Bool.not_eq_false'] at h); first | (cases h; done) | exact clash (by with_reducible_and_instances assumption) h | exact clash h (by with_reducible_and_instances assumption) | exact absurd h (by decide) | (refine absurd h ?_; simp; done)))
      | (refine AW.cond (by rfl) ?_ ?_ <;> (intro h; try simp only [Bool.not_eq_true', Bool.not_eq_false'] at h))
      | refine AW.block ?_
      | refine AW.exit ?_
      | refine AW.ret ?_)
    | with_reducible refine (if_pos rfl).mpr ?_
    | with_reducible refine (if_neg (by decide)).mpr ?_) <;> (try dsimp only [dput, List.set, cond_true, cond_false, Nat.zero_add, Nat.add_zero, Nat.reduceAdd, splice, List.take, List.drop, List.length, List.nil_append, List.cons_append, List.append, TPoint.en, TSegment.en, TBox.en, TFeature.en, TMeet.en, TPlace.en, TCover.en, TLabel.en, TPiece.en, TLevel.en, TChart.en, TReason.en, TEdit.en, TEntry.en, TEdition.en, TListing.en, TAtlas.en, TEvent.en, TWindow.en]))
  · (repeat' (first | exact Wk.nil | refine Wk.any ?_ | (with_reducible refine Wk.same ?_) | refine Wk.of ?_ ?_)) <;> first | rfl | (simp_all [accF])
  · intro i hi
    have hclo : Clo (.ro 2 (l.map TPoint.en)) := clo_list TPoint.clo_en
    have hclA : Clo (.ro 4 ((arnd l).map TSegment.en)) := clo_list TSegment.clo_en
    have hal := arnd_len l
    have hclR : Clo (.ro 4 ((ringSegs l).map TSegment.en)) := clo_list TSegment.clo_en
    have hrl := ringSegs_le l
    by_cases hlt : i < (ringSegs l).length
    · skip
      obtain ⟨x, hx⟩ : ∃ x, (ringSegs l)[i]? = some x := ⟨_, List.getElem?_eq_getElem hlt⟩
      have hR : isRing l = true := by
        cases hR : isRing l
        · rw [ringSegs_f hR] at hlt; simp at hlt
        · rfl
      have ht : (decide ((i : Int) < (((arnd l).map TSegment.en).length : Int)) && isRing l) = true := by rw [ringSegs_t hR] at hlt; rw [hR]; simp; omega
      have hac := accF_succ (f := twS) hx
      rw [ringSegs_t hR] at hx
      have hn := next_ix hlt (by omega)
      have hg := map_get (f := TSegment.en) hx
      repeat' ((first
        | ((with_reducible show OpA _ _ _ _ _ _); first
          | refine OpA.q TT_ok (by rfl) ?_
          | (refine OpA.quiet (QOp.pickT (by rfl) (by rfl) ?_ (by rfl)) ?_; focus (first | (with_reducible rfl) | (with_reducible_and_instances assumption) | (simp only [Bool.not_eq_true', Bool.not_eq_false']; with_reducible_and_instances assumption)))
          | (refine OpA.quiet (QOp.pickF (by rfl) (by rfl) ?_ (by rfl)) ?_; focus (first | (with_reducible rfl) | (with_reducible_and_instances assumption) | (simp only [Bool.not_eq_true', Bool.not_eq_false']; with_reducible_and_instances assumption)))
          | refine OpA.quiet (QOp.atk_ro (by rfl) (by rfl) (by rfl) (TT_ok.sl _ _ (by rfl)) (Nat.le_of_ble_eq_true (by rfl)) (by first | assumption | omega) (by assumption)) ?_
          | refine OpA.quiet (QOp.ld1_ro (by rfl) (by rfl) (by assumption) (TT_ok.ld _ _ (by rfl)) (by rfl)) ?_
          | refine OpA.quiet (QOp.ldr_ro (by rfl) (by rfl) (by assumption) (TT_ok.ld _ _ (by rfl)) (Nat.le_of_ble_eq_true (by rfl))) ?_
          | refine OpA.quiet (QOp.at_own (by rfl) (TT_ok.sl _ _ (by rfl)) (by rfl) (by rfl) (by rfl) (by rfl) (by rfl) (by rfl) (by first | assumption | omega | decide) (by first | assumption | omega | decide)) ?_
          | refine OpA.quiet (QOp.len_own (by rfl) (TT_ok.sl _ _ (by rfl)) (by rfl) (by rfl) (by rfl) (by rfl)) ?_
          | (refine OpA.quiet (QOp.cat (by rfl) (by rfl) (by rfl) (by first | assumption | (simp only [ByteArray.size_append, bs_size] at *; omega))) ?_)
          | refine OpA.pcall (by rfl) Try.func87 rfl rfl (by rfl) (by first | exact clo_all (by rfl) | repeat' (first | exact clo_nil | refine clo_cons ?_ ?_ | exact clo_of (by rfl) | exact clo_fn _ | assumption)) (arnd_s _ (by assumption)) (by first | exact clo_of (by rfl) | assumption) ?_
          | refine OpA.pcall (by rfl) Try.func88 rfl rfl (by rfl) (by first | exact clo_all (by rfl) | repeat' (first | exact clo_nil | refine clo_cons ?_ ?_ | exact clo_of (by rfl) | exact clo_fn _ | assumption)) (isRing_s _ (by assumption)) (by first | exact clo_of (by rfl) | assumption) ?_
          | refine OpA.quiet (QOp.pickAnd (by rfl) (by rfl) (by rfl) (by rfl) (by rfl)) ?_
          | refine OpA.quiet (QOp.pickOr (by rfl) (by rfl) (by rfl) (by rfl) (by rfl)) ?_)
        | ((with_reducible show AL _ _ _ _ _ _ _); first
          | refine AL.q TT_ok rfl (by rfl) ?_
          | refine AL.step rfl ?_
          | refine AL.guardU (by rfl) (by rfl) (by rfl) (by rfl) ?_
          | refine AL.gF (by rfl) (by rfl) (by rfl) (by rfl) (by first | rfl | assumption) ?_
          | refine AL.gT (by rfl) (by rfl) (by rfl) (by rfl) (by first | rfl | assumption) ?_
          | refine AL.guardW (by rfl) (by rfl) (by rfl) (by rfl) (fun h => by (try rw [h]); first | exact OpA.quietW (QOp.quietA TT_ok (by rfl)) | exact OpA.pcall (by rfl) Try.func87 rfl rfl (by rfl) (by first | exact clo_all (by rfl) | repeat' (first | exact clo_nil | refine clo_cons ?_ ?_ | exact clo_of (by rfl) | exact clo_fn _ | assumption)) (arnd_s _ (by assumption)) (by first | exact clo_of (by rfl) | assumption) ⟨by rfl, rfl⟩ | exact OpA.pcall (by rfl) Try.func88 rfl rfl (by rfl) (by first | exact clo_all (by rfl) | repeat' (first | exact clo_nil | refine clo_cons ?_ ?_ | exact clo_of (by rfl) | exact clo_fn _ | assumption)) (isRing_s _ (by assumption)) (by first | exact clo_of (by rfl) | assumption) ⟨by rfl, rfl⟩ | exact OpA.quietW (QOp.atk_ro (by rfl) (by rfl) (by rfl) (TT_ok.sl _ _ (by rfl)) (Nat.le_of_ble_eq_true (by rfl)) (by first | assumption | omega) (by assumption)) | exact OpA.quietW (QOp.ld1_ro (by rfl) (by rfl) (by assumption) (TT_ok.ld _ _ (by rfl)) (by rfl)) | exact OpA.quietW (QOp.ldr_ro (by rfl) (by rfl) (by assumption) (TT_ok.ld _ _ (by rfl)) (Nat.le_of_ble_eq_true (by rfl))) | exact OpA.quietW (QOp.at_own (by rfl) (TT_ok.sl _ _ (by rfl)) (by rfl) (by rfl) (by rfl) (by rfl) (by rfl) (by rfl) (by first | assumption | omega | decide) (by first | assumption | omega | decide)) | exact OpA.quietW (QOp.len_own (by rfl) (TT_ok.sl _ _ (by rfl)) (by rfl) (by rfl) (by rfl) (by rfl)) | exact OpA.quietW (QOp.cat (by rfl) (by rfl) (by rfl) (by first | assumption | (simp only [ByteArray.size_append, bs_size] at *; omega))) | exact OpA.quietW (QOp.pickAnd (by rfl) (by rfl) (by rfl) (by rfl) (by rfl)) | exact OpA.quietW (QOp.pickOr (by rfl) (by rfl) (by rfl) (by rfl) (by rfl))) ?_
          | (refine AL.guardT (by rfl) (by rfl) (by rfl) (by rfl) (fun h => ?_) ?_; rotate_left; focus (intro h; (try simp only [Bool.not_eq_true', Bool.not_eq_false'] at h); first | (cases h; done) | exact clash (by with_reducible_and_instances assumption) h | exact clash h (by with_reducible_and_instances assumption) | exact absurd h (by decide) | (refine absurd h ?_; simp; done)))
          | (refine AL.guardT (by rfl) (by rfl) (by rfl) (by rfl) ?_ (fun h => ?_); focus (intro h; (try simp only [Bool.not_eq_true', Bool.not_eq_false'] at h); first | (cases h; done) | exact clash (by with_reducible_and_instances assumption) h | exact clash h (by with_reducible_and_instances assumption) | exact absurd h (by decide) | (refine absurd h ?_; simp; done)))
          | (refine AL.guardT (by rfl) (by rfl) (by rfl) (by rfl) ?_ ?_ <;> (intro h; try simp only [Bool.not_eq_true', Bool.not_eq_false'] at h))
          | (refine AL.guardF (by rfl) (by rfl) (by rfl) (by rfl) (fun h => ?_) ?_; rotate_left; focus (intro h; (try simp only [Bool.not_eq_true', Bool.not_eq_false'] at h); first | (cases h; done) | exact clash (by with_reducible_and_instances assumption) h | exact clash h (by with_reducible_and_instances assumption) | exact absurd h (by decide) | (refine absurd h ?_; simp; done)))
          | (refine AL.guardF (by rfl) (by rfl) (by rfl) (by rfl) ?_ (fun h => ?_); focus (intro h; (try simp only [Bool.not_eq_true', Bool.not_eq_false'] at h); first | (cases h; done) | exact clash (by with_reducible_and_instances assumption) h | exact clash h (by with_reducible_and_instances assumption) | exact absurd h (by decide) | (refine absurd h ?_; simp; done)))
          | (refine AL.guardF (by rfl) (by rfl) (by rfl) (by rfl) ?_ ?_ <;> (intro h; try simp only [Bool.not_eq_true', Bool.not_eq_false'] at h))
          | refine AL.nil ?_)
        | ((with_reducible show DL _ _ _ _ _ _ _); first
          | refine DL.q TT_ok rfl (by rfl) ?_
          | refine DL.p rfl (POp.quiet (QOp.atk_ro (by rfl) (by rfl) (by rfl) (TT_ok.sl _ _ (by rfl)) (Nat.le_of_ble_eq_true (by rfl)) (by first | assumption | omega) (by assumption))) ?_
          | refine DL.p rfl (POp.quiet (QOp.ld1_ro (by rfl) (by rfl) (by assumption) (TT_ok.ld _ _ (by rfl)) (by rfl))) ?_
          | refine DL.p rfl (POp.quiet (QOp.ldr_ro (by rfl) (by rfl) (by assumption) (TT_ok.ld _ _ (by rfl)) (Nat.le_of_ble_eq_true (by rfl)))) ?_
          | refine DL.p rfl (POp.quiet (QOp.at_own (by rfl) (TT_ok.sl _ _ (by rfl)) (by rfl) (by rfl) (by rfl) (by rfl) (by rfl) (by rfl) (by first | assumption | omega | decide) (by first | assumption | omega | decide))) ?_
          | refine DL.p rfl (POp.quiet (QOp.len_own (by rfl) (TT_ok.sl _ _ (by rfl)) (by rfl) (by rfl) (by rfl) (by rfl))) ?_
          | (refine DL.p rfl (POp.quiet (QOp.cat (by rfl) (by rfl) (by rfl) (by first | assumption | (simp only [ByteArray.size_append, bs_size] at *; omega)))) ?_)
          | refine DL.p rfl (POp.quiet (QOp.pickAnd (by rfl) (by rfl) (by rfl) (by rfl) (by rfl))) ?_
          | refine DL.p rfl (POp.quiet (QOp.pickOr (by rfl) (by rfl) (by rfl) (by rfl) (by rfl))) ?_
          | refine DL.p rfl (POp.quiet (QOp.pickT (by rfl) (by rfl) (by with_reducible_and_instances assumption) (by rfl))) ?_
          | refine DL.p rfl (POp.quiet (QOp.pickF (by rfl) (by rfl) (by with_reducible_and_instances assumption) (by rfl))) ?_
          | refine DL.p rfl (POp.pcall (by rfl) Try.func87 rfl rfl (by rfl) (by first | exact clo_all (by rfl) | repeat' (first | exact clo_nil | refine clo_cons ?_ ?_ | exact clo_of (by rfl) | exact clo_fn _ | assumption)) (arnd_s _ (by assumption)) (by first | exact clo_of (by rfl) | assumption)) ?_
          | refine DL.p rfl (POp.pcall (by rfl) Try.func88 rfl rfl (by rfl) (by first | exact clo_all (by rfl) | repeat' (first | exact clo_nil | refine clo_cons ?_ ?_ | exact clo_of (by rfl) | exact clo_fn _ | assumption)) (isRing_s _ (by assumption)) (by first | exact clo_of (by rfl) | assumption)) ?_
          | refine DL.gU (by rfl) (by rfl) (by rfl) (by rfl) ?_
          | refine DL.gF (by rfl) (by rfl) (by rfl) (by rfl) (by first | rfl | assumption) ?_
          | refine DL.gT (by rfl) (by rfl) (by rfl) (by rfl) (by first | rfl | assumption) (POp.q TT_ok (by rfl)) ?_
          | refine DL.gT (by rfl) (by rfl) (by rfl) (by rfl) (by first | rfl | assumption) (POp.quiet (QOp.atk_ro (by rfl) (by rfl) (by rfl) (TT_ok.sl _ _ (by rfl)) (Nat.le_of_ble_eq_true (by rfl)) (by first | assumption | omega) (by assumption))) ?_
          | refine DL.gT (by rfl) (by rfl) (by rfl) (by rfl) (by first | rfl | assumption) (POp.quiet (QOp.ld1_ro (by rfl) (by rfl) (by assumption) (TT_ok.ld _ _ (by rfl)) (by rfl))) ?_
          | refine DL.gT (by rfl) (by rfl) (by rfl) (by rfl) (by first | rfl | assumption) (POp.quiet (QOp.ldr_ro (by rfl) (by rfl) (by assumption) (TT_ok.ld _ _ (by rfl)) (Nat.le_of_ble_eq_true (by rfl)))) ?_
          | refine DL.gT (by rfl) (by rfl) (by rfl) (by rfl) (by first | rfl | assumption) (POp.quiet (QOp.at_own (by rfl) (TT_ok.sl _ _ (by rfl)) (by rfl) (by rfl) (by rfl) (by rfl) (by rfl) (by rfl) (by first | assumption | omega | decide) (by first | assumption | omega | decide))) ?_
          | refine DL.gT (by rfl) (by rfl) (by rfl) (by rfl) (by first | rfl | assumption) (POp.quiet (QOp.len_own (by rfl) (TT_ok.sl _ _ (by rfl)) (by rfl) (by rfl) (by rfl) (by rfl))) ?_
          | (refine DL.gT (by rfl) (by rfl) (by rfl) (by rfl) (by first | rfl | assumption) (POp.quiet (QOp.cat (by rfl) (by rfl) (by rfl) (by first | assumption | (simp only [ByteArray.size_append, bs_size] at *; omega)))) ?_)
          | refine DL.gT (by rfl) (by rfl) (by rfl) (by rfl) (by first | rfl | assumption) (POp.quiet (QOp.pickAnd (by rfl) (by rfl) (by rfl) (by rfl) (by rfl))) ?_
          | refine DL.gT (by rfl) (by rfl) (by rfl) (by rfl) (by first | rfl | assumption) (POp.quiet (QOp.pickOr (by rfl) (by rfl) (by rfl) (by rfl) (by rfl))) ?_
          | refine DL.gT (by rfl) (by rfl) (by rfl) (by rfl) (by first | rfl | assumption) (POp.quiet (QOp.pickT (by rfl) (by rfl) (by with_reducible_and_instances assumption) (by rfl))) ?_
          | refine DL.gT (by rfl) (by rfl) (by rfl) (by rfl) (by first | rfl | assumption) (POp.quiet (QOp.pickF (by rfl) (by rfl) (by with_reducible_and_instances assumption) (by rfl))) ?_
          | refine DL.gT (by rfl) (by rfl) (by rfl) (by rfl) (by first | rfl | assumption) (POp.pcall (by rfl) Try.func87 rfl rfl (by rfl) (by first | exact clo_all (by rfl) | repeat' (first | exact clo_nil | refine clo_cons ?_ ?_ | exact clo_of (by rfl) | exact clo_fn _ | assumption)) (arnd_s _ (by assumption)) (by first | exact clo_of (by rfl) | assumption)) ?_
          | refine DL.gT (by rfl) (by rfl) (by rfl) (by rfl) (by first | rfl | assumption) (POp.pcall (by rfl) Try.func88 rfl rfl (by rfl) (by first | exact clo_all (by rfl) | repeat' (first | exact clo_nil | refine clo_cons ?_ ?_ | exact clo_of (by rfl) | exact clo_fn _ | assumption)) (isRing_s _ (by assumption)) (by first | exact clo_of (by rfl) | assumption)) ?_
          | refine DL.g (by rfl) (by rfl) (by rfl) (by rfl) (fun h => by (try rw [h]); first | exact POp.q TT_ok (by rfl) | exact POp.quiet (QOp.atk_ro (by rfl) (by rfl) (by rfl) (TT_ok.sl _ _ (by rfl)) (Nat.le_of_ble_eq_true (by rfl)) (by first | assumption | omega) (by assumption)) | exact POp.quiet (QOp.ld1_ro (by rfl) (by rfl) (by assumption) (TT_ok.ld _ _ (by rfl)) (by rfl)) | exact POp.quiet (QOp.ldr_ro (by rfl) (by rfl) (by assumption) (TT_ok.ld _ _ (by rfl)) (Nat.le_of_ble_eq_true (by rfl))) | exact POp.quiet (QOp.at_own (by rfl) (TT_ok.sl _ _ (by rfl)) (by rfl) (by rfl) (by rfl) (by rfl) (by rfl) (by rfl) (by first | assumption | omega | decide) (by first | assumption | omega | decide)) | exact POp.quiet (QOp.len_own (by rfl) (TT_ok.sl _ _ (by rfl)) (by rfl) (by rfl) (by rfl) (by rfl)) | exact POp.quiet (QOp.cat (by rfl) (by rfl) (by rfl) (by first | assumption | (simp only [ByteArray.size_append, bs_size] at *; omega))) | exact POp.quiet (QOp.pickAnd (by rfl) (by rfl) (by rfl) (by rfl) (by rfl)) | exact POp.quiet (QOp.pickOr (by rfl) (by rfl) (by rfl) (by rfl) (by rfl)) | exact POp.quiet (QOp.pickT (by rfl) (by rfl) (by with_reducible_and_instances assumption) (by rfl)) | exact POp.quiet (QOp.pickF (by rfl) (by rfl) (by with_reducible_and_instances assumption) (by rfl)) | exact POp.pcall (by rfl) Try.func87 rfl rfl (by rfl) (by first | exact clo_all (by rfl) | repeat' (first | exact clo_nil | refine clo_cons ?_ ?_ | exact clo_of (by rfl) | exact clo_fn _ | assumption)) (arnd_s _ (by assumption)) (by first | exact clo_of (by rfl) | assumption) | exact POp.pcall (by rfl) Try.func88 rfl rfl (by rfl) (by first | exact clo_all (by rfl) | repeat' (first | exact clo_nil | refine clo_cons ?_ ?_ | exact clo_of (by rfl) | exact clo_fn _ | assumption)) (isRing_s _ (by assumption)) (by first | exact clo_of (by rfl) | assumption)) ?_
          | refine DL.nil ?_)
        | ((with_reducible show AW _ _ _ _ _ _); first
          | refine AW.seq ?_
          | refine AW.region ?_
          | refine AW.skip ?_
          | refine AW.drawn (id := 6) 28 (by kernel_rfl) (by kernel_rfl) (by rfl) ?_
          | (refine AW.cond (by rfl) (fun h => ?_) ?_; rotate_left; focus (intro h; (try simp only [Bool.not_eq_true', Bool.not_eq_false'] at h); first | (cases h; done) | exact clash (by with_reducible_and_instances assumption) h | exact clash h (by with_reducible_and_instances assumption) | exact absurd h (by decide) | (refine absurd h ?_; simp; done)))
          | (refine AW.cond (by rfl) ?_ (fun h => ?_); focus (intro h; (try simp only [Bool.not_eq_true', Bool.not_eq_false'] at h); first | (cases h; done) | exact clash (by with_reducible_and_instances assumption) h | exact clash h (by with_reducible_and_instances assumption) | exact absurd h (by decide) | (refine absurd h ?_; simp; done)))
          | (refine AW.cond (by rfl) ?_ ?_ <;> (intro h; try simp only [Bool.not_eq_true', Bool.not_eq_false'] at h))
          | refine AW.block ?_
          | refine AW.exit ?_
          | refine AW.ret ?_)
        | with_reducible refine (if_pos rfl).mpr ?_
        | with_reducible refine (if_neg (by decide)).mpr ?_) <;> (try dsimp only [dput, List.set, cond_true, cond_false, Nat.zero_add, Nat.add_zero, Nat.reduceAdd, splice, List.take, List.drop, List.length, List.nil_append, List.cons_append, List.append, TPoint.en, TSegment.en, TBox.en, TFeature.en, TMeet.en, TPlace.en, TCover.en, TLabel.en, TPiece.en, TLevel.en, TChart.en, TReason.en, TEdit.en, TEntry.en, TEdition.en, TListing.en, TAtlas.en, TEvent.en, TWindow.en]))
      all_goals first
        | (refine ⟨i + 1, _, hlt, by omega, ?_, rfl, ?_, ?_⟩; (focus ((repeat' (first | exact Wk.nil | refine Wk.any ?_ | (with_reducible refine Wk.same ?_) | refine Wk.of ?_ ?_)) <;> (simp_all))); (focus ((repeat' (first | exact Fits.nil _ | refine Fits.cons ?_ ?_ | exact Fits.any _ | exact Fits.c _ _ | exact Fits.own (by rfl) | exact Fits.ref (by rfl) | exact Fits.clo (by assumption) | exact Fits.clo (clo_of (by rfl)) | exact Fits.clo (clo_fn _))))); (focus (exact FitsM.nil _)))
    · have e : i = (ringSegs l).length := by omega
      have ht : (decide ((i : Int) < (((arnd l).map TSegment.en).length : Int)) && isRing l) = false := by
        cases hR : isRing l
        · simp
        · rw [e, ringSegs_t hR]; simp
      subst e
      repeat' ((first
        | ((with_reducible show OpA _ _ _ _ _ _); first
          | refine OpA.q TT_ok (by rfl) ?_
          | (refine OpA.quiet (QOp.pickT (by rfl) (by rfl) ?_ (by rfl)) ?_; focus (first | (with_reducible rfl) | (with_reducible_and_instances assumption) | (simp only [Bool.not_eq_true', Bool.not_eq_false']; with_reducible_and_instances assumption)))
          | (refine OpA.quiet (QOp.pickF (by rfl) (by rfl) ?_ (by rfl)) ?_; focus (first | (with_reducible rfl) | (with_reducible_and_instances assumption) | (simp only [Bool.not_eq_true', Bool.not_eq_false']; with_reducible_and_instances assumption)))
          | refine OpA.quiet (QOp.atk_ro (by rfl) (by rfl) (by rfl) (TT_ok.sl _ _ (by rfl)) (Nat.le_of_ble_eq_true (by rfl)) (by first | assumption | omega) (by assumption)) ?_
          | refine OpA.quiet (QOp.ld1_ro (by rfl) (by rfl) (by assumption) (TT_ok.ld _ _ (by rfl)) (by rfl)) ?_
          | refine OpA.quiet (QOp.ldr_ro (by rfl) (by rfl) (by assumption) (TT_ok.ld _ _ (by rfl)) (Nat.le_of_ble_eq_true (by rfl))) ?_
          | refine OpA.quiet (QOp.at_own (by rfl) (TT_ok.sl _ _ (by rfl)) (by rfl) (by rfl) (by rfl) (by rfl) (by rfl) (by rfl) (by first | assumption | omega | decide) (by first | assumption | omega | decide)) ?_
          | refine OpA.quiet (QOp.len_own (by rfl) (TT_ok.sl _ _ (by rfl)) (by rfl) (by rfl) (by rfl) (by rfl)) ?_
          | (refine OpA.quiet (QOp.cat (by rfl) (by rfl) (by rfl) (by first | assumption | (simp only [ByteArray.size_append, bs_size] at *; omega))) ?_)
          | refine OpA.pcall (by rfl) Try.func87 rfl rfl (by rfl) (by first | exact clo_all (by rfl) | repeat' (first | exact clo_nil | refine clo_cons ?_ ?_ | exact clo_of (by rfl) | exact clo_fn _ | assumption)) (arnd_s _ (by assumption)) (by first | exact clo_of (by rfl) | assumption) ?_
          | refine OpA.pcall (by rfl) Try.func88 rfl rfl (by rfl) (by first | exact clo_all (by rfl) | repeat' (first | exact clo_nil | refine clo_cons ?_ ?_ | exact clo_of (by rfl) | exact clo_fn _ | assumption)) (isRing_s _ (by assumption)) (by first | exact clo_of (by rfl) | assumption) ?_
          | refine OpA.quiet (QOp.pickAnd (by rfl) (by rfl) (by rfl) (by rfl) (by rfl)) ?_
          | refine OpA.quiet (QOp.pickOr (by rfl) (by rfl) (by rfl) (by rfl) (by rfl)) ?_)
        | ((with_reducible show AL _ _ _ _ _ _ _); first
          | refine AL.q TT_ok rfl (by rfl) ?_
          | refine AL.step rfl ?_
          | refine AL.guardU (by rfl) (by rfl) (by rfl) (by rfl) ?_
          | refine AL.gF (by rfl) (by rfl) (by rfl) (by rfl) (by first | rfl | assumption) ?_
          | refine AL.gT (by rfl) (by rfl) (by rfl) (by rfl) (by first | rfl | assumption) ?_
          | refine AL.guardW (by rfl) (by rfl) (by rfl) (by rfl) (fun h => by (try rw [h]); first | exact OpA.quietW (QOp.quietA TT_ok (by rfl)) | exact OpA.pcall (by rfl) Try.func87 rfl rfl (by rfl) (by first | exact clo_all (by rfl) | repeat' (first | exact clo_nil | refine clo_cons ?_ ?_ | exact clo_of (by rfl) | exact clo_fn _ | assumption)) (arnd_s _ (by assumption)) (by first | exact clo_of (by rfl) | assumption) ⟨by rfl, rfl⟩ | exact OpA.pcall (by rfl) Try.func88 rfl rfl (by rfl) (by first | exact clo_all (by rfl) | repeat' (first | exact clo_nil | refine clo_cons ?_ ?_ | exact clo_of (by rfl) | exact clo_fn _ | assumption)) (isRing_s _ (by assumption)) (by first | exact clo_of (by rfl) | assumption) ⟨by rfl, rfl⟩ | exact OpA.quietW (QOp.atk_ro (by rfl) (by rfl) (by rfl) (TT_ok.sl _ _ (by rfl)) (Nat.le_of_ble_eq_true (by rfl)) (by first | assumption | omega) (by assumption)) | exact OpA.quietW (QOp.ld1_ro (by rfl) (by rfl) (by assumption) (TT_ok.ld _ _ (by rfl)) (by rfl)) | exact OpA.quietW (QOp.ldr_ro (by rfl) (by rfl) (by assumption) (TT_ok.ld _ _ (by rfl)) (Nat.le_of_ble_eq_true (by rfl))) | exact OpA.quietW (QOp.at_own (by rfl) (TT_ok.sl _ _ (by rfl)) (by rfl) (by rfl) (by rfl) (by rfl) (by rfl) (by rfl) (by first | assumption | omega | decide) (by first | assumption | omega | decide)) | exact OpA.quietW (QOp.len_own (by rfl) (TT_ok.sl _ _ (by rfl)) (by rfl) (by rfl) (by rfl) (by rfl)) | exact OpA.quietW (QOp.cat (by rfl) (by rfl) (by rfl) (by first | assumption | (simp only [ByteArray.size_append, bs_size] at *; omega))) | exact OpA.quietW (QOp.pickAnd (by rfl) (by rfl) (by rfl) (by rfl) (by rfl)) | exact OpA.quietW (QOp.pickOr (by rfl) (by rfl) (by rfl) (by rfl) (by rfl))) ?_
          | (refine AL.guardT (by rfl) (by rfl) (by rfl) (by rfl) (fun h => ?_) ?_; rotate_left; focus (intro h; (try simp only [Bool.not_eq_true', Bool.not_eq_false'] at h); first | (cases h; done) | exact clash (by with_reducible_and_instances assumption) h | exact clash h (by with_reducible_and_instances assumption) | exact absurd h (by decide) | (refine absurd h ?_; simp; done)))
          | (refine AL.guardT (by rfl) (by rfl) (by rfl) (by rfl) ?_ (fun h => ?_); focus (intro h; (try simp only [Bool.not_eq_true', Bool.not_eq_false'] at h); first | (cases h; done) | exact clash (by with_reducible_and_instances assumption) h | exact clash h (by with_reducible_and_instances assumption) | exact absurd h (by decide) | (refine absurd h ?_; simp; done)))
          | (refine AL.guardT (by rfl) (by rfl) (by rfl) (by rfl) ?_ ?_ <;> (intro h; try simp only [Bool.not_eq_true', Bool.not_eq_false'] at h))
          | (refine AL.guardF (by rfl) (by rfl) (by rfl) (by rfl) (fun h => ?_) ?_; rotate_left; focus (intro h; (try simp only [Bool.not_eq_true', Bool.not_eq_false'] at h); first | (cases h; done) | exact clash (by with_reducible_and_instances assumption) h | exact clash h (by with_reducible_and_instances assumption) | exact absurd h (by decide) | (refine absurd h ?_; simp; done)))
          | (refine AL.guardF (by rfl) (by rfl) (by rfl) (by rfl) ?_ (fun h => ?_); focus (intro h; (try simp only [Bool.not_eq_true', Bool.not_eq_false'] at h); first | (cases h; done) | exact clash (by with_reducible_and_instances assumption) h | exact clash h (by with_reducible_and_instances assumption) | exact absurd h (by decide) | (refine absurd h ?_; simp; done)))
          | (refine AL.guardF (by rfl) (by rfl) (by rfl) (by rfl) ?_ ?_ <;> (intro h; try simp only [Bool.not_eq_true', Bool.not_eq_false'] at h))
          | refine AL.nil ?_)
        | ((with_reducible show DL _ _ _ _ _ _ _); first
          | refine DL.q TT_ok rfl (by rfl) ?_
          | refine DL.p rfl (POp.quiet (QOp.atk_ro (by rfl) (by rfl) (by rfl) (TT_ok.sl _ _ (by rfl)) (Nat.le_of_ble_eq_true (by rfl)) (by first | assumption | omega) (by assumption))) ?_
          | refine DL.p rfl (POp.quiet (QOp.ld1_ro (by rfl) (by rfl) (by assumption) (TT_ok.ld _ _ (by rfl)) (by rfl))) ?_
          | refine DL.p rfl (POp.quiet (QOp.ldr_ro (by rfl) (by rfl) (by assumption) (TT_ok.ld _ _ (by rfl)) (Nat.le_of_ble_eq_true (by rfl)))) ?_
          | refine DL.p rfl (POp.quiet (QOp.at_own (by rfl) (TT_ok.sl _ _ (by rfl)) (by rfl) (by rfl) (by rfl) (by rfl) (by rfl) (by rfl) (by first | assumption | omega | decide) (by first | assumption | omega | decide))) ?_
          | refine DL.p rfl (POp.quiet (QOp.len_own (by rfl) (TT_ok.sl _ _ (by rfl)) (by rfl) (by rfl) (by rfl) (by rfl))) ?_
          | (refine DL.p rfl (POp.quiet (QOp.cat (by rfl) (by rfl) (by rfl) (by first | assumption | (simp only [ByteArray.size_append, bs_size] at *; omega)))) ?_)
          | refine DL.p rfl (POp.quiet (QOp.pickAnd (by rfl) (by rfl) (by rfl) (by rfl) (by rfl))) ?_
          | refine DL.p rfl (POp.quiet (QOp.pickOr (by rfl) (by rfl) (by rfl) (by rfl) (by rfl))) ?_
          | refine DL.p rfl (POp.quiet (QOp.pickT (by rfl) (by rfl) (by with_reducible_and_instances assumption) (by rfl))) ?_
          | refine DL.p rfl (POp.quiet (QOp.pickF (by rfl) (by rfl) (by with_reducible_and_instances assumption) (by rfl))) ?_
          | refine DL.p rfl (POp.pcall (by rfl) Try.func87 rfl rfl (by rfl) (by first | exact clo_all (by rfl) | repeat' (first | exact clo_nil | refine clo_cons ?_ ?_ | exact clo_of (by rfl) | exact clo_fn _ | assumption)) (arnd_s _ (by assumption)) (by first | exact clo_of (by rfl) | assumption)) ?_
          | refine DL.p rfl (POp.pcall (by rfl) Try.func88 rfl rfl (by rfl) (by first | exact clo_all (by rfl) | repeat' (first | exact clo_nil | refine clo_cons ?_ ?_ | exact clo_of (by rfl) | exact clo_fn _ | assumption)) (isRing_s _ (by assumption)) (by first | exact clo_of (by rfl) | assumption)) ?_
          | refine DL.gU (by rfl) (by rfl) (by rfl) (by rfl) ?_
          | refine DL.gF (by rfl) (by rfl) (by rfl) (by rfl) (by first | rfl | assumption) ?_
          | refine DL.gT (by rfl) (by rfl) (by rfl) (by rfl) (by first | rfl | assumption) (POp.q TT_ok (by rfl)) ?_
          | refine DL.gT (by rfl) (by rfl) (by rfl) (by rfl) (by first | rfl | assumption) (POp.quiet (QOp.atk_ro (by rfl) (by rfl) (by rfl) (TT_ok.sl _ _ (by rfl)) (Nat.le_of_ble_eq_true (by rfl)) (by first | assumption | omega) (by assumption))) ?_
          | refine DL.gT (by rfl) (by rfl) (by rfl) (by rfl) (by first | rfl | assumption) (POp.quiet (QOp.ld1_ro (by rfl) (by rfl) (by assumption) (TT_ok.ld _ _ (by rfl)) (by rfl))) ?_
          | refine DL.gT (by rfl) (by rfl) (by rfl) (by rfl) (by first | rfl | assumption) (POp.quiet (QOp.ldr_ro (by rfl) (by rfl) (by assumption) (TT_ok.ld _ _ (by rfl)) (Nat.le_of_ble_eq_true (by rfl)))) ?_
          | refine DL.gT (by rfl) (by rfl) (by rfl) (by rfl) (by first | rfl | assumption) (POp.quiet (QOp.at_own (by rfl) (TT_ok.sl _ _ (by rfl)) (by rfl) (by rfl) (by rfl) (by rfl) (by rfl) (by rfl) (by first | assumption | omega | decide) (by first | assumption | omega | decide))) ?_
          | refine DL.gT (by rfl) (by rfl) (by rfl) (by rfl) (by first | rfl | assumption) (POp.quiet (QOp.len_own (by rfl) (TT_ok.sl _ _ (by rfl)) (by rfl) (by rfl) (by rfl) (by rfl))) ?_
          | (refine DL.gT (by rfl) (by rfl) (by rfl) (by rfl) (by first | rfl | assumption) (POp.quiet (QOp.cat (by rfl) (by rfl) (by rfl) (by first | assumption | (simp only [ByteArray.size_append, bs_size] at *; omega)))) ?_)
          | refine DL.gT (by rfl) (by rfl) (by rfl) (by rfl) (by first | rfl | assumption) (POp.quiet (QOp.pickAnd (by rfl) (by rfl) (by rfl) (by rfl) (by rfl))) ?_
          | refine DL.gT (by rfl) (by rfl) (by rfl) (by rfl) (by first | rfl | assumption) (POp.quiet (QOp.pickOr (by rfl) (by rfl) (by rfl) (by rfl) (by rfl))) ?_
          | refine DL.gT (by rfl) (by rfl) (by rfl) (by rfl) (by first | rfl | assumption) (POp.quiet (QOp.pickT (by rfl) (by rfl) (by with_reducible_and_instances assumption) (by rfl))) ?_
          | refine DL.gT (by rfl) (by rfl) (by rfl) (by rfl) (by first | rfl | assumption) (POp.quiet (QOp.pickF (by rfl) (by rfl) (by with_reducible_and_instances assumption) (by rfl))) ?_
          | refine DL.gT (by rfl) (by rfl) (by rfl) (by rfl) (by first | rfl | assumption) (POp.pcall (by rfl) Try.func87 rfl rfl (by rfl) (by first | exact clo_all (by rfl) | repeat' (first | exact clo_nil | refine clo_cons ?_ ?_ | exact clo_of (by rfl) | exact clo_fn _ | assumption)) (arnd_s _ (by assumption)) (by first | exact clo_of (by rfl) | assumption)) ?_
          | refine DL.gT (by rfl) (by rfl) (by rfl) (by rfl) (by first | rfl | assumption) (POp.pcall (by rfl) Try.func88 rfl rfl (by rfl) (by first | exact clo_all (by rfl) | repeat' (first | exact clo_nil | refine clo_cons ?_ ?_ | exact clo_of (by rfl) | exact clo_fn _ | assumption)) (isRing_s _ (by assumption)) (by first | exact clo_of (by rfl) | assumption)) ?_
          | refine DL.g (by rfl) (by rfl) (by rfl) (by rfl) (fun h => by (try rw [h]); first | exact POp.q TT_ok (by rfl) | exact POp.quiet (QOp.atk_ro (by rfl) (by rfl) (by rfl) (TT_ok.sl _ _ (by rfl)) (Nat.le_of_ble_eq_true (by rfl)) (by first | assumption | omega) (by assumption)) | exact POp.quiet (QOp.ld1_ro (by rfl) (by rfl) (by assumption) (TT_ok.ld _ _ (by rfl)) (by rfl)) | exact POp.quiet (QOp.ldr_ro (by rfl) (by rfl) (by assumption) (TT_ok.ld _ _ (by rfl)) (Nat.le_of_ble_eq_true (by rfl))) | exact POp.quiet (QOp.at_own (by rfl) (TT_ok.sl _ _ (by rfl)) (by rfl) (by rfl) (by rfl) (by rfl) (by rfl) (by rfl) (by first | assumption | omega | decide) (by first | assumption | omega | decide)) | exact POp.quiet (QOp.len_own (by rfl) (TT_ok.sl _ _ (by rfl)) (by rfl) (by rfl) (by rfl) (by rfl)) | exact POp.quiet (QOp.cat (by rfl) (by rfl) (by rfl) (by first | assumption | (simp only [ByteArray.size_append, bs_size] at *; omega))) | exact POp.quiet (QOp.pickAnd (by rfl) (by rfl) (by rfl) (by rfl) (by rfl)) | exact POp.quiet (QOp.pickOr (by rfl) (by rfl) (by rfl) (by rfl) (by rfl)) | exact POp.quiet (QOp.pickT (by rfl) (by rfl) (by with_reducible_and_instances assumption) (by rfl)) | exact POp.quiet (QOp.pickF (by rfl) (by rfl) (by with_reducible_and_instances assumption) (by rfl)) | exact POp.pcall (by rfl) Try.func87 rfl rfl (by rfl) (by first | exact clo_all (by rfl) | repeat' (first | exact clo_nil | refine clo_cons ?_ ?_ | exact clo_of (by rfl) | exact clo_fn _ | assumption)) (arnd_s _ (by assumption)) (by first | exact clo_of (by rfl) | assumption) | exact POp.pcall (by rfl) Try.func88 rfl rfl (by rfl) (by first | exact clo_all (by rfl) | repeat' (first | exact clo_nil | refine clo_cons ?_ ?_ | exact clo_of (by rfl) | exact clo_fn _ | assumption)) (isRing_s _ (by assumption)) (by first | exact clo_of (by rfl) | assumption)) ?_
          | refine DL.nil ?_)
        | ((with_reducible show AW _ _ _ _ _ _); first
          | refine AW.seq ?_
          | refine AW.region ?_
          | refine AW.skip ?_
          | refine AW.drawn (id := 6) 28 (by kernel_rfl) (by kernel_rfl) (by rfl) ?_
          | (refine AW.cond (by rfl) (fun h => ?_) ?_; rotate_left; focus (intro h; (try simp only [Bool.not_eq_true', Bool.not_eq_false'] at h); first | (cases h; done) | exact clash (by with_reducible_and_instances assumption) h | exact clash h (by with_reducible_and_instances assumption) | exact absurd h (by decide) | (refine absurd h ?_; simp; done)))
          | (refine AW.cond (by rfl) ?_ (fun h => ?_); focus (intro h; (try simp only [Bool.not_eq_true', Bool.not_eq_false'] at h); first | (cases h; done) | exact clash (by with_reducible_and_instances assumption) h | exact clash h (by with_reducible_and_instances assumption) | exact absurd h (by decide) | (refine absurd h ?_; simp; done)))
          | (refine AW.cond (by rfl) ?_ ?_ <;> (intro h; try simp only [Bool.not_eq_true', Bool.not_eq_false'] at h))
          | refine AW.block ?_
          | refine AW.exit ?_
          | refine AW.ret ?_)
        | with_reducible refine (if_pos rfl).mpr ?_
        | with_reducible refine (if_neg (by decide)).mpr ?_) <;> (try dsimp only [dput, List.set, cond_true, cond_false, Nat.zero_add, Nat.add_zero, Nat.reduceAdd, splice, List.take, List.drop, List.length, List.nil_append, List.cons_append, List.append, TPoint.en, TSegment.en, TBox.en, TFeature.en, TMeet.en, TPlace.en, TCover.en, TLabel.en, TPiece.en, TLevel.en, TChart.en, TReason.en, TEdit.en, TEntry.en, TEdition.en, TListing.en, TAtlas.en, TEvent.en, TWindow.en]))
      all_goals exact Fin.one rfl (RV.tmp (by rfl)) (clo_c _) ⟨by rw [accF_all]; rfl, rfl⟩

set_option maxRecDepth 100000 in
set_option maxHeartbeats 2000000 in
theorem twice_i (l : List TPoint) (hl : l.length ≤ 1048576) : VCalls Try.prog 48 [.ro 2 (l.map TPoint.en)] (fun r M => r = I (twice l) ∧ M = []) := by
  refine VCalls.bodyE Try.func48 rfl 31 rfl (fun E hE => ?_)
  simp only [List.reduceReplicate, List.cons_append, List.nil_append]
  have hclo : Clo (.ro 2 (l.map TPoint.en)) := clo_list TPoint.clo_en
  have hclA : Clo (.ro 4 ((arnd l).map TSegment.en)) := clo_list TSegment.clo_en
  have hal := arnd_len l
  have hclR : Clo (.ro 4 ((ringSegs l).map TSegment.en)) := clo_list TSegment.clo_en
  have hrl := ringSegs_le l
  repeat' ((first
    | ((with_reducible show OpA _ _ _ _ _ _); first
      | refine OpA.quiet (QOp.atk_ro (by rfl) (by rfl) (by rfl) (TT_ok.sl _ _ (by rfl)) (Nat.le_of_ble_eq_true (by rfl)) (by first | assumption | omega) (by assumption)) ?_
      | refine OpA.quiet (QOp.ld1_ro (by rfl) (by rfl) (by assumption) (TT_ok.ld _ _ (by rfl)) (by rfl)) ?_
      | refine OpA.quiet (QOp.ldr_ro (by rfl) (by rfl) (by assumption) (TT_ok.ld _ _ (by rfl)) (Nat.le_of_ble_eq_true (by rfl))) ?_
      | refine OpA.quiet (QOp.at_own (by rfl) (TT_ok.sl _ _ (by rfl)) (by rfl) (by rfl) (by rfl) (by rfl) (by rfl) (by rfl) (by first | assumption | omega | decide) (by first | assumption | omega | decide)) ?_
      | refine OpA.quiet (QOp.len_own (by rfl) (TT_ok.sl _ _ (by rfl)) (by rfl) (by rfl) (by rfl) (by rfl)) ?_
      | (refine OpA.quiet (QOp.cat (by rfl) (by rfl) (by rfl) (by first | assumption | (simp only [ByteArray.size_append, bs_size] at *; omega))) ?_)
      | refine OpA.allocA (by rfl) (by first | exact ze2 | exact ze3 | exact ze4 | exact ze5 | exact ze6 | exact ze7 | exact ze8 | exact ze9 | exact ze11 | exact ze12 | exact ze13 | exact ze14 | exact ze15 | exact ze16 | exact ze17 | exact ze18 | exact ze19 | exact ze21 | exact ze22 | exact ze23 | exact ze26 | exact ze29 | exact ze65 | exact ze66 | exact ze105 | exact ze109 | exact ze111) ?_
      | refine OpA.sto (by rfl) (by rfl) (by rfl) (by rfl) (by rfl) (by rfl) (by rfl) (by rfl) (TT_ok.ld _ _ (by rfl)) (by rfl) (Nat.le_of_ble_eq_true (by rfl)) ?_
      | refine OpA.sto (by rfl) (by rfl) (by rfl) (by rfl) (by rfl) (by assumption) (by rfl) (by rfl) (TT_ok.ld _ _ (by rfl)) (by rfl) (Nat.le_of_ble_eq_true (by rfl)) ?_
      | refine OpA.pcall (by rfl) Try.func89 rfl rfl (by rfl) (by first | exact clo_all (by rfl) | repeat' (first | exact clo_nil | refine clo_cons ?_ ?_ | exact clo_of (by rfl) | exact clo_fn _ | assumption)) (ringSegs_i _ (by assumption)) (by first | exact clo_of (by rfl) | assumption) ?_)
    | ((with_reducible show AL _ _ _ _ _ _ _); first
      | refine AL.q TT_ok rfl (by rfl) ?_
      | refine AL.step rfl ?_
      | refine AL.nil ?_)
    | ((with_reducible show AW _ _ _ _ _ _); first
      | refine AW.seq ?_
      | refine AW.region ?_
      | refine AW.skip ?_
      | (refine AW.loopD hE (fun i : Nat => [.ro 2 (l.map TPoint.en), .any, .any, I (accF twI (ringSegs l) i), .any, .any, .any, .ro 4 ((ringSegs l).map TSegment.en), I (((ringSegs l).map TSegment.en).length : Int), I (i : Int), .any, .any, .any, .any, .any, .any, .any, .any, .any, .any, .any, .any, .any, .any, .any, .any, .any, .any, .any, .any, .any, .any]) (fun i => []) (fun i => (ringSegs l).length - i) (fun i => i ≤ (ringSegs l).length) 0 (by simp) ?_ (by first | rfl | (simp [fil_zero]; done)) ?_)
      | (refine AW.cond (by rfl) (fun h => ?_) ?_; rotate_left; focus (intro h; (try simp only [Bool.not_eq_true', Bool.not_eq_false'] at h); first | (cases h; done) | exact clash (by with_reducible_and_instances assumption) h | exact clash h (by with_reducible_and_instances assumption) | exact absurd h (by decide) | (refine absurd h ?_; simp; done)))
      | (refine AW.cond (by rfl) ?_ (fun h => ?_); focus (intro h; (try simp only [Bool.not_eq_true', Bool.not_eq_false'] at h); first | (cases h; done) | exact clash (by with_reducible_and_instances assumption) h | exact clash h (by with_reducible_and_instances assumption) | exact absurd h (by decide) | (refine absurd h ?_; simp; done)))
      | (refine AW.cond (by rfl) ?_ ?_ <;> (intro h; try simp only [Bool.not_eq_true', Bool.not_eq_false'] at h))
      | refine AW.block ?_
      | refine AW.exit ?_
      | refine AW.ret ?_)
    | with_reducible refine (if_pos rfl).mpr ?_
    | with_reducible refine (if_neg (by decide)).mpr ?_) <;> (try dsimp only [dput, List.set, cond_true, cond_false, Nat.zero_add, Nat.add_zero, Nat.reduceAdd, splice, List.take, List.drop, List.length, List.nil_append, List.cons_append, List.append, TPoint.en, TSegment.en, TBox.en, TFeature.en, TMeet.en, TPlace.en, TCover.en, TLabel.en, TPiece.en, TLevel.en, TChart.en, TReason.en, TEdit.en, TEntry.en, TEdition.en, TListing.en, TAtlas.en, TEvent.en, TWindow.en]))
  · (repeat' (first | exact Wk.nil | refine Wk.any ?_ | (with_reducible refine Wk.same ?_) | refine Wk.of ?_ ?_)) <;> first | rfl | (simp_all [accF])
  · intro i hi
    have hclo : Clo (.ro 2 (l.map TPoint.en)) := clo_list TPoint.clo_en
    have hclA : Clo (.ro 4 ((arnd l).map TSegment.en)) := clo_list TSegment.clo_en
    have hal := arnd_len l
    have hclR : Clo (.ro 4 ((ringSegs l).map TSegment.en)) := clo_list TSegment.clo_en
    have hrl := ringSegs_le l
    by_cases hlt : i < (ringSegs l).length
    · obtain ⟨x, hx⟩ : ∃ x, (ringSegs l)[i]? = some x := ⟨_, List.getElem?_eq_getElem hlt⟩
      have hg := map_get (f := TSegment.en) hx
      have ht := lt_true (f := TSegment.en) hlt
      have hn := next_ix hlt (by omega)
      have hac := accF_succ (f := twI) hx
      repeat' ((first
        | ((with_reducible show OpA _ _ _ _ _ _); first
          | refine OpA.quiet (QOp.atk_ro (by rfl) (by rfl) (by rfl) (TT_ok.sl _ _ (by rfl)) (Nat.le_of_ble_eq_true (by rfl)) (by first | assumption | omega) (by assumption)) ?_
          | refine OpA.quiet (QOp.ld1_ro (by rfl) (by rfl) (by assumption) (TT_ok.ld _ _ (by rfl)) (by rfl)) ?_
          | refine OpA.quiet (QOp.ldr_ro (by rfl) (by rfl) (by assumption) (TT_ok.ld _ _ (by rfl)) (Nat.le_of_ble_eq_true (by rfl))) ?_
          | refine OpA.quiet (QOp.at_own (by rfl) (TT_ok.sl _ _ (by rfl)) (by rfl) (by rfl) (by rfl) (by rfl) (by rfl) (by rfl) (by first | assumption | omega | decide) (by first | assumption | omega | decide)) ?_
          | refine OpA.quiet (QOp.len_own (by rfl) (TT_ok.sl _ _ (by rfl)) (by rfl) (by rfl) (by rfl) (by rfl)) ?_
          | (refine OpA.quiet (QOp.cat (by rfl) (by rfl) (by rfl) (by first | assumption | (simp only [ByteArray.size_append, bs_size] at *; omega))) ?_)
          | refine OpA.allocA (by rfl) (by first | exact ze2 | exact ze3 | exact ze4 | exact ze5 | exact ze6 | exact ze7 | exact ze8 | exact ze9 | exact ze11 | exact ze12 | exact ze13 | exact ze14 | exact ze15 | exact ze16 | exact ze17 | exact ze18 | exact ze19 | exact ze21 | exact ze22 | exact ze23 | exact ze26 | exact ze29 | exact ze65 | exact ze66 | exact ze105 | exact ze109 | exact ze111) ?_
          | refine OpA.sto (by rfl) (by rfl) (by rfl) (by rfl) (by rfl) (by rfl) (by rfl) (by rfl) (TT_ok.ld _ _ (by rfl)) (by rfl) (Nat.le_of_ble_eq_true (by rfl)) ?_
          | refine OpA.sto (by rfl) (by rfl) (by rfl) (by rfl) (by rfl) (by assumption) (by rfl) (by rfl) (TT_ok.ld _ _ (by rfl)) (by rfl) (Nat.le_of_ble_eq_true (by rfl)) ?_
          | refine OpA.pcall (by rfl) Try.func89 rfl rfl (by rfl) (by first | exact clo_all (by rfl) | repeat' (first | exact clo_nil | refine clo_cons ?_ ?_ | exact clo_of (by rfl) | exact clo_fn _ | assumption)) (ringSegs_i _ (by assumption)) (by first | exact clo_of (by rfl) | assumption) ?_)
        | ((with_reducible show AL _ _ _ _ _ _ _); first
          | refine AL.q TT_ok rfl (by rfl) ?_
          | refine AL.step rfl ?_
          | refine AL.nil ?_)
        | ((with_reducible show AW _ _ _ _ _ _); first
          | refine AW.seq ?_
          | refine AW.region ?_
          | refine AW.skip ?_
          | (refine AW.cond (by rfl) (fun h => ?_) ?_; rotate_left; focus (intro h; (try simp only [Bool.not_eq_true', Bool.not_eq_false'] at h); first | (cases h; done) | exact clash (by with_reducible_and_instances assumption) h | exact clash h (by with_reducible_and_instances assumption) | exact absurd h (by decide) | (refine absurd h ?_; simp; done)))
          | (refine AW.cond (by rfl) ?_ (fun h => ?_); focus (intro h; (try simp only [Bool.not_eq_true', Bool.not_eq_false'] at h); first | (cases h; done) | exact clash (by with_reducible_and_instances assumption) h | exact clash h (by with_reducible_and_instances assumption) | exact absurd h (by decide) | (refine absurd h ?_; simp; done)))
          | (refine AW.cond (by rfl) ?_ ?_ <;> (intro h; try simp only [Bool.not_eq_true', Bool.not_eq_false'] at h))
          | refine AW.block ?_
          | refine AW.exit ?_
          | refine AW.ret ?_)
        | with_reducible refine (if_pos rfl).mpr ?_
        | with_reducible refine (if_neg (by decide)).mpr ?_) <;> (try dsimp only [dput, List.set, cond_true, cond_false, Nat.zero_add, Nat.add_zero, Nat.reduceAdd, splice, List.take, List.drop, List.length, List.nil_append, List.cons_append, List.append, TPoint.en, TSegment.en, TBox.en, TFeature.en, TMeet.en, TPlace.en, TCover.en, TLabel.en, TPiece.en, TLevel.en, TChart.en, TReason.en, TEdit.en, TEntry.en, TEdition.en, TListing.en, TAtlas.en, TEvent.en, TWindow.en]))
      all_goals first
        | (refine ⟨i + 1, _, hlt, by omega, ?_, rfl, ?_, ?_⟩; (focus ((repeat' (first | exact Wk.nil | refine Wk.any ?_ | (with_reducible refine Wk.same ?_) | refine Wk.of ?_ ?_)) <;> (simp_all))); (focus ((repeat' (first | exact Fits.nil _ | refine Fits.cons ?_ ?_ | exact Fits.any _ | exact Fits.c _ _ | exact Fits.own (by rfl) | exact Fits.ref (by rfl) | exact Fits.clo (by assumption) | exact Fits.clo (clo_of (by rfl)) | exact Fits.clo (clo_fn _))))); (focus (exact FitsM.nil _)))
    · have ht := lt_false (f := TSegment.en) hlt
      have e : i = (ringSegs l).length := by omega
      subst e
      try rw [List.take_length]
      repeat' ((first
        | ((with_reducible show OpA _ _ _ _ _ _); first
          | refine OpA.quiet (QOp.atk_ro (by rfl) (by rfl) (by rfl) (TT_ok.sl _ _ (by rfl)) (Nat.le_of_ble_eq_true (by rfl)) (by first | assumption | omega) (by assumption)) ?_
          | refine OpA.quiet (QOp.ld1_ro (by rfl) (by rfl) (by assumption) (TT_ok.ld _ _ (by rfl)) (by rfl)) ?_
          | refine OpA.quiet (QOp.ldr_ro (by rfl) (by rfl) (by assumption) (TT_ok.ld _ _ (by rfl)) (Nat.le_of_ble_eq_true (by rfl))) ?_
          | refine OpA.quiet (QOp.at_own (by rfl) (TT_ok.sl _ _ (by rfl)) (by rfl) (by rfl) (by rfl) (by rfl) (by rfl) (by rfl) (by first | assumption | omega | decide) (by first | assumption | omega | decide)) ?_
          | refine OpA.quiet (QOp.len_own (by rfl) (TT_ok.sl _ _ (by rfl)) (by rfl) (by rfl) (by rfl) (by rfl)) ?_
          | (refine OpA.quiet (QOp.cat (by rfl) (by rfl) (by rfl) (by first | assumption | (simp only [ByteArray.size_append, bs_size] at *; omega))) ?_)
          | refine OpA.allocA (by rfl) (by first | exact ze2 | exact ze3 | exact ze4 | exact ze5 | exact ze6 | exact ze7 | exact ze8 | exact ze9 | exact ze11 | exact ze12 | exact ze13 | exact ze14 | exact ze15 | exact ze16 | exact ze17 | exact ze18 | exact ze19 | exact ze21 | exact ze22 | exact ze23 | exact ze26 | exact ze29 | exact ze65 | exact ze66 | exact ze105 | exact ze109 | exact ze111) ?_
          | refine OpA.sto (by rfl) (by rfl) (by rfl) (by rfl) (by rfl) (by rfl) (by rfl) (by rfl) (TT_ok.ld _ _ (by rfl)) (by rfl) (Nat.le_of_ble_eq_true (by rfl)) ?_
          | refine OpA.sto (by rfl) (by rfl) (by rfl) (by rfl) (by rfl) (by assumption) (by rfl) (by rfl) (TT_ok.ld _ _ (by rfl)) (by rfl) (Nat.le_of_ble_eq_true (by rfl)) ?_
          | refine OpA.pcall (by rfl) Try.func89 rfl rfl (by rfl) (by first | exact clo_all (by rfl) | repeat' (first | exact clo_nil | refine clo_cons ?_ ?_ | exact clo_of (by rfl) | exact clo_fn _ | assumption)) (ringSegs_i _ (by assumption)) (by first | exact clo_of (by rfl) | assumption) ?_)
        | ((with_reducible show AL _ _ _ _ _ _ _); first
          | refine AL.q TT_ok rfl (by rfl) ?_
          | refine AL.step rfl ?_
          | refine AL.nil ?_)
        | ((with_reducible show AW _ _ _ _ _ _); first
          | refine AW.seq ?_
          | refine AW.region ?_
          | refine AW.skip ?_
          | (refine AW.cond (by rfl) (fun h => ?_) ?_; rotate_left; focus (intro h; (try simp only [Bool.not_eq_true', Bool.not_eq_false'] at h); first | (cases h; done) | exact clash (by with_reducible_and_instances assumption) h | exact clash h (by with_reducible_and_instances assumption) | exact absurd h (by decide) | (refine absurd h ?_; simp; done)))
          | (refine AW.cond (by rfl) ?_ (fun h => ?_); focus (intro h; (try simp only [Bool.not_eq_true', Bool.not_eq_false'] at h); first | (cases h; done) | exact clash (by with_reducible_and_instances assumption) h | exact clash h (by with_reducible_and_instances assumption) | exact absurd h (by decide) | (refine absurd h ?_; simp; done)))
          | (refine AW.cond (by rfl) ?_ ?_ <;> (intro h; try simp only [Bool.not_eq_true', Bool.not_eq_false'] at h))
          | refine AW.block ?_
          | refine AW.exit ?_
          | refine AW.ret ?_)
        | with_reducible refine (if_pos rfl).mpr ?_
        | with_reducible refine (if_neg (by decide)).mpr ?_) <;> (try dsimp only [dput, List.set, cond_true, cond_false, Nat.zero_add, Nat.add_zero, Nat.reduceAdd, splice, List.take, List.drop, List.length, List.nil_append, List.cons_append, List.append, TPoint.en, TSegment.en, TBox.en, TFeature.en, TMeet.en, TPlace.en, TCover.en, TLabel.en, TPiece.en, TLevel.en, TChart.en, TReason.en, TEdit.en, TEntry.en, TEdition.en, TListing.en, TAtlas.en, TEvent.en, TWindow.en]))
      all_goals exact Fin.one rfl (RV.tmp (by rfl)) (clo_c _) ⟨by rw [accF_all, tw_fun]; rfl, rfl⟩

set_option maxRecDepth 100000 in
set_option maxHeartbeats 2000000 in
theorem totArea_s (l : List TFeature) (hl : l.length ≤ 1048576) (hp : ∀ x ∈ l, x.sm) : VCalls Try.prog 23 [.ro 5 (l.map TFeature.en)] (fun r M => r = I (totArea l) ∧ M = []) := by
  refine VCalls.bodyE Try.func23 rfl 30 rfl (fun E hE => ?_)
  simp only [List.reduceReplicate, List.cons_append, List.nil_append]
  repeat' ((first
    | ((with_reducible show OpA _ _ _ _ _ _); first
      | refine OpA.quiet (QOp.atk_ro (by rfl) (by rfl) (by rfl) (TT_ok.sl _ _ (by rfl)) (Nat.le_of_ble_eq_true (by rfl)) (by first | assumption | omega) (by assumption)) ?_
      | refine OpA.quiet (QOp.ld1_ro (by rfl) (by rfl) (by assumption) (TT_ok.ld _ _ (by rfl)) (by rfl)) ?_
      | refine OpA.quiet (QOp.ldr_ro (by rfl) (by rfl) (by assumption) (TT_ok.ld _ _ (by rfl)) (Nat.le_of_ble_eq_true (by rfl))) ?_
      | refine OpA.quiet (QOp.at_own (by rfl) (TT_ok.sl _ _ (by rfl)) (by rfl) (by rfl) (by rfl) (by rfl) (by rfl) (by rfl) (by first | assumption | omega | decide) (by first | assumption | omega | decide)) ?_
      | refine OpA.quiet (QOp.len_own (by rfl) (TT_ok.sl _ _ (by rfl)) (by rfl) (by rfl) (by rfl) (by rfl)) ?_
      | refine OpA.quiet (QOp.sEq (by rfl) (by rfl) (by rfl) (by first | exact flk26.1 | exact flk109.1) (by rfl) (by rfl) (by rfl) (by rfl) (by rfl) (by rfl) (by rfl) (by rfl)) ?_
      | (refine OpA.quiet (QOp.cat (by rfl) (by rfl) (by rfl) (by first | assumption | (simp only [ByteArray.size_append, bs_size] at *; omega))) ?_)
      | refine OpA.pcall (by rfl) Try.func46 rfl rfl (by rfl) (by first | exact clo_all (by rfl) | repeat' (first | exact clo_nil | refine clo_cons ?_ ?_ | exact clo_of (by rfl) | exact clo_fn _ | assumption)) (twice_s _ (by assumption)) (by first | exact clo_of (by rfl) | assumption) ?_
      | refine OpA.pcall (by rfl) Try.func47 rfl rfl (by rfl) (by first | exact clo_all (by rfl) | repeat' (first | exact clo_nil | refine clo_cons ?_ ?_ | exact clo_of (by rfl) | exact clo_fn _ | assumption)) (max_s _ _) (by first | exact clo_of (by rfl) | assumption) ?_)
    | ((with_reducible show AL _ _ _ _ _ _ _); first
      | refine AL.q TT_ok rfl (by rfl) ?_
      | refine AL.step rfl ?_
      | refine AL.nil ?_)
    | ((with_reducible show AW _ _ _ _ _ _); first
      | refine AW.seq ?_
      | refine AW.region ?_
      | refine AW.skip ?_
      | (refine AW.loopD hE (fun i : Nat => [.ro 5 (l.map TFeature.en), .any, .any, I (accF stepA l i), I (i : Int), .any, .any, .any, .any, .any, .any, .any, .any, .any, .any, .any, .any, .any, .any, .any, .any, .any, .any, .any, .any, .any, .any, .any, .any, .any, .any]) (fun i => []) (fun i => l.length - i) (fun i => i ≤ l.length) 0 (by simp) ?_ (by first | rfl | (simp [fil_zero]; done)) ?_)
      | (refine AW.cond (by rfl) (fun h => ?_) ?_; rotate_left; focus (intro h; (try simp only [Bool.not_eq_true', Bool.not_eq_false'] at h); first | (cases h; done) | exact clash (by with_reducible_and_instances assumption) h | exact clash h (by with_reducible_and_instances assumption) | exact absurd h (by decide) | (refine absurd h ?_; simp; done)))
      | (refine AW.cond (by rfl) ?_ (fun h => ?_); focus (intro h; (try simp only [Bool.not_eq_true', Bool.not_eq_false'] at h); first | (cases h; done) | exact clash (by with_reducible_and_instances assumption) h | exact clash h (by with_reducible_and_instances assumption) | exact absurd h (by decide) | (refine absurd h ?_; simp; done)))
      | (refine AW.cond (by rfl) ?_ ?_ <;> (intro h; try simp only [Bool.not_eq_true', Bool.not_eq_false'] at h))
      | refine AW.block ?_
      | refine AW.exit ?_
      | refine AW.ret ?_)
    | with_reducible refine (if_pos rfl).mpr ?_
    | with_reducible refine (if_neg (by decide)).mpr ?_) <;> (try dsimp only [dput, List.set, cond_true, cond_false, Nat.zero_add, Nat.add_zero, Nat.reduceAdd, splice, List.take, List.drop, List.length, List.nil_append, List.cons_append, List.append, TPoint.en, TSegment.en, TBox.en, TFeature.en, TMeet.en, TPlace.en, TCover.en, TLabel.en, TPiece.en, TLevel.en, TChart.en, TReason.en, TEdit.en, TEntry.en, TEdition.en, TListing.en, TAtlas.en, TEvent.en, TWindow.en]))
  · (repeat' (first | exact Wk.nil | refine Wk.any ?_ | (with_reducible refine Wk.same ?_) | refine Wk.of ?_ ?_)) <;> first | rfl | (simp_all [accF])
  · intro i hi
    have hclo : Clo (.ro 5 (l.map TFeature.en)) := clo_list TFeature.clo_en
    by_cases hlt : i < l.length
    · obtain ⟨x, hx⟩ : ∃ x, l[i]? = some x := ⟨_, List.getElem?_eq_getElem hlt⟩
      have hg := map_get (f := TFeature.en) hx
      have ht := lt_true (f := TFeature.en) hlt
      have hn := next_ix hlt (by omega)
      have hpx := hp x (List.mem_of_getElem? hx)
      have hpp : x.points.length ≤ 1048576 := hpx
      have hcl1 : Clo (.ro 2 (x.points.map TPoint.en)) := clo_list TPoint.clo_en
      have hac := accF_succ (f := stepA) hx
      repeat' ((first
        | ((with_reducible show OpA _ _ _ _ _ _); first
          | refine OpA.quiet (QOp.atk_ro (by rfl) (by rfl) (by rfl) (TT_ok.sl _ _ (by rfl)) (Nat.le_of_ble_eq_true (by rfl)) (by first | assumption | omega) (by assumption)) ?_
          | refine OpA.quiet (QOp.ld1_ro (by rfl) (by rfl) (by assumption) (TT_ok.ld _ _ (by rfl)) (by rfl)) ?_
          | refine OpA.quiet (QOp.ldr_ro (by rfl) (by rfl) (by assumption) (TT_ok.ld _ _ (by rfl)) (Nat.le_of_ble_eq_true (by rfl))) ?_
          | refine OpA.quiet (QOp.at_own (by rfl) (TT_ok.sl _ _ (by rfl)) (by rfl) (by rfl) (by rfl) (by rfl) (by rfl) (by rfl) (by first | assumption | omega | decide) (by first | assumption | omega | decide)) ?_
          | refine OpA.quiet (QOp.len_own (by rfl) (TT_ok.sl _ _ (by rfl)) (by rfl) (by rfl) (by rfl) (by rfl)) ?_
          | refine OpA.quiet (QOp.sEq (by rfl) (by rfl) (by rfl) (by first | exact flk26.1 | exact flk109.1) (by rfl) (by rfl) (by rfl) (by rfl) (by rfl) (by rfl) (by rfl) (by rfl)) ?_
          | (refine OpA.quiet (QOp.cat (by rfl) (by rfl) (by rfl) (by first | assumption | (simp only [ByteArray.size_append, bs_size] at *; omega))) ?_)
          | refine OpA.pcall (by rfl) Try.func46 rfl rfl (by rfl) (by first | exact clo_all (by rfl) | repeat' (first | exact clo_nil | refine clo_cons ?_ ?_ | exact clo_of (by rfl) | exact clo_fn _ | assumption)) (twice_s _ (by assumption)) (by first | exact clo_of (by rfl) | assumption) ?_
          | refine OpA.pcall (by rfl) Try.func47 rfl rfl (by rfl) (by first | exact clo_all (by rfl) | repeat' (first | exact clo_nil | refine clo_cons ?_ ?_ | exact clo_of (by rfl) | exact clo_fn _ | assumption)) (max_s _ _) (by first | exact clo_of (by rfl) | assumption) ?_)
        | ((with_reducible show AL _ _ _ _ _ _ _); first
          | refine AL.q TT_ok rfl (by rfl) ?_
          | refine AL.step rfl ?_
          | refine AL.nil ?_)
        | ((with_reducible show AW _ _ _ _ _ _); first
          | refine AW.seq ?_
          | refine AW.region ?_
          | refine AW.skip ?_
          | (refine AW.cond (by rfl) (fun h => ?_) ?_; rotate_left; focus (intro h; (try simp only [Bool.not_eq_true', Bool.not_eq_false'] at h); first | (cases h; done) | exact clash (by with_reducible_and_instances assumption) h | exact clash h (by with_reducible_and_instances assumption) | exact absurd h (by decide) | (refine absurd h ?_; simp; done)))
          | (refine AW.cond (by rfl) ?_ (fun h => ?_); focus (intro h; (try simp only [Bool.not_eq_true', Bool.not_eq_false'] at h); first | (cases h; done) | exact clash (by with_reducible_and_instances assumption) h | exact clash h (by with_reducible_and_instances assumption) | exact absurd h (by decide) | (refine absurd h ?_; simp; done)))
          | (refine AW.cond (by rfl) ?_ ?_ <;> (intro h; try simp only [Bool.not_eq_true', Bool.not_eq_false'] at h))
          | refine AW.block ?_
          | refine AW.exit ?_
          | refine AW.ret ?_)
        | with_reducible refine (if_pos rfl).mpr ?_
        | with_reducible refine (if_neg (by decide)).mpr ?_) <;> (try dsimp only [dput, List.set, cond_true, cond_false, Nat.zero_add, Nat.add_zero, Nat.reduceAdd, splice, List.take, List.drop, List.length, List.nil_append, List.cons_append, List.append, TPoint.en, TSegment.en, TBox.en, TFeature.en, TMeet.en, TPlace.en, TCover.en, TLabel.en, TPiece.en, TLevel.en, TChart.en, TReason.en, TEdit.en, TEntry.en, TEdition.en, TListing.en, TAtlas.en, TEvent.en, TWindow.en]))
      all_goals first
        | (refine ⟨i + 1, _, hlt, by omega, ?_, rfl, ?_, ?_⟩; (focus ((repeat' (first | exact Wk.nil | refine Wk.any ?_ | (with_reducible refine Wk.same ?_) | refine Wk.of ?_ ?_)) <;> (first | (simp_all; done) | (simp_all [stepA, wmax]; done) | (simp_all [stepA, wmax]; rfl)))); (focus ((repeat' (first | exact Fits.nil _ | refine Fits.cons ?_ ?_ | exact Fits.any _ | exact Fits.c _ _ | exact Fits.own (by rfl) | exact Fits.ref (by rfl) | exact Fits.clo (by assumption) | exact Fits.clo (clo_of (by rfl)) | exact Fits.clo (clo_fn _))))); (focus (exact FitsM.nil _)))
    · have ht := lt_false (f := TFeature.en) hlt
      have e : i = l.length := by omega
      subst e
      try rw [List.take_length]
      repeat' ((first
        | ((with_reducible show OpA _ _ _ _ _ _); first
          | refine OpA.quiet (QOp.atk_ro (by rfl) (by rfl) (by rfl) (TT_ok.sl _ _ (by rfl)) (Nat.le_of_ble_eq_true (by rfl)) (by first | assumption | omega) (by assumption)) ?_
          | refine OpA.quiet (QOp.ld1_ro (by rfl) (by rfl) (by assumption) (TT_ok.ld _ _ (by rfl)) (by rfl)) ?_
          | refine OpA.quiet (QOp.ldr_ro (by rfl) (by rfl) (by assumption) (TT_ok.ld _ _ (by rfl)) (Nat.le_of_ble_eq_true (by rfl))) ?_
          | refine OpA.quiet (QOp.at_own (by rfl) (TT_ok.sl _ _ (by rfl)) (by rfl) (by rfl) (by rfl) (by rfl) (by rfl) (by rfl) (by first | assumption | omega | decide) (by first | assumption | omega | decide)) ?_
          | refine OpA.quiet (QOp.len_own (by rfl) (TT_ok.sl _ _ (by rfl)) (by rfl) (by rfl) (by rfl) (by rfl)) ?_
          | refine OpA.quiet (QOp.sEq (by rfl) (by rfl) (by rfl) (by first | exact flk26.1 | exact flk109.1) (by rfl) (by rfl) (by rfl) (by rfl) (by rfl) (by rfl) (by rfl) (by rfl)) ?_
          | (refine OpA.quiet (QOp.cat (by rfl) (by rfl) (by rfl) (by first | assumption | (simp only [ByteArray.size_append, bs_size] at *; omega))) ?_)
          | refine OpA.pcall (by rfl) Try.func46 rfl rfl (by rfl) (by first | exact clo_all (by rfl) | repeat' (first | exact clo_nil | refine clo_cons ?_ ?_ | exact clo_of (by rfl) | exact clo_fn _ | assumption)) (twice_s _ (by assumption)) (by first | exact clo_of (by rfl) | assumption) ?_
          | refine OpA.pcall (by rfl) Try.func47 rfl rfl (by rfl) (by first | exact clo_all (by rfl) | repeat' (first | exact clo_nil | refine clo_cons ?_ ?_ | exact clo_of (by rfl) | exact clo_fn _ | assumption)) (max_s _ _) (by first | exact clo_of (by rfl) | assumption) ?_)
        | ((with_reducible show AL _ _ _ _ _ _ _); first
          | refine AL.q TT_ok rfl (by rfl) ?_
          | refine AL.step rfl ?_
          | refine AL.nil ?_)
        | ((with_reducible show AW _ _ _ _ _ _); first
          | refine AW.seq ?_
          | refine AW.region ?_
          | refine AW.skip ?_
          | (refine AW.cond (by rfl) (fun h => ?_) ?_; rotate_left; focus (intro h; (try simp only [Bool.not_eq_true', Bool.not_eq_false'] at h); first | (cases h; done) | exact clash (by with_reducible_and_instances assumption) h | exact clash h (by with_reducible_and_instances assumption) | exact absurd h (by decide) | (refine absurd h ?_; simp; done)))
          | (refine AW.cond (by rfl) ?_ (fun h => ?_); focus (intro h; (try simp only [Bool.not_eq_true', Bool.not_eq_false'] at h); first | (cases h; done) | exact clash (by with_reducible_and_instances assumption) h | exact clash h (by with_reducible_and_instances assumption) | exact absurd h (by decide) | (refine absurd h ?_; simp; done)))
          | (refine AW.cond (by rfl) ?_ ?_ <;> (intro h; try simp only [Bool.not_eq_true', Bool.not_eq_false'] at h))
          | refine AW.block ?_
          | refine AW.exit ?_
          | refine AW.ret ?_)
        | with_reducible refine (if_pos rfl).mpr ?_
        | with_reducible refine (if_neg (by decide)).mpr ?_) <;> (try dsimp only [dput, List.set, cond_true, cond_false, Nat.zero_add, Nat.add_zero, Nat.reduceAdd, splice, List.take, List.drop, List.length, List.nil_append, List.cons_append, List.append, TPoint.en, TSegment.en, TBox.en, TFeature.en, TMeet.en, TPlace.en, TCover.en, TLabel.en, TPiece.en, TLevel.en, TChart.en, TReason.en, TEdit.en, TEntry.en, TEdition.en, TListing.en, TAtlas.en, TEvent.en, TWindow.en]))
      all_goals exact Fin.one rfl (RV.tmp (by rfl)) (clo_c _) ⟨by rw [accF_all]; rfl, rfl⟩

set_option maxRecDepth 100000 in
set_option maxHeartbeats 2000000 in
theorem totArea_i (l : List TFeature) (hl : l.length ≤ 1048576) (hp : ∀ x ∈ l, x.sm) : VCalls Try.prog 24 [.ro 5 (l.map TFeature.en)] (fun r M => r = I (totArea l) ∧ M = []) := by
  refine VCalls.bodyE Try.func24 rfl 26 rfl (fun E hE => ?_)
  simp only [List.reduceReplicate, List.cons_append, List.nil_append]
  repeat' ((first
    | ((with_reducible show OpA _ _ _ _ _ _); first
      | refine OpA.quiet (QOp.atk_ro (by rfl) (by rfl) (by rfl) (TT_ok.sl _ _ (by rfl)) (Nat.le_of_ble_eq_true (by rfl)) (by first | assumption | omega) (by assumption)) ?_
      | refine OpA.quiet (QOp.ld1_ro (by rfl) (by rfl) (by assumption) (TT_ok.ld _ _ (by rfl)) (by rfl)) ?_
      | refine OpA.quiet (QOp.ldr_ro (by rfl) (by rfl) (by assumption) (TT_ok.ld _ _ (by rfl)) (Nat.le_of_ble_eq_true (by rfl))) ?_
      | refine OpA.quiet (QOp.at_own (by rfl) (TT_ok.sl _ _ (by rfl)) (by rfl) (by rfl) (by rfl) (by rfl) (by rfl) (by rfl) (by first | assumption | omega | decide) (by first | assumption | omega | decide)) ?_
      | refine OpA.quiet (QOp.len_own (by rfl) (TT_ok.sl _ _ (by rfl)) (by rfl) (by rfl) (by rfl) (by rfl)) ?_
      | refine OpA.quiet (QOp.sEq (by rfl) (by rfl) (by rfl) (by first | exact flk26.1 | exact flk109.1) (by rfl) (by rfl) (by rfl) (by rfl) (by rfl) (by rfl) (by rfl) (by rfl)) ?_
      | (refine OpA.quiet (QOp.cat (by rfl) (by rfl) (by rfl) (by first | assumption | (simp only [ByteArray.size_append, bs_size] at *; omega))) ?_)
      | refine OpA.allocA (by rfl) (by first | exact ze2 | exact ze3 | exact ze4 | exact ze5 | exact ze6 | exact ze7 | exact ze8 | exact ze9 | exact ze11 | exact ze12 | exact ze13 | exact ze14 | exact ze16 | exact ze17 | exact ze18 | exact ze19 | exact ze21 | exact ze23 | exact ze26 | exact ze32 | exact ze66 | exact ze68 | exact ze109) ?_
      | refine OpA.sto (by rfl) (by rfl) (by rfl) (by rfl) (by rfl) (by rfl) (by rfl) (by rfl) (TT_ok.ld _ _ (by rfl)) (by rfl) (Nat.le_of_ble_eq_true (by rfl)) ?_
      | refine OpA.sto (by rfl) (by rfl) (by rfl) (by rfl) (by rfl) (by assumption) (by rfl) (by rfl) (TT_ok.ld _ _ (by rfl)) (by rfl) (Nat.le_of_ble_eq_true (by rfl)) ?_
      | refine OpA.pcall (by rfl) Try.func48 rfl rfl (by rfl) (by first | exact clo_all (by rfl) | repeat' (first | exact clo_nil | refine clo_cons ?_ ?_ | exact clo_of (by rfl) | exact clo_fn _ | assumption)) (twice_i _ (by assumption)) (by first | exact clo_of (by rfl) | assumption) ?_)
    | ((with_reducible show AL _ _ _ _ _ _ _); first
      | refine AL.q TT_ok rfl (by rfl) ?_
      | refine AL.step rfl ?_
      | refine AL.nil ?_)
    | ((with_reducible show AW _ _ _ _ _ _); first
      | refine AW.seq ?_
      | refine AW.region ?_
      | refine AW.skip ?_
      | (refine AW.loopD hE (fun i : Nat => [.ro 5 (l.map TFeature.en), .any, .any, I (accF stepA l i), .any, .any, .any, .ro 5 (l.map TFeature.en), I ((l.map TFeature.en).length : Int), I (i : Int), .any, .any, .any, .any, .any, .any, .any, .any, .any, .any, .any, .any, .any, .any, .any, .any, .any]) (fun i => []) (fun i => l.length - i) (fun i => i ≤ l.length) 0 (by simp) ?_ (by first | rfl | (simp [fil_zero]; done)) ?_)
      | (refine AW.cond (by rfl) (fun h => ?_) ?_; rotate_left; focus (intro h; (try simp only [Bool.not_eq_true', Bool.not_eq_false'] at h); first | (cases h; done) | exact clash (by with_reducible_and_instances assumption) h | exact clash h (by with_reducible_and_instances assumption) | exact absurd h (by decide) | (refine absurd h ?_; simp; done)))
      | (refine AW.cond (by rfl) ?_ (fun h => ?_); focus (intro h; (try simp only [Bool.not_eq_true', Bool.not_eq_false'] at h); first | (cases h; done) | exact clash (by with_reducible_and_instances assumption) h | exact clash h (by with_reducible_and_instances assumption) | exact absurd h (by decide) | (refine absurd h ?_; simp; done)))
      | (refine AW.cond (by rfl) ?_ ?_ <;> (intro h; try simp only [Bool.not_eq_true', Bool.not_eq_false'] at h))
      | refine AW.block ?_
      | refine AW.exit ?_
      | refine AW.ret ?_)
    | with_reducible refine (if_pos rfl).mpr ?_
    | with_reducible refine (if_neg (by decide)).mpr ?_) <;> (try dsimp only [dput, List.set, cond_true, cond_false, Nat.zero_add, Nat.add_zero, Nat.reduceAdd, splice, List.take, List.drop, List.length, List.nil_append, List.cons_append, List.append, TPoint.en, TSegment.en, TBox.en, TFeature.en, TMeet.en, TPlace.en, TCover.en, TLabel.en, TPiece.en, TLevel.en, TChart.en, TReason.en, TEdit.en, TEntry.en, TEdition.en, TListing.en, TAtlas.en, TEvent.en, TWindow.en]))
  · (repeat' (first | exact Wk.nil | refine Wk.any ?_ | (with_reducible refine Wk.same ?_) | refine Wk.of ?_ ?_)) <;> first | rfl | (simp_all [accF])
  · intro i hi
    have hclo : Clo (.ro 5 (l.map TFeature.en)) := clo_list TFeature.clo_en
    by_cases hlt : i < l.length
    · obtain ⟨x, hx⟩ : ∃ x, l[i]? = some x := ⟨_, List.getElem?_eq_getElem hlt⟩
      have hg := map_get (f := TFeature.en) hx
      have ht := lt_true (f := TFeature.en) hlt
      have hn := next_ix hlt (by omega)
      have hpx := hp x (List.mem_of_getElem? hx)
      have hpp : x.points.length ≤ 1048576 := hpx
      have hcl1 : Clo (.ro 2 (x.points.map TPoint.en)) := clo_list TPoint.clo_en
      have hac := accF_succ (f := stepA) hx
      repeat' ((first
        | ((with_reducible show OpA _ _ _ _ _ _); first
          | refine OpA.quiet (QOp.atk_ro (by rfl) (by rfl) (by rfl) (TT_ok.sl _ _ (by rfl)) (Nat.le_of_ble_eq_true (by rfl)) (by first | assumption | omega) (by assumption)) ?_
          | refine OpA.quiet (QOp.ld1_ro (by rfl) (by rfl) (by assumption) (TT_ok.ld _ _ (by rfl)) (by rfl)) ?_
          | refine OpA.quiet (QOp.ldr_ro (by rfl) (by rfl) (by assumption) (TT_ok.ld _ _ (by rfl)) (Nat.le_of_ble_eq_true (by rfl))) ?_
          | refine OpA.quiet (QOp.at_own (by rfl) (TT_ok.sl _ _ (by rfl)) (by rfl) (by rfl) (by rfl) (by rfl) (by rfl) (by rfl) (by first | assumption | omega | decide) (by first | assumption | omega | decide)) ?_
          | refine OpA.quiet (QOp.len_own (by rfl) (TT_ok.sl _ _ (by rfl)) (by rfl) (by rfl) (by rfl) (by rfl)) ?_
          | refine OpA.quiet (QOp.sEq (by rfl) (by rfl) (by rfl) (by first | exact flk26.1 | exact flk109.1) (by rfl) (by rfl) (by rfl) (by rfl) (by rfl) (by rfl) (by rfl) (by rfl)) ?_
          | (refine OpA.quiet (QOp.cat (by rfl) (by rfl) (by rfl) (by first | assumption | (simp only [ByteArray.size_append, bs_size] at *; omega))) ?_)
          | refine OpA.allocA (by rfl) (by first | exact ze2 | exact ze3 | exact ze4 | exact ze5 | exact ze6 | exact ze7 | exact ze8 | exact ze9 | exact ze11 | exact ze12 | exact ze13 | exact ze14 | exact ze16 | exact ze17 | exact ze18 | exact ze19 | exact ze21 | exact ze23 | exact ze26 | exact ze32 | exact ze66 | exact ze68 | exact ze109) ?_
          | refine OpA.sto (by rfl) (by rfl) (by rfl) (by rfl) (by rfl) (by rfl) (by rfl) (by rfl) (TT_ok.ld _ _ (by rfl)) (by rfl) (Nat.le_of_ble_eq_true (by rfl)) ?_
          | refine OpA.sto (by rfl) (by rfl) (by rfl) (by rfl) (by rfl) (by assumption) (by rfl) (by rfl) (TT_ok.ld _ _ (by rfl)) (by rfl) (Nat.le_of_ble_eq_true (by rfl)) ?_
          | refine OpA.pcall (by rfl) Try.func48 rfl rfl (by rfl) (by first | exact clo_all (by rfl) | repeat' (first | exact clo_nil | refine clo_cons ?_ ?_ | exact clo_of (by rfl) | exact clo_fn _ | assumption)) (twice_i _ (by assumption)) (by first | exact clo_of (by rfl) | assumption) ?_)
        | ((with_reducible show AL _ _ _ _ _ _ _); first
          | refine AL.q TT_ok rfl (by rfl) ?_
          | refine AL.step rfl ?_
          | refine AL.nil ?_)
        | ((with_reducible show AW _ _ _ _ _ _); first
          | refine AW.seq ?_
          | refine AW.region ?_
          | refine AW.skip ?_
          | (refine AW.cond (by rfl) (fun h => ?_) ?_; rotate_left; focus (intro h; (try simp only [Bool.not_eq_true', Bool.not_eq_false'] at h); first | (cases h; done) | exact clash (by with_reducible_and_instances assumption) h | exact clash h (by with_reducible_and_instances assumption) | exact absurd h (by decide) | (refine absurd h ?_; simp; done)))
          | (refine AW.cond (by rfl) ?_ (fun h => ?_); focus (intro h; (try simp only [Bool.not_eq_true', Bool.not_eq_false'] at h); first | (cases h; done) | exact clash (by with_reducible_and_instances assumption) h | exact clash h (by with_reducible_and_instances assumption) | exact absurd h (by decide) | (refine absurd h ?_; simp; done)))
          | (refine AW.cond (by rfl) ?_ ?_ <;> (intro h; try simp only [Bool.not_eq_true', Bool.not_eq_false'] at h))
          | refine AW.block ?_
          | refine AW.exit ?_
          | refine AW.ret ?_)
        | with_reducible refine (if_pos rfl).mpr ?_
        | with_reducible refine (if_neg (by decide)).mpr ?_) <;> (try dsimp only [dput, List.set, cond_true, cond_false, Nat.zero_add, Nat.add_zero, Nat.reduceAdd, splice, List.take, List.drop, List.length, List.nil_append, List.cons_append, List.append, TPoint.en, TSegment.en, TBox.en, TFeature.en, TMeet.en, TPlace.en, TCover.en, TLabel.en, TPiece.en, TLevel.en, TChart.en, TReason.en, TEdit.en, TEntry.en, TEdition.en, TListing.en, TAtlas.en, TEvent.en, TWindow.en]))
      all_goals first
        | (refine ⟨i + 1, _, hlt, by omega, ?_, rfl, ?_, ?_⟩; (focus ((repeat' (first | exact Wk.nil | refine Wk.any ?_ | (with_reducible refine Wk.same ?_) | refine Wk.of ?_ ?_)) <;> (first | (simp_all; done) | (simp_all [stepA, wmax]; done) | (simp_all [stepA, wmax]; rfl)))); (focus ((repeat' (first | exact Fits.nil _ | refine Fits.cons ?_ ?_ | exact Fits.any _ | exact Fits.c _ _ | exact Fits.own (by rfl) | exact Fits.ref (by rfl) | exact Fits.clo (by assumption) | exact Fits.clo (clo_of (by rfl)) | exact Fits.clo (clo_fn _))))); (focus (exact FitsM.nil _)))
    · have ht := lt_false (f := TFeature.en) hlt
      have e : i = l.length := by omega
      subst e
      try rw [List.take_length]
      repeat' ((first
        | ((with_reducible show OpA _ _ _ _ _ _); first
          | refine OpA.quiet (QOp.atk_ro (by rfl) (by rfl) (by rfl) (TT_ok.sl _ _ (by rfl)) (Nat.le_of_ble_eq_true (by rfl)) (by first | assumption | omega) (by assumption)) ?_
          | refine OpA.quiet (QOp.ld1_ro (by rfl) (by rfl) (by assumption) (TT_ok.ld _ _ (by rfl)) (by rfl)) ?_
          | refine OpA.quiet (QOp.ldr_ro (by rfl) (by rfl) (by assumption) (TT_ok.ld _ _ (by rfl)) (Nat.le_of_ble_eq_true (by rfl))) ?_
          | refine OpA.quiet (QOp.at_own (by rfl) (TT_ok.sl _ _ (by rfl)) (by rfl) (by rfl) (by rfl) (by rfl) (by rfl) (by rfl) (by first | assumption | omega | decide) (by first | assumption | omega | decide)) ?_
          | refine OpA.quiet (QOp.len_own (by rfl) (TT_ok.sl _ _ (by rfl)) (by rfl) (by rfl) (by rfl) (by rfl)) ?_
          | refine OpA.quiet (QOp.sEq (by rfl) (by rfl) (by rfl) (by first | exact flk26.1 | exact flk109.1) (by rfl) (by rfl) (by rfl) (by rfl) (by rfl) (by rfl) (by rfl) (by rfl)) ?_
          | (refine OpA.quiet (QOp.cat (by rfl) (by rfl) (by rfl) (by first | assumption | (simp only [ByteArray.size_append, bs_size] at *; omega))) ?_)
          | refine OpA.allocA (by rfl) (by first | exact ze2 | exact ze3 | exact ze4 | exact ze5 | exact ze6 | exact ze7 | exact ze8 | exact ze9 | exact ze11 | exact ze12 | exact ze13 | exact ze14 | exact ze16 | exact ze17 | exact ze18 | exact ze19 | exact ze21 | exact ze23 | exact ze26 | exact ze32 | exact ze66 | exact ze68 | exact ze109) ?_
          | refine OpA.sto (by rfl) (by rfl) (by rfl) (by rfl) (by rfl) (by rfl) (by rfl) (by rfl) (TT_ok.ld _ _ (by rfl)) (by rfl) (Nat.le_of_ble_eq_true (by rfl)) ?_
          | refine OpA.sto (by rfl) (by rfl) (by rfl) (by rfl) (by rfl) (by assumption) (by rfl) (by rfl) (TT_ok.ld _ _ (by rfl)) (by rfl) (Nat.le_of_ble_eq_true (by rfl)) ?_
          | refine OpA.pcall (by rfl) Try.func48 rfl rfl (by rfl) (by first | exact clo_all (by rfl) | repeat' (first | exact clo_nil | refine clo_cons ?_ ?_ | exact clo_of (by rfl) | exact clo_fn _ | assumption)) (twice_i _ (by assumption)) (by first | exact clo_of (by rfl) | assumption) ?_)
        | ((with_reducible show AL _ _ _ _ _ _ _); first
          | refine AL.q TT_ok rfl (by rfl) ?_
          | refine AL.step rfl ?_
          | refine AL.nil ?_)
        | ((with_reducible show AW _ _ _ _ _ _); first
          | refine AW.seq ?_
          | refine AW.region ?_
          | refine AW.skip ?_
          | (refine AW.cond (by rfl) (fun h => ?_) ?_; rotate_left; focus (intro h; (try simp only [Bool.not_eq_true', Bool.not_eq_false'] at h); first | (cases h; done) | exact clash (by with_reducible_and_instances assumption) h | exact clash h (by with_reducible_and_instances assumption) | exact absurd h (by decide) | (refine absurd h ?_; simp; done)))
          | (refine AW.cond (by rfl) ?_ (fun h => ?_); focus (intro h; (try simp only [Bool.not_eq_true', Bool.not_eq_false'] at h); first | (cases h; done) | exact clash (by with_reducible_and_instances assumption) h | exact clash h (by with_reducible_and_instances assumption) | exact absurd h (by decide) | (refine absurd h ?_; simp; done)))
          | (refine AW.cond (by rfl) ?_ ?_ <;> (intro h; try simp only [Bool.not_eq_true', Bool.not_eq_false'] at h))
          | refine AW.block ?_
          | refine AW.exit ?_
          | refine AW.ret ?_)
        | with_reducible refine (if_pos rfl).mpr ?_
        | with_reducible refine (if_neg (by decide)).mpr ?_) <;> (try dsimp only [dput, List.set, cond_true, cond_false, Nat.zero_add, Nat.add_zero, Nat.reduceAdd, splice, List.take, List.drop, List.length, List.nil_append, List.cons_append, List.append, TPoint.en, TSegment.en, TBox.en, TFeature.en, TMeet.en, TPlace.en, TCover.en, TLabel.en, TPiece.en, TLevel.en, TChart.en, TReason.en, TEdit.en, TEntry.en, TEdition.en, TListing.en, TAtlas.en, TEvent.en, TWindow.en]))
      all_goals exact Fin.one rfl (RV.tmp (by rfl)) (clo_c _) ⟨by rw [accF_all]; rfl, rfl⟩

set_option maxRecDepth 100000 in
set_option maxHeartbeats 2000000 in
theorem law_FnExactTotalArea (l : List TFeature) (h0 : (l.length ≤ maxLen ∧ ∀ x ∈ l, x.ok)) : VCalls Try.prog 6 [.ro 5 (l.map TFeature.en)] (fun r M => r = B true ∧ M = []) := by
  refine VCalls.body Try.func6 rfl 26 rfl (fun E => ?_)
  simp only [List.reduceReplicate, List.cons_append, List.nil_append]
  have hclo_l : Clo (.ro 5 (l.map TFeature.en)) := clo_list TFeature.clo_en
  obtain ⟨hl0, hp0⟩ := id h0
  rw [maxLen_eq] at hl0
  rcases Szs.split (TFeature.szs.list) l 1048576 h0 (by decide) (by decide) with hz | ⟨hz, ⟨hl0', hp0'⟩, hz0, hz1⟩
  repeat' ((first
    | ((with_reducible show OpA _ _ _ _ _ _); first
      | refine OpA.pcall (by rfl) Try.func13 rfl rfl (by rfl) (by first | exact clo_all (by rfl) | repeat' (first | exact clo_nil | refine clo_cons ?_ ?_ | exact clo_of (by rfl) | exact clo_fn _ | assumption)) (szFeatureS _ _ (by assumption) (by assumption)) (by first | exact clo_of (by rfl) | assumption) ?_
      | refine OpA.pcall (by rfl) Try.func15 rfl rfl (by rfl) (by first | exact clo_all (by rfl) | repeat' (first | exact clo_nil | refine clo_cons ?_ ?_ | exact clo_of (by rfl) | exact clo_fn _ | assumption)) (toFeatureS _ (by assumption) (by assumption)) (by first | exact clo_of (by rfl) | assumption) ?_
      | refine OpA.pcall (by rfl) Try.func17 rfl rfl (by rfl) (by first | exact clo_all (by rfl) | repeat' (first | exact clo_nil | refine clo_cons ?_ ?_ | exact clo_of (by rfl) | exact clo_fn _ | assumption)) (eqFeatureS_self _ (by assumption) (by assumption)) (by first | exact clo_of (by rfl) | assumption) ?_
      | refine OpA.pcall (by rfl) Try.func23 rfl rfl (by rfl) (by first | exact clo_all (by rfl) | repeat' (first | exact clo_nil | refine clo_cons ?_ ?_ | exact clo_of (by rfl) | exact clo_fn _ | assumption)) (totArea_s _ (by assumption) (by assumption)) (by first | exact clo_of (by rfl) | assumption) ?_
      | refine OpA.pcall (by rfl) Try.func24 rfl rfl (by rfl) (by first | exact clo_all (by rfl) | repeat' (first | exact clo_nil | refine clo_cons ?_ ?_ | exact clo_of (by rfl) | exact clo_fn _ | assumption)) (totArea_i _ (by assumption) (by assumption)) (by first | exact clo_of (by rfl) | assumption) ?_)
    | ((with_reducible show AL _ _ _ _ _ _ _); first
      | refine AL.q TT_ok rfl (by rfl) ?_
      | refine AL.step rfl ?_
      | refine AL.nil ?_)
    | ((with_reducible show AW _ _ _ _ _ _); first
      | refine AW.seq ?_
      | refine AW.region ?_
      | refine AW.skip ?_
      | (refine AW.cond (by rfl) (fun h => ?_) ?_; rotate_left; focus (intro h; (try simp only [Bool.not_eq_true', Bool.not_eq_false'] at h); first | (cases h; done) | exact clash (by with_reducible_and_instances assumption) h | exact clash h (by with_reducible_and_instances assumption) | exact absurd h (by decide) | (refine absurd h ?_; simp; done)))
      | (refine AW.cond (by rfl) ?_ (fun h => ?_); focus (intro h; (try simp only [Bool.not_eq_true', Bool.not_eq_false'] at h); first | (cases h; done) | exact clash (by with_reducible_and_instances assumption) h | exact clash h (by with_reducible_and_instances assumption) | exact absurd h (by decide) | (refine absurd h ?_; simp; done)))
      | (refine AW.cond (by rfl) ?_ ?_ <;> (intro h; try simp only [Bool.not_eq_true', Bool.not_eq_false'] at h))
      | refine AW.ret ?_)
    | with_reducible refine (if_pos rfl).mpr ?_
    | with_reducible refine (if_neg (by decide)).mpr ?_) <;> (try dsimp only [dput, List.set, cond_true, cond_false, Nat.zero_add, Nat.add_zero, Nat.reduceAdd, splice, List.take, List.drop, List.length, List.nil_append, List.cons_append, List.append, TPoint.en, TSegment.en, TBox.en, TFeature.en, TMeet.en, TPlace.en, TCover.en, TLabel.en, TPiece.en, TLevel.en, TChart.en, TReason.en, TEdit.en, TEntry.en, TEdition.en, TListing.en, TAtlas.en, TEvent.en, TWindow.en]))
  all_goals exact Fin.one rfl (RV.tmp (by rfl)) (clo_c _) ⟨by first | rfl | (simp_all; done), rfl⟩

end Go.Proofs.Ytbkcoechoblndaa.Abs
