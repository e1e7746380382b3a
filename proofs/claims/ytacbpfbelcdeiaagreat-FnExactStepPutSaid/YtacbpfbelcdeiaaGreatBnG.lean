/- Part G of the walk over abstract states and of the functions' walks. -/
import Derived.Test.YtacbpfbelcdeiaaGreatWkStep
import Derived.Test.YtacbpfbelcdeiaaGreatWkTo
import Derived.Test.YtacbpfbelcdeiaaGreatWkEq
import Derived.Test.YtacbpfbelcdeiaaGreatWkMark
import Derived.Test.YtacbpfbelcdeiaaGreatBnF
/- The walk of the reference's TakeEntry. -/
namespace Go.Proofs.YtacbpfbelcdeiaaGreat.Abs
open Go.Proofs Go.RowKit
set_option linter.unusedVariables false
set_option linter.unusedSimpArgs false
set_option maxRecDepth 100000
set_option maxHeartbeats 2000000
attribute [local irreducible] OpA AL AW DL DLM DLR DLS QOp POp VCalls VCallsI
theorem take_s (l : List TEntry) (y : TEntry) (hl : l.length ≤ 1048576) (hp : ∀ x ∈ l, x.feature.gd) (hy : y.feature.gd) : VCalls Tryz.prog 94 [.ro 8 (l.map TEntry.en), .agg y.en] (fun r M => r = .own 0 0 ∧ M = [some ⟨121, 8, 0, false, (takeE l y).map TEntry.ed⟩]) := by
  refine VCalls.bodyE Tryz.func94 rfl 73 rfl (fun E hE => ?_)
  simp only [List.reduceReplicate, List.cons_append, List.nil_append]
  have hclo : Clo (.ro 8 (l.map TEntry.en)) := clo_list TEntry.clo_en
  have hclY : Clo (.agg y.en) := Clo.agg y.clo_en
  have hclP : Clo (.ro 2 (y.feature.points.map TPoint.en)) := clo_list TPoint.clo_en
  have hys := hy.1
  have hsm : ∀ x ∈ l, x.feature.sm := fun x hx => (hp x hx).1
  dsimp only [TEntry.en]
  repeat' ((first
    | ((with_reducible show AL ..); first | refine AL.any (h := POp.quiet (QOp.cut_l (by rfl) slk27 (by rfl) (by rfl) (by first | decide | omega) (by first | assumption | omega) (by assumption))) ?_ | refine AL.any (h := POp.appendMv (by rfl) rwk27 (by rfl) (by rfl) (by rfl) (by rfl) (by rfl) (by rfl) (by rfl) (by rfl) (by rfl) (by rfl) (by rfl) (by rfl) (by simp; omega) (by simp [maxLen]; omega)) ?_ | refine AL.any ?_ | refine AL.any (h := POp.k Tryz.func86 (hc := isLog_s l (by assumption) (by assumption))) ?_ | refine AL.any (h := POp.D Tryz.func86 (hc := isLog_s (newL l y) hnl (newL_all hp hy)) (hvw := vwlF)) ?_ | refine AL.any (h := POp.O Tryz.func101 (hc := cpL_s l (by assumption) (by assumption)) (hvw := vwlF)) ?_ | refine AL.any (h := POp.O Tryz.func101 (hc := cpL_s (l.take K) (by assumption) (by assumption)) (hvw := vwlF)) ?_ | refine AL.any (h := POp.O Tryz.func101 (hc := cpL_s (l.drop K) (by assumption) (by assumption)) (hvw := vwlF)) ?_ | refine AL.any (h := POp.O Tryz.func101 (hc := cpL_s (l.drop (K + 1)) (by assumption) (by assumption)) (hvw := vwlF)) ?_ | refine AL.any (h := POp.k Tryz.func126 (hc := newer_s y _)) ?_ | refine AL.U ?_ | refine AL.F ?_ | refine AL.T ?_ | refine AL.T (h := POp.k Tryz.func86 (hc := isLog_s l (by assumption) (by assumption))) ?_ | refine AL.T (h := POp.D Tryz.func86 (hc := isLog_s (newL l y) hnl (newL_all hp hy)) (hvw := vwlF)) ?_ | refine AL.W ?_ | refine AL.W (h := fun h => by (try rw [h]); exact POp.k Tryz.func86 (hc := isLog_s l (by assumption) (by assumption))) ?_ | refine AL.W (h := fun h => by (try rw [h]); exact POp.D Tryz.func86 (hc := isLog_s (newL l y) hnl (newL_all hp hy)) (hvw := vwlF)) ?_ | refine AL.nil ?_)
    | ((with_reducible show DL ..); first | refine DL.any ?_ | refine DL.any (h := POp.O Tryz.func101 (hc := cpL_s l (by assumption) (by assumption)) (hvw := vwlF)) ?_ | refine DL.any (h := POp.O Tryz.func101 (hc := cpL_s (l.take K) (by assumption) (by assumption)) (hvw := vwlF)) ?_ | refine DL.any (h := POp.O Tryz.func101 (hc := cpL_s (l.drop K) (by assumption) (by assumption)) (hvw := vwlF)) ?_ | refine DL.any (h := POp.O Tryz.func101 (hc := cpL_s (l.drop (K + 1)) (by assumption) (by assumption)) (hvw := vwlF)) ?_ | refine DL.any (h := POp.O Tryz.func127 (hc := cpE_s y (by assumption))) ?_ | refine DL.U ?_ | refine DL.F ?_ | refine DL.T ?_ | refine DL.W ?_ | refine DL.nil ?_)
    | ((with_reducible show DLR ..); first | refine DLR.call rfl (by rfl) Tryz.func101 (by rfl) (by rfl) (by rfl) (fun Y => vwlT) (cpL_s (l.drop (K + 1)) (by assumption) (by assumption)) (hvw := vwlF) rfl (by first | exact DCl.b rfl | exact DCl.map (fun _ => rfl) | assumption) rfl rfl ?_ | refine DLR.call rfl (by rfl) Tryz.func101 (by rfl) (by rfl) (by rfl) (fun Y => vwlT) (cpL_s (l.drop K) (by assumption) (by assumption)) (hvw := vwlF) rfl (by first | exact DCl.b rfl | exact DCl.map (fun _ => rfl) | assumption) rfl rfl ?_ | refine DLR.call rfl (by rfl) Tryz.func101 (by rfl) (by rfl) (by rfl) (fun Y => vwlT) (cpL_s (l.take K) (by assumption) (by assumption)) (hvw := vwlF) rfl (by first | exact DCl.b rfl | exact DCl.map (fun _ => rfl) | assumption) rfl rfl ?_ | refine DLR.call rfl (by rfl) Tryz.func101 (by rfl) (by rfl) (by rfl) (fun Y => vwlT) (cpL_s l (by assumption) (by assumption)) (hvw := vwlF) rfl (by first | exact DCl.b rfl | exact DCl.map (fun _ => rfl) | assumption) rfl rfl ?_ | refine DLR.any ?_ | refine DLR.alloc rfl rfl (by first | exact ze2 | exact ze3 | exact ze4 | exact ze5 | exact ze6 | exact ze7 | exact ze8 | exact ze9 | exact ze10 | exact ze11 | exact ze12 | exact ze13 | exact ze14 | exact ze15 | exact ze16 | exact ze17 | exact ze18 | exact ze19 | exact ze21 | exact ze22 | exact ze24 | exact ze27 | exact ze28 | exact ze29 | exact ze30 | exact ze31 | exact ze32 | exact ze42 | exact ze43 | exact ze44 | exact ze45 | exact ze62 | exact ze63 | exact ze67 | exact ze69 | exact ze97 | exact ze99 | exact ze121 | exact ze152) rfl rfl ?_ | refine DLR.box rfl rfl (by rfl) (by rfl) rfl rfl ?_ | refine DLR.store rfl rfl (by rfl) rfl rfl rfl rfl rfl (by rfl) (by rfl) (TT_ok.ld _ _ (by rfl)) (by rfl) (by rfl) rfl ?_ | refine DLR.any (h := fun Y => POp.O Tryz.func101 (hc := cpL_s l (by assumption) (by assumption)) (hvw := vwlF)) ?_ | refine DLR.any (h := fun Y => POp.O Tryz.func101 (hc := cpL_s (l.take K) (by assumption) (by assumption)) (hvw := vwlF)) ?_ | refine DLR.any (h := fun Y => POp.O Tryz.func101 (hc := cpL_s (l.drop K) (by assumption) (by assumption)) (hvw := vwlF)) ?_ | refine DLR.any (h := fun Y => POp.O Tryz.func101 (hc := cpL_s (l.drop (K + 1)) (by assumption) (by assumption)) (hvw := vwlF)) ?_ | refine DLR.any (h := fun Y => POp.O Tryz.func127 (hc := cpE_s y (by assumption))) ?_ | refine DLR.row rfl (fun Y => RowRun.empty (by rfl) (by rfl) (by first | exact rwk22 | exact rwk27 | exact rwk28 | exact rwk29 | exact rwk42 | exact rwk43 | exact rwk62 | exact rwk67)) rfl rfl ?_ | refine DLR.row rfl (fun Y => RowRun.literal (by rfl) (by first | exact rwk22 | exact rwk27 | exact rwk28 | exact rwk29 | exact rwk42 | exact rwk43 | exact rwk62 | exact rwk67) (by rfl) (by rfl) (by rfl) (by rfl) (by rfl) (by rfl)) rfl rfl ?_ | refine DLR.append rfl (by rfl) (by first | exact rwk22 | exact rwk27 | exact rwk28 | exact rwk29 | exact rwk42 | exact rwk43 | exact rwk62 | exact rwk67) (by rfl) rfl rfl rfl rfl rfl rfl (by rfl) (by first | (simp <;> omega) | omega) (by first | (simp [maxLen] <;> omega) | (simp_all [maxLen] <;> omega)) ?_ | refine DLR.W ?_ | refine DLR.nil ?_)
    | ((with_reducible show AW ..); first | (refine AW.row1 (X := (newL l y).map TEntry.ed) hnew ?_) | refine AW.seq ?_ | refine AW.region ?_ | refine AW.skip ?_ | (refine' AW.drN (id := 9) 9 [0, 0, 3, 7, 0, 31, 63, 127, 0, 511, 1023, 2047] [(3, _), (5, _), (6, _), (7, _)] ?_; rotate_left 0) | (refine AW.loopD hE (fun i : Nat => (.ro 8 (l.map TEntry.en) :: .any :: .any :: .ref 0 0 8 0 0 :: .any :: I (i : Int) :: .any :: .any :: .any :: .any :: .any :: .any :: .any :: .any :: .any :: .any :: .any :: .any :: .any :: .any :: .any :: .any :: .any :: .any :: .any :: .any :: .any :: .any :: .any :: .any :: .any :: .any :: .any :: .any :: .any :: .any :: .any :: .any :: .any :: .any :: .any :: .any :: .any :: .any :: .any :: .any :: .any :: .any :: .any :: .any :: .any :: .any :: .any :: .any :: .any :: .any :: .any :: .any :: .any :: .any :: .any :: .any :: .any :: .any :: .any :: .any :: .any :: .any :: .any :: .any :: .any :: .any :: .any :: .any :: .any :: [])) (fun i => [some ⟨121, 8, 0, true, [y.en]⟩]) (fun i => (posTo l y.feature.id) - i) (fun i => i ≤ (posTo l y.feature.id)) 0 (by simp) ?_ (by first | rfl | (simp [fil_zero]; done)) ?_) | refine AW.dr (id := 2) 14 ?_ | refine AW.dr (id := 5) 12 ?_ | refine AW.dr (id := 6) 4 ?_ | refine AW.drawnR (id := 9) 9 2 [none, none, none, some 0, none, none, some 1, some 0, none] [some Rsv, some Rsv] rfl (by kernel_rfl) (by kernel_rfl) (by kernel_rfl) (by rfl) ?_ | refine AW.cT ?_ | refine AW.cF ?_ | (refine AW.c2 ?_ ?_ <;> (intro h; try simp only [bT, bF] at h)) | refine AW.block ?_ | refine AW.exit ?_ | refine AW.ret ?_)
    | ((with_reducible show DN _ _ _ _ _ _ _ _ _ _); first | refine DN.nil ?_ | refine DN.step (S.pre) ?_ | refine DN.step (S.pre) ?_ | refine DN.step (S.pre (h := POp.quiet (QOp.cut_h (by rfl) slk27 (by rfl) (by rfl) (by first | decide | omega) (by first | assumption | omega) (by assumption)))) ?_ | refine DN.step (S.chg (h := POp.O Tryz.func101 (hc := cpL_s (l.take K) (by assumption) (by assumption)) (hvw := vwlF))) ?_ | refine DN.step (S.on (S.pre)) ?_ | refine DN.step (S.late (S.chg (h := POp.O Tryz.func127 (hc := cpE_s y (by assumption))))) ?_ | refine DN.step (S.late (S.late (S.chg))) ?_ | refine DN.step (S.late (S.late (S.late (S.chg (h := POp.gh POp.mk (Gh.absorbA (q := 1) (id := 2) (j := 4) rfl rfl rfl rfl rfl rfl (DCl.map (fun _ => rfl)) TPoint.und)))))) ?_ | refine DN.step (S.on (S.on (S.on (S.on (S.nil))))) ?_)
    | with_reducible refine ifP ?_
    | with_reducible refine ifN ?_) <;> (try dsimp only))
  · (repeat' (first | exact Wk.nil | refine Wk.any ?_ | (with_reducible refine Wk.same ?_) | refine Wk.of ?_ ?_)) <;> first | rfl | (simp)
  · intro i hi
    have hclo : Clo (.ro 8 (l.map TEntry.en)) := clo_list TEntry.clo_en
    have hclY : Clo (.agg y.en) := Clo.agg y.clo_en
    have hclP : Clo (.ro 2 (y.feature.points.map TPoint.en)) := clo_list TPoint.clo_en
    have hys := hy.1
    have hsm : ∀ x ∈ l, x.feature.sm := fun x hx => (hp x hx).1
    by_cases hlt : i < (posTo l y.feature.id)
    · skip
      obtain ⟨x, hx, hxl⟩ := posTo_lt hlt
      have hN := (List.getElem?_eq_some_iff.1 hx).1
      have hg := map_get (f := TEntry.en) hx
      have ht := lt_true (f := TEntry.en) hN
      have hn := next_ix hN (by omega)
      repeat' ((first
        | ((with_reducible show AL ..); first | refine AL.any (h := POp.quiet (QOp.cut_l (by rfl) slk27 (by rfl) (by rfl) (by first | decide | omega) (by first | assumption | omega) (by assumption))) ?_ | refine AL.any (h := POp.appendMv (by rfl) rwk27 (by rfl) (by rfl) (by rfl) (by rfl) (by rfl) (by rfl) (by rfl) (by rfl) (by rfl) (by rfl) (by rfl) (by rfl) (by simp; omega) (by simp [maxLen]; omega)) ?_ | refine AL.any ?_ | refine AL.any (h := POp.k Tryz.func86 (hc := isLog_s l (by assumption) (by assumption))) ?_ | refine AL.any (h := POp.D Tryz.func86 (hc := isLog_s (newL l y) hnl (newL_all hp hy)) (hvw := vwlF)) ?_ | refine AL.any (h := POp.O Tryz.func101 (hc := cpL_s l (by assumption) (by assumption)) (hvw := vwlF)) ?_ | refine AL.any (h := POp.O Tryz.func101 (hc := cpL_s (l.take K) (by assumption) (by assumption)) (hvw := vwlF)) ?_ | refine AL.any (h := POp.O Tryz.func101 (hc := cpL_s (l.drop K) (by assumption) (by assumption)) (hvw := vwlF)) ?_ | refine AL.any (h := POp.O Tryz.func101 (hc := cpL_s (l.drop (K + 1)) (by assumption) (by assumption)) (hvw := vwlF)) ?_ | refine AL.any (h := POp.k Tryz.func126 (hc := newer_s y _)) ?_ | refine AL.U ?_ | refine AL.F ?_ | refine AL.T ?_ | refine AL.T (h := POp.k Tryz.func86 (hc := isLog_s l (by assumption) (by assumption))) ?_ | refine AL.T (h := POp.D Tryz.func86 (hc := isLog_s (newL l y) hnl (newL_all hp hy)) (hvw := vwlF)) ?_ | refine AL.W ?_ | refine AL.W (h := fun h => by (try rw [h]); exact POp.k Tryz.func86 (hc := isLog_s l (by assumption) (by assumption))) ?_ | refine AL.W (h := fun h => by (try rw [h]); exact POp.D Tryz.func86 (hc := isLog_s (newL l y) hnl (newL_all hp hy)) (hvw := vwlF)) ?_ | refine AL.nil ?_)
        | ((with_reducible show DL ..); first | refine DL.any ?_ | refine DL.any (h := POp.O Tryz.func101 (hc := cpL_s l (by assumption) (by assumption)) (hvw := vwlF)) ?_ | refine DL.any (h := POp.O Tryz.func101 (hc := cpL_s (l.take K) (by assumption) (by assumption)) (hvw := vwlF)) ?_ | refine DL.any (h := POp.O Tryz.func101 (hc := cpL_s (l.drop K) (by assumption) (by assumption)) (hvw := vwlF)) ?_ | refine DL.any (h := POp.O Tryz.func101 (hc := cpL_s (l.drop (K + 1)) (by assumption) (by assumption)) (hvw := vwlF)) ?_ | refine DL.any (h := POp.O Tryz.func127 (hc := cpE_s y (by assumption))) ?_ | refine DL.U ?_ | refine DL.F ?_ | refine DL.T ?_ | refine DL.W ?_ | refine DL.nil ?_)
        | ((with_reducible show DLR ..); first | refine DLR.call rfl (by rfl) Tryz.func101 (by rfl) (by rfl) (by rfl) (fun Y => vwlT) (cpL_s (l.drop (K + 1)) (by assumption) (by assumption)) (hvw := vwlF) rfl (by first | exact DCl.b rfl | exact DCl.map (fun _ => rfl) | assumption) rfl rfl ?_ | refine DLR.call rfl (by rfl) Tryz.func101 (by rfl) (by rfl) (by rfl) (fun Y => vwlT) (cpL_s (l.drop K) (by assumption) (by assumption)) (hvw := vwlF) rfl (by first | exact DCl.b rfl | exact DCl.map (fun _ => rfl) | assumption) rfl rfl ?_ | refine DLR.call rfl (by rfl) Tryz.func101 (by rfl) (by rfl) (by rfl) (fun Y => vwlT) (cpL_s (l.take K) (by assumption) (by assumption)) (hvw := vwlF) rfl (by first | exact DCl.b rfl | exact DCl.map (fun _ => rfl) | assumption) rfl rfl ?_ | refine DLR.call rfl (by rfl) Tryz.func101 (by rfl) (by rfl) (by rfl) (fun Y => vwlT) (cpL_s l (by assumption) (by assumption)) (hvw := vwlF) rfl (by first | exact DCl.b rfl | exact DCl.map (fun _ => rfl) | assumption) rfl rfl ?_ | refine DLR.any ?_ | refine DLR.alloc rfl rfl (by first | exact ze2 | exact ze3 | exact ze4 | exact ze5 | exact ze6 | exact ze7 | exact ze8 | exact ze9 | exact ze10 | exact ze11 | exact ze12 | exact ze13 | exact ze14 | exact ze15 | exact ze16 | exact ze17 | exact ze18 | exact ze19 | exact ze21 | exact ze22 | exact ze24 | exact ze27 | exact ze28 | exact ze29 | exact ze30 | exact ze31 | exact ze32 | exact ze42 | exact ze43 | exact ze44 | exact ze45 | exact ze62 | exact ze63 | exact ze67 | exact ze69 | exact ze97 | exact ze99 | exact ze121 | exact ze152) rfl rfl ?_ | refine DLR.box rfl rfl (by rfl) (by rfl) rfl rfl ?_ | refine DLR.store rfl rfl (by rfl) rfl rfl rfl rfl rfl (by rfl) (by rfl) (TT_ok.ld _ _ (by rfl)) (by rfl) (by rfl) rfl ?_ | refine DLR.any (h := fun Y => POp.O Tryz.func101 (hc := cpL_s l (by assumption) (by assumption)) (hvw := vwlF)) ?_ | refine DLR.any (h := fun Y => POp.O Tryz.func101 (hc := cpL_s (l.take K) (by assumption) (by assumption)) (hvw := vwlF)) ?_ | refine DLR.any (h := fun Y => POp.O Tryz.func101 (hc := cpL_s (l.drop K) (by assumption) (by assumption)) (hvw := vwlF)) ?_ | refine DLR.any (h := fun Y => POp.O Tryz.func101 (hc := cpL_s (l.drop (K + 1)) (by assumption) (by assumption)) (hvw := vwlF)) ?_ | refine DLR.any (h := fun Y => POp.O Tryz.func127 (hc := cpE_s y (by assumption))) ?_ | refine DLR.row rfl (fun Y => RowRun.empty (by rfl) (by rfl) (by first | exact rwk22 | exact rwk27 | exact rwk28 | exact rwk29 | exact rwk42 | exact rwk43 | exact rwk62 | exact rwk67)) rfl rfl ?_ | refine DLR.row rfl (fun Y => RowRun.literal (by rfl) (by first | exact rwk22 | exact rwk27 | exact rwk28 | exact rwk29 | exact rwk42 | exact rwk43 | exact rwk62 | exact rwk67) (by rfl) (by rfl) (by rfl) (by rfl) (by rfl) (by rfl)) rfl rfl ?_ | refine DLR.append rfl (by rfl) (by first | exact rwk22 | exact rwk27 | exact rwk28 | exact rwk29 | exact rwk42 | exact rwk43 | exact rwk62 | exact rwk67) (by rfl) rfl rfl rfl rfl rfl rfl (by rfl) (by first | (simp <;> omega) | omega) (by first | (simp [maxLen] <;> omega) | (simp_all [maxLen] <;> omega)) ?_ | refine DLR.W ?_ | refine DLR.nil ?_)
        | ((with_reducible show AW ..); first | (refine AW.row1 (X := (newL l y).map TEntry.ed) hnew ?_) | refine AW.seq ?_ | refine AW.region ?_ | refine AW.skip ?_ | (refine' AW.drN (id := 9) 9 [0, 0, 3, 7, 0, 31, 63, 127, 0, 511, 1023, 2047] [(3, _), (5, _), (6, _), (7, _)] ?_; rotate_left 0) | refine AW.dr (id := 2) 14 ?_ | refine AW.dr (id := 5) 12 ?_ | refine AW.dr (id := 6) 4 ?_ | refine AW.drawnR (id := 9) 9 2 [none, none, none, some 0, none, none, some 1, some 0, none] [some Rsv, some Rsv] rfl (by kernel_rfl) (by kernel_rfl) (by kernel_rfl) (by rfl) ?_ | refine AW.cT ?_ | refine AW.cF ?_ | (refine AW.c2 ?_ ?_ <;> (intro h; try simp only [bT, bF] at h)) | refine AW.block ?_ | refine AW.exit ?_ | refine AW.ret ?_)
        | ((with_reducible show DN _ _ _ _ _ _ _ _ _ _); first | refine DN.nil ?_ | refine DN.step (S.pre) ?_ | refine DN.step (S.pre) ?_ | refine DN.step (S.pre (h := POp.quiet (QOp.cut_h (by rfl) slk27 (by rfl) (by rfl) (by first | decide | omega) (by first | assumption | omega) (by assumption)))) ?_ | refine DN.step (S.chg (h := POp.O Tryz.func101 (hc := cpL_s (l.take K) (by assumption) (by assumption)) (hvw := vwlF))) ?_ | refine DN.step (S.on (S.pre)) ?_ | refine DN.step (S.late (S.chg (h := POp.O Tryz.func127 (hc := cpE_s y (by assumption))))) ?_ | refine DN.step (S.late (S.late (S.chg))) ?_ | refine DN.step (S.late (S.late (S.late (S.chg (h := POp.gh POp.mk (Gh.absorbA (q := 1) (id := 2) (j := 4) rfl rfl rfl rfl rfl rfl (DCl.map (fun _ => rfl)) TPoint.und)))))) ?_ | refine DN.step (S.on (S.on (S.on (S.on (S.nil))))) ?_)
        | with_reducible refine ifP ?_
        | with_reducible refine ifN ?_) <;> (try dsimp only))
      all_goals first
        | (refine ⟨i + 1, [], hlt, by omega, ?_, rfl, ?_, ?_⟩; (focus ((repeat' (first | exact Wk.nil | refine Wk.any ?_ | (with_reducible refine Wk.same ?_) | refine Wk.of ?_ ?_)) <;> (simp_all))); (focus ((repeat' (first | exact Fits.nil _ | refine Fits.cons ?_ ?_ | exact Fits.any _ | exact Fits.c _ _ | exact Fits.own (by rfl) | exact Fits.ref (by rfl) | exact Fits.clo (by assumption) | exact Fits.clo (clo_of (by rfl)) | exact Fits.clo (clo_fn _))))); (focus (exact fits_row (clo_one y.clo_en))))
    · have e : i = (posTo l y.feature.id) := by omega
      subst e
      have hle := posTo_le l y.feature.id
      have hpc := pos_cases l y
      have hnw : newL l y = l.take (posTo l y.feature.id) ++ [y] ++ l.drop (if sameAt l y.feature.id = true then posTo l y.feature.id + 1 else posTo l y.feature.id) := rfl
      obtain ⟨K, hK⟩ : ∃ K, K = posTo l y.feature.id := ⟨_, rfl⟩
      rw [← hK] at hpc hle hnw ⊢
      have hd0 : (l.map TEntry.en).drop ((K : Nat) : Int).toNat = (l.drop K).map TEntry.en := by rw [Int.toNat_natCast, List.map_drop]
      have ht0 : (l.map TEntry.en).take ((K : Nat) : Int).toNat = (l.take K).map TEntry.en := by rw [Int.toNat_natCast, List.map_take]
      have hd1 : ((l.drop K).map TEntry.en).drop (1 : Int).toNat = (l.drop (K + 1)).map TEntry.en := by rw [← List.map_drop, List.drop_drop]; rfl
      have hK1 : ((K : Nat) : Int) ≤ ((l.map TEntry.en).length : Int) := by rw [List.length_map]; omega
      have hl1 : (l.take K).length ≤ 1048576 := by rw [List.length_take]; omega
      have hl2 : (l.drop K).length ≤ 1048576 := by rw [List.length_drop]; omega
      have hl3 : (l.drop (K + 1)).length ≤ 1048576 := by rw [List.length_drop]; omega
      have hs1 : ∀ x ∈ l.take K, x.feature.sm := fun x hx => hsm x (List.mem_of_mem_take hx)
      have hs2 : ∀ x ∈ l.drop K, x.feature.sm := fun x hx => hsm x (List.mem_of_mem_drop hx)
      have hs3 : ∀ x ∈ l.drop (K + 1), x.feature.sm := fun x hx => hsm x (List.mem_of_mem_drop hx)
      have hc1 : Clo (.ro 8 ((l.take K).map TEntry.en)) := clo_list TEntry.clo_en
      have hc2 : Clo (.ro 8 ((l.drop K).map TEntry.en)) := clo_list TEntry.clo_en
      have hc3 : Clo (.ro 8 ((l.drop (K + 1)).map TEntry.en)) := clo_list TEntry.clo_en
      have hap : ∀ q : Nat, newL l y = l.take K ++ [y] ++ l.drop q → (l.take K).map TEntry.ed ++ [y.ed] ++ (l.drop q).map TEntry.ed = (newL l y).map TEntry.ed := fun q h => by rw [h, List.map_append, List.map_append]; rfl
      rcases hpc with ⟨q1, q2, hrf, q4⟩ | ⟨x, hx, hxl, q2, q3⟩
      have ht : decide (((K : Nat) : Int) < ((l.map TEntry.en).length : Int)) = false := by rw [List.length_map]; simp; omega
      have ht2 : decide ((((l.drop K).map TEntry.en).length : Int) > 0) = false := by rw [List.length_map, List.length_drop]; simp; omega
      have hnew := hap K (by rw [hnw, q2]; rfl)
      rotate_left 1
      have hN := (List.getElem?_eq_some_iff.1 hx).1
      have hg := map_get (f := TEntry.en) hx
      have ht := lt_true (f := TEntry.en) hN
      have ht2 : decide ((((l.drop K).map TEntry.en).length : Int) > 0) = true := by rw [List.length_map, List.length_drop]; simp; omega
      have hg0 : ((l.drop K).map TEntry.en)[(0 : Int).toNat]? = some x.en := by
        show ((l.drop K).map TEntry.en)[0]? = some x.en
        rw [List.getElem?_map, List.getElem?_drop, Nat.add_zero, hx]
        rfl
      have hk0 : (1 : Int) ≤ (((l.drop K).map TEntry.en).length : Int) := by rw [List.length_map, List.length_drop]; omega
      have hclx : Clo (.agg x.en) := Clo.agg x.clo_en
      have hclxp : Clo (.ro 2 (x.feature.points.map TPoint.en)) := clo_list TPoint.clo_en
      rcases Bool.eq_false_or_eq_true (x.feature.id == y.feature.id) with he | he
      rcases Bool.eq_false_or_eq_true (newer y x) with hw | hw
      have hnew := hap (K + 1) (by rw [hnw, q2, he]; rfl)
      have hrf : refused l y = false := by rw [q3, he, hw]; rfl
      rotate_left 1
      have hrt : refused l y = true := by rw [q3, he, hw]; rfl
      rotate_left 1
      have hnew := hap K (by rw [hnw, q2, he]; rfl)
      have hrf : refused l y = false := by rw [q3, he]; rfl
      rotate_left 1
      all_goals rcases isLog_cases l y with ⟨hL, hnl⟩ | hL
      repeat' ((first
        | ((with_reducible show AL ..); first | refine AL.any (h := POp.quiet (QOp.cut_l (by rfl) slk27 (by rfl) (by rfl) (by first | decide | omega) (by first | assumption | omega) (by assumption))) ?_ | refine AL.any (h := POp.appendMv (by rfl) rwk27 (by rfl) (by rfl) (by rfl) (by rfl) (by rfl) (by rfl) (by rfl) (by rfl) (by rfl) (by rfl) (by rfl) (by rfl) (by simp; omega) (by simp [maxLen]; omega)) ?_ | refine AL.any ?_ | refine AL.any (h := POp.k Tryz.func86 (hc := isLog_s l (by assumption) (by assumption))) ?_ | refine AL.any (h := POp.D Tryz.func86 (hc := isLog_s (newL l y) hnl (newL_all hp hy)) (hvw := vwlF)) ?_ | refine AL.any (h := POp.O Tryz.func101 (hc := cpL_s l (by assumption) (by assumption)) (hvw := vwlF)) ?_ | refine AL.any (h := POp.O Tryz.func101 (hc := cpL_s (l.take K) (by assumption) (by assumption)) (hvw := vwlF)) ?_ | refine AL.any (h := POp.O Tryz.func101 (hc := cpL_s (l.drop K) (by assumption) (by assumption)) (hvw := vwlF)) ?_ | refine AL.any (h := POp.O Tryz.func101 (hc := cpL_s (l.drop (K + 1)) (by assumption) (by assumption)) (hvw := vwlF)) ?_ | refine AL.any (h := POp.k Tryz.func126 (hc := newer_s y _)) ?_ | refine AL.U ?_ | refine AL.F ?_ | refine AL.T ?_ | refine AL.T (h := POp.k Tryz.func86 (hc := isLog_s l (by assumption) (by assumption))) ?_ | refine AL.T (h := POp.D Tryz.func86 (hc := isLog_s (newL l y) hnl (newL_all hp hy)) (hvw := vwlF)) ?_ | refine AL.W ?_ | refine AL.W (h := fun h => by (try rw [h]); exact POp.k Tryz.func86 (hc := isLog_s l (by assumption) (by assumption))) ?_ | refine AL.W (h := fun h => by (try rw [h]); exact POp.D Tryz.func86 (hc := isLog_s (newL l y) hnl (newL_all hp hy)) (hvw := vwlF)) ?_ | refine AL.nil ?_)
        | ((with_reducible show DL ..); first | refine DL.any ?_ | refine DL.any (h := POp.O Tryz.func101 (hc := cpL_s l (by assumption) (by assumption)) (hvw := vwlF)) ?_ | refine DL.any (h := POp.O Tryz.func101 (hc := cpL_s (l.take K) (by assumption) (by assumption)) (hvw := vwlF)) ?_ | refine DL.any (h := POp.O Tryz.func101 (hc := cpL_s (l.drop K) (by assumption) (by assumption)) (hvw := vwlF)) ?_ | refine DL.any (h := POp.O Tryz.func101 (hc := cpL_s (l.drop (K + 1)) (by assumption) (by assumption)) (hvw := vwlF)) ?_ | refine DL.any (h := POp.O Tryz.func127 (hc := cpE_s y (by assumption))) ?_ | refine DL.U ?_ | refine DL.F ?_ | refine DL.T ?_ | refine DL.W ?_ | refine DL.nil ?_)
        | ((with_reducible show DLR ..); first | refine DLR.call rfl (by rfl) Tryz.func101 (by rfl) (by rfl) (by rfl) (fun Y => vwlT) (cpL_s (l.drop (K + 1)) (by assumption) (by assumption)) (hvw := vwlF) rfl (by first | exact DCl.b rfl | exact DCl.map (fun _ => rfl) | assumption) rfl rfl ?_ | refine DLR.call rfl (by rfl) Tryz.func101 (by rfl) (by rfl) (by rfl) (fun Y => vwlT) (cpL_s (l.drop K) (by assumption) (by assumption)) (hvw := vwlF) rfl (by first | exact DCl.b rfl | exact DCl.map (fun _ => rfl) | assumption) rfl rfl ?_ | refine DLR.call rfl (by rfl) Tryz.func101 (by rfl) (by rfl) (by rfl) (fun Y => vwlT) (cpL_s (l.take K) (by assumption) (by assumption)) (hvw := vwlF) rfl (by first | exact DCl.b rfl | exact DCl.map (fun _ => rfl) | assumption) rfl rfl ?_ | refine DLR.call rfl (by rfl) Tryz.func101 (by rfl) (by rfl) (by rfl) (fun Y => vwlT) (cpL_s l (by assumption) (by assumption)) (hvw := vwlF) rfl (by first | exact DCl.b rfl | exact DCl.map (fun _ => rfl) | assumption) rfl rfl ?_ | refine DLR.any ?_ | refine DLR.alloc rfl rfl (by first | exact ze2 | exact ze3 | exact ze4 | exact ze5 | exact ze6 | exact ze7 | exact ze8 | exact ze9 | exact ze10 | exact ze11 | exact ze12 | exact ze13 | exact ze14 | exact ze15 | exact ze16 | exact ze17 | exact ze18 | exact ze19 | exact ze21 | exact ze22 | exact ze24 | exact ze27 | exact ze28 | exact ze29 | exact ze30 | exact ze31 | exact ze32 | exact ze42 | exact ze43 | exact ze44 | exact ze45 | exact ze62 | exact ze63 | exact ze67 | exact ze69 | exact ze97 | exact ze99 | exact ze121 | exact ze152) rfl rfl ?_ | refine DLR.box rfl rfl (by rfl) (by rfl) rfl rfl ?_ | refine DLR.store rfl rfl (by rfl) rfl rfl rfl rfl rfl (by rfl) (by rfl) (TT_ok.ld _ _ (by rfl)) (by rfl) (by rfl) rfl ?_ | refine DLR.any (h := fun Y => POp.O Tryz.func101 (hc := cpL_s l (by assumption) (by assumption)) (hvw := vwlF)) ?_ | refine DLR.any (h := fun Y => POp.O Tryz.func101 (hc := cpL_s (l.take K) (by assumption) (by assumption)) (hvw := vwlF)) ?_ | refine DLR.any (h := fun Y => POp.O Tryz.func101 (hc := cpL_s (l.drop K) (by assumption) (by assumption)) (hvw := vwlF)) ?_ | refine DLR.any (h := fun Y => POp.O Tryz.func101 (hc := cpL_s (l.drop (K + 1)) (by assumption) (by assumption)) (hvw := vwlF)) ?_ | refine DLR.any (h := fun Y => POp.O Tryz.func127 (hc := cpE_s y (by assumption))) ?_ | refine DLR.row rfl (fun Y => RowRun.empty (by rfl) (by rfl) (by first | exact rwk22 | exact rwk27 | exact rwk28 | exact rwk29 | exact rwk42 | exact rwk43 | exact rwk62 | exact rwk67)) rfl rfl ?_ | refine DLR.row rfl (fun Y => RowRun.literal (by rfl) (by first | exact rwk22 | exact rwk27 | exact rwk28 | exact rwk29 | exact rwk42 | exact rwk43 | exact rwk62 | exact rwk67) (by rfl) (by rfl) (by rfl) (by rfl) (by rfl) (by rfl)) rfl rfl ?_ | refine DLR.append rfl (by rfl) (by first | exact rwk22 | exact rwk27 | exact rwk28 | exact rwk29 | exact rwk42 | exact rwk43 | exact rwk62 | exact rwk67) (by rfl) rfl rfl rfl rfl rfl rfl (by rfl) (by first | (simp <;> omega) | omega) (by first | (simp [maxLen] <;> omega) | (simp_all [maxLen] <;> omega)) ?_ | refine DLR.W ?_ | refine DLR.nil ?_)
        | ((with_reducible show AW ..); first | (refine AW.row1 (X := (newL l y).map TEntry.ed) hnew ?_) | refine AW.seq ?_ | refine AW.region ?_ | refine AW.skip ?_ | (refine' AW.drN (id := 9) 9 [0, 0, 3, 7, 0, 31, 63, 127, 0, 511, 1023, 2047] [(3, _), (5, _), (6, _), (7, _)] ?_; rotate_left 0) | refine AW.dr (id := 2) 14 ?_ | refine AW.dr (id := 5) 12 ?_ | refine AW.dr (id := 6) 4 ?_ | refine AW.drawnR (id := 9) 9 2 [none, none, none, some 0, none, none, some 1, some 0, none] [some Rsv, some Rsv] rfl (by kernel_rfl) (by kernel_rfl) (by kernel_rfl) (by rfl) ?_ | refine AW.cT ?_ | refine AW.cF ?_ | (refine AW.c2 ?_ ?_ <;> (intro h; try simp only [bT, bF] at h)) | refine AW.block ?_ | refine AW.exit ?_ | refine AW.ret ?_)
        | ((with_reducible show DN _ _ _ _ _ _ _ _ _ _); first | refine DN.nil ?_ | refine DN.step (S.pre) ?_ | refine DN.step (S.pre) ?_ | refine DN.step (S.pre (h := POp.quiet (QOp.cut_h (by rfl) slk27 (by rfl) (by rfl) (by first | decide | omega) (by first | assumption | omega) (by assumption)))) ?_ | refine DN.step (S.chg (h := POp.O Tryz.func101 (hc := cpL_s (l.take K) (by assumption) (by assumption)) (hvw := vwlF))) ?_ | refine DN.step (S.on (S.pre)) ?_ | refine DN.step (S.late (S.chg (h := POp.O Tryz.func127 (hc := cpE_s y (by assumption))))) ?_ | refine DN.step (S.late (S.late (S.chg))) ?_ | refine DN.step (S.late (S.late (S.late (S.chg (h := POp.gh POp.mk (Gh.absorbA (q := 1) (id := 2) (j := 4) rfl rfl rfl rfl rfl rfl (DCl.map (fun _ => rfl)) TPoint.und)))))) ?_ | refine DN.step (S.on (S.on (S.on (S.on (S.nil))))) ?_)
        | with_reducible refine ifP ?_
        | with_reducible refine ifN ?_) <;> (try dsimp only))
      all_goals first
        | (rw [takeE_1 (by assumption)]; exact Fin.r1 [1] rfl (RV.tmp (by rfl)) ⟨rfl, rfl⟩)
        | (rw [takeE_1 (by assumption)]; exact Fin.r1 [5] rfl (RV.tmp (by rfl)) ⟨rfl, rfl⟩)
        | (rw [takeE_1 (by assumption)]; exact Fin.r1 [4] rfl (RV.tmp (by rfl)) ⟨rfl, rfl⟩)
        | (rw [takeE_1 (by assumption)]; exact Fin.r1 [6] rfl (RV.tmp (by rfl)) ⟨rfl, rfl⟩)
        | (rw [takeE_2 (by assumption)]; exact Fin.r1 [1] rfl (RV.tmp (by rfl)) ⟨rfl, rfl⟩)
        | (rw [takeE_2 (by assumption)]; exact Fin.r1 [5] rfl (RV.tmp (by rfl)) ⟨rfl, rfl⟩)
        | (rw [takeE_2 (by assumption)]; exact Fin.r1 [4] rfl (RV.tmp (by rfl)) ⟨rfl, rfl⟩)
        | (rw [takeE_2 (by assumption)]; exact Fin.r1 [6] rfl (RV.tmp (by rfl)) ⟨rfl, rfl⟩)
        | (rw [takeE_3 (by assumption)]; exact Fin.r1 [1] rfl (RV.tmp (by rfl)) ⟨rfl, rfl⟩)
        | (rw [takeE_3 (by assumption)]; exact Fin.r1 [5] rfl (RV.tmp (by rfl)) ⟨rfl, rfl⟩)
        | (rw [takeE_3 (by assumption)]; exact Fin.r1 [4] rfl (RV.tmp (by rfl)) ⟨rfl, rfl⟩)
        | (rw [takeE_3 (by assumption)]; exact Fin.r1 [6] rfl (RV.tmp (by rfl)) ⟨rfl, rfl⟩)
        | (rw [takeE_4 (by assumption) (by assumption) (by assumption)]; exact Fin.r1 [1] rfl (RV.tmp (by rfl)) ⟨rfl, rfl⟩)

def eqAt {α : Type} (f : α → α → Bool) (a b : List α) (i : Nat) : Bool := match a[i]?, b[i]? with
  | some x, some y => f x y
  | _, _ => true
def eqTo {α : Type} (f : α → α → Bool) (a b : List α) (n : Nat) : Bool := (List.range n).all (eqAt f a b)
def eqL {α : Type} (f : α → α → Bool) (a b : List α) : Bool := (((a.length : Nat) : Int) == ((b.length : Nat) : Int)) && eqTo f a b a.length
theorem eqTo_succ {α : Type} (f : α → α → Bool) (a b : List α) (i : Nat) : eqTo f a b (i + 1) = (eqTo f a b i && eqAt f a b i) := by simp [eqTo, List.range_succ]
theorem eqTo_zero {α : Type} (f : α → α → Bool) (a b : List α) : eqTo f a b 0 = true := rfl
theorem eqTo_not {α : Type} {f : α → α → Bool} {a b : List α} {i n : Nat} (h : eqAt f a b i = false) (hi : i < n) : eqTo f a b n = false := by
  simp only [eqTo, List.all_eq_false, List.mem_range]
  exact ⟨i, hi, by simp [h]⟩
theorem eqAt_some {α : Type} {f : α → α → Bool} {a b : List α} {i : Nat} {x y : α} (hx : a[i]? = some x) (hy : b[i]? = some y) : eqAt f a b i = f x y := by simp [eqAt, hx, hy]
theorem len_of {α β : Type} {en : α → β} {a b : List α} (h : (((a.map en).length : Int) != ((b.map en).length : Int)) = false) : a.length = b.length := by simp at h; omega
theorem eqL_len {α β : Type} {en : α → β} {f : α → α → Bool} {a b : List α} (h : (((a.map en).length : Int) != ((b.map en).length : Int)) = true) : eqL f a b = false := by
  simp at h
  simp [eqL, h]
theorem eqL_not {α : Type} {f : α → α → Bool} {a b : List α} {i : Nat} (h : eqAt f a b i = false) (hi : i < a.length) : eqL f a b = false := by simp [eqL, eqTo_not h hi]
theorem eqL_yes {α : Type} {f : α → α → Bool} {a b : List α} (hl : a.length = b.length) (h : eqTo f a b a.length = true) : eqL f a b = true := by rw [eqL, h, hl]; simp
def eqFe (x y : TFeature) : Bool := x.id == y.id && x.kind == y.kind && x.rank == y.rank && x.name.toList == y.name.toList && eqL ptE x.points y.points
def eqEn (x y : TEntry) : Bool := x.tick == y.tick && x.who == y.who && x.gone == y.gone && eqFe x.feature y.feature
theorem eqLines_s (a b : List TPoint) (hl : a.length ≤ 1048576) (hm : b.length ≤ 1048576) : VCalls Tryz.prog 156 [.ro 2 (a.map TPoint.en), .ro 2 (b.map TPoint.en)] (fun r M => r = B (eqL ptE a b) ∧ M = []) := by
  refine VCalls.bodyE Tryz.func156 rfl 24 rfl (fun E hE => ?_)
  simp only [List.reduceReplicate, List.cons_append, List.nil_append]
  have hcla : Clo (.ro 2 (a.map TPoint.en)) := clo_list TPoint.clo_en
  have hclb : Clo (.ro 2 (b.map TPoint.en)) := clo_list TPoint.clo_en
  repeat' ((first
    | ((with_reducible show AL ..); first | refine AL.any ?_ | refine AL.nil ?_)
    | ((with_reducible show DL ..); first | refine DL.any ?_ | refine DL.nil ?_)
    | ((with_reducible show AW ..); first | refine AW.seq ?_ | refine AW.region ?_ | refine AW.skip ?_ | (refine AW.loopD hE (fun i : Nat => [.ro 2 (a.map TPoint.en), .ro 2 (b.map TPoint.en), .any, .any, .any, I i, .any, .any, .any, .any, .any, .any, .any, .any, .any, .any, .any, .any, .any, .any, .any, .any, .any, .any, .any, .any]) (fun i => []) (fun i => a.length - i) (fun i => i ≤ a.length ∧ eqTo ptE a b i = true) 0 (by simp [eqTo_zero]) ?_ (by first | rfl | (simp [fil_zero]; done)) ?_) | refine AW.dr (id := 6) 8 ?_ | refine AW.cT ?_ | refine AW.cF ?_ | (refine AW.c2 ?_ ?_ <;> (intro h; try simp only [bT, bF] at h)) | refine AW.block ?_ | refine AW.exit ?_ | refine AW.ret ?_)
    | with_reducible refine ifP ?_
    | with_reducible refine ifN ?_) <;> (try dsimp only))
  · exact Fin.one rfl (RV.tmp (by rfl)) (clo_c _) ⟨by rw [eqL_len (by assumption)], rfl⟩
  · (repeat' (first | exact Wk.nil | refine Wk.any ?_ | (with_reducible refine Wk.same ?_) | refine Wk.of ?_ ?_)) <;> first | rfl | (simp)
  · intro i hi
    have hcla : Clo (.ro 2 (a.map TPoint.en)) := clo_list TPoint.clo_en
    have hclb : Clo (.ro 2 (b.map TPoint.en)) := clo_list TPoint.clo_en
    have hlen : a.length = b.length := len_of (by assumption)
    by_cases hlt : i < a.length
    · obtain ⟨x, hx⟩ : ∃ x, a[i]? = some x := ⟨_, List.getElem?_eq_getElem hlt⟩
      have hg := map_get (f := TPoint.en) hx
      have ht := lt_true (f := TPoint.en) hlt
      have hn := next_ix hlt (by omega)
      obtain ⟨y, hy⟩ : ∃ y, b[i]? = some y := ⟨_, List.getElem?_eq_getElem (by omega)⟩
      have hgb := map_get (f := TPoint.en) hy
      have hes := eqTo_succ ptE a b i
      have hea := eqAt_some (f := ptE) hx hy
      repeat' ((first
        | ((with_reducible show AL ..); first | refine AL.any ?_ | refine AL.nil ?_)
        | ((with_reducible show DL ..); first | refine DL.any ?_ | refine DL.nil ?_)
        | ((with_reducible show AW ..); first | refine AW.seq ?_ | refine AW.region ?_ | refine AW.skip ?_ | refine AW.dr (id := 6) 8 ?_ | refine AW.cT ?_ | refine AW.cF ?_ | (refine AW.c2 ?_ ?_ <;> (intro h; try simp only [bT, bF] at h)) | refine AW.block ?_ | refine AW.exit ?_ | refine AW.ret ?_)
        | with_reducible refine ifP ?_
        | with_reducible refine ifN ?_) <;> (try dsimp only))
      all_goals first
        | (refine ⟨i + 1, _, ⟨hlt, by rw [hes, hi.2, hea]; simp_all⟩, by omega, ?_, rfl, ?_, ?_⟩; (focus ((repeat' (first | exact Wk.nil | refine Wk.any ?_ | (with_reducible refine Wk.same ?_) | refine Wk.of ?_ ?_)) <;> (first | (rw [hn]; done) | simp_all))); (focus ((repeat' (first | exact Fits.nil _ | refine Fits.cons ?_ ?_ | exact Fits.any _ | exact Fits.c _ _ | exact Fits.own (by rfl) | exact Fits.ref (by rfl) | exact Fits.clo (by assumption) | exact Fits.clo (clo_of (by rfl)) | exact Fits.clo (clo_fn _))))); (focus (exact FitsM.nil _)))
        | exact Fin.one rfl (RV.tmp (by rfl)) (clo_c _) ⟨by rw [eqL_not (f := ptE) (by rw [hea]; simp_all) hlt], rfl⟩
    · have ht := lt_false (f := TPoint.en) hlt
      have e : i = a.length := by omega
      subst e
      try rw [List.take_length]
      repeat' ((first
        | ((with_reducible show AL ..); first | refine AL.any ?_ | refine AL.nil ?_)
        | ((with_reducible show DL ..); first | refine DL.any ?_ | refine DL.nil ?_)
        | ((with_reducible show AW ..); first | refine AW.seq ?_ | refine AW.region ?_ | refine AW.skip ?_ | refine AW.dr (id := 6) 8 ?_ | refine AW.cT ?_ | refine AW.cF ?_ | (refine AW.c2 ?_ ?_ <;> (intro h; try simp only [bT, bF] at h)) | refine AW.block ?_ | refine AW.exit ?_ | refine AW.ret ?_)
        | with_reducible refine ifP ?_
        | with_reducible refine ifN ?_) <;> (try dsimp only))
      all_goals exact Fin.one rfl (RV.tmp (by rfl)) (clo_c _) ⟨by rw [eqL_yes hlen hi.2], rfl⟩

theorem eqLines_i (a b : List TPoint) (hl : a.length ≤ 1048576) (hm : b.length ≤ 1048576) : VCalls Tryz.prog 178 [.ro 2 (a.map TPoint.en), .ro 2 (b.map TPoint.en)] (fun r M => r = B (eqL ptE a b) ∧ M = []) := by
  refine VCalls.bodyE Tryz.func178 rfl 24 rfl (fun E hE => ?_)
  simp only [List.reduceReplicate, List.cons_append, List.nil_append]
  have hcla : Clo (.ro 2 (a.map TPoint.en)) := clo_list TPoint.clo_en
  have hclb : Clo (.ro 2 (b.map TPoint.en)) := clo_list TPoint.clo_en
  repeat' ((first
    | ((with_reducible show AL ..); first | refine AL.any ?_ | refine AL.nil ?_)
    | ((with_reducible show DL ..); first | refine DL.any ?_ | refine DL.nil ?_)
    | ((with_reducible show AW ..); first | refine AW.seq ?_ | refine AW.region ?_ | refine AW.skip ?_ | (refine AW.loopD hE (fun i : Nat => [.ro 2 (a.map TPoint.en), .ro 2 (b.map TPoint.en), .any, .any, .any, .any, .any, .any, .any, .any, .any, .ro 2 (a.map TPoint.en), I (a.map TPoint.en).length, I i, .any, .any, .any, .any, .any, .any, .any, .any, .any, .any, .any, .any]) (fun i => []) (fun i => a.length - i) (fun i => i ≤ a.length ∧ eqTo ptE a b i = true) 0 (by simp [eqTo_zero]) ?_ (by first | rfl | (simp [fil_zero]; done)) ?_) | refine AW.dr (id := 6) 8 ?_ | refine AW.cT ?_ | refine AW.cF ?_ | (refine AW.c2 ?_ ?_ <;> (intro h; try simp only [bT, bF] at h)) | refine AW.block ?_ | refine AW.exit ?_ | refine AW.ret ?_)
    | with_reducible refine ifP ?_
    | with_reducible refine ifN ?_) <;> (try dsimp only))
  · exact Fin.one rfl (RV.tmp (by rfl)) (clo_c _) ⟨by rw [eqL_len (by assumption)], rfl⟩
  · (repeat' (first | exact Wk.nil | refine Wk.any ?_ | (with_reducible refine Wk.same ?_) | refine Wk.of ?_ ?_)) <;> first | rfl | (simp)
  · intro i hi
    have hcla : Clo (.ro 2 (a.map TPoint.en)) := clo_list TPoint.clo_en
    have hclb : Clo (.ro 2 (b.map TPoint.en)) := clo_list TPoint.clo_en
    have hlen : a.length = b.length := len_of (by assumption)
    by_cases hlt : i < a.length
    · obtain ⟨x, hx⟩ : ∃ x, a[i]? = some x := ⟨_, List.getElem?_eq_getElem hlt⟩
      have hg := map_get (f := TPoint.en) hx
      have ht := lt_true (f := TPoint.en) hlt
      have hn := next_ix hlt (by omega)
      obtain ⟨y, hy⟩ : ∃ y, b[i]? = some y := ⟨_, List.getElem?_eq_getElem (by omega)⟩
      have hgb := map_get (f := TPoint.en) hy
      have hes := eqTo_succ ptE a b i
      have hea := eqAt_some (f := ptE) hx hy
      repeat' ((first
        | ((with_reducible show AL ..); first | refine AL.any ?_ | refine AL.nil ?_)
        | ((with_reducible show DL ..); first | refine DL.any ?_ | refine DL.nil ?_)
        | ((with_reducible show AW ..); first | refine AW.seq ?_ | refine AW.region ?_ | refine AW.skip ?_ | refine AW.dr (id := 6) 8 ?_ | refine AW.cT ?_ | refine AW.cF ?_ | (refine AW.c2 ?_ ?_ <;> (intro h; try simp only [bT, bF] at h)) | refine AW.block ?_ | refine AW.exit ?_ | refine AW.ret ?_)
        | with_reducible refine ifP ?_
        | with_reducible refine ifN ?_) <;> (try dsimp only))
      all_goals first
        | (refine ⟨i + 1, _, ⟨hlt, by rw [hes, hi.2, hea]; simp_all⟩, by omega, ?_, rfl, ?_, ?_⟩; (focus ((repeat' (first | exact Wk.nil | refine Wk.any ?_ | (with_reducible refine Wk.same ?_) | refine Wk.of ?_ ?_)) <;> (first | (rw [hn]; done) | simp_all))); (focus ((repeat' (first | exact Fits.nil _ | refine Fits.cons ?_ ?_ | exact Fits.any _ | exact Fits.c _ _ | exact Fits.own (by rfl) | exact Fits.ref (by rfl) | exact Fits.clo (by assumption) | exact Fits.clo (clo_of (by rfl)) | exact Fits.clo (clo_fn _))))); (focus (exact FitsM.nil _)))
        | exact Fin.one rfl (RV.tmp (by rfl)) (clo_c _) ⟨by rw [eqL_not (f := ptE) (by rw [hea]; simp_all) hlt], rfl⟩
    · have ht := lt_false (f := TPoint.en) hlt
      have e : i = a.length := by omega
      subst e
      try rw [List.take_length]
      repeat' ((first
        | ((with_reducible show AL ..); first | refine AL.any ?_ | refine AL.nil ?_)
        | ((with_reducible show DL ..); first | refine DL.any ?_ | refine DL.nil ?_)
        | ((with_reducible show AW ..); first | refine AW.seq ?_ | refine AW.region ?_ | refine AW.skip ?_ | refine AW.dr (id := 6) 8 ?_ | refine AW.cT ?_ | refine AW.cF ?_ | (refine AW.c2 ?_ ?_ <;> (intro h; try simp only [bT, bF] at h)) | refine AW.block ?_ | refine AW.exit ?_ | refine AW.ret ?_)
        | with_reducible refine ifP ?_
        | with_reducible refine ifN ?_) <;> (try dsimp only))
      all_goals exact Fin.one rfl (RV.tmp (by rfl)) (clo_c _) ⟨by rw [eqL_yes hlen hi.2], rfl⟩

theorem eqFe_s (x y : TFeature) (hx : x.sm) (hy : y.sm) : VCalls Tryz.prog 128 [.agg x.en, .agg y.en] (fun r M => r = B (eqFe x y) ∧ M = []) := by
  refine VCalls.body Tryz.func128 rfl 36 rfl (fun E => ?_)
  simp only [List.reduceReplicate, List.cons_append, List.nil_append]
  have hcx0 : Clo (.ro 2 (x.points.map TPoint.en)) := clo_list TPoint.clo_en
  have hcex : Clo (.agg x.en) := Clo.agg x.clo_en
  have hcy0 : Clo (.ro 2 (y.points.map TPoint.en)) := clo_list TPoint.clo_en
  have hcey : Clo (.agg y.en) := Clo.agg y.clo_en
  have hx' := hx
  obtain p4 := hx
  have hy' := hy
  obtain q4 := hy
  dsimp only [TFeature.en]
  repeat' ((first
    | ((with_reducible show AL ..); first | refine AL.any ?_ | refine AL.U ?_ | refine AL.F ?_ | refine AL.T ?_ | refine AL.T (h := POp.k Tryz.func156 (hc := eqLines_s _ _ (by assumption) (by assumption))) ?_ | refine AL.W ?_ | refine AL.W (h := fun h => by (try rw [h]); exact POp.k Tryz.func156 (hc := eqLines_s _ _ (by assumption) (by assumption))) ?_ | refine AL.nil ?_)
    | ((with_reducible show AW ..); first | refine AW.seq ?_ | refine AW.region ?_ | refine AW.skip ?_ | refine AW.block ?_ | refine AW.exit ?_ | refine AW.ret ?_)) <;> (try dsimp only))
  all_goals exact Fin.one rfl (RV.tmp (by rfl)) (clo_c _) ⟨by first | rfl | (simp only [eqFe, Bool.and_assoc]; done) | (simp only [eqFe]; simp_all), rfl⟩

theorem eqFe_i (x y : TFeature) (hx : x.sm) (hy : y.sm) : VCalls Tryz.prog 159 [.agg x.en, .agg y.en] (fun r M => r = B (eqFe x y) ∧ M = []) := by
  refine VCalls.body Tryz.func159 rfl 36 rfl (fun E => ?_)
  simp only [List.reduceReplicate, List.cons_append, List.nil_append]
  have hcx0 : Clo (.ro 2 (x.points.map TPoint.en)) := clo_list TPoint.clo_en
  have hcex : Clo (.agg x.en) := Clo.agg x.clo_en
  have hcy0 : Clo (.ro 2 (y.points.map TPoint.en)) := clo_list TPoint.clo_en
  have hcey : Clo (.agg y.en) := Clo.agg y.clo_en
  have hx' := hx
  obtain p4 := hx
  have hy' := hy
  obtain q4 := hy
  dsimp only [TFeature.en]
  repeat' ((first
    | ((with_reducible show AL ..); first | refine AL.any ?_ | refine AL.U ?_ | refine AL.F ?_ | refine AL.T ?_ | refine AL.T (h := POp.k Tryz.func178 (hc := eqLines_i _ _ (by assumption) (by assumption))) ?_ | refine AL.W ?_ | refine AL.W (h := fun h => by (try rw [h]); exact POp.k Tryz.func178 (hc := eqLines_i _ _ (by assumption) (by assumption))) ?_ | refine AL.nil ?_)
    | ((with_reducible show AW ..); first | refine AW.seq ?_ | refine AW.region ?_ | refine AW.skip ?_ | refine AW.block ?_ | refine AW.exit ?_ | refine AW.ret ?_)) <;> (try dsimp only))
  all_goals exact Fin.one rfl (RV.tmp (by rfl)) (clo_c _) ⟨by first | rfl | (simp only [eqFe, Bool.and_assoc]; done) | (simp only [eqFe]; simp_all), rfl⟩

theorem eqLogs_s (a b : List TEntry) (hl : a.length ≤ 1048576) (hm : b.length ≤ 1048576) (hp : ∀ x ∈ a, x.sm) (hq : ∀ x ∈ b, x.sm) : VCalls Tryz.prog 95 [.ro 8 (a.map TEntry.en), .ro 8 (b.map TEntry.en)] (fun r M => r = B (eqL eqEn a b) ∧ M = []) := by
  refine VCalls.bodyE Tryz.func95 rfl 66 rfl (fun E hE => ?_)
  simp only [List.reduceReplicate, List.cons_append, List.nil_append]
  have hcla : Clo (.ro 8 (a.map TEntry.en)) := clo_list TEntry.clo_en
  have hclb : Clo (.ro 8 (b.map TEntry.en)) := clo_list TEntry.clo_en
  repeat' ((first
    | ((with_reducible show AL ..); first | refine AL.any ?_ | refine AL.U ?_ | refine AL.F ?_ | refine AL.T ?_ | refine AL.W ?_ | refine AL.nil ?_)
    | ((with_reducible show DL ..); first | refine DL.any ?_ | refine DL.any (h := POp.k Tryz.func128 (hc := by first | exact eqFe_s x y (by assumption) (by assumption) | exact eqFe_s x.feature y.feature (by assumption) (by assumption))) ?_ | refine DL.U ?_ | refine DL.F ?_ | refine DL.T ?_ | refine DL.W ?_ | refine DL.nil ?_)
    | ((with_reducible show AW ..); first | refine AW.seq ?_ | refine AW.region ?_ | refine AW.skip ?_ | (refine AW.loopD hE (fun i : Nat => (.ro 8 (a.map TEntry.en) :: .ro 8 (b.map TEntry.en) :: .any :: .any :: .any :: I i :: .any :: .any :: .any :: .any :: .any :: .any :: .any :: .any :: .any :: .any :: .any :: .any :: .any :: .any :: .any :: .any :: .any :: .any :: .any :: .any :: .any :: .any :: .any :: .any :: .any :: .any :: .any :: .any :: .any :: .any :: .any :: .any :: .any :: .any :: .any :: .any :: .any :: .any :: .any :: .any :: .any :: .any :: .any :: .any :: .any :: .any :: .any :: .any :: .any :: .any :: .any :: .any :: .any :: .any :: .any :: .any :: .any :: .any :: .any :: .any :: .any :: .any :: [])) (fun i => []) (fun i => a.length - i) (fun i => i ≤ a.length ∧ eqTo eqEn a b i = true) 0 (by simp [eqTo_zero]) ?_ (by first | rfl | (simp [fil_zero]; done)) ?_) | refine AW.dr (id := 6) 49 ?_ | refine AW.cT ?_ | refine AW.cF ?_ | (refine AW.c2 ?_ ?_ <;> (intro h; try simp only [bT, bF] at h)) | refine AW.block ?_ | refine AW.exit ?_ | refine AW.ret ?_)
    | with_reducible refine ifP ?_
    | with_reducible refine ifN ?_) <;> (try dsimp only))
  · exact Fin.one rfl (RV.tmp (by rfl)) (clo_c _) ⟨by rw [eqL_len (by assumption)], rfl⟩
  · (repeat' (first | exact Wk.nil | refine Wk.any ?_ | (with_reducible refine Wk.same ?_) | refine Wk.of ?_ ?_)) <;> first | rfl | (simp)
  · intro i hi
    have hcla : Clo (.ro 8 (a.map TEntry.en)) := clo_list TEntry.clo_en
    have hclb : Clo (.ro 8 (b.map TEntry.en)) := clo_list TEntry.clo_en
    have hlen : a.length = b.length := len_of (by assumption)
    by_cases hlt : i < a.length
    · obtain ⟨x, hx⟩ : ∃ x, a[i]? = some x := ⟨_, List.getElem?_eq_getElem hlt⟩
      have hg := map_get (f := TEntry.en) hx
      have ht := lt_true (f := TEntry.en) hlt
      have hn := next_ix hlt (by omega)
      obtain ⟨y, hy⟩ : ∃ y, b[i]? = some y := ⟨_, List.getElem?_eq_getElem (by omega)⟩
      have hgb := map_get (f := TEntry.en) hy
      have hes := eqTo_succ eqEn a b i
      have hea := eqAt_some (f := eqEn) hx hy
      have hpx := hp x (List.mem_of_getElem? hx)
      have hqy := hq y (List.mem_of_getElem? hy)
      have hcx0 : Clo (.ro 2 (x.feature.points.map TPoint.en)) := clo_list TPoint.clo_en
      have hcsx0 : Clo (.agg x.feature.en) := Clo.agg x.feature.clo_en
      have hcex : Clo (.agg x.en) := Clo.agg x.clo_en
      have hcy0 : Clo (.ro 2 (y.feature.points.map TPoint.en)) := clo_list TPoint.clo_en
      have hcsy0 : Clo (.agg y.feature.en) := Clo.agg y.feature.clo_en
      have hcey : Clo (.agg y.en) := Clo.agg y.clo_en
      have hpx' := hpx
      obtain p0 := hpx
      have hqy' := hqy
      obtain q0 := hqy
      repeat' ((first
        | ((with_reducible show AL ..); first | refine AL.any ?_ | refine AL.U ?_ | refine AL.F ?_ | refine AL.T ?_ | refine AL.W ?_ | refine AL.nil ?_)
        | ((with_reducible show DL ..); first | refine DL.any ?_ | refine DL.any (h := POp.k Tryz.func128 (hc := by first | exact eqFe_s x y (by assumption) (by assumption) | exact eqFe_s x.feature y.feature (by assumption) (by assumption))) ?_ | refine DL.U ?_ | refine DL.F ?_ | refine DL.T ?_ | refine DL.W ?_ | refine DL.nil ?_)
        | ((with_reducible show AW ..); first | refine AW.seq ?_ | refine AW.region ?_ | refine AW.skip ?_ | refine AW.dr (id := 6) 49 ?_ | refine AW.cT ?_ | refine AW.cF ?_ | (refine AW.c2 ?_ ?_ <;> (intro h; try simp only [bT, bF] at h)) | refine AW.block ?_ | refine AW.exit ?_ | refine AW.ret ?_)
        | with_reducible refine ifP ?_
        | with_reducible refine ifN ?_) <;> (try dsimp only))
      all_goals first
        | (refine ⟨i + 1, _, ⟨hlt, by rw [hes, hi.2, hea]; (revert h; unfold eqEn; simp only [bne]; generalize eqFe x.feature y.feature = u0; generalize (x.tick == y.tick) = u1; generalize (x.who == y.who) = u2; generalize (x.gone == y.gone) = u3; cases u0 <;> cases u1 <;> cases u2 <;> cases u3 <;> simp)⟩, by omega, ?_, rfl, ?_, ?_⟩; (focus ((repeat' (first | exact Wk.nil | refine Wk.any ?_ | (with_reducible refine Wk.same ?_) | refine Wk.of ?_ ?_)) <;> (first | (rw [hn]; done) | simp_all))); (focus ((repeat' (first | exact Fits.nil _ | refine Fits.cons ?_ ?_ | exact Fits.any _ | exact Fits.c _ _ | exact Fits.own (by rfl) | exact Fits.ref (by rfl) | exact Fits.clo (by assumption) | exact Fits.clo (clo_of (by rfl)) | exact Fits.clo (clo_fn _))))); (focus (exact FitsM.nil _)))
        | exact Fin.one rfl (RV.tmp (by rfl)) (clo_c _) ⟨by rw [eqL_not (f := eqEn) (by rw [hea]; (revert h; unfold eqEn; simp only [bne]; generalize eqFe x.feature y.feature = u0; generalize (x.tick == y.tick) = u1; generalize (x.who == y.who) = u2; generalize (x.gone == y.gone) = u3; cases u0 <;> cases u1 <;> cases u2 <;> cases u3 <;> simp)) hlt], rfl⟩
    · have ht := lt_false (f := TEntry.en) hlt
      have e : i = a.length := by omega
      subst e
      try rw [List.take_length]
      repeat' ((first
        | ((with_reducible show AL ..); first | refine AL.any ?_ | refine AL.U ?_ | refine AL.F ?_ | refine AL.T ?_ | refine AL.W ?_ | refine AL.nil ?_)
        | ((with_reducible show DL ..); first | refine DL.any ?_ | refine DL.any (h := POp.k Tryz.func128 (hc := by first | exact eqFe_s x y (by assumption) (by assumption) | exact eqFe_s x.feature y.feature (by assumption) (by assumption))) ?_ | refine DL.U ?_ | refine DL.F ?_ | refine DL.T ?_ | refine DL.W ?_ | refine DL.nil ?_)
        | ((with_reducible show AW ..); first | refine AW.seq ?_ | refine AW.region ?_ | refine AW.skip ?_ | refine AW.dr (id := 6) 49 ?_ | refine AW.cT ?_ | refine AW.cF ?_ | (refine AW.c2 ?_ ?_ <;> (intro h; try simp only [bT, bF] at h)) | refine AW.block ?_ | refine AW.exit ?_ | refine AW.ret ?_)
        | with_reducible refine ifP ?_
        | with_reducible refine ifN ?_) <;> (try dsimp only))
      all_goals exact Fin.one rfl (RV.tmp (by rfl)) (clo_c _) ⟨by rw [eqL_yes hlen hi.2], rfl⟩

theorem eqEn_i (x y : TEntry) (hx : x.sm) (hy : y.sm) : VCalls Tryz.prog 158 [.agg x.en, .agg y.en] (fun r M => r = B (eqEn x y) ∧ M = []) := by
  refine VCalls.body Tryz.func158 rfl 29 rfl (fun E => ?_)
  simp only [List.reduceReplicate, List.cons_append, List.nil_append]
  have hcx0 : Clo (.ro 2 (x.feature.points.map TPoint.en)) := clo_list TPoint.clo_en
  have hcsx0 : Clo (.agg x.feature.en) := Clo.agg x.feature.clo_en
  have hcex : Clo (.agg x.en) := Clo.agg x.clo_en
  have hcy0 : Clo (.ro 2 (y.feature.points.map TPoint.en)) := clo_list TPoint.clo_en
  have hcsy0 : Clo (.agg y.feature.en) := Clo.agg y.feature.clo_en
  have hcey : Clo (.agg y.en) := Clo.agg y.clo_en
  have hx' := hx
  obtain p0 := hx
  have hy' := hy
  obtain q0 := hy
  dsimp only [TEntry.en]
  repeat' ((first
    | ((with_reducible show AL ..); first | refine AL.any ?_ | refine AL.U ?_ | refine AL.F ?_ | refine AL.T ?_ | refine AL.T (h := POp.k Tryz.func159 (hc := by first | exact eqFe_i x y (by assumption) (by assumption) | exact eqFe_i x.feature y.feature (by assumption) (by assumption))) ?_ | refine AL.W ?_ | refine AL.W (h := fun h => by (try rw [h]); exact POp.k Tryz.func159 (hc := by first | exact eqFe_i x y (by assumption) (by assumption) | exact eqFe_i x.feature y.feature (by assumption) (by assumption))) ?_ | refine AL.nil ?_)
    | ((with_reducible show AW ..); first | refine AW.seq ?_ | refine AW.region ?_ | refine AW.skip ?_ | refine AW.block ?_ | refine AW.exit ?_ | refine AW.ret ?_)) <;> (try dsimp only))
  all_goals exact Fin.one rfl (RV.tmp (by rfl)) (clo_c _) ⟨by first | rfl | (simp only [eqEn, Bool.and_assoc]; done) | (simp only [eqEn]; simp_all), rfl⟩

theorem eqLogsF (a b : List TEntry) (hl : a.length ≤ 1048576) (hm : b.length ≤ 1048576) (hp : ∀ x ∈ a, x.sm) (hq : ∀ x ∈ b, x.sm) : VCalls Tryz.prog 157 [.ro 8 (a.map TEntry.en), .ro 8 (b.map TEntry.en), .fn 158 []] (fun r M => r = B (eqL eqEn a b) ∧ M = []) := by
  refine VCalls.bodyE Tryz.func157 rfl 29 rfl (fun E hE => ?_)
  simp only [List.reduceReplicate, List.cons_append, List.nil_append]
  have hcla : Clo (.ro 8 (a.map TEntry.en)) := clo_list TEntry.clo_en
  have hclb : Clo (.ro 8 (b.map TEntry.en)) := clo_list TEntry.clo_en
  repeat' ((first
    | ((with_reducible show AL ..); first | refine AL.any (h := POp.kc Tryz.func158 (hc := eqEn_i x y (by assumption) (by assumption))) ?_ | refine AL.any ?_ | refine AL.nil ?_)
    | ((with_reducible show AW ..); first | refine AW.seq ?_ | refine AW.region ?_ | refine AW.skip ?_ | (refine AW.loopD hE (fun i : Nat => [.any, .ro 8 (b.map TEntry.en), .fn 158 [], .any, .any, .any, .any, .any, .any, .any, .any, .any, .any, .any, .any, .ro 8 (a.map TEntry.en), I (a.map TEntry.en).length, I i, .any, .any, .any, .any, .any, .any, .any, .any, .any, .any, .any, .any, .any, .any]) (fun i => []) (fun i => a.length - i) (fun i => i ≤ a.length ∧ eqTo eqEn a b i = true) 0 (by simp [eqTo_zero]) ?_ (by first | rfl | (simp [fil_zero]; done)) ?_) | refine AW.cT ?_ | refine AW.cF ?_ | (refine AW.c2 ?_ ?_ <;> (intro h; try simp only [bT, bF] at h)) | refine AW.block ?_ | refine AW.exit ?_ | refine AW.ret ?_)
    | with_reducible refine ifP ?_
    | with_reducible refine ifN ?_) <;> (try dsimp only))
  · exact Fin.one rfl (RV.tmp (by rfl)) (clo_c _) ⟨by rw [eqL_len (by assumption)], rfl⟩
  · (repeat' (first | exact Wk.nil | refine Wk.any ?_ | (with_reducible refine Wk.same ?_) | refine Wk.of ?_ ?_)) <;> first | rfl | (simp)
  · intro i hi
    have hcla : Clo (.ro 8 (a.map TEntry.en)) := clo_list TEntry.clo_en
    have hclb : Clo (.ro 8 (b.map TEntry.en)) := clo_list TEntry.clo_en
    have hlen : a.length = b.length := len_of (by assumption)
    by_cases hlt : i < a.length
    · obtain ⟨x, hx⟩ : ∃ x, a[i]? = some x := ⟨_, List.getElem?_eq_getElem hlt⟩
      have hg := map_get (f := TEntry.en) hx
      have ht := lt_true (f := TEntry.en) hlt
      have hn := next_ix hlt (by omega)
      obtain ⟨y, hy⟩ : ∃ y, b[i]? = some y := ⟨_, List.getElem?_eq_getElem (by omega)⟩
      have hgb := map_get (f := TEntry.en) hy
      have hes := eqTo_succ eqEn a b i
      have hea := eqAt_some (f := eqEn) hx hy
      have hpx := hp x (List.mem_of_getElem? hx)
      have hqy := hq y (List.mem_of_getElem? hy)
      have hcx0 : Clo (.ro 2 (x.feature.points.map TPoint.en)) := clo_list TPoint.clo_en
      have hcsx0 : Clo (.agg x.feature.en) := Clo.agg x.feature.clo_en
      have hcex : Clo (.agg x.en) := Clo.agg x.clo_en
      have hcy0 : Clo (.ro 2 (y.feature.points.map TPoint.en)) := clo_list TPoint.clo_en
      have hcsy0 : Clo (.agg y.feature.en) := Clo.agg y.feature.clo_en
      have hcey : Clo (.agg y.en) := Clo.agg y.clo_en
      have hpx' := hpx
      obtain p0 := hpx
      have hqy' := hqy
      obtain q0 := hqy
      repeat' ((first
        | ((with_reducible show AL ..); first | refine AL.any (h := POp.kc Tryz.func158 (hc := eqEn_i x y (by assumption) (by assumption))) ?_ | refine AL.any ?_ | refine AL.nil ?_)
        | ((with_reducible show AW ..); first | refine AW.seq ?_ | refine AW.region ?_ | refine AW.skip ?_ | refine AW.cT ?_ | refine AW.cF ?_ | (refine AW.c2 ?_ ?_ <;> (intro h; try simp only [bT, bF] at h)) | refine AW.block ?_ | refine AW.exit ?_ | refine AW.ret ?_)
        | with_reducible refine ifP ?_
        | with_reducible refine ifN ?_) <;> (try dsimp only))
      all_goals first
        | (refine ⟨i + 1, _, ⟨hlt, by rw [hes, hi.2, hea]; simp_all⟩, by omega, ?_, rfl, ?_, ?_⟩; (focus ((repeat' (first | exact Wk.nil | refine Wk.any ?_ | (with_reducible refine Wk.same ?_) | refine Wk.of ?_ ?_)) <;> (first | (rw [hn]; done) | simp_all))); (focus ((repeat' (first | exact Fits.nil _ | refine Fits.cons ?_ ?_ | exact Fits.any _ | exact Fits.c _ _ | exact Fits.own (by rfl) | exact Fits.ref (by rfl) | exact Fits.clo (by assumption) | exact Fits.clo (clo_of (by rfl)) | exact Fits.clo (clo_fn _))))); (focus (exact FitsM.nil _)))
        | exact Fin.one rfl (RV.tmp (by rfl)) (clo_c _) ⟨by rw [eqL_not (f := eqEn) (by rw [hea]; simp_all) hlt], rfl⟩
    · have ht := lt_false (f := TEntry.en) hlt
      have e : i = a.length := by omega
      subst e
      try rw [List.take_length]
      repeat' ((first
        | ((with_reducible show AL ..); first | refine AL.any (h := POp.kc Tryz.func158 (hc := eqEn_i x y (by assumption) (by assumption))) ?_ | refine AL.any ?_ | refine AL.nil ?_)
        | ((with_reducible show AW ..); first | refine AW.seq ?_ | refine AW.region ?_ | refine AW.skip ?_ | refine AW.cT ?_ | refine AW.cF ?_ | (refine AW.c2 ?_ ?_ <;> (intro h; try simp only [bT, bF] at h)) | refine AW.block ?_ | refine AW.exit ?_ | refine AW.ret ?_)
        | with_reducible refine ifP ?_
        | with_reducible refine ifN ?_) <;> (try dsimp only))
      all_goals exact Fin.one rfl (RV.tmp (by rfl)) (clo_c _) ⟨by rw [eqL_yes hlen hi.2], rfl⟩

theorem eqLogs_i (a b : List TEntry) (hl : a.length ≤ 1048576) (hm : b.length ≤ 1048576) (hp : ∀ x ∈ a, x.sm) (hq : ∀ x ∈ b, x.sm) : VCalls Tryz.prog 130 [.ro 8 (a.map TEntry.en), .ro 8 (b.map TEntry.en)] (fun r M => r = B (eqL eqEn a b) ∧ M = []) := by
  refine VCalls.body Tryz.func130 rfl 6 rfl (fun E => ?_)
  simp only [List.reduceReplicate, List.cons_append, List.nil_append]
  have hcla : Clo (.ro 8 (a.map TEntry.en)) := clo_list TEntry.clo_en
  have hclb : Clo (.ro 8 (b.map TEntry.en)) := clo_list TEntry.clo_en
  repeat' ((first
    | ((with_reducible show AL ..); first | refine AL.any ?_ | refine AL.any (h := POp.k Tryz.func157 (hc := eqLogsF _ _ (by assumption) (by assumption) (by assumption) (by assumption))) ?_ | refine AL.nil ?_)
    | ((with_reducible show AW ..); first | refine AW.seq ?_ | refine AW.region ?_ | refine AW.skip ?_ | refine AW.block ?_ | refine AW.exit ?_ | refine AW.ret ?_)) <;> (try dsimp only))
  all_goals exact Fin.one rfl (RV.tmp (by rfl)) (clo_c _) ⟨rfl, rfl⟩

theorem eqAt_comm {α : Type} {f : α → α → Bool} (h : ∀ x y, f x y = f y x) (a b : List α) (i : Nat) : eqAt f a b i = eqAt f b a i := by
  unfold eqAt
  cases a[i]? <;> cases b[i]? <;> simp [h]
theorem eqL_comm {α : Type} {f : α → α → Bool} (h : ∀ x y, f x y = f y x) (a b : List α) : eqL f a b = eqL f b a := by
  unfold eqL
  by_cases e : a.length = b.length
  · rw [e]
    congr 1
    unfold eqTo
    congr 1
    funext i
    exact eqAt_comm h a b i
  · have e1 : (((a.length : Nat) : Int) == ((b.length : Nat) : Int)) = false := by simp; omega
    have e2 : (((b.length : Nat) : Int) == ((a.length : Nat) : Int)) = false := by simp; omega
    rw [e1, e2]
    rfl
theorem eqFe_comm (x y : TFeature) : eqFe x y = eqFe y x := by
  unfold eqFe
  rw [Bool.beq_comm (a := x.id), Bool.beq_comm (a := x.kind), Bool.beq_comm (a := x.rank), Bool.beq_comm (a := x.name.toList), eqL_comm (fun a b => by show (eqV _ _ && (eqV _ _ && true)) = (eqV _ _ && (eqV _ _ && true)); simp only [eqV]; rw [Bool.beq_comm (a := a.x), Bool.beq_comm (a := a.y)]) x.points]
theorem eqEn_comm (x y : TEntry) : eqEn x y = eqEn y x := by
  unfold eqEn
  rw [Bool.beq_comm (a := x.tick), Bool.beq_comm (a := x.who), Bool.beq_comm (a := x.gone), eqFe_comm]
def logO (a : TAtlas) (y : TEntry) : TAtlas := { a with log := takeE a.log y }
def logK (a : TAtlas) (y : TEntry) : Bool := !eqL eqEn a.log (takeE a.log y)
theorem logO_gd {a : TAtlas} {y : TEntry} (h : a.gd) (hy : y.feature.gd) : (logO a y).gd := ⟨⟨takeE_len h.1.1, takeE_all h.1.2 hy⟩, h.2⟩
theorem logO_sm {a : TAtlas} {y : TEntry} (h : a.sm) (hy : y.feature.sm) : (logO a y).sm := ⟨⟨takeE_len h.1.1, takeE_all (p := fun x => x.feature.sm) h.1.2 hy⟩, h.2⟩
def putE (a : TAtlas) (f : TFeature) (who : Int) : TEntry := ⟨f, a.now, who, false⟩
theorem eqLogs_iC (a b : List TEntry) (hl : a.length ≤ 1048576) (hm : b.length ≤ 1048576) (hp : ∀ x ∈ a, x.sm) (hq : ∀ x ∈ b, x.sm) : VCalls Tryz.prog 130 [.ro 8 (b.map TEntry.en), .ro 8 (a.map TEntry.en)] (fun r M => r = B (eqL eqEn a b) ∧ M = []) := eqL_comm eqEn_comm b a ▸ eqLogs_i b a hm hl hq hp
theorem logged_i (a : TAtlas) (hgd : a.gd) (y : TEntry) (hy : y.feature.gd) : VCalls Tryz.prog 97 [.agg a.en, .agg y.en] (fun r M => r = .tup [.agg (stp a (logO a y) (logK a y)).eo, B (stpB a (logO a y) (logK a y))] ∧ M = (stp a (logO a y) (logK a y)).rw) := by
  refine VCalls.body Tryz.func97 rfl 23 rfl (fun E => ?_)
  simp only [List.reduceReplicate, List.cons_append, List.nil_append]
  have hgs := hgd.gs
  have hclA : Clo (.agg a.en) := Clo.agg a.clo_en
  have hclL : Clo (.ro 8 (a.log.map TEntry.en)) := clo_list TEntry.clo_en
  have hclV : Clo (.ro 3 (a.levels.map TLevel.en)) := clo_list TLevel.clo_en
  have hclE : Clo (.ro 3 (a.editions.map TEdition.en)) := clo_list TEdition.clo_en
  have hclY : Clo (.agg y.en) := Clo.agg y.clo_en
  have hclP : Clo (.ro 2 (y.feature.points.map TPoint.en)) := clo_list TPoint.clo_en
  dsimp only [TAtlas.en]
  repeat' ((first
    | ((with_reducible show AL ..); first | refine AL.any ?_ | refine AL.any (h := POp.O Tryz.func75 (hc := cpA_iX a (by assumption))) ?_ | refine AL.any (h := POp.O Tryz.func124 (hc := take_i a.log y hgd.1.1 hgd.1.2 hy)) ?_ | refine AL.nil ?_)
    | ((with_reducible show DL ..); first | refine DL.any ?_ | refine DL.any (h := POp.G [7, 4, 5] Tryz.func76 (hc := stepped_iX a (logO a y) (logK a y) hgd (logO_gd hgd hy))) ?_ | refine DL.any (h := POp.D Tryz.func130 (hc := eqLogs_iC a.log (takeE a.log y) hgd.1.1 (takeE_len hgd.1.1) (fun x hx => (hgd.1.2 x hx).1) (fun x hx => (takeE_all hgd.1.2 hy x hx).1))) ?_ | refine DL.nil ?_)
    | ((with_reducible show DLS ..); first | refine DLS.bef ?_ | refine DLS.any ?_ | refine DLS.st ?_ | refine DLS.bef (h := POp.G [7, 4, 5] Tryz.func76 (hc := stepped_iX a (logO a y) (logK a y) hgd (logO_gd hgd hy))) ?_ | refine DLS.bef (h := POp.D Tryz.func130 (hc := eqLogs_iC a.log (takeE a.log y) hgd.1.1 (takeE_len hgd.1.1) (fun x hx => (hgd.1.2 x hx).1) (fun x hx => (takeE_all hgd.1.2 hy x hx).1))) ?_ | refine DLS.any (h := POp.G [7, 4, 5] Tryz.func76 (hc := stepped_iX a (logO a y) (logK a y) hgd (logO_gd hgd hy))) (h2 := POp.G [7, 4, 5] Tryz.func76 (hc := stepped_iX a (logO a y) (logK a y) hgd (logO_gd hgd hy))) ?_ | refine DLS.any (h := POp.D Tryz.func130 (hc := eqLogs_iC a.log (takeE a.log y) hgd.1.1 (takeE_len hgd.1.1) (fun x hx => (hgd.1.2 x hx).1) (fun x hx => (takeE_all hgd.1.2 hy x hx).1))) (h2 := POp.D Tryz.func130 (hc := eqLogs_iC a.log (takeE a.log y) hgd.1.1 (takeE_len hgd.1.1) (fun x hx => (hgd.1.2 x hx).1) (fun x hx => (takeE_all hgd.1.2 hy x hx).1))) ?_ | refine DLS.st (h := POp.G [7, 4, 5] Tryz.func76 (hc := stepped_iX a (logO a y) (logK a y) hgd (logO_gd hgd hy))) ?_ | refine DLS.nil ?_)
    | ((with_reducible show AW ..); first | refine AW.seq ?_ | refine AW.region ?_ | refine AW.skip ?_ | (refine' AW.drS (id := 3) 11 8 255 _ ?_) | refine AW.dr (id := 3) 11 ?_ | refine AW.block ?_ | refine AW.exit ?_ | refine AW.ret ?_)) <;> (try dsimp only))
  all_goals first
    | (exact Fin.r2 [8, 9, 10] rfl (RV.cell (QOp.quietA TT_ok (by rfl))) (RV.tmp (by rfl)) ⟨rfl, rfl⟩)

theorem put_i (a : TAtlas) (hgd : a.gd) (f : TFeature) (hf : f.gd) (who : Int) : VCalls Tryz.prog 43 [.agg a.en, .agg f.en, I who] (fun r M => r = .tup [.agg (stp a (logO a (putE a f who)) (logK a (putE a f who))).eo, B (stpB a (logO a (putE a f who)) (logK a (putE a f who)))] ∧ M = (stp a (logO a (putE a f who)) (logK a (putE a f who))).rw) := by
  refine VCalls.body Tryz.func43 rfl 14 rfl (fun E => ?_)
  simp only [List.reduceReplicate, List.cons_append, List.nil_append]
  have hgs := hgd.gs
  have hclA : Clo (.agg a.en) := Clo.agg a.clo_en
  have hclL : Clo (.ro 8 (a.log.map TEntry.en)) := clo_list TEntry.clo_en
  have hclV : Clo (.ro 3 (a.levels.map TLevel.en)) := clo_list TLevel.clo_en
  have hclE : Clo (.ro 3 (a.editions.map TEdition.en)) := clo_list TEdition.clo_en
  have hclF : Clo (.agg f.en) := Clo.agg f.clo_en
  have hclP : Clo (.ro 2 (f.points.map TPoint.en)) := clo_list TPoint.clo_en
  dsimp only [TAtlas.en]
  repeat' ((first
    | ((with_reducible show AL ..); first | refine AL.any ?_ | refine AL.any (h := POp.O Tryz.func97 (hc := (show VCalls Tryz.prog 97 [.agg [.ro 8 (a.log.map TEntry.en), .ro 3 (a.levels.map TLevel.en), .ro 3 (a.editions.map TEdition.en), I a.cover.w, I a.cover.h, S a.cover.cells, I a.now], .agg (putE a f who).en] (fun r M => r = .tup [.agg [.own 0 0, .own 1 0, .own 2 0, I (stp a (logO a (putE a f who)) (logK a (putE a f who))).cover.w, I (stp a (logO a (putE a f who)) (logK a (putE a f who))).cover.h, S (stp a (logO a (putE a f who)) (logK a (putE a f who))).cover.cells, I (stp a (logO a (putE a f who)) (logK a (putE a f who))).now], B (stpB a (logO a (putE a f who)) (logK a (putE a f who)))] ∧ M = [some ⟨121, 8, 0, false, (stp a (logO a (putE a f who)) (logK a (putE a f who))).log.map TEntry.ed⟩, some ⟨97, 3, 0, false, (stp a (logO a (putE a f who)) (logK a (putE a f who))).levels.map TLevel.en⟩, some ⟨136, 3, 0, false, (stp a (logO a (putE a f who)) (logK a (putE a f who))).editions.map TEdition.ed⟩]) from logged_i a hgd (putE a f who) hf))) ?_ | refine AL.nil ?_)
    | ((with_reducible show AW ..); first | refine AW.seq ?_ | refine AW.region ?_ | refine AW.skip ?_ | refine AW.block ?_ | refine AW.exit ?_ | refine AW.ret ?_)) <;> (try dsimp only))
  all_goals first
    | (exact Fin.r2 [3, 4, 5] rfl (RV.cell (QOp.quietA TT_ok (by rfl))) (RV.tmp (by rfl)) ⟨rfl, rfl⟩)

theorem put_s (a : TAtlas) (hgd : a.gd) (f : TFeature) (hf : f.gd) (who : Int) : VCalls Tryz.prog 41 [.agg a.en, .agg f.en, I who] (fun r M => r = .tup [.agg (stp a (logO a (putE a f who)) (logK a (putE a f who))).eo, B (stpB a (logO a (putE a f who)) (logK a (putE a f who)))] ∧ M = (stp a (logO a (putE a f who)) (logK a (putE a f who))).rw) := by
  refine VCalls.body Tryz.func41 rfl 28 rfl (fun E => ?_)
  simp only [List.reduceReplicate, List.cons_append, List.nil_append]
  have hgs := hgd.gs
  have hclA : Clo (.agg a.en) := Clo.agg a.clo_en
  have hclL : Clo (.ro 8 (a.log.map TEntry.en)) := clo_list TEntry.clo_en
  have hclV : Clo (.ro 3 (a.levels.map TLevel.en)) := clo_list TLevel.clo_en
  have hclE : Clo (.ro 3 (a.editions.map TEdition.en)) := clo_list TEdition.clo_en
  have hclF : Clo (.agg f.en) := Clo.agg f.clo_en
  have hclP : Clo (.ro 2 (f.points.map TPoint.en)) := clo_list TPoint.clo_en
  dsimp only [TAtlas.en]
  repeat' ((first
    | ((with_reducible show AL ..); first | refine AL.any ?_ | refine AL.any (h := POp.O Tryz.func60 (hc := cpA_sX a (by assumption))) ?_ | refine AL.any (h := POp.O Tryz.func94 (hc := take_s a.log (putE a f who) hgd.1.1 hgd.1.2 hf)) ?_ | refine AL.nil ?_)
    | ((with_reducible show DL ..); first | refine DL.any ?_ | refine DL.any (h := POp.G [7, 4, 5] Tryz.func73 (hc := stepped_sX a (logO a (putE a f who)) (logK a (putE a f who)) hgd (logO_gd hgd hf))) ?_ | refine DL.any (h := POp.D Tryz.func95 (hc := eqLogs_s a.log (takeE a.log (putE a f who)) hgd.1.1 (takeE_len hgd.1.1) (fun x hx => (hgd.1.2 x hx).1) (fun x hx => (takeE_all hgd.1.2 hf x hx).1))) ?_ | refine DL.nil ?_)
    | ((with_reducible show DLS ..); first | refine DLS.bef ?_ | refine DLS.any ?_ | refine DLS.st ?_ | refine DLS.bef (h := POp.G [7, 4, 5] Tryz.func73 (hc := stepped_sX a (logO a (putE a f who)) (logK a (putE a f who)) hgd (logO_gd hgd hf))) ?_ | refine DLS.bef (h := POp.D Tryz.func95 (hc := eqLogs_s a.log (takeE a.log (putE a f who)) hgd.1.1 (takeE_len hgd.1.1) (fun x hx => (hgd.1.2 x hx).1) (fun x hx => (takeE_all hgd.1.2 hf x hx).1))) ?_ | refine DLS.any (h := POp.G [7, 4, 5] Tryz.func73 (hc := stepped_sX a (logO a (putE a f who)) (logK a (putE a f who)) hgd (logO_gd hgd hf))) (h2 := POp.G [7, 4, 5] Tryz.func73 (hc := stepped_sX a (logO a (putE a f who)) (logK a (putE a f who)) hgd (logO_gd hgd hf))) ?_ | refine DLS.any (h := POp.D Tryz.func95 (hc := eqLogs_s a.log (takeE a.log (putE a f who)) hgd.1.1 (takeE_len hgd.1.1) (fun x hx => (hgd.1.2 x hx).1) (fun x hx => (takeE_all hgd.1.2 hf x hx).1))) (h2 := POp.D Tryz.func95 (hc := eqLogs_s a.log (takeE a.log (putE a f who)) hgd.1.1 (takeE_len hgd.1.1) (fun x hx => (hgd.1.2 x hx).1) (fun x hx => (takeE_all hgd.1.2 hf x hx).1))) ?_ | refine DLS.st (h := POp.G [7, 4, 5] Tryz.func73 (hc := stepped_sX a (logO a (putE a f who)) (logK a (putE a f who)) hgd (logO_gd hgd hf))) ?_ | refine DLS.nil ?_)
    | ((with_reducible show AW ..); first | refine AW.seq ?_ | refine AW.region ?_ | refine AW.skip ?_ | (refine' AW.drS (id := 3) 11 8 255 _ ?_) | refine AW.dr (id := 3) 11 ?_ | refine AW.block ?_ | refine AW.exit ?_ | refine AW.ret ?_)) <;> (try dsimp only))
  all_goals first
    | (exact Fin.r2 [8, 9, 10] rfl (RV.cell (QOp.quietA TT_ok (by rfl))) (RV.tmp (by rfl)) ⟨rfl, rfl⟩)

theorem put_i' (a : TAtlas) (hgd : a.gd) (f : TFeature) (hf : f.gd) (who : Int) : VCalls Tryz.prog 43 [.agg a.en, .agg f.en, I who] (fun r M => r = .tup [.agg (stp a (logO a (putE a f who)) (logK a (putE a f who))).en, B (stpB a (logO a (putE a f who)) (logK a (putE a f who)))] ∧ M = []) := VCalls.frz (put_i a hgd f hf who) (by exact VwL.cons (View.tup' vwlT) VwL.nil)
theorem put_s' (a : TAtlas) (hgd : a.gd) (f : TFeature) (hf : f.gd) (who : Int) : VCalls Tryz.prog 41 [.agg a.en, .agg f.en, I who] (fun r M => r = .tup [.agg (stp a (logO a (putE a f who)) (logK a (putE a f who))).en, B (stpB a (logO a (putE a f who)) (logK a (putE a f who)))] ∧ M = []) := VCalls.frz (put_s a hgd f hf who) (by exact VwL.cons (View.tup' vwlT) VwL.nil)
def TFeature.cs (x : TFeature) : Nat := ctL TPoint.ct x.points
def TFeature.ms (k : Int) (x : TFeature) : TFeature := ⟨x.id, x.kind, x.rank, x.name, mkL TPoint.mrk TPoint.ct (k) x.points⟩
theorem markFeature (x : TFeature) (k : Int) (h0 : 0 ≤ k) (hb : k + ((x.cs : Nat) : Int) ≤ 4611686018427387904) : ACalls Tryz.prog 45 [.agg x.eo, I k] x.rw (fun r M => r = I (k + ((x.cs : Nat) : Int)) ∧ ∃ Mx, M = [(⟨152, 2, 0, false, (x.ms k).points.map TPoint.en⟩ : Blk)].map some ++ Mx) := by
  have hcs : x.cs = ctL TPoint.ct x.points := rfl
  have hend : k + ((ctL TPoint.ct x.points : Nat) : Int) = k + ((x.cs : Nat) : Int) := by omega
  refine ACalls.body Tryz.func45 rfl 8 rfl (fun E hE => ?_)
  dsimp only [TFeature.eo, TFeature.rw]
  simp only [List.reduceReplicate, List.cons_append, List.nil_append]
  repeat' ((first
    | ((with_reducible show AL ..); first | refine AL.any ?_ | refine AL.any (h := POp.H [0] Tryz.func92 (hc := markPointS 152 x.points (k) (by omega) (by omega))) ?_ | refine AL.nil ?_)
    | ((with_reducible show AW ..); first | refine AW.seq ?_ | refine AW.region ?_ | refine AW.skip ?_ | refine AW.block ?_ | refine AW.exit ?_ | refine AW.ret ?_)) <;> (try dsimp only))
  all_goals exact FinA.one rfl (RV.tmp (by rfl)) ⟨by rw [← hend], [_], rfl⟩

def TAtlas.cs (x : TAtlas) : Nat := ctL TEntry.ct x.log + ctL TLevel.ct x.levels + ctL TEdition.ct x.editions
def TAtlas.ms (k : Int) (x : TAtlas) : TAtlas := ⟨mkL TEntry.mrk TEntry.ct (k) x.log, mkL TLevel.mrk TLevel.ct (k + ((ctL TEntry.ct x.log : Nat) : Int)) x.levels, mkL TEdition.mrk TEdition.ct (k + ((ctL TEntry.ct x.log : Nat) : Int) + ((ctL TLevel.ct x.levels : Nat) : Int)) x.editions, x.cover, x.now⟩
theorem markAtlas (x : TAtlas) (k : Int) (h0 : 0 ≤ k) (hb : k + ((x.cs : Nat) : Int) ≤ 4611686018427387904) : ACalls Tryz.prog 22 [.agg x.eo, I k] x.rw (fun r M => r = I (k + ((x.cs : Nat) : Int)) ∧ ∃ Mx, M = [(⟨121, 8, 0, false, (x.ms k).log.map TEntry.ed⟩ : Blk), (⟨97, 3, 0, false, (x.ms k).levels.map TLevel.en⟩ : Blk), (⟨136, 3, 0, false, (x.ms k).editions.map TEdition.ed⟩ : Blk)].map some ++ Mx) := by
  have hcs : x.cs = ctL TEntry.ct x.log + ctL TLevel.ct x.levels + ctL TEdition.ct x.editions := rfl
  have hend : k + ((ctL TEntry.ct x.log : Nat) : Int) + ((ctL TLevel.ct x.levels : Nat) : Int) + ((ctL TEdition.ct x.editions : Nat) : Int) = k + ((x.cs : Nat) : Int) := by omega
  refine ACalls.body Tryz.func22 rfl 16 rfl (fun E hE => ?_)
  dsimp only [TAtlas.eo, TAtlas.rw]
  simp only [List.reduceReplicate, List.cons_append, List.nil_append]
  repeat' ((first
    | ((with_reducible show AL ..); first | refine AL.any ?_ | refine AL.any (h := POp.H [1] Tryz.func21 (hc := markLevelS 97 x.levels (k + ((ctL TEntry.ct x.log : Nat) : Int)) (by omega) (by omega))) ?_ | refine AL.any (h := POp.H [0] Tryz.func39 (hc := markEntryS 121 x.log (k) (by omega) (by omega))) ?_ | refine AL.any (h := POp.H [2] Tryz.func68 (hc := markEditionS 136 x.editions (k + ((ctL TEntry.ct x.log : Nat) : Int) + ((ctL TLevel.ct x.levels : Nat) : Int)) (by omega) (by omega))) ?_ | refine AL.nil ?_)
    | ((with_reducible show AW ..); first | refine AW.seq ?_ | refine AW.region ?_ | refine AW.skip ?_ | refine AW.block ?_ | refine AW.exit ?_ | refine AW.ret ?_)) <;> (try dsimp only))
  all_goals exact FinA.one rfl (RV.tmp (by rfl)) ⟨by rw [← hend], [_], rfl⟩

theorem heldAtlas (x : TAtlas) (k : Int) (h0 : 0 ≤ k) (hb : k + ((x.cs : Nat) : Int) ≤ 4611686018427387904) : VCalls Tryz.prog 23 [.agg (x.ms k).en, I k] (fun r M => r = I (k + ((x.cs : Nat) : Int)) ∧ M = []) := by
  have hcs : x.cs = ctL TEntry.ct x.log + ctL TLevel.ct x.levels + ctL TEdition.ct x.editions := rfl
  have hend : k + ((ctL TEntry.ct x.log : Nat) : Int) + ((ctL TLevel.ct x.levels : Nat) : Int) + ((ctL TEdition.ct x.editions : Nat) : Int) = k + ((x.cs : Nat) : Int) := by omega
  have hnn0 : decide (k + ((ctL TEntry.ct x.log : Nat) : Int) < 0) = false := by simp; omega
  have hcr0 : Clo (.ro 8 ((mkL TEntry.mrk TEntry.ct (k) x.log).map TEntry.en)) := clo_list TEntry.clo_en
  have hnn1 : decide (k + ((ctL TEntry.ct x.log : Nat) : Int) + ((ctL TLevel.ct x.levels : Nat) : Int) < 0) = false := by simp; omega
  have hcr1 : Clo (.ro 3 ((mkL TLevel.mrk TLevel.ct (k + ((ctL TEntry.ct x.log : Nat) : Int)) x.levels).map TLevel.en)) := clo_list TLevel.clo_en
  have hnn2 : decide (k + ((ctL TEntry.ct x.log : Nat) : Int) + ((ctL TLevel.ct x.levels : Nat) : Int) + ((ctL TEdition.ct x.editions : Nat) : Int) < 0) = false := by simp; omega
  have hcr2 : Clo (.ro 3 ((mkL TEdition.mrk TEdition.ct (k + ((ctL TEntry.ct x.log : Nat) : Int) + ((ctL TLevel.ct x.levels : Nat) : Int)) x.editions).map TEdition.en)) := clo_list TEdition.clo_en
  refine VCalls.body Tryz.func23 rfl 22 rfl (fun E => ?_)
  dsimp only [TAtlas.en, TAtlas.ms]
  simp only [List.reduceReplicate, List.cons_append, List.nil_append]
  repeat' ((first
    | ((with_reducible show AL ..); first | refine AL.any ?_ | refine AL.any (h := POp.k Tryz.func69 (hc := heldEntryS x.log (k) (by omega) (by omega))) ?_ | refine AL.any (h := POp.k Tryz.func70 (hc := heldLevelS x.levels (k + ((ctL TEntry.ct x.log : Nat) : Int)) (by omega) (by omega))) ?_ | refine AL.any (h := POp.k Tryz.func71 (hc := heldEditionS x.editions (k + ((ctL TEntry.ct x.log : Nat) : Int) + ((ctL TLevel.ct x.levels : Nat) : Int)) (by omega) (by omega))) ?_ | refine AL.nil ?_)
    | ((with_reducible show AW ..); first | refine AW.seq ?_ | refine AW.region ?_ | refine AW.skip ?_ | refine AW.cT ?_ | refine AW.cF ?_ | (refine AW.c2 ?_ ?_ <;> (intro h; try simp only [bT, bF] at h)) | refine AW.block ?_ | refine AW.exit ?_ | refine AW.ret ?_)) <;> (try dsimp only))
  all_goals exact Fin.one rfl (RV.tmp (by rfl)) (clo_c _) ⟨by rw [← hend], rfl⟩

theorem stp_ind {a o : TAtlas} {ok : Bool} {p : TAtlas → Prop} (ha : p a) (ho : p o) : p (stp a o ok) := by unfold stp; split <;> assumption
theorem ctL_en {l : List TEntry} (hl : l.length ≤ 1048576) (hp : ∀ x ∈ l, x.feature.points.length ≤ 1048576) : ctL TEntry.ct l ≤ 2199030595584 := by
  have h := ctL_bd (ct := TEntry.ct) (c := 2097159) (l := l) fun x hx => by
    have h1 := ctL_pt x.feature.points
    have h2 := hp x hx
    unfold TEntry.ct
    omega
  omega
theorem ctL_lv (l : List TLevel) : ctL TLevel.ct l ≤ l.length * 3 := ctL_bd fun _ _ => Nat.le_refl 3
theorem ctL_ed {l : List TEdition} (hl : l.length ≤ 1048576) (hp : ∀ e ∈ l, e.source.length ≤ 1048576 ∧ ∀ x ∈ e.source, x.points.length ≤ 1048576) : ctL TEdition.ct l ≤ 2305847407260205056 + 2097152 := by
  have h := ctL_bd (ct := TEdition.ct) (c := 2199027449858) (l := l) fun x hx => by
    have h2 := hp x hx
    have h1 := ctL_ft h2.1 h2.2
    unfold TEdition.ct
    omega
  omega
theorem TAtlas.cs_le {a : TAtlas} (h : a.sm) : a.cs ≤ 3000000000000000000 := by
  obtain ⟨⟨h1, h2⟩, h3, h4, h5⟩ := h
  have e1 := ctL_en h1 (fun x hx => h2 x hx)
  have e2 := ctL_lv a.levels
  have e3 := ctL_ed h4 (fun x hx => ⟨(h5 x hx).1, fun y hy => (h5 x hx).2 y hy⟩)
  unfold TAtlas.cs
  omega

theorem toAtlas_oX (a : TAtlas) (hs : a.sm) : VCalls Tryz.prog 26 [.agg [.ro 8 (a.log.map TEntry.en), .ro 3 (a.levels.map TLevel.en), .ro 3 (a.editions.map TEdition.en), I a.cover.w, I a.cover.h, S a.cover.cells, I a.now]] (fun r M => r = .agg [.own 0 0, .own 1 0, .own 2 0, I a.cover.w, I a.cover.h, S a.cover.cells, I a.now] ∧ M = [some ⟨121, 8, 0, false, a.log.map TEntry.ed⟩, some ⟨97, 3, 0, false, a.levels.map TLevel.en⟩, some ⟨136, 3, 0, false, a.editions.map TEdition.ed⟩]) := toAtlas_o a hs
theorem toFeature_oX (x : TFeature) (hs : x.sm) : VCalls Tryz.prog 42 [.agg [I x.id, I x.kind, I x.rank, S x.name, .ro 2 (x.points.map TPoint.en)]] (fun r M => r = .agg [I x.id, I x.kind, I x.rank, S x.name, .own 0 0] ∧ M = [some ⟨152, 2, 0, false, x.points.map TPoint.en⟩]) := toFeature_o x hs
theorem TFeature.cs_le {x : TFeature} (h : x.sm) : x.cs ≤ 2097152 := by
  have h : x.points.length ≤ 1048576 := h
  have := ctL_pt x.points
  unfold TFeature.cs
  omega
theorem gdF_of {x : TFeature} (h1 : x.sm) (h2 : x.ok) : x.gd := ⟨h1, h2.2.2.2.1⟩
theorem law_FnExactStepPut (a : TAtlas) (f : TFeature) (who : Int) (h0 : a.ok) (h1 : f.ok) (h2 : i64 who) : VCalls Tryz.prog 9 [.agg a.en, .agg f.en, I who] (fun r M => r = B true ∧ M = []) := by
  refine VCalls.body Tryz.func9 rfl 121 rfl (fun E => ?_)
  simp only [List.reduceReplicate, List.cons_append, List.nil_append]
  have hclo_a : Clo (.agg a.en) := Clo.agg a.clo_en
  have hclo_f : Clo (.agg f.en) := Clo.agg f.clo_en
  rcases Szs.split (TAtlas.szs) a 1048576 h0 (by decide) (by decide) with hz | ⟨hz, hsm0, hz0, hz1⟩
  case' inr => (rcases Szs.split (TFeature.szs) f (a.sz 1048576) h1 hz0 hz1 with hz' | ⟨hz', hsm1, hz0', hz1'⟩)
  all_goals try (dsimp only at hz')
  all_goals try (have hsmO : (stp a (logO a (putE a f who)) (logK a (putE a f who))).sm := stp_ind (p := TAtlas.sm) (by assumption) (logO_sm (by assumption) (by assumption)))
  all_goals try (have hcb := TAtlas.cs_le hsmO)
  all_goals try (have hclX : Clo (.agg (stp a (logO a (putE a f who)) (logK a (putE a f who))).en) := Clo.agg (TAtlas.clo_en _))
  all_goals try (have hclT : Clo (.tup [.agg (stp a (logO a (putE a f who)) (logK a (putE a f who))).en, B (stpB a (logO a (putE a f who)) (logK a (putE a f who)))]) := Clo.tup (clo_cons hclX (clo_cons (clo_c _) clo_nil)))
  all_goals try (have hca_a := TAtlas.cs_le (a := a) (by assumption))
  all_goals try (have hclA0 : Clo (.ro 8 (a.log.map TEntry.en)) := clo_list TEntry.clo_en)
  all_goals try (have hclA1 : Clo (.ro 3 (a.levels.map TLevel.en)) := clo_list TLevel.clo_en)
  all_goals try (have hclA2 : Clo (.ro 3 (a.editions.map TEdition.en)) := clo_list TEdition.clo_en)
  all_goals try (have hca_f := TFeature.cs_le (x := f) (by assumption))
  all_goals try (have hclF0 : Clo (.ro 2 (f.points.map TPoint.en)) := clo_list TPoint.clo_en)
  all_goals try (have hclX0 : Clo (.ro 8 ((stp a (logO a (putE a f who)) (logK a (putE a f who))).log.map TEntry.en)) := clo_list TEntry.clo_en)
  all_goals try (have hclX1 : Clo (.ro 3 ((stp a (logO a (putE a f who)) (logK a (putE a f who))).levels.map TLevel.en)) := clo_list TLevel.clo_en)
  all_goals try (have hclX2 : Clo (.ro 3 ((stp a (logO a (putE a f who)) (logK a (putE a f who))).editions.map TEdition.en)) := clo_list TEdition.clo_en)
  all_goals try (have hclM0 : Clo (.ro 8 ((TAtlas.ms 1 (stp a (logO a (putE a f who)) (logK a (putE a f who)))).log.map TEntry.en)) := clo_list TEntry.clo_en)
  all_goals try (have hclM1 : Clo (.ro 3 ((TAtlas.ms 1 (stp a (logO a (putE a f who)) (logK a (putE a f who)))).levels.map TLevel.en)) := clo_list TLevel.clo_en)
  all_goals try (have hclM2 : Clo (.ro 3 ((TAtlas.ms 1 (stp a (logO a (putE a f who)) (logK a (putE a f who)))).editions.map TEdition.en)) := clo_list TEdition.clo_en)
  all_goals try (have hk2 : decide (1 + (((stp a (logO a (putE a f who)) (logK a (putE a f who))).cs : Nat) : Int) < 0) = false := by simp; omega)
  all_goals try (have hk1 : decide (1 + ((a.cs : Nat) : Int) + ((f.cs : Nat) : Int) < 0) = false := by simp; omega)
  repeat' ((first
    | ((with_reducible show AL ..); first | refine AL.at 39 (h := POp.O Tryz.func26 (hc := toAtlas_oX a (by assumption))) ?_ | refine AL.at 41 (h := POp.O Tryz.func42 (hc := toFeature_oX f (by assumption))) ?_ | refine AL.at 46 (h := POp.O Tryz.func43 (hc := (show VCalls Tryz.prog 43 [.agg [.ro 8 (a.log.map TEntry.en), .ro 3 (a.levels.map TLevel.en), .ro 3 (a.editions.map TEdition.en), I a.cover.w, I a.cover.h, S a.cover.cells, I a.now], .agg [I f.id, I f.kind, I f.rank, S f.name, .ro 2 (f.points.map TPoint.en)], I who] (fun r M => r = .tup [.agg [.own 0 0, .own 1 0, .own 2 0, I (stp a (logO a (putE a f who)) (logK a (putE a f who))).cover.w, I (stp a (logO a (putE a f who)) (logK a (putE a f who))).cover.h, S (stp a (logO a (putE a f who)) (logK a (putE a f who))).cover.cells, I (stp a (logO a (putE a f who)) (logK a (putE a f who))).now], B (stpB a (logO a (putE a f who)) (logK a (putE a f who)))] ∧ M = [some ⟨121, 8, 0, false, (stp a (logO a (putE a f who)) (logK a (putE a f who))).log.map TEntry.ed⟩, some ⟨97, 3, 0, false, (stp a (logO a (putE a f who)) (logK a (putE a f who))).levels.map TLevel.en⟩, some ⟨136, 3, 0, false, (stp a (logO a (putE a f who)) (logK a (putE a f who))).editions.map TEdition.ed⟩]) from put_i a (gdA_of (by assumption) (by assumption)) f (gdF_of (by assumption) (by assumption)) who))) ?_ | refine AL.any ?_ | refine AL.any (h := POp.D Tryz.func19 (hc := eqAtlas_self a (by assumption)) (hvw := vwlF)) ?_ | refine AL.any (h := POp.D Tryz.func19 (hc := eqAtlas_self (stp a (logO a (putE a f who)) (logK a (putE a f who))) (by assumption)) (hvw := vwlF)) ?_ | refine AL.any (h := POp.H [3, 4, 5] Tryz.func22 (hc := markAtlas a (1) (by omega) (by omega))) ?_ | refine AL.any (h := POp.H [9, 10, 11] Tryz.func22 (hc := markAtlas (stp a (logO a (putE a f who)) (logK a (putE a f who))) 1 (by omega) (by omega))) ?_ | refine AL.any (h := POp.D Tryz.func23 (hc := heldAtlas (stp a (logO a (putE a f who)) (logK a (putE a f who))) 1 (by omega) (by omega))) ?_ | refine AL.any (h := POp.k Tryz.func24 (hc := szAtlas a _ (by assumption))) ?_ | refine AL.any (h := POp.k Tryz.func26 (hc := toAtlas a (by assumption))) ?_ | refine AL.any (h := POp.k Tryz.func40 (hc := szFeature f _ (by assumption))) ?_ | refine AL.any (h := POp.k Tryz.func42 (hc := toFeature f (by assumption))) ?_ | refine AL.any (h := POp.k Tryz.func43 (hc := put_i' a (gdA_of (by assumption) (by assumption)) f (gdF_of (by assumption) (by assumption)) who)) ?_ | refine AL.any (h := POp.D Tryz.func44 (hc := eqFeature_self f (by assumption)) (hvw := vwlF)) ?_ | refine AL.any (h := POp.H [7] Tryz.func45 (hc := markFeature f (1 + ((a.cs : Nat) : Int)) (by omega) (by omega))) ?_ | refine AL.U ?_ | refine AL.F ?_ | refine AL.T ?_ | refine AL.T (h := POp.D Tryz.func19 (hc := eqAtlas_self a (by assumption)) (hvw := vwlF)) ?_ | refine AL.T (h := POp.D Tryz.func19 (hc := eqAtlas_self (stp a (logO a (putE a f who)) (logK a (putE a f who))) (by assumption)) (hvw := vwlF)) ?_ | refine AL.W ?_ | refine AL.W (h := fun h => by (try rw [h]); exact POp.D Tryz.func19 (hc := eqAtlas_self a (by assumption)) (hvw := vwlF)) ?_ | refine AL.W (h := fun h => by (try rw [h]); exact POp.D Tryz.func19 (hc := eqAtlas_self (stp a (logO a (putE a f who)) (logK a (putE a f who))) (by assumption)) (hvw := vwlF)) ?_ | refine AL.nil ?_)
    | ((with_reducible show DL ..); first | refine DL.any ?_ | refine DL.any (h := POp.k Tryz.func26 (hc := toAtlas a (by assumption))) ?_ | refine DL.any (h := POp.k Tryz.func41 (hc := put_s' a (gdA_of (by assumption) (by assumption)) f (gdF_of (by assumption) (by assumption)) who)) ?_ | refine DL.any (h := POp.k Tryz.func42 (hc := toFeature f (by assumption))) ?_ | refine DL.any (h := POp.k Tryz.func43 (hc := put_i' a (gdA_of (by assumption) (by assumption)) f (gdF_of (by assumption) (by assumption)) who)) ?_ | refine DL.nil ?_)
    | ((with_reducible show DLR ..); first | refine DLR.any ?_ | refine DLR.alloc rfl rfl (by first | exact ze2 | exact ze3 | exact ze4 | exact ze5 | exact ze6 | exact ze7 | exact ze8 | exact ze9 | exact ze10 | exact ze11 | exact ze12 | exact ze13 | exact ze14 | exact ze15 | exact ze16 | exact ze17 | exact ze18 | exact ze21 | exact ze22 | exact ze24 | exact ze27 | exact ze28 | exact ze29 | exact ze30 | exact ze32 | exact ze42 | exact ze43 | exact ze45 | exact ze62 | exact ze64 | exact ze67 | exact ze69 | exact ze76 | exact ze81 | exact ze89 | exact ze96 | exact ze99 | exact ze110 | exact ze113 | exact ze117 | exact ze121 | exact ze136) rfl rfl ?_ | refine DLR.box rfl rfl (by rfl) (by rfl) rfl rfl ?_ | refine DLR.store rfl rfl (by rfl) rfl rfl rfl rfl rfl (by rfl) (by rfl) (TT_ok.ld _ _ (by rfl)) (by rfl) (by rfl) rfl ?_ | refine DLR.any (h := fun Y => POp.k Tryz.func26 (hc := toAtlas a (by assumption))) ?_ | refine DLR.any (h := fun Y => POp.k Tryz.func41 (hc := put_s' a (gdA_of (by assumption) (by assumption)) f (gdF_of (by assumption) (by assumption)) who)) ?_ | refine DLR.any (h := fun Y => POp.k Tryz.func42 (hc := toFeature f (by assumption))) ?_ | refine DLR.any (h := fun Y => POp.k Tryz.func43 (hc := put_i' a (gdA_of (by assumption) (by assumption)) f (gdF_of (by assumption) (by assumption)) who)) ?_ | refine DLR.row rfl (fun Y => RowRun.empty (by rfl) (by rfl) (by first | exact rwk22 | exact rwk27 | exact rwk28 | exact rwk29 | exact rwk42 | exact rwk43 | exact rwk62 | exact rwk67 | exact rwk89 | exact rwk110 | exact rwk113)) rfl rfl ?_ | refine DLR.row rfl (fun Y => RowRun.literal (by rfl) (by first | exact rwk22 | exact rwk27 | exact rwk28 | exact rwk29 | exact rwk42 | exact rwk43 | exact rwk62 | exact rwk67 | exact rwk89 | exact rwk110 | exact rwk113) (by rfl) (by rfl) (by rfl) (by rfl) (by rfl) (by rfl)) rfl rfl ?_ | refine DLR.append rfl (by rfl) (by first | exact rwk22 | exact rwk27 | exact rwk28 | exact rwk29 | exact rwk42 | exact rwk43 | exact rwk62 | exact rwk67 | exact rwk89 | exact rwk110 | exact rwk113) (by rfl) rfl rfl rfl rfl rfl rfl (by rfl) (by first | (simp <;> omega) | omega) (by first | (simp [maxLen] <;> omega) | (simp_all [maxLen] <;> omega)) ?_ | refine DLR.nil ?_)
    | ((with_reducible show AW ..); first | refine AW.seq ?_ | refine AW.region ?_ | refine AW.skip ?_ | refine AW.drawnR (id := 8) 11 1 [none, none, none, none, none, none, none, none, none, some 0, some 0] [some Rsv] rfl (by kernel_rfl) (by kernel_rfl) (by kernel_rfl) (by rfl) ?_ | refine AW.dr (id := 14) 3 ?_ | refine AW.dr (id := 16) 3 ?_ | refine AW.drawnR (id := 31) 11 1 [none, none, none, none, none, none, none, none, none, some 0, some 0] [some Rsv] rfl (by kernel_rfl) (by kernel_rfl) (by kernel_rfl) (by rfl) ?_ | refine AW.cT ?_ | refine AW.cF ?_ | (refine AW.c2 ?_ ?_ <;> (intro h; try simp only [bT, bF] at h)) | refine AW.block ?_ | refine AW.exit ?_ | refine AW.ret ?_)) <;> (try dsimp only))
  all_goals exact Fin.one rfl (RV.tmp (by rfl)) (clo_c _) ⟨by first | rfl | (simp_all; done), rfl⟩

end Go.Proofs.YtacbpfbelcdeiaaGreat.Abs
