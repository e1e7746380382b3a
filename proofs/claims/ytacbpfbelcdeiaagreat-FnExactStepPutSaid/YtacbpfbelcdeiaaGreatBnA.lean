/- Part A of the walk over abstract states and of the functions' walks. -/
import Derived.Test.YtacbpfbelcdeiaaGreatWkStep
import Derived.Test.YtacbpfbelcdeiaaGreatWkMark
import Derived.Test.YtacbpfbelcdeiaaGreatWkTo
import Derived.Test.YtacbpfbelcdeiaaGreatWkEq
import Derived.Test.YtacbpfbelcdeiaaGreatGeo
/- The walks of the clones. -/
namespace Go.Proofs.YtacbpfbelcdeiaaGreat.Abs
open Go.Proofs Go.RowKit
set_option linter.unusedVariables false
set_option linter.unusedSimpArgs false
set_option maxRecDepth 100000
set_option maxHeartbeats 2000000
attribute [local irreducible] OpA AL AW DL DLM DLR DLS QOp POp VCalls VCallsI
theorem clonePoint (l : List TPoint) (hl : l.length ≤ 1048576) : VCalls Tryz.prog 146 [.ro 2 (l.map TPoint.en)] (fun r M => r = .own 0 0 ∧ M = [some ⟨152, 2, 0, false, l.map TPoint.en⟩]) := by
  refine VCalls.body Tryz.func146 rfl 7 rfl (fun E => ?_)
  simp only [List.reduceReplicate, List.cons_append, List.nil_append]
  have hclo : Clo (.ro 2 (l.map TPoint.en)) := clo_list TPoint.clo_en
  repeat' ((first
    | ((with_reducible show AL ..); first | refine AL.any ?_ | refine AL.nil ?_)
    | ((with_reducible show AW ..); first | (refine AW.adoptRet (t := 2) 152 2 rfl Adopt.nil ?_) | refine AW.seq ?_ | refine AW.region ?_ | refine AW.skip ?_ | refine AW.cT ?_ | refine AW.cF ?_ | (refine AW.c2 ?_ ?_ <;> (intro h; try simp only [bT, bF] at h)) | refine AW.block ?_ | refine AW.exit ?_ | refine AW.ret ?_)
    | ((refine AL.isnil (by rfl) (by rfl) (TT_ok.sl _ _ (by rfl)) (by rfl) (fun bn hbn => ?_)); dsimp only [sh0_own, sh0_c, sh1_own, sh1_c, sh1_agg, shA_own, shA_c, shA_agg, shA_tup, dput, List.set, cond_true, cond_false, Nat.zero_add, Nat.add_zero, Nat.reduceAdd, splice, List.take, List.drop, List.length, List.nil_append, List.cons_append, List.append, TPoint.en, TSegment.en, TBox.en, TFeature.en, TMeet.en, TPlace.en, TCover.en, TLabel.en, TPiece.en, TLevel.en, TChart.en, TReason.en, TEdit.en, TEntry.en, TEdition.en, TListing.en, TAtlas.en, TEvent.en, TWindow.en])) <;> (try dsimp only))
  all_goals exact Fin.r1 [0] rfl (RV.tmp (by rfl)) ⟨rfl, by first | rfl | (rw [hbn (by assumption)] <;> rfl)⟩

theorem cloneF (x : TFeature) (hs : x.sm) : VCalls Tryz.prog 122 [.agg x.en] (fun r M => r = .agg x.eo ∧ M = x.rw) := by
  refine VCalls.body Tryz.func122 rfl 7 rfl (fun E => ?_)
  simp only [List.reduceReplicate, List.cons_append, List.nil_append]
  have hclo0 : Clo (.ro 2 (x.points.map TPoint.en)) := clo_list TPoint.clo_en
  have hcle : Clo (.agg x.en) := Clo.agg x.clo_en
  have hsl : x.points.length ≤ 1048576 := hs
  dsimp only [TFeature.en]
  repeat' ((first
    | ((with_reducible show AL ..); first | refine AL.any ?_ | refine AL.any (h := POp.O Tryz.func146 (hc := clonePoint _ (by assumption))) ?_ | refine AL.nil ?_)
    | ((with_reducible show AW ..); first | refine AW.seq ?_ | refine AW.region ?_ | refine AW.skip ?_ | refine AW.block ?_ | refine AW.exit ?_ | refine AW.ret ?_)) <;> (try dsimp only))
  all_goals exact Fin.r1 [2] rfl (RV.cell (QOp.quietA TT_ok (by rfl))) ⟨rfl, rfl⟩

theorem cloneF_s (x : TFeature) (hs : x.sm) : VCalls Tryz.prog 119 [.agg x.en] (fun r M => r = .agg x.eo ∧ M = x.rw) := by
  refine VCalls.body Tryz.func119 rfl 8 rfl (fun E => ?_)
  simp only [List.reduceReplicate, List.cons_append, List.nil_append]
  have hclo0 : Clo (.ro 2 (x.points.map TPoint.en)) := clo_list TPoint.clo_en
  have hcle : Clo (.agg x.en) := Clo.agg x.clo_en
  have hsl : x.points.length ≤ 1048576 := hs
  dsimp only [TFeature.en]
  repeat' ((first
    | ((with_reducible show AL ..); first | refine AL.any ?_ | refine AL.nil ?_)
    | ((with_reducible show AW ..); first | refine AW.seq ?_ | refine AW.region ?_ | refine AW.skip ?_ | refine AW.block ?_ | refine AW.exit ?_ | refine AW.ret ?_)) <;> (try dsimp only))
  all_goals exact Fin.r1 [2] rfl (RV.cell (QOp.quietA TT_ok (by rfl))) ⟨rfl, rfl⟩

theorem map_take_cpy {α β : Type} {f : α → β} {l : List α} {i : Nat} {x : α} (h : l[i]? = some x) : (l.take (i + 1)).map f = (l.take i).map f ++ [f x] := by rw [take_succ_of h, List.map_append]; rfl
theorem take_len {α : Type} (l : List α) (i : Nat) : (l.take i).length ≤ i := by rw [List.length_take]; omega
theorem cloneLevel (l : List TLevel) (hl : l.length ≤ 1048576) : VCalls Tryz.prog 63 [.ro 3 (l.map TLevel.en)] (fun r M => r = .own 0 0 ∧ M = [some ⟨97, 3, 0, false, l.map TLevel.en⟩]) := by
  refine VCalls.body Tryz.func63 rfl 7 rfl (fun E => ?_)
  simp only [List.reduceReplicate, List.cons_append, List.nil_append]
  have hclo : Clo (.ro 3 (l.map TLevel.en)) := clo_list TLevel.clo_en
  repeat' ((first
    | ((with_reducible show AL ..); first | refine AL.any ?_ | refine AL.nil ?_)
    | ((with_reducible show AW ..); first | (refine AW.adoptRet (t := 2) 97 3 rfl Adopt.nil ?_) | refine AW.seq ?_ | refine AW.region ?_ | refine AW.skip ?_ | refine AW.cT ?_ | refine AW.cF ?_ | (refine AW.c2 ?_ ?_ <;> (intro h; try simp only [bT, bF] at h)) | refine AW.block ?_ | refine AW.exit ?_ | refine AW.ret ?_)
    | ((refine AL.isnil (by rfl) (by rfl) (TT_ok.sl _ _ (by rfl)) (by rfl) (fun bn hbn => ?_)); dsimp only [sh0_own, sh0_c, sh1_own, sh1_c, sh1_agg, shA_own, shA_c, shA_agg, shA_tup, dput, List.set, cond_true, cond_false, Nat.zero_add, Nat.add_zero, Nat.reduceAdd, splice, List.take, List.drop, List.length, List.nil_append, List.cons_append, List.append, TPoint.en, TSegment.en, TBox.en, TFeature.en, TMeet.en, TPlace.en, TCover.en, TLabel.en, TPiece.en, TLevel.en, TChart.en, TReason.en, TEdit.en, TEntry.en, TEdition.en, TListing.en, TAtlas.en, TEvent.en, TWindow.en])) <;> (try dsimp only))
  all_goals exact Fin.r1 [0] rfl (RV.tmp (by rfl)) ⟨rfl, by first | rfl | (rw [hbn (by assumption)] <;> rfl)⟩

theorem cpS_i (l : List TFeature) (hl : l.length ≤ 1048576) (hp : ∀ x ∈ l, x.sm) : VCalls Tryz.prog 120 [.ro 5 (l.map TFeature.en)] (fun r M => r = .own 0 0 ∧ M = [some ⟨69, 5, 0, false, l.map TFeature.ed⟩]) := by
  refine VCalls.bodyE Tryz.func120 rfl 19 rfl (fun E hE => ?_)
  simp only [List.reduceReplicate, List.cons_append, List.nil_append]
  have hclo : Clo (.ro 5 (l.map TFeature.en)) := clo_list TFeature.clo_en
  repeat' ((first
    | ((with_reducible show AL ..); first | refine AL.any (h := POp.gh POp.mk (Gh.absorbA (q := 0) (id := 2) (j := 4) rfl rfl rfl rfl rfl rfl (DCl.map (fun _ => rfl)) TPoint.und)) ?_ | refine AL.any ?_ | refine AL.any (h := POp.O Tryz.func122 (hc := cloneF x (by assumption))) ?_ | refine AL.nil ?_)
    | ((with_reducible show AW ..); first | refine AW.seq ?_ | refine AW.region ?_ | refine AW.skip ?_ | (refine AW.loopD hE (fun i : Nat => [.any, .any, .any, .own 0 i, .any, .any, .any, .ro 5 (l.map TFeature.en), I ((l.map TFeature.en).length : Int), I (i : Int), .any, .any, .any, .any, .any, .any, .any, .any, .any, .any]) (fun i => [some ⟨69, 5, i, false, (l.take i).map TFeature.ed⟩]) (fun i => l.length - i) (fun i => i ≤ l.length) 0 (by simp) ?_ (by first | rfl | (simp [fil_zero]; done)) ?_) | refine AW.cT ?_ | refine AW.cF ?_ | (refine AW.c2 ?_ ?_ <;> (intro h; try simp only [bT, bF] at h)) | refine AW.block ?_ | refine AW.exit ?_ | refine AW.ret ?_)
    | with_reducible refine ifP ?_
    | with_reducible refine ifN ?_) <;> (try dsimp only))
  · (repeat' (first | exact Wk.nil | refine Wk.any ?_ | (with_reducible refine Wk.same ?_) | refine Wk.of ?_ ?_)) <;> first | rfl | (rfl)
  · intro i hi
    have hclo : Clo (.ro 5 (l.map TFeature.en)) := clo_list TFeature.clo_en
    by_cases hlt : i < l.length
    · obtain ⟨x, hx⟩ : ∃ x, l[i]? = some x := ⟨_, List.getElem?_eq_getElem hlt⟩
      have hg := map_get (f := TFeature.en) hx
      have ht := lt_true (f := TFeature.en) hlt
      have hn := next_ix hlt (by omega)
      have hm := map_take_cpy (f := TFeature.ed) hx
      have hln := take_len l i
      have hcle : Clo (.agg x.en) := Clo.agg x.clo_en
      have hpx := hp x (List.mem_of_getElem? hx)
      have hclP : Clo (.ro 2 (x.points.map TPoint.en)) := clo_list TPoint.clo_en
      repeat' ((first
        | ((with_reducible show AL ..); first | refine AL.any (h := POp.gh POp.mk (Gh.absorbA (q := 0) (id := 2) (j := 4) rfl rfl rfl rfl rfl rfl (DCl.map (fun _ => rfl)) TPoint.und)) ?_ | refine AL.any ?_ | refine AL.any (h := POp.O Tryz.func122 (hc := cloneF x (by assumption))) ?_ | refine AL.nil ?_)
        | ((with_reducible show AW ..); first | refine AW.seq ?_ | refine AW.region ?_ | refine AW.skip ?_ | refine AW.cT ?_ | refine AW.cF ?_ | (refine AW.c2 ?_ ?_ <;> (intro h; try simp only [bT, bF] at h)) | refine AW.block ?_ | refine AW.exit ?_ | refine AW.ret ?_)
        | with_reducible refine ifP ?_
        | with_reducible refine ifN ?_) <;> (try dsimp only))
      all_goals first
        | (refine ⟨i + 1, _, hlt, by omega, ?_, by rw [hm] <;> rfl, ?_, ?_⟩; (focus ((repeat' (first | exact Wk.nil | refine Wk.any ?_ | (with_reducible refine Wk.same ?_) | refine Wk.of ?_ ?_)) <;> (simp_all))); (focus ((repeat' (first | exact Fits.nil _ | refine Fits.cons ?_ ?_ | exact Fits.any _ | exact Fits.c _ _ | exact Fits.own (by rfl) | exact Fits.ref (by rfl) | exact Fits.clo (by assumption) | exact Fits.clo (clo_of (by rfl)) | exact Fits.clo (clo_fn _))))); (focus (exact fits_dcl (DCl.map (fun _ => rfl)))))
    · have ht := lt_false (f := TFeature.en) hlt
      have e : i = l.length := by omega
      subst e
      try rw [List.take_length]
      repeat' ((first
        | ((with_reducible show AL ..); first | refine AL.any (h := POp.gh POp.mk (Gh.absorbA (q := 0) (id := 2) (j := 4) rfl rfl rfl rfl rfl rfl (DCl.map (fun _ => rfl)) TPoint.und)) ?_ | refine AL.any ?_ | refine AL.any (h := POp.O Tryz.func122 (hc := cloneF x (by assumption))) ?_ | refine AL.nil ?_)
        | ((with_reducible show AW ..); first | refine AW.seq ?_ | refine AW.region ?_ | refine AW.skip ?_ | refine AW.cT ?_ | refine AW.cF ?_ | (refine AW.c2 ?_ ?_ <;> (intro h; try simp only [bT, bF] at h)) | refine AW.block ?_ | refine AW.exit ?_ | refine AW.ret ?_)
        | with_reducible refine ifP ?_
        | with_reducible refine ifN ?_) <;> (try dsimp only))
      all_goals (try simp only [List.take_length]); exact Fin.r1 [0] rfl (RV.tmp (by rfl)) ⟨rfl, rfl⟩

theorem cpS_s (l : List TFeature) (hl : l.length ≤ 1048576) (hp : ∀ x ∈ l, x.sm) : VCalls Tryz.prog 117 [.ro 5 (l.map TFeature.en)] (fun r M => r = .own 0 0 ∧ M = [some ⟨69, 5, 0, false, l.map TFeature.ed⟩]) := by
  refine VCalls.bodyE Tryz.func117 rfl 20 rfl (fun E hE => ?_)
  simp only [List.reduceReplicate, List.cons_append, List.nil_append]
  have hclo : Clo (.ro 5 (l.map TFeature.en)) := clo_list TFeature.clo_en
  repeat' ((first
    | ((with_reducible show AL ..); first | refine AL.any (h := POp.gh POp.mk (Gh.absorbA (q := 0) (id := 1) (j := 4) rfl rfl rfl rfl rfl rfl (DCl.map (fun _ => rfl)) TPoint.und)) ?_ | refine AL.any ?_ | refine AL.any (h := POp.O Tryz.func119 (hc := cloneF_s x (by assumption))) ?_ | refine AL.nil ?_)
    | ((with_reducible show AW ..); first | refine AW.seq ?_ | refine AW.region ?_ | refine AW.skip ?_ | (refine AW.loopD hE (fun i : Nat => [.ro 5 (l.map TFeature.en), .any, .any, .own 0 i, I (i : Int), .any, .any, .any, .any, .any, .any, .any, .any, .any, .any, .any, .any, .any, .any, .any, .any]) (fun i => [some ⟨69, 5, i, false, (l.take i).map TFeature.ed⟩]) (fun i => l.length - i) (fun i => i ≤ l.length) 0 (by simp) ?_ (by first | rfl | (simp [fil_zero]; done)) ?_) | refine AW.cT ?_ | refine AW.cF ?_ | (refine AW.c2 ?_ ?_ <;> (intro h; try simp only [bT, bF] at h)) | refine AW.block ?_ | refine AW.exit ?_ | refine AW.ret ?_)
    | with_reducible refine ifP ?_
    | with_reducible refine ifN ?_) <;> (try dsimp only))
  · (repeat' (first | exact Wk.nil | refine Wk.any ?_ | (with_reducible refine Wk.same ?_) | refine Wk.of ?_ ?_)) <;> first | rfl | (rfl)
  · intro i hi
    have hclo : Clo (.ro 5 (l.map TFeature.en)) := clo_list TFeature.clo_en
    by_cases hlt : i < l.length
    · obtain ⟨x, hx⟩ : ∃ x, l[i]? = some x := ⟨_, List.getElem?_eq_getElem hlt⟩
      have hg := map_get (f := TFeature.en) hx
      have ht := lt_true (f := TFeature.en) hlt
      have hn := next_ix hlt (by omega)
      have hm := map_take_cpy (f := TFeature.ed) hx
      have hln := take_len l i
      have hcle : Clo (.agg x.en) := Clo.agg x.clo_en
      have hpx := hp x (List.mem_of_getElem? hx)
      have hclP : Clo (.ro 2 (x.points.map TPoint.en)) := clo_list TPoint.clo_en
      repeat' ((first
        | ((with_reducible show AL ..); first | refine AL.any (h := POp.gh POp.mk (Gh.absorbA (q := 0) (id := 1) (j := 4) rfl rfl rfl rfl rfl rfl (DCl.map (fun _ => rfl)) TPoint.und)) ?_ | refine AL.any ?_ | refine AL.any (h := POp.O Tryz.func119 (hc := cloneF_s x (by assumption))) ?_ | refine AL.nil ?_)
        | ((with_reducible show AW ..); first | refine AW.seq ?_ | refine AW.region ?_ | refine AW.skip ?_ | refine AW.cT ?_ | refine AW.cF ?_ | (refine AW.c2 ?_ ?_ <;> (intro h; try simp only [bT, bF] at h)) | refine AW.block ?_ | refine AW.exit ?_ | refine AW.ret ?_)
        | with_reducible refine ifP ?_
        | with_reducible refine ifN ?_) <;> (try dsimp only))
      all_goals first
        | (refine ⟨i + 1, _, hlt, by omega, ?_, by rw [hm] <;> rfl, ?_, ?_⟩; (focus ((repeat' (first | exact Wk.nil | refine Wk.any ?_ | (with_reducible refine Wk.same ?_) | refine Wk.of ?_ ?_)) <;> (simp_all))); (focus ((repeat' (first | exact Fits.nil _ | refine Fits.cons ?_ ?_ | exact Fits.any _ | exact Fits.c _ _ | exact Fits.own (by rfl) | exact Fits.ref (by rfl) | exact Fits.clo (by assumption) | exact Fits.clo (clo_of (by rfl)) | exact Fits.clo (clo_fn _))))); (focus (exact fits_dcl (DCl.map (fun _ => rfl)))))
    · have ht := lt_false (f := TFeature.en) hlt
      have e : i = l.length := by omega
      subst e
      try rw [List.take_length]
      repeat' ((first
        | ((with_reducible show AL ..); first | refine AL.any (h := POp.gh POp.mk (Gh.absorbA (q := 0) (id := 1) (j := 4) rfl rfl rfl rfl rfl rfl (DCl.map (fun _ => rfl)) TPoint.und)) ?_ | refine AL.any ?_ | refine AL.any (h := POp.O Tryz.func119 (hc := cloneF_s x (by assumption))) ?_ | refine AL.nil ?_)
        | ((with_reducible show AW ..); first | refine AW.seq ?_ | refine AW.region ?_ | refine AW.skip ?_ | refine AW.cT ?_ | refine AW.cF ?_ | (refine AW.c2 ?_ ?_ <;> (intro h; try simp only [bT, bF] at h)) | refine AW.block ?_ | refine AW.exit ?_ | refine AW.ret ?_)
        | with_reducible refine ifP ?_
        | with_reducible refine ifN ?_) <;> (try dsimp only))
      all_goals (try simp only [List.take_length]); exact Fin.r1 [0] rfl (RV.tmp (by rfl)) ⟨rfl, rfl⟩

theorem cpL_i (l : List TEntry) (hl : l.length ≤ 1048576) (hp : ∀ x ∈ l, x.feature.sm) : VCalls Tryz.prog 115 [.ro 8 (l.map TEntry.en)] (fun r M => r = .own 0 0 ∧ M = [some ⟨121, 8, 0, false, l.map TEntry.ed⟩]) := by
  refine VCalls.bodyE Tryz.func115 rfl 22 rfl (fun E hE => ?_)
  simp only [List.reduceReplicate, List.cons_append, List.nil_append]
  have hclo : Clo (.ro 8 (l.map TEntry.en)) := clo_list TEntry.clo_en
  repeat' ((first
    | ((with_reducible show AL ..); first | refine AL.any (h := POp.gh POp.mk (Gh.absorbA (q := 0) (id := 2) (j := 4) rfl rfl rfl rfl rfl rfl (DCl.map (fun _ => rfl)) TPoint.und)) ?_ | refine AL.any ?_ | refine AL.any (h := POp.O Tryz.func122 (hc := cloneF x.feature (by assumption))) ?_ | refine AL.nil ?_)
    | ((with_reducible show AW ..); first | refine AW.seq ?_ | refine AW.region ?_ | refine AW.skip ?_ | (refine AW.loopD hE (fun i : Nat => [.any, .any, .any, .own 0 i, .any, .any, .any, .ro 8 (l.map TEntry.en), I ((l.map TEntry.en).length : Int), I (i : Int), .any, .any, .any, .any, .any, .any, .any, .any, .any, .any, .any, .any, .any]) (fun i => [some ⟨121, 8, i, false, (l.take i).map TEntry.ed⟩]) (fun i => l.length - i) (fun i => i ≤ l.length) 0 (by simp) ?_ (by first | rfl | (simp [fil_zero]; done)) ?_) | refine AW.cT ?_ | refine AW.cF ?_ | (refine AW.c2 ?_ ?_ <;> (intro h; try simp only [bT, bF] at h)) | refine AW.block ?_ | refine AW.exit ?_ | refine AW.ret ?_)
    | with_reducible refine ifP ?_
    | with_reducible refine ifN ?_) <;> (try dsimp only))
  · (repeat' (first | exact Wk.nil | refine Wk.any ?_ | (with_reducible refine Wk.same ?_) | refine Wk.of ?_ ?_)) <;> first | rfl | (rfl)
  · intro i hi
    have hclo : Clo (.ro 8 (l.map TEntry.en)) := clo_list TEntry.clo_en
    by_cases hlt : i < l.length
    · obtain ⟨x, hx⟩ : ∃ x, l[i]? = some x := ⟨_, List.getElem?_eq_getElem hlt⟩
      have hg := map_get (f := TEntry.en) hx
      have ht := lt_true (f := TEntry.en) hlt
      have hn := next_ix hlt (by omega)
      have hm := map_take_cpy (f := TEntry.ed) hx
      have hln := take_len l i
      have hcle : Clo (.agg x.en) := Clo.agg x.clo_en
      have hpx := hp x (List.mem_of_getElem? hx)
      have hclP : Clo (.ro 2 (x.feature.points.map TPoint.en)) := clo_list TPoint.clo_en
      have hclF : Clo (.agg x.feature.en) := Clo.agg x.feature.clo_en
      repeat' ((first
        | ((with_reducible show AL ..); first | refine AL.any (h := POp.gh POp.mk (Gh.absorbA (q := 0) (id := 2) (j := 4) rfl rfl rfl rfl rfl rfl (DCl.map (fun _ => rfl)) TPoint.und)) ?_ | refine AL.any ?_ | refine AL.any (h := POp.O Tryz.func122 (hc := cloneF x.feature (by assumption))) ?_ | refine AL.nil ?_)
        | ((with_reducible show AW ..); first | refine AW.seq ?_ | refine AW.region ?_ | refine AW.skip ?_ | refine AW.cT ?_ | refine AW.cF ?_ | (refine AW.c2 ?_ ?_ <;> (intro h; try simp only [bT, bF] at h)) | refine AW.block ?_ | refine AW.exit ?_ | refine AW.ret ?_)
        | with_reducible refine ifP ?_
        | with_reducible refine ifN ?_) <;> (try dsimp only))
      all_goals first
        | (refine ⟨i + 1, _, hlt, by omega, ?_, by rw [hm] <;> rfl, ?_, ?_⟩; (focus ((repeat' (first | exact Wk.nil | refine Wk.any ?_ | (with_reducible refine Wk.same ?_) | refine Wk.of ?_ ?_)) <;> (simp_all))); (focus ((repeat' (first | exact Fits.nil _ | refine Fits.cons ?_ ?_ | exact Fits.any _ | exact Fits.c _ _ | exact Fits.own (by rfl) | exact Fits.ref (by rfl) | exact Fits.clo (by assumption) | exact Fits.clo (clo_of (by rfl)) | exact Fits.clo (clo_fn _))))); (focus (exact fits_dcl (DCl.map (fun _ => rfl)))))
    · have ht := lt_false (f := TEntry.en) hlt
      have e : i = l.length := by omega
      subst e
      try rw [List.take_length]
      repeat' ((first
        | ((with_reducible show AL ..); first | refine AL.any (h := POp.gh POp.mk (Gh.absorbA (q := 0) (id := 2) (j := 4) rfl rfl rfl rfl rfl rfl (DCl.map (fun _ => rfl)) TPoint.und)) ?_ | refine AL.any ?_ | refine AL.any (h := POp.O Tryz.func122 (hc := cloneF x.feature (by assumption))) ?_ | refine AL.nil ?_)
        | ((with_reducible show AW ..); first | refine AW.seq ?_ | refine AW.region ?_ | refine AW.skip ?_ | refine AW.cT ?_ | refine AW.cF ?_ | (refine AW.c2 ?_ ?_ <;> (intro h; try simp only [bT, bF] at h)) | refine AW.block ?_ | refine AW.exit ?_ | refine AW.ret ?_)
        | with_reducible refine ifP ?_
        | with_reducible refine ifN ?_) <;> (try dsimp only))
      all_goals (try simp only [List.take_length]); exact Fin.r1 [0] rfl (RV.tmp (by rfl)) ⟨rfl, rfl⟩

theorem cpE_s (x : TEntry) (hs : x.feature.sm) : VCalls Tryz.prog 127 [.agg x.en] (fun r M => r = .agg x.eo ∧ M = x.rw) := by
  refine VCalls.body Tryz.func127 rfl 7 rfl (fun E => ?_)
  simp only [List.reduceReplicate, List.cons_append, List.nil_append]
  have hclP : Clo (.ro 2 (x.feature.points.map TPoint.en)) := clo_list TPoint.clo_en
  have hclF : Clo (.agg x.feature.en) := Clo.agg x.feature.clo_en
  dsimp only [TEntry.en]
  repeat' ((first
    | ((with_reducible show AL ..); first | refine AL.any ?_ | refine AL.any (h := POp.O Tryz.func119 (hc := cloneF_s x.feature (by assumption))) ?_ | refine AL.nil ?_)
    | ((with_reducible show AW ..); first | refine AW.seq ?_ | refine AW.region ?_ | refine AW.skip ?_ | refine AW.block ?_ | refine AW.exit ?_ | refine AW.ret ?_)) <;> (try dsimp only))
  all_goals exact Fin.r1 [2] rfl (RV.cell (QOp.quietA TT_ok (by rfl))) ⟨rfl, rfl⟩

theorem cpL_s (l : List TEntry) (hl : l.length ≤ 1048576) (hp : ∀ x ∈ l, x.feature.sm) : VCalls Tryz.prog 101 [.ro 8 (l.map TEntry.en)] (fun r M => r = .own 0 0 ∧ M = [some ⟨121, 8, 0, false, l.map TEntry.ed⟩]) := by
  refine VCalls.bodyE Tryz.func101 rfl 20 rfl (fun E hE => ?_)
  simp only [List.reduceReplicate, List.cons_append, List.nil_append]
  have hclo : Clo (.ro 8 (l.map TEntry.en)) := clo_list TEntry.clo_en
  repeat' ((first
    | ((with_reducible show AL ..); first | refine AL.any (h := POp.gh POp.mk (Gh.absorbA (q := 0) (id := 1) (j := 4) rfl rfl rfl rfl rfl rfl (DCl.map (fun _ => rfl)) TPoint.und)) ?_ | refine AL.any ?_ | refine AL.any (h := POp.O Tryz.func127 (hc := cpE_s x (by assumption))) ?_ | refine AL.nil ?_)
    | ((with_reducible show AW ..); first | refine AW.seq ?_ | refine AW.region ?_ | refine AW.skip ?_ | (refine AW.loopD hE (fun i : Nat => [.ro 8 (l.map TEntry.en), .any, .any, .own 0 i, I (i : Int), .any, .any, .any, .any, .any, .any, .any, .any, .any, .any, .any, .any, .any, .any, .any, .any]) (fun i => [some ⟨121, 8, i, false, (l.take i).map TEntry.ed⟩]) (fun i => l.length - i) (fun i => i ≤ l.length) 0 (by simp) ?_ (by first | rfl | (simp [fil_zero]; done)) ?_) | refine AW.cT ?_ | refine AW.cF ?_ | (refine AW.c2 ?_ ?_ <;> (intro h; try simp only [bT, bF] at h)) | refine AW.block ?_ | refine AW.exit ?_ | refine AW.ret ?_)
    | with_reducible refine ifP ?_
    | with_reducible refine ifN ?_) <;> (try dsimp only))
  · (repeat' (first | exact Wk.nil | refine Wk.any ?_ | (with_reducible refine Wk.same ?_) | refine Wk.of ?_ ?_)) <;> first | rfl | (rfl)
  · intro i hi
    have hclo : Clo (.ro 8 (l.map TEntry.en)) := clo_list TEntry.clo_en
    by_cases hlt : i < l.length
    · obtain ⟨x, hx⟩ : ∃ x, l[i]? = some x := ⟨_, List.getElem?_eq_getElem hlt⟩
      have hg := map_get (f := TEntry.en) hx
      have ht := lt_true (f := TEntry.en) hlt
      have hn := next_ix hlt (by omega)
      have hm := map_take_cpy (f := TEntry.ed) hx
      have hln := take_len l i
      have hcle : Clo (.agg x.en) := Clo.agg x.clo_en
      have hpx := hp x (List.mem_of_getElem? hx)
      have hclP : Clo (.ro 2 (x.feature.points.map TPoint.en)) := clo_list TPoint.clo_en
      have hclF : Clo (.agg x.feature.en) := Clo.agg x.feature.clo_en
      repeat' ((first
        | ((with_reducible show AL ..); first | refine AL.any (h := POp.gh POp.mk (Gh.absorbA (q := 0) (id := 1) (j := 4) rfl rfl rfl rfl rfl rfl (DCl.map (fun _ => rfl)) TPoint.und)) ?_ | refine AL.any ?_ | refine AL.any (h := POp.O Tryz.func127 (hc := cpE_s x (by assumption))) ?_ | refine AL.nil ?_)
        | ((with_reducible show AW ..); first | refine AW.seq ?_ | refine AW.region ?_ | refine AW.skip ?_ | refine AW.cT ?_ | refine AW.cF ?_ | (refine AW.c2 ?_ ?_ <;> (intro h; try simp only [bT, bF] at h)) | refine AW.block ?_ | refine AW.exit ?_ | refine AW.ret ?_)
        | with_reducible refine ifP ?_
        | with_reducible refine ifN ?_) <;> (try dsimp only))
      all_goals first
        | (refine ⟨i + 1, _, hlt, by omega, ?_, by rw [hm] <;> rfl, ?_, ?_⟩; (focus ((repeat' (first | exact Wk.nil | refine Wk.any ?_ | (with_reducible refine Wk.same ?_) | refine Wk.of ?_ ?_)) <;> (simp_all))); (focus ((repeat' (first | exact Fits.nil _ | refine Fits.cons ?_ ?_ | exact Fits.any _ | exact Fits.c _ _ | exact Fits.own (by rfl) | exact Fits.ref (by rfl) | exact Fits.clo (by assumption) | exact Fits.clo (clo_of (by rfl)) | exact Fits.clo (clo_fn _))))); (focus (exact fits_dcl (DCl.map (fun _ => rfl)))))
    · have ht := lt_false (f := TEntry.en) hlt
      have e : i = l.length := by omega
      subst e
      try rw [List.take_length]
      repeat' ((first
        | ((with_reducible show AL ..); first | refine AL.any (h := POp.gh POp.mk (Gh.absorbA (q := 0) (id := 1) (j := 4) rfl rfl rfl rfl rfl rfl (DCl.map (fun _ => rfl)) TPoint.und)) ?_ | refine AL.any ?_ | refine AL.any (h := POp.O Tryz.func127 (hc := cpE_s x (by assumption))) ?_ | refine AL.nil ?_)
        | ((with_reducible show AW ..); first | refine AW.seq ?_ | refine AW.region ?_ | refine AW.skip ?_ | refine AW.cT ?_ | refine AW.cF ?_ | (refine AW.c2 ?_ ?_ <;> (intro h; try simp only [bT, bF] at h)) | refine AW.block ?_ | refine AW.exit ?_ | refine AW.ret ?_)
        | with_reducible refine ifP ?_
        | with_reducible refine ifN ?_) <;> (try dsimp only))
      all_goals (try simp only [List.take_length]); exact Fin.r1 [0] rfl (RV.tmp (by rfl)) ⟨rfl, rfl⟩

theorem cpD_i (l : List TEdition) (hl : l.length ≤ 1048576) (hp : ∀ x ∈ l, x.source.length ≤ 1048576 ∧ ∀ y ∈ x.source, y.sm) : VCalls Tryz.prog 116 [.ro 3 (l.map TEdition.en)] (fun r M => r = .own 0 0 ∧ M = [some ⟨136, 3, 0, false, l.map TEdition.ed⟩]) := by
  refine VCalls.bodyE Tryz.func116 rfl 22 rfl (fun E hE => ?_)
  simp only [List.reduceReplicate, List.cons_append, List.nil_append]
  have hclo : Clo (.ro 3 (l.map TEdition.en)) := clo_list TEdition.clo_en
  repeat' ((first
    | ((with_reducible show AL ..); first | refine AL.any (h := POp.gh POp.mk (Gh.absorbA (q := 0) (id := 2) (j := 1) rfl rfl rfl rfl rfl rfl (DCl.map (fun _ => rfl)) TFeature.und)) ?_ | refine AL.any ?_ | refine AL.any (h := POp.O Tryz.func120 (hc := cpS_i _ (by assumption) (by assumption))) ?_ | refine AL.nil ?_)
    | ((with_reducible show AW ..); first | refine AW.seq ?_ | refine AW.region ?_ | refine AW.skip ?_ | (refine AW.loopD hE (fun i : Nat => [.any, .any, .any, .own 0 i, .any, .any, .any, .ro 3 (l.map TEdition.en), I ((l.map TEdition.en).length : Int), I (i : Int), .any, .any, .any, .any, .any, .any, .any, .any, .any, .any, .any, .any, .any]) (fun i => [some ⟨136, 3, i, false, (l.take i).map TEdition.ed⟩]) (fun i => l.length - i) (fun i => i ≤ l.length) 0 (by simp) ?_ (by first | rfl | (simp [fil_zero]; done)) ?_) | refine AW.cT ?_ | refine AW.cF ?_ | (refine AW.c2 ?_ ?_ <;> (intro h; try simp only [bT, bF] at h)) | refine AW.block ?_ | refine AW.exit ?_ | refine AW.ret ?_)
    | with_reducible refine ifP ?_
    | with_reducible refine ifN ?_) <;> (try dsimp only))
  · (repeat' (first | exact Wk.nil | refine Wk.any ?_ | (with_reducible refine Wk.same ?_) | refine Wk.of ?_ ?_)) <;> first | rfl | (rfl)
  · intro i hi
    have hclo : Clo (.ro 3 (l.map TEdition.en)) := clo_list TEdition.clo_en
    by_cases hlt : i < l.length
    · obtain ⟨x, hx⟩ : ∃ x, l[i]? = some x := ⟨_, List.getElem?_eq_getElem hlt⟩
      have hg := map_get (f := TEdition.en) hx
      have ht := lt_true (f := TEdition.en) hlt
      have hn := next_ix hlt (by omega)
      have hm := map_take_cpy (f := TEdition.ed) hx
      have hln := take_len l i
      have hcle : Clo (.agg x.en) := Clo.agg x.clo_en
      obtain ⟨hpl, hpx⟩ := hp x (List.mem_of_getElem? hx)
      have hclS : Clo (.ro 5 (x.source.map TFeature.en)) := clo_list TFeature.clo_en
      repeat' ((first
        | ((with_reducible show AL ..); first | refine AL.any (h := POp.gh POp.mk (Gh.absorbA (q := 0) (id := 2) (j := 1) rfl rfl rfl rfl rfl rfl (DCl.map (fun _ => rfl)) TFeature.und)) ?_ | refine AL.any ?_ | refine AL.any (h := POp.O Tryz.func120 (hc := cpS_i _ (by assumption) (by assumption))) ?_ | refine AL.nil ?_)
        | ((with_reducible show AW ..); first | refine AW.seq ?_ | refine AW.region ?_ | refine AW.skip ?_ | refine AW.cT ?_ | refine AW.cF ?_ | (refine AW.c2 ?_ ?_ <;> (intro h; try simp only [bT, bF] at h)) | refine AW.block ?_ | refine AW.exit ?_ | refine AW.ret ?_)
        | with_reducible refine ifP ?_
        | with_reducible refine ifN ?_) <;> (try dsimp only))
      all_goals first
        | (refine ⟨i + 1, _, hlt, by omega, ?_, by rw [hm] <;> rfl, ?_, ?_⟩; (focus ((repeat' (first | exact Wk.nil | refine Wk.any ?_ | (with_reducible refine Wk.same ?_) | refine Wk.of ?_ ?_)) <;> (simp_all))); (focus ((repeat' (first | exact Fits.nil _ | refine Fits.cons ?_ ?_ | exact Fits.any _ | exact Fits.c _ _ | exact Fits.own (by rfl) | exact Fits.ref (by rfl) | exact Fits.clo (by assumption) | exact Fits.clo (clo_of (by rfl)) | exact Fits.clo (clo_fn _))))); (focus (exact fits_dcl (DCl.map (fun _ => rfl)))))
    · have ht := lt_false (f := TEdition.en) hlt
      have e : i = l.length := by omega
      subst e
      try rw [List.take_length]
      repeat' ((first
        | ((with_reducible show AL ..); first | refine AL.any (h := POp.gh POp.mk (Gh.absorbA (q := 0) (id := 2) (j := 1) rfl rfl rfl rfl rfl rfl (DCl.map (fun _ => rfl)) TFeature.und)) ?_ | refine AL.any ?_ | refine AL.any (h := POp.O Tryz.func120 (hc := cpS_i _ (by assumption) (by assumption))) ?_ | refine AL.nil ?_)
        | ((with_reducible show AW ..); first | refine AW.seq ?_ | refine AW.region ?_ | refine AW.skip ?_ | refine AW.cT ?_ | refine AW.cF ?_ | (refine AW.c2 ?_ ?_ <;> (intro h; try simp only [bT, bF] at h)) | refine AW.block ?_ | refine AW.exit ?_ | refine AW.ret ?_)
        | with_reducible refine ifP ?_
        | with_reducible refine ifN ?_) <;> (try dsimp only))
      all_goals (try simp only [List.take_length]); exact Fin.r1 [0] rfl (RV.tmp (by rfl)) ⟨rfl, rfl⟩

theorem cpD_s (l : List TEdition) (hl : l.length ≤ 1048576) (hp : ∀ x ∈ l, x.source.length ≤ 1048576 ∧ ∀ y ∈ x.source, y.sm) : VCalls Tryz.prog 102 [.ro 3 (l.map TEdition.en)] (fun r M => r = .own 0 0 ∧ M = [some ⟨136, 3, 0, false, l.map TEdition.ed⟩]) := by
  refine VCalls.bodyE Tryz.func102 rfl 32 rfl (fun E hE => ?_)
  simp only [List.reduceReplicate, List.cons_append, List.nil_append]
  have hclo : Clo (.ro 3 (l.map TEdition.en)) := clo_list TEdition.clo_en
  repeat' ((first
    | ((with_reducible show AL ..); first | refine AL.any (h := POp.gh POp.mk (Gh.absorbA (q := 0) (id := 1) (j := 1) rfl rfl rfl rfl rfl rfl (DCl.map (fun _ => rfl)) TFeature.und)) ?_ | refine AL.any ?_ | refine AL.nil ?_)
    | ((with_reducible show DL ..); first | refine DL.any ?_ | refine DL.any (h := POp.O Tryz.func117 (hc := cpS_s _ (by assumption) (by assumption))) ?_ | refine DL.nil ?_)
    | ((with_reducible show DLR ..); first | refine DLR.call rfl (by rfl) Tryz.func117 (by rfl) (by rfl) (by rfl) (fun Y => vwlT) (cpS_s _ (by assumption) (by assumption)) rfl (by first | exact DCl.b rfl | exact DCl.map (fun _ => rfl) | assumption) rfl rfl ?_ | refine DLR.any ?_ | refine DLR.alloc rfl rfl (by first | exact ze2 | exact ze3 | exact ze4 | exact ze5 | exact ze6 | exact ze8 | exact ze9 | exact ze10 | exact ze11 | exact ze12 | exact ze13 | exact ze14 | exact ze15 | exact ze16 | exact ze17 | exact ze18 | exact ze19 | exact ze21 | exact ze24 | exact ze27 | exact ze28 | exact ze29 | exact ze30 | exact ze31 | exact ze32 | exact ze69 | exact ze113 | exact ze121 | exact ze136) rfl rfl ?_ | refine DLR.box rfl rfl (by rfl) (by rfl) rfl rfl ?_ | refine DLR.store rfl rfl (by rfl) rfl rfl rfl rfl rfl (by rfl) (by rfl) (TT_ok.ld _ _ (by rfl)) (by rfl) (by rfl) rfl ?_ | refine DLR.any (h := fun Y => POp.O Tryz.func117 (hc := cpS_s _ (by assumption) (by assumption))) ?_ | refine DLR.row rfl (fun Y => RowRun.empty (by rfl) (by rfl) (by first | exact rwk27 | exact rwk28 | exact rwk29 | exact rwk113)) rfl rfl ?_ | refine DLR.row rfl (fun Y => RowRun.literal (by rfl) (by first | exact rwk27 | exact rwk28 | exact rwk29 | exact rwk113) (by rfl) (by rfl) (by rfl) (by rfl) (by rfl) (by rfl)) rfl rfl ?_ | refine DLR.append rfl (by rfl) (by first | exact rwk27 | exact rwk28 | exact rwk29 | exact rwk113) (by rfl) rfl rfl rfl rfl rfl rfl (by rfl) (by first | (simp <;> omega) | omega) (by first | (simp [maxLen] <;> omega) | (simp_all [maxLen] <;> omega)) ?_ | refine DLR.nil ?_)
    | ((with_reducible show AW ..); first | refine AW.seq ?_ | refine AW.region ?_ | refine AW.skip ?_ | (refine AW.loopD hE (fun i : Nat => [.ro 3 (l.map TEdition.en), .any, .any, .own 0 i, I (i : Int), .any, .any, .any, .any, .any, .any, .any, .any, .any, .any, .any, .any, .any, .any, .any, .any, .any, .any, .any, .any, .any, .any, .any, .any, .any, .any, .any, .any]) (fun i => [some ⟨136, 3, i, false, (l.take i).map TEdition.ed⟩]) (fun i => l.length - i) (fun i => i ≤ l.length) 0 (by simp) ?_ (by first | rfl | (simp [fil_zero]; done)) ?_) | refine AW.drawnR (id := 5) 19 2 [none, none, none, none, none, none, none, none, none, none, none, some 0, none, none, none, none, none, none, some 1] [some Rsv, some Rsv] rfl (by kernel_rfl) (by kernel_rfl) (by kernel_rfl) (by rfl) ?_ | refine AW.cT ?_ | refine AW.cF ?_ | (refine AW.c2 ?_ ?_ <;> (intro h; try simp only [bT, bF] at h)) | refine AW.block ?_ | refine AW.exit ?_ | refine AW.ret ?_)
    | with_reducible refine ifP ?_
    | with_reducible refine ifN ?_) <;> (try dsimp only))
  · (repeat' (first | exact Wk.nil | refine Wk.any ?_ | (with_reducible refine Wk.same ?_) | refine Wk.of ?_ ?_)) <;> first | rfl | (rfl)
  · intro i hi
    have hclo : Clo (.ro 3 (l.map TEdition.en)) := clo_list TEdition.clo_en
    by_cases hlt : i < l.length
    · obtain ⟨x, hx⟩ : ∃ x, l[i]? = some x := ⟨_, List.getElem?_eq_getElem hlt⟩
      have hg := map_get (f := TEdition.en) hx
      have ht := lt_true (f := TEdition.en) hlt
      have hn := next_ix hlt (by omega)
      have hm := map_take_cpy (f := TEdition.ed) hx
      have hln := take_len l i
      have hcle : Clo (.agg x.en) := Clo.agg x.clo_en
      obtain ⟨hpl, hpx⟩ := hp x (List.mem_of_getElem? hx)
      have hclS : Clo (.ro 5 (x.source.map TFeature.en)) := clo_list TFeature.clo_en
      repeat' ((first
        | ((with_reducible show AL ..); first | refine AL.any (h := POp.gh POp.mk (Gh.absorbA (q := 0) (id := 1) (j := 1) rfl rfl rfl rfl rfl rfl (DCl.map (fun _ => rfl)) TFeature.und)) ?_ | refine AL.any ?_ | refine AL.nil ?_)
        | ((with_reducible show DL ..); first | refine DL.any ?_ | refine DL.any (h := POp.O Tryz.func117 (hc := cpS_s _ (by assumption) (by assumption))) ?_ | refine DL.nil ?_)
        | ((with_reducible show DLR ..); first | refine DLR.call rfl (by rfl) Tryz.func117 (by rfl) (by rfl) (by rfl) (fun Y => vwlT) (cpS_s _ (by assumption) (by assumption)) rfl (by first | exact DCl.b rfl | exact DCl.map (fun _ => rfl) | assumption) rfl rfl ?_ | refine DLR.any ?_ | refine DLR.alloc rfl rfl (by first | exact ze2 | exact ze3 | exact ze4 | exact ze5 | exact ze6 | exact ze8 | exact ze9 | exact ze10 | exact ze11 | exact ze12 | exact ze13 | exact ze14 | exact ze15 | exact ze16 | exact ze17 | exact ze18 | exact ze19 | exact ze21 | exact ze24 | exact ze27 | exact ze28 | exact ze29 | exact ze30 | exact ze31 | exact ze32 | exact ze69 | exact ze113 | exact ze121 | exact ze136) rfl rfl ?_ | refine DLR.box rfl rfl (by rfl) (by rfl) rfl rfl ?_ | refine DLR.store rfl rfl (by rfl) rfl rfl rfl rfl rfl (by rfl) (by rfl) (TT_ok.ld _ _ (by rfl)) (by rfl) (by rfl) rfl ?_ | refine DLR.any (h := fun Y => POp.O Tryz.func117 (hc := cpS_s _ (by assumption) (by assumption))) ?_ | refine DLR.row rfl (fun Y => RowRun.empty (by rfl) (by rfl) (by first | exact rwk27 | exact rwk28 | exact rwk29 | exact rwk113)) rfl rfl ?_ | refine DLR.row rfl (fun Y => RowRun.literal (by rfl) (by first | exact rwk27 | exact rwk28 | exact rwk29 | exact rwk113) (by rfl) (by rfl) (by rfl) (by rfl) (by rfl) (by rfl)) rfl rfl ?_ | refine DLR.append rfl (by rfl) (by first | exact rwk27 | exact rwk28 | exact rwk29 | exact rwk113) (by rfl) rfl rfl rfl rfl rfl rfl (by rfl) (by first | (simp <;> omega) | omega) (by first | (simp [maxLen] <;> omega) | (simp_all [maxLen] <;> omega)) ?_ | refine DLR.nil ?_)
        | ((with_reducible show AW ..); first | refine AW.seq ?_ | refine AW.region ?_ | refine AW.skip ?_ | refine AW.drawnR (id := 5) 19 2 [none, none, none, none, none, none, none, none, none, none, none, some 0, none, none, none, none, none, none, some 1] [some Rsv, some Rsv] rfl (by kernel_rfl) (by kernel_rfl) (by kernel_rfl) (by rfl) ?_ | refine AW.cT ?_ | refine AW.cF ?_ | (refine AW.c2 ?_ ?_ <;> (intro h; try simp only [bT, bF] at h)) | refine AW.block ?_ | refine AW.exit ?_ | refine AW.ret ?_)
        | with_reducible refine ifP ?_
        | with_reducible refine ifN ?_) <;> (try dsimp only))
      all_goals first
        | (refine ⟨i + 1, _, hlt, by omega, ?_, by rw [hm] <;> rfl, ?_, ?_⟩; (focus ((repeat' (first | exact Wk.nil | refine Wk.any ?_ | (with_reducible refine Wk.same ?_) | refine Wk.of ?_ ?_)) <;> (simp_all))); (focus ((repeat' (first | exact Fits.nil _ | refine Fits.cons ?_ ?_ | exact Fits.any _ | exact Fits.c _ _ | exact Fits.own (by rfl) | exact Fits.ref (by rfl) | exact Fits.clo (by assumption) | exact Fits.clo (clo_of (by rfl)) | exact Fits.clo (clo_fn _))))); (focus (exact fits_dcl (DCl.map (fun _ => rfl)))))
    · have ht := lt_false (f := TEdition.en) hlt
      have e : i = l.length := by omega
      subst e
      try rw [List.take_length]
      repeat' ((first
        | ((with_reducible show AL ..); first | refine AL.any (h := POp.gh POp.mk (Gh.absorbA (q := 0) (id := 1) (j := 1) rfl rfl rfl rfl rfl rfl (DCl.map (fun _ => rfl)) TFeature.und)) ?_ | refine AL.any ?_ | refine AL.nil ?_)
        | ((with_reducible show DL ..); first | refine DL.any ?_ | refine DL.any (h := POp.O Tryz.func117 (hc := cpS_s _ (by assumption) (by assumption))) ?_ | refine DL.nil ?_)
        | ((with_reducible show DLR ..); first | refine DLR.call rfl (by rfl) Tryz.func117 (by rfl) (by rfl) (by rfl) (fun Y => vwlT) (cpS_s _ (by assumption) (by assumption)) rfl (by first | exact DCl.b rfl | exact DCl.map (fun _ => rfl) | assumption) rfl rfl ?_ | refine DLR.any ?_ | refine DLR.alloc rfl rfl (by first | exact ze2 | exact ze3 | exact ze4 | exact ze5 | exact ze6 | exact ze8 | exact ze9 | exact ze10 | exact ze11 | exact ze12 | exact ze13 | exact ze14 | exact ze15 | exact ze16 | exact ze17 | exact ze18 | exact ze19 | exact ze21 | exact ze24 | exact ze27 | exact ze28 | exact ze29 | exact ze30 | exact ze31 | exact ze32 | exact ze69 | exact ze113 | exact ze121 | exact ze136) rfl rfl ?_ | refine DLR.box rfl rfl (by rfl) (by rfl) rfl rfl ?_ | refine DLR.store rfl rfl (by rfl) rfl rfl rfl rfl rfl (by rfl) (by rfl) (TT_ok.ld _ _ (by rfl)) (by rfl) (by rfl) rfl ?_ | refine DLR.any (h := fun Y => POp.O Tryz.func117 (hc := cpS_s _ (by assumption) (by assumption))) ?_ | refine DLR.row rfl (fun Y => RowRun.empty (by rfl) (by rfl) (by first | exact rwk27 | exact rwk28 | exact rwk29 | exact rwk113)) rfl rfl ?_ | refine DLR.row rfl (fun Y => RowRun.literal (by rfl) (by first | exact rwk27 | exact rwk28 | exact rwk29 | exact rwk113) (by rfl) (by rfl) (by rfl) (by rfl) (by rfl) (by rfl)) rfl rfl ?_ | refine DLR.append rfl (by rfl) (by first | exact rwk27 | exact rwk28 | exact rwk29 | exact rwk113) (by rfl) rfl rfl rfl rfl rfl rfl (by rfl) (by first | (simp <;> omega) | omega) (by first | (simp [maxLen] <;> omega) | (simp_all [maxLen] <;> omega)) ?_ | refine DLR.nil ?_)
        | ((with_reducible show AW ..); first | refine AW.seq ?_ | refine AW.region ?_ | refine AW.skip ?_ | refine AW.drawnR (id := 5) 19 2 [none, none, none, none, none, none, none, none, none, none, none, some 0, none, none, none, none, none, none, some 1] [some Rsv, some Rsv] rfl (by kernel_rfl) (by kernel_rfl) (by kernel_rfl) (by rfl) ?_ | refine AW.cT ?_ | refine AW.cF ?_ | (refine AW.c2 ?_ ?_ <;> (intro h; try simp only [bT, bF] at h)) | refine AW.block ?_ | refine AW.exit ?_ | refine AW.ret ?_)
        | with_reducible refine ifP ?_
        | with_reducible refine ifN ?_) <;> (try dsimp only))
      all_goals (try simp only [List.take_length]); exact Fin.r1 [0] rfl (RV.tmp (by rfl)) ⟨rfl, rfl⟩

def TAtlas.gs (a : TAtlas) : Prop := (a.log.length ≤ 1048576 ∧ ∀ e ∈ a.log, e.feature.sm) ∧ a.levels.length ≤ 1048576 ∧ (a.editions.length ≤ 1048576 ∧ ∀ e ∈ a.editions, e.source.length ≤ 1048576 ∧ ∀ x ∈ e.source, x.sm)
theorem cpA_i (a : TAtlas) (hgs : a.gs) : VCalls Tryz.prog 75 [.agg a.en] (fun r M => r = .agg a.eo ∧ M = a.rw) := by
  refine VCalls.body Tryz.func75 rfl 15 rfl (fun E => ?_)
  simp only [List.reduceReplicate, List.cons_append, List.nil_append]
  have hclL : Clo (.ro 8 (a.log.map TEntry.en)) := clo_list TEntry.clo_en
  have hclV : Clo (.ro 3 (a.levels.map TLevel.en)) := clo_list TLevel.clo_en
  have hclE : Clo (.ro 3 (a.editions.map TEdition.en)) := clo_list TEdition.clo_en
  obtain ⟨⟨g1, g2⟩, g3, g4, g5⟩ := id hgs
  dsimp only [TAtlas.en]
  repeat' ((first
    | ((with_reducible show AL ..); first | refine AL.any ?_ | refine AL.nil ?_)
    | ((with_reducible show DL ..); first | refine DL.any ?_ | refine DL.any (h := POp.O Tryz.func63 (hc := cloneLevel _ (by assumption))) ?_ | refine DL.any (h := POp.O Tryz.func115 (hc := cpL_i _ (by assumption) (by assumption))) ?_ | refine DL.any (h := POp.O Tryz.func116 (hc := cpD_i _ (by assumption) (by assumption))) ?_ | refine DL.nil ?_)
    | ((with_reducible show DLR ..); first | refine DLR.call rfl (by rfl) Tryz.func116 (by rfl) (by rfl) (by rfl) (fun Y => vwlT) (cpD_i _ (by assumption) (by assumption)) rfl (by first | exact DCl.b rfl | exact DCl.map (fun _ => rfl) | assumption) rfl rfl ?_ | refine DLR.call rfl (by rfl) Tryz.func115 (by rfl) (by rfl) (by rfl) (fun Y => vwlT) (cpL_i _ (by assumption) (by assumption)) rfl (by first | exact DCl.b rfl | exact DCl.map (fun _ => rfl) | assumption) rfl rfl ?_ | refine DLR.call rfl (by rfl) Tryz.func63 (by rfl) (by rfl) (by rfl) (fun Y => vwlT) (cloneLevel _ (by assumption)) rfl (by first | exact DCl.b rfl | exact DCl.map (fun _ => rfl) | assumption) rfl rfl ?_ | refine DLR.any ?_ | refine DLR.alloc rfl rfl (by first | exact ze2 | exact ze3 | exact ze4 | exact ze5 | exact ze6 | exact ze8 | exact ze9 | exact ze11 | exact ze12 | exact ze13 | exact ze14 | exact ze15 | exact ze27 | exact ze28 | exact ze29 | exact ze30 | exact ze32 | exact ze97 | exact ze121 | exact ze136) rfl rfl ?_ | refine DLR.box rfl rfl (by rfl) (by rfl) rfl rfl ?_ | refine DLR.store rfl rfl (by rfl) rfl rfl rfl rfl rfl (by rfl) (by rfl) (TT_ok.ld _ _ (by rfl)) (by rfl) (by rfl) rfl ?_ | refine DLR.any (h := fun Y => POp.O Tryz.func63 (hc := cloneLevel _ (by assumption))) ?_ | refine DLR.any (h := fun Y => POp.O Tryz.func115 (hc := cpL_i _ (by assumption) (by assumption))) ?_ | refine DLR.any (h := fun Y => POp.O Tryz.func116 (hc := cpD_i _ (by assumption) (by assumption))) ?_ | refine DLR.row rfl (fun Y => RowRun.empty (by rfl) (by rfl) (by first | exact rwk27 | exact rwk28 | exact rwk29)) rfl rfl ?_ | refine DLR.row rfl (fun Y => RowRun.literal (by rfl) (by first | exact rwk27 | exact rwk28 | exact rwk29) (by rfl) (by rfl) (by rfl) (by rfl) (by rfl) (by rfl)) rfl rfl ?_ | refine DLR.append rfl (by rfl) (by first | exact rwk27 | exact rwk28 | exact rwk29) (by rfl) rfl rfl rfl rfl rfl rfl (by rfl) (by first | (simp <;> omega) | omega) (by first | (simp [maxLen] <;> omega) | (simp_all [maxLen] <;> omega)) ?_ | refine DLR.nil ?_)
    | ((with_reducible show AW ..); first | refine AW.seq ?_ | refine AW.region ?_ | refine AW.skip ?_ | refine AW.drawnR (id := 1) 10 3 [none, none, some 0, none, none, some 1, none, none, some 2, none] [some Rsv, some Rsv, some Rsv] rfl (by kernel_rfl) (by kernel_rfl) (by kernel_rfl) (by rfl) ?_ | refine AW.block ?_ | refine AW.exit ?_ | refine AW.ret ?_)) <;> (try dsimp only))
  all_goals exact Fin.r1 [2, 3, 4] rfl (RV.cell (QOp.quietA TT_ok (by rfl))) ⟨rfl, rfl⟩

theorem cpA_s (a : TAtlas) (hgs : a.gs) : VCalls Tryz.prog 60 [.agg a.en] (fun r M => r = .agg a.eo ∧ M = a.rw) := by
  refine VCalls.body Tryz.func60 rfl 17 rfl (fun E => ?_)
  simp only [List.reduceReplicate, List.cons_append, List.nil_append]
  have hclL : Clo (.ro 8 (a.log.map TEntry.en)) := clo_list TEntry.clo_en
  have hclV : Clo (.ro 3 (a.levels.map TLevel.en)) := clo_list TLevel.clo_en
  have hclE : Clo (.ro 3 (a.editions.map TEdition.en)) := clo_list TEdition.clo_en
  obtain ⟨⟨g1, g2⟩, g3, g4, g5⟩ := id hgs
  dsimp only [TAtlas.en]
  repeat' ((first
    | ((with_reducible show AL ..); first | refine AL.any ?_ | refine AL.nil ?_)
    | ((with_reducible show DL ..); first | refine DL.any ?_ | refine DL.any (h := POp.O Tryz.func101 (hc := cpL_s _ (by assumption) (by assumption))) ?_ | refine DL.any (h := POp.O Tryz.func102 (hc := cpD_s _ (by assumption) (by assumption))) ?_ | refine DL.nil ?_)
    | ((with_reducible show DLR ..); first | refine DLR.call rfl (by rfl) Tryz.func102 (by rfl) (by rfl) (by rfl) (fun Y => vwlT) (cpD_s _ (by assumption) (by assumption)) rfl (by first | exact DCl.b rfl | exact DCl.map (fun _ => rfl) | assumption) rfl rfl ?_ | refine DLR.call rfl (by rfl) Tryz.func101 (by rfl) (by rfl) (by rfl) (fun Y => vwlT) (cpL_s _ (by assumption) (by assumption)) rfl (by first | exact DCl.b rfl | exact DCl.map (fun _ => rfl) | assumption) rfl rfl ?_ | refine DLR.any ?_ | refine DLR.alloc rfl rfl (by first | exact ze2 | exact ze3 | exact ze4 | exact ze6 | exact ze7 | exact ze9 | exact ze10 | exact ze12 | exact ze13 | exact ze15 | exact ze17 | exact ze27 | exact ze28 | exact ze29 | exact ze30 | exact ze32 | exact ze97 | exact ze121 | exact ze136) rfl rfl ?_ | refine DLR.box rfl rfl (by rfl) (by rfl) rfl rfl ?_ | refine DLR.store rfl rfl (by rfl) rfl rfl rfl rfl rfl (by rfl) (by rfl) (TT_ok.ld _ _ (by rfl)) (by rfl) (by rfl) rfl ?_ | refine DLR.any (h := fun Y => POp.O Tryz.func101 (hc := cpL_s _ (by assumption) (by assumption))) ?_ | refine DLR.any (h := fun Y => POp.O Tryz.func102 (hc := cpD_s _ (by assumption) (by assumption))) ?_ | refine DLR.row rfl (fun Y => RowRun.empty (by rfl) (by rfl) (by first | exact rwk27 | exact rwk28 | exact rwk29)) rfl rfl ?_ | refine DLR.row rfl (fun Y => RowRun.literal (by rfl) (by first | exact rwk27 | exact rwk28 | exact rwk29) (by rfl) (by rfl) (by rfl) (by rfl) (by rfl) (by rfl)) rfl rfl ?_ | refine DLR.append rfl (by rfl) (by first | exact rwk27 | exact rwk28 | exact rwk29) (by rfl) rfl rfl rfl rfl rfl rfl (by rfl) (by first | (simp <;> omega) | omega) (by first | (simp [maxLen] <;> omega) | (simp_all [maxLen] <;> omega)) ?_ | refine DLR.nil ?_)
    | ((with_reducible show AW ..); first | refine AW.seq ?_ | refine AW.region ?_ | refine AW.skip ?_ | refine AW.drawnR (id := 1) 14 3 [none, none, some 0, some 1, none, none, some 1, none, none, some 2, none, none, none, none] [some Rsv, some Rsv, some Rsv] rfl (by kernel_rfl) (by kernel_rfl) (by kernel_rfl) (by rfl) ?_ | refine AW.block ?_ | refine AW.exit ?_ | refine AW.ret ?_)) <;> (try dsimp only))
  all_goals exact Fin.r1 [2, 3, 4] rfl (RV.cell (QOp.quietA TT_ok (by rfl))) ⟨rfl, rfl⟩

def inr (a b c : Int) : Bool := decide (b ≤ a) && decide (a ≤ c)
def isp (x y : Int) : Bool := inr x 0 200 && inr y 0 200
abbrev wadd (a b : Int) : Int := IntKind.i64.wrap (a + b)
def wmax (a b : Int) : Int := if b > a then b else a
abbrev ptE (a b : TPoint) : Bool := eqVs [.int .i64 a.x, .int .i64 a.y] [.int .i64 b.x, .int .i64 b.y]
theorem ptE_comm (a b : TPoint) : ptE a b = ptE b a := by simp [ptE, eqVs, eqV, Bool.beq_comm, BEq.comm]
def prevP (l : List TPoint) (i : Nat) : TPoint := l.getD (i - 1) ⟨0, 0⟩
def okAt (l : List TPoint) (i : Nat) : Bool := match l[i]? with
  | none => false
  | some x => isp x.x x.y && (i == 0 || !ptE (prevP l i) x)
def ptsOk (l : List TPoint) (n : Nat) : Bool := (List.range n).all (okAt l)
theorem ptsOk_succ (l : List TPoint) (i : Nat) : ptsOk l (i + 1) = (ptsOk l i && okAt l i) := by simp [ptsOk, List.range_succ]
theorem ptsOk_not {l : List TPoint} {i n : Nat} (h : okAt l i = false) (hi : i < n) : ptsOk l n = false := by
  simp only [ptsOk, List.all_eq_false, List.mem_range]
  exact ⟨i, hi, by simp [h]⟩
def isLine (l : List TPoint) : Bool := inr l.length 2 10 && ptsOk l l.length
theorem ln_cases {l : List TPoint} {i : Nat} {x : TPoint} (hx : l[i]? = some x) (hl : l.length ≤ 1048576) :
    (isp x.x x.y = false ∧ okAt l i = false) ∨ (isp x.x x.y = true ∧ decide ((i : Int) > 0) = false ∧ okAt l i = true) ∨
    (isp x.x x.y = true ∧ decide ((i : Int) > 0) = true ∧ 0 ≤ IntKind.i64.wrap ((i : Int) - 1) ∧ (l.map TPoint.en)[(IntKind.i64.wrap ((i : Int) - 1)).toNat]? = some (prevP l i).en ∧ okAt l i = !ptE (prevP l i) x) := by
  have hi := (List.getElem?_eq_some_iff.1 hx).1
  cases hI : isp x.x x.y
  · exact .inl ⟨rfl, by simp [okAt, hx, hI]⟩
  · rcases Nat.eq_zero_or_pos i with h0 | h0
    · subst h0
      exact .inr (.inl ⟨rfl, by simp, by simp [okAt, hx, hI]⟩)
    · have e : IntKind.i64.wrap ((i : Int) - 1) = ((i - 1 : Nat) : Int) := by rw [w64 (by omega) (by omega)]; omega
      refine .inr (.inr ⟨rfl, decide_eq_true (by omega), by omega, ?_, ?_⟩)
      · rw [e, Int.toNat_natCast, List.getElem?_map, List.getElem?_eq_getElem (show i - 1 < l.length by omega)]
        simp [prevP, List.getD_eq_getElem?_getD, List.getElem?_eq_getElem (show i - 1 < l.length by omega)]
      · have : (i == 0) = false := by simp; omega
        simp [okAt, hx, hI, this]
def segs (l : List TPoint) : List TSegment := if isLine l then List.zipWith TSegment.mk l l.tail else []
theorem isLine_len {l : List TPoint} (h : isLine l = true) : 2 ≤ l.length ∧ l.length ≤ 10 := by
  simp only [isLine, inr, Bool.and_eq_true, decide_eq_true_eq] at h
  omega
theorem segs_len {l : List TPoint} (h : isLine l = true) : (segs l).length = l.length - 1 := by simp [segs, h]
theorem segs_nil {l : List TPoint} (h : isLine l = false) : segs l = [] := by simp [segs, h]
theorem segs_le (l : List TPoint) : (segs l).length ≤ 9 := by
  cases h : isLine l
  · simp [segs_nil h]
  · have := isLine_len h; rw [segs_len h]; omega
theorem segs_get {l : List TPoint} {i : Nat} (h : i < (segs l).length) : ∃ a b, isLine l = true ∧ i + 1 < l.length ∧ l[i]? = some a ∧ l[i + 1]? = some b ∧ (segs l)[i]? = some ⟨a, b⟩ := by
  cases hL : isLine l
  · simp [segs_nil hL] at h
  · have h1 := h
    rw [segs_len hL] at h1
    refine ⟨l[i], l[i + 1], rfl, by omega, List.getElem?_eq_getElem (by omega), List.getElem?_eq_getElem (by omega), ?_⟩
    simp [segs, hL, List.getElem?_zipWith, List.getElem?_eq_getElem (show i < l.length by omega), List.getElem?_tail, List.getElem?_eq_getElem (show i + 1 < l.length by omega)]
theorem clo_rows {α : Type} {en : α → List AV} (h : ∀ a, ∀ x ∈ en a, Clo x) {l : List α} : ∀ r ∈ l.map en, ∀ x ∈ r, Clo x := fun r hr x hx => by
  obtain ⟨a, _, rfl⟩ := List.mem_map.1 hr
  exact h a x hx
theorem clo_rows_nil : ∀ r ∈ ([] : List (List AV)), ∀ x ∈ r, Clo x := fun r hr => by simp at hr
theorem map_take_succ {α β : Type} {f : α → β} {l : List α} {i : Nat} {x : α} (h : l[i]? = some x) : (l.take (i + 1)).map f = (l.take i).map f ++ [f x] := by rw [take_succ_of h]; simp
theorem inr_v (a b c : Int) : VCalls Tryz.prog 78 [I a, I b, I c] (fun r M => r = B (inr a b c) ∧ M = []) := by
  refine VCalls.body Tryz.func78 rfl 12 rfl (fun E => ?_)
  simp only [List.reduceReplicate, List.cons_append, List.nil_append]
  repeat' ((first
    | ((with_reducible show AL ..); first | refine AL.any ?_ | refine AL.U ?_ | refine AL.F ?_ | refine AL.T ?_ | refine AL.W ?_ | refine AL.nil ?_)
    | ((with_reducible show AW ..); first | refine AW.seq ?_ | refine AW.region ?_ | refine AW.skip ?_ | refine AW.block ?_ | refine AW.exit ?_ | refine AW.ret ?_)) <;> (try dsimp only))
  all_goals exact Fin.one rfl (RV.tmp (by rfl)) (clo_c _) ⟨by first | rfl | (simp_all [inr]; done) | (simp only [inr]; split <;> simp_all <;> omega), rfl⟩

theorem inr_s (a b c : Int) : VCalls Tryz.prog 77 [I a, I b, I c] (fun r M => r = B (inr a b c) ∧ M = []) := by
  refine VCalls.body Tryz.func77 rfl 12 rfl (fun E => ?_)
  simp only [List.reduceReplicate, List.cons_append, List.nil_append]
  repeat' ((first
    | ((with_reducible show AL ..); first | refine AL.any ?_ | refine AL.U ?_ | refine AL.F ?_ | refine AL.T ?_ | refine AL.W ?_ | refine AL.nil ?_)
    | ((with_reducible show AW ..); first | refine AW.seq ?_ | refine AW.region ?_ | refine AW.skip ?_ | refine AW.block ?_ | refine AW.exit ?_ | refine AW.ret ?_)) <;> (try dsimp only))
  all_goals exact Fin.one rfl (RV.tmp (by rfl)) (clo_c _) ⟨by first | rfl | (simp_all [inr]; done) | (simp only [inr]; split <;> simp_all <;> omega), rfl⟩

theorem isp_v (x y : Int) : VCalls Tryz.prog 153 [.agg [I x, I y]] (fun r M => r = B (isp x y) ∧ M = []) := by
  refine VCalls.body Tryz.func153 rfl 10 rfl (fun E => ?_)
  simp only [List.reduceReplicate, List.cons_append, List.nil_append]
  repeat' ((first
    | ((with_reducible show AL ..); first | refine AL.any ?_ | refine AL.any (h := POp.k Tryz.func78 (hc := inr_v _ _ _)) ?_ | refine AL.U ?_ | refine AL.F ?_ | refine AL.T ?_ | refine AL.T (h := POp.k Tryz.func78 (hc := inr_v _ _ _)) ?_ | refine AL.W ?_ | refine AL.W (h := fun h => by (try rw [h]); exact POp.k Tryz.func78 (hc := inr_v _ _ _)) ?_ | refine AL.nil ?_)
    | ((with_reducible show AW ..); first | refine AW.seq ?_ | refine AW.region ?_ | refine AW.skip ?_ | refine AW.block ?_ | refine AW.exit ?_ | refine AW.ret ?_)) <;> (try dsimp only))
  all_goals exact Fin.one rfl (RV.tmp (by rfl)) (clo_c _) ⟨by first | rfl | (simp_all [isp]; done) | (simp only [isp]; split <;> simp_all <;> omega), rfl⟩

theorem isp_v_t (x y : Int) (h : isp x y = true) : VCalls Tryz.prog 153 [.agg [I x, I y]] (fun r M => r = B true ∧ M = []) := h ▸ isp_v x y
theorem isp_v_f (x y : Int) (h : isp x y = false) : VCalls Tryz.prog 153 [.agg [I x, I y]] (fun r M => r = B false ∧ M = []) := h ▸ isp_v x y
theorem isp_s (x y : Int) : VCalls Tryz.prog 147 [.agg [I x, I y]] (fun r M => r = B (isp x y) ∧ M = []) := by
  refine VCalls.body Tryz.func147 rfl 10 rfl (fun E => ?_)
  simp only [List.reduceReplicate, List.cons_append, List.nil_append]
  repeat' ((first
    | ((with_reducible show AL ..); first | refine AL.any ?_ | refine AL.any (h := POp.k Tryz.func77 (hc := inr_s _ _ _)) ?_ | refine AL.U ?_ | refine AL.F ?_ | refine AL.T ?_ | refine AL.T (h := POp.k Tryz.func77 (hc := inr_s _ _ _)) ?_ | refine AL.W ?_ | refine AL.W (h := fun h => by (try rw [h]); exact POp.k Tryz.func77 (hc := inr_s _ _ _)) ?_ | refine AL.nil ?_)
    | ((with_reducible show AW ..); first | refine AW.seq ?_ | refine AW.region ?_ | refine AW.skip ?_ | refine AW.block ?_ | refine AW.exit ?_ | refine AW.ret ?_)) <;> (try dsimp only))
  all_goals exact Fin.one rfl (RV.tmp (by rfl)) (clo_c _) ⟨by first | rfl | (simp_all [isp]; done) | (simp only [isp]; split <;> simp_all <;> omega), rfl⟩

theorem isp_s_t (x y : Int) (h : isp x y = true) : VCalls Tryz.prog 147 [.agg [I x, I y]] (fun r M => r = B true ∧ M = []) := h ▸ isp_s x y
theorem isp_s_f (x y : Int) (h : isp x y = false) : VCalls Tryz.prog 147 [.agg [I x, I y]] (fun r M => r = B false ∧ M = []) := h ▸ isp_s x y
theorem isLine_s (l : List TPoint) (hl : l.length ≤ 1048576) : VCalls Tryz.prog 168 [.ro 2 (l.map TPoint.en)] (fun r M => r = B (isLine l) ∧ M = []) := by
  refine VCalls.bodyE Tryz.func168 rfl 34 rfl (fun E hE => ?_)
  simp only [List.reduceReplicate, List.cons_append, List.nil_append]
  repeat' ((first
    | ((with_reducible show AL ..); first | refine AL.any ?_ | refine AL.any (h := POp.k Tryz.func77 (hc := inr_s _ _ _)) ?_ | refine AL.U ?_ | refine AL.F ?_ | refine AL.T ?_ | refine AL.W ?_ | refine AL.nil ?_)
    | ((with_reducible show DL ..); first | refine DL.any ?_ | refine DL.any (h := POp.k Tryz.func147 (hc := by first | exact isp_s_t _ _ (by assumption) | exact isp_s_f _ _ (by assumption) | exact isp_s _ _)) ?_ | refine DL.U ?_ | refine DL.F ?_ | refine DL.T ?_ | refine DL.W ?_ | refine DL.nil ?_)
    | ((with_reducible show AW ..); first | refine AW.seq ?_ | refine AW.region ?_ | refine AW.skip ?_ | (refine AW.loopD hE (fun i : Nat => [.ro 2 (l.map TPoint.en), .any, .any, I i, .any, .any, .any, .any, .any, .any, .any, .any, .any, .any, .any, .any, .any, .any, .any, .any, .any, .any, .any, .any, .any, .any, .any, .any, .any, .any, .any, .any, .any, .any, .any]) (fun i => []) (fun i => l.length - i) (fun i => i ≤ l.length ∧ ptsOk l i = true) 0 (by simp [ptsOk]) ?_ (by first | rfl | (simp [fil_zero]; done)) ?_) | refine AW.dr (id := 4) 19 ?_ | refine AW.cT ?_ | refine AW.cF ?_ | (refine AW.c2 ?_ ?_ <;> (intro h; try simp only [bT, bF] at h)) | refine AW.block ?_ | refine AW.exit ?_ | refine AW.ret ?_)
    | with_reducible refine ifP ?_
    | with_reducible refine ifN ?_) <;> (try dsimp only))
  · (repeat' (first | exact Wk.nil | refine Wk.any ?_ | (with_reducible refine Wk.same ?_) | refine Wk.of ?_ ?_)) <;> first | rfl | (simp)
  · intro i hi
    have hclo : Clo (.ro 2 (l.map TPoint.en)) := clo_list TPoint.clo_en
    by_cases hlt : i < l.length
    · obtain ⟨x, hx⟩ : ∃ x, l[i]? = some x := ⟨_, List.getElem?_eq_getElem hlt⟩
      have hg := map_get (f := TPoint.en) hx
      have ht := lt_true (f := TPoint.en) hlt
      have hn := next_ix hlt (by omega)
      have hsu := ptsOk_succ l i
      have hpc := ptE_comm x (prevP l i)
      rcases ln_cases hx hl with ⟨hI, hk⟩ | ⟨hI, hz, hk⟩ | ⟨hI, hz, h0, hp, hk⟩
      repeat' ((first
        | ((with_reducible show AL ..); first | refine AL.any ?_ | refine AL.any (h := POp.k Tryz.func77 (hc := inr_s _ _ _)) ?_ | refine AL.U ?_ | refine AL.F ?_ | refine AL.T ?_ | refine AL.W ?_ | refine AL.nil ?_)
        | ((with_reducible show DL ..); first | refine DL.any ?_ | refine DL.any (h := POp.k Tryz.func147 (hc := by first | exact isp_s_t _ _ (by assumption) | exact isp_s_f _ _ (by assumption) | exact isp_s _ _)) ?_ | refine DL.U ?_ | refine DL.F ?_ | refine DL.T ?_ | refine DL.W ?_ | refine DL.nil ?_)
        | ((with_reducible show AW ..); first | refine AW.seq ?_ | refine AW.region ?_ | refine AW.skip ?_ | refine AW.dr (id := 4) 19 ?_ | refine AW.cT ?_ | refine AW.cF ?_ | (refine AW.c2 ?_ ?_ <;> (intro h; try simp only [bT, bF] at h)) | refine AW.block ?_ | refine AW.exit ?_ | refine AW.ret ?_)
        | with_reducible refine ifP ?_
        | with_reducible refine ifN ?_) <;> (try dsimp only))
      all_goals first
        | (refine ⟨i + 1, _, ⟨hlt, by simp_all⟩, by omega, ?_, rfl, ?_, ?_⟩; (focus ((repeat' (first | exact Wk.nil | refine Wk.any ?_ | (with_reducible refine Wk.same ?_) | refine Wk.of ?_ ?_)) <;> (simp_all))); (focus ((repeat' (first | exact Fits.nil _ | refine Fits.cons ?_ ?_ | exact Fits.any _ | exact Fits.c _ _ | exact Fits.own (by rfl) | exact Fits.ref (by rfl) | exact Fits.clo (by assumption) | exact Fits.clo (clo_of (by rfl)) | exact Fits.clo (clo_fn _))))); (focus (exact FitsM.nil _)))
        | exact Fin.one rfl (RV.tmp (by rfl)) (clo_c _) ⟨by have hn := ptsOk_not (n := l.length) (by simp_all : okAt l i = false) hlt; simp_all [isLine], rfl⟩
    · have ht := lt_false (f := TPoint.en) hlt
      have e : i = l.length := by omega
      subst e
      try rw [List.take_length]
      repeat' ((first
        | ((with_reducible show AL ..); first | refine AL.any ?_ | refine AL.any (h := POp.k Tryz.func77 (hc := inr_s _ _ _)) ?_ | refine AL.U ?_ | refine AL.F ?_ | refine AL.T ?_ | refine AL.W ?_ | refine AL.nil ?_)
        | ((with_reducible show DL ..); first | refine DL.any ?_ | refine DL.any (h := POp.k Tryz.func147 (hc := by first | exact isp_s_t _ _ (by assumption) | exact isp_s_f _ _ (by assumption) | exact isp_s _ _)) ?_ | refine DL.U ?_ | refine DL.F ?_ | refine DL.T ?_ | refine DL.W ?_ | refine DL.nil ?_)
        | ((with_reducible show AW ..); first | refine AW.seq ?_ | refine AW.region ?_ | refine AW.skip ?_ | refine AW.dr (id := 4) 19 ?_ | refine AW.cT ?_ | refine AW.cF ?_ | (refine AW.c2 ?_ ?_ <;> (intro h; try simp only [bT, bF] at h)) | refine AW.block ?_ | refine AW.exit ?_ | refine AW.ret ?_)
        | with_reducible refine ifP ?_
        | with_reducible refine ifN ?_) <;> (try dsimp only))
      all_goals exact Fin.one rfl (RV.tmp (by rfl)) (clo_c _) ⟨by simp_all [isLine], rfl⟩

theorem isLine_i (l : List TPoint) (hl : l.length ≤ 1048576) : VCalls Tryz.prog 173 [.ro 2 (l.map TPoint.en)] (fun r M => r = B (isLine l) ∧ M = []) := by
  refine VCalls.bodyE Tryz.func173 rfl 36 rfl (fun E hE => ?_)
  simp only [List.reduceReplicate, List.cons_append, List.nil_append]
  repeat' ((first
    | ((with_reducible show AL ..); first | refine AL.any ?_ | refine AL.U ?_ | refine AL.F ?_ | refine AL.T ?_ | refine AL.W ?_ | refine AL.nil ?_)
    | ((with_reducible show DL ..); first | refine DL.any ?_ | refine DL.any (h := POp.k Tryz.func153 (hc := by first | exact isp_v_t _ _ (by assumption) | exact isp_v_f _ _ (by assumption) | exact isp_v _ _)) ?_ | refine DL.U ?_ | refine DL.F ?_ | refine DL.T ?_ | refine DL.W ?_ | refine DL.nil ?_)
    | ((with_reducible show AW ..); first | refine AW.seq ?_ | refine AW.region ?_ | refine AW.skip ?_ | (refine AW.loopD hE (fun i : Nat => [.ro 2 (l.map TPoint.en), .any, .any, .any, .any, .any, .any, .any, .any, .any, .any, .any, .any, .ro 2 (l.map TPoint.en), I (l.map TPoint.en).length, I i, .any, .any, .any, .any, .any, .any, .any, .any, .any, .any, .any, .any, .any, .any, .any, .any, .any, .any, .any, .any, .any]) (fun i => []) (fun i => l.length - i) (fun i => i ≤ l.length ∧ ptsOk l i = true) 0 (by simp [ptsOk]) ?_ (by first | rfl | (simp [fil_zero]; done)) ?_) | refine AW.dr (id := 6) 13 ?_ | refine AW.cT ?_ | refine AW.cF ?_ | (refine AW.c2 ?_ ?_ <;> (intro h; try simp only [bT, bF] at h)) | refine AW.block ?_ | refine AW.exit ?_ | refine AW.ret ?_)
    | with_reducible refine ifP ?_
    | with_reducible refine ifN ?_) <;> (try dsimp only))
  · exact Fin.one rfl (RV.tmp (by rfl)) (clo_c _) ⟨by simp_all [isLine, inr] <;> omega, rfl⟩
  · (repeat' (first | exact Wk.nil | refine Wk.any ?_ | (with_reducible refine Wk.same ?_) | refine Wk.of ?_ ?_)) <;> first | rfl | (simp)
  · intro i hi
    have hclo : Clo (.ro 2 (l.map TPoint.en)) := clo_list TPoint.clo_en
    by_cases hlt : i < l.length
    · obtain ⟨x, hx⟩ : ∃ x, l[i]? = some x := ⟨_, List.getElem?_eq_getElem hlt⟩
      have hg := map_get (f := TPoint.en) hx
      have ht := lt_true (f := TPoint.en) hlt
      have hn := next_ix hlt (by omega)
      have hsu := ptsOk_succ l i
      have hpc := ptE_comm x (prevP l i)
      rcases ln_cases hx hl with ⟨hI, hk⟩ | ⟨hI, hz, hk⟩ | ⟨hI, hz, h0, hp, hk⟩
      repeat' ((first
        | ((with_reducible show AL ..); first | refine AL.any ?_ | refine AL.U ?_ | refine AL.F ?_ | refine AL.T ?_ | refine AL.W ?_ | refine AL.nil ?_)
        | ((with_reducible show DL ..); first | refine DL.any ?_ | refine DL.any (h := POp.k Tryz.func153 (hc := by first | exact isp_v_t _ _ (by assumption) | exact isp_v_f _ _ (by assumption) | exact isp_v _ _)) ?_ | refine DL.U ?_ | refine DL.F ?_ | refine DL.T ?_ | refine DL.W ?_ | refine DL.nil ?_)
        | ((with_reducible show AW ..); first | refine AW.seq ?_ | refine AW.region ?_ | refine AW.skip ?_ | refine AW.dr (id := 6) 13 ?_ | refine AW.cT ?_ | refine AW.cF ?_ | (refine AW.c2 ?_ ?_ <;> (intro h; try simp only [bT, bF] at h)) | refine AW.block ?_ | refine AW.exit ?_ | refine AW.ret ?_)
        | with_reducible refine ifP ?_
        | with_reducible refine ifN ?_) <;> (try dsimp only))
      all_goals first
        | (refine ⟨i + 1, _, ⟨hlt, by simp_all⟩, by omega, ?_, rfl, ?_, ?_⟩; (focus ((repeat' (first | exact Wk.nil | refine Wk.any ?_ | (with_reducible refine Wk.same ?_) | refine Wk.of ?_ ?_)) <;> (simp_all))); (focus ((repeat' (first | exact Fits.nil _ | refine Fits.cons ?_ ?_ | exact Fits.any _ | exact Fits.c _ _ | exact Fits.own (by rfl) | exact Fits.ref (by rfl) | exact Fits.clo (by assumption) | exact Fits.clo (clo_of (by rfl)) | exact Fits.clo (clo_fn _))))); (focus (exact FitsM.nil _)))
        | exact Fin.one rfl (RV.tmp (by rfl)) (clo_c _) ⟨by have hn := ptsOk_not (n := l.length) (by simp_all : okAt l i = false) hlt; simp_all [isLine], rfl⟩
    · have ht := lt_false (f := TPoint.en) hlt
      have e : i = l.length := by omega
      subst e
      try rw [List.take_length]
      repeat' ((first
        | ((with_reducible show AL ..); first | refine AL.any ?_ | refine AL.U ?_ | refine AL.F ?_ | refine AL.T ?_ | refine AL.W ?_ | refine AL.nil ?_)
        | ((with_reducible show DL ..); first | refine DL.any ?_ | refine DL.any (h := POp.k Tryz.func153 (hc := by first | exact isp_v_t _ _ (by assumption) | exact isp_v_f _ _ (by assumption) | exact isp_v _ _)) ?_ | refine DL.U ?_ | refine DL.F ?_ | refine DL.T ?_ | refine DL.W ?_ | refine DL.nil ?_)
        | ((with_reducible show AW ..); first | refine AW.seq ?_ | refine AW.region ?_ | refine AW.skip ?_ | refine AW.dr (id := 6) 13 ?_ | refine AW.cT ?_ | refine AW.cF ?_ | (refine AW.c2 ?_ ?_ <;> (intro h; try simp only [bT, bF] at h)) | refine AW.block ?_ | refine AW.exit ?_ | refine AW.ret ?_)
        | with_reducible refine ifP ?_
        | with_reducible refine ifN ?_) <;> (try dsimp only))
      all_goals exact Fin.one rfl (RV.tmp (by rfl)) (clo_c _) ⟨by simp_all [isLine, inr] <;> omega, rfl⟩

theorem max_s (a b : Int) : VCalls Tryz.prog 186 [I a, I b] (fun r M => r = I (wmax a b) ∧ M = []) := by
  refine VCalls.body Tryz.func186 rfl 8 rfl (fun E => ?_)
  simp only [List.reduceReplicate, List.cons_append, List.nil_append]
  repeat' ((first
    | ((with_reducible show AL ..); first | refine AL.any ?_ | refine AL.nil ?_)
    | ((with_reducible show AW ..); first | refine AW.seq ?_ | refine AW.region ?_ | refine AW.skip ?_ | refine AW.cT ?_ | refine AW.cF ?_ | (refine AW.c2 ?_ ?_ <;> (intro h; try simp only [bT, bF] at h)) | refine AW.block ?_ | refine AW.exit ?_ | refine AW.ret ?_)) <;> (try dsimp only))
  all_goals exact Fin.one rfl (RV.tmp (by rfl)) (clo_c _) ⟨by first | rfl | (simp_all [wmax]; done) | (simp only [wmax]; split <;> simp_all <;> omega), rfl⟩

abbrev wmul (a b : Int) : Int := IntKind.i64.wrap (a * b)
def wmin (a b : Int) : Int := if b < a then b else a
def isSeg (s : TSegment) : Bool := isp s.a.x s.a.y && isp s.b.x s.b.y && !ptE s.a s.b
def crW (a b p : TPoint) : Int := wsub (wmul (wsub b.x a.x) (wsub p.y a.y)) (wmul (wsub b.y a.y) (wsub p.x a.x))
def sdW (a b p : TPoint) : Int := if isp a.x a.y && isp b.x b.y && isp p.x p.y then sg (crW a b p) else 0
def cmpI (x y : Int) : Int := if x < y then -1 else if x > y then 1 else 0
def onW (s : TSegment) (p : TPoint) : Bool := isSeg s && isp p.x p.y && (crW s.a s.b p == 0) && inr p.x (wmin s.a.x s.b.x) (wmax s.a.x s.b.x) && inr p.y (wmin s.a.y s.b.y) (wmax s.a.y s.b.y)
theorem sdW_zero {a b p : TPoint} (h1 : isp a.x a.y = true) (h2 : isp b.x b.y = true) (h3 : isp p.x p.y = true) : (sdW a b p == 0) = (crW a b p == 0) := by
  unfold sdW
  rw [h1, h2, h3]
  simp only [Bool.and_self, if_true]
  have := sg_zero (n := crW a b p)
  cases h : (crW a b p == 0)
  · simp at h ⊢; omega
  · simp at h ⊢; omega
def onWI (s : TSegment) (p : TPoint) : Bool := isSeg s && isp p.x p.y && (sdW s.a s.b p == 0) && inr p.x (if s.b.x < s.a.x then s.b.x else s.a.x) (if s.b.x > s.a.x then s.b.x else s.a.x) && inr p.y (if s.b.y < s.a.y then s.b.y else s.a.y) (if s.b.y > s.a.y then s.b.y else s.a.y)
theorem onWI_eq (s : TSegment) (p : TPoint) : onWI s p = onW s p := by
  unfold onWI onW
  cases h1 : isSeg s
  · simp
  · cases h2 : isp p.x p.y
    · simp
    · have h3 := h1
      unfold isSeg at h3
      simp only [Bool.and_eq_true] at h3
      rw [sdW_zero h3.1.1 h3.1.2 h2]
      rfl
theorem bef_cases (a b : TPoint) : decide (a.y < b.y) = true ∨ (decide (a.y < b.y) = false ∧ (a.y == b.y) = false) ∨ (decide (a.y < b.y) = false ∧ (a.y == b.y) = true) := by
  cases decide (a.y < b.y) <;> cases (a.y == b.y) <;> simp
def fwdW (s : TSegment) : TSegment := if bef s.b s.a = true then ⟨s.b, s.a⟩ else s

theorem min_s (a b : Int) : VCalls Tryz.prog 187 [I a, I b] (fun r M => r = I (wmin a b) ∧ M = []) := by
  refine VCalls.body Tryz.func187 rfl 8 rfl (fun E => ?_)
  simp only [List.reduceReplicate, List.cons_append, List.nil_append]
  repeat' ((first
    | ((with_reducible show AL ..); first | refine AL.any ?_ | refine AL.nil ?_)
    | ((with_reducible show AW ..); first | refine AW.seq ?_ | refine AW.region ?_ | refine AW.skip ?_ | refine AW.cT ?_ | refine AW.cF ?_ | (refine AW.c2 ?_ ?_ <;> (intro h; try simp only [bT, bF] at h)) | refine AW.block ?_ | refine AW.exit ?_ | refine AW.ret ?_)) <;> (try dsimp only))
  all_goals exact Fin.one rfl (RV.tmp (by rfl)) (clo_c _) ⟨by first | rfl | (simp_all [wmin]; done) | (simp only [wmin]; (repeat' split) <;> simp_all <;> omega), rfl⟩

theorem isNaN_v (n : Int) : VCalls Tryz.prog 206 [I n] (fun r M => r = B false ∧ M = []) := by
  refine VCalls.body Tryz.func206 rfl 5 rfl (fun E => ?_)
  simp only [List.reduceReplicate, List.cons_append, List.nil_append]
  repeat' ((first
    | ((with_reducible show AL ..); first | refine AL.any ?_ | refine AL.nil ?_)
    | ((with_reducible show AW ..); first | refine AW.seq ?_ | refine AW.region ?_ | refine AW.skip ?_ | refine AW.block ?_ | refine AW.exit ?_ | refine AW.ret ?_)) <;> (try dsimp only))
  all_goals exact Fin.one rfl (RV.tmp (by rfl)) (clo_c _) ⟨by simp, rfl⟩

theorem cmp_v (x y : Int) : VCalls Tryz.prog 202 [I x, I y] (fun r M => r = I (cmpI x y) ∧ M = []) := by
  refine VCalls.body Tryz.func202 rfl 18 rfl (fun E => ?_)
  simp only [List.reduceReplicate, List.cons_append, List.nil_append]
  repeat' ((first
    | ((with_reducible show AL ..); first | refine AL.any ?_ | refine AL.any (h := POp.k Tryz.func206 (hc := isNaN_v _)) ?_ | refine AL.nil ?_)
    | ((with_reducible show AW ..); first | refine AW.seq ?_ | refine AW.region ?_ | refine AW.skip ?_ | refine AW.cT ?_ | refine AW.cF ?_ | (refine AW.c2 ?_ ?_ <;> (intro h; try simp only [bT, bF] at h)) | refine AW.block ?_ | refine AW.exit ?_ | refine AW.ret ?_)) <;> (try dsimp only))
  all_goals exact Fin.one rfl (RV.tmp (by rfl)) (clo_c _) ⟨by first | rfl | (simp_all [cmpI]; done) | (simp only [cmpI]; (repeat' split) <;> simp_all <;> omega), rfl⟩

theorem crs_s (a b p : TPoint) : VCalls Tryz.prog 200 [.agg a.en, .agg b.en, .agg p.en] (fun r M => r = I (crW a b p) ∧ M = []) := by
  refine VCalls.body Tryz.func200 rfl 27 rfl (fun E => ?_)
  simp only [List.reduceReplicate, List.cons_append, List.nil_append]
  dsimp only [TPoint.en, TSegment.en]
  repeat' ((first
    | ((with_reducible show AL ..); first | refine AL.any ?_ | refine AL.nil ?_)
    | ((with_reducible show AW ..); first | refine AW.seq ?_ | refine AW.region ?_ | refine AW.skip ?_ | refine AW.block ?_ | refine AW.exit ?_ | refine AW.ret ?_)) <;> (try dsimp only))
  all_goals exact Fin.one rfl (RV.tmp (by rfl)) (clo_c _) ⟨by first | rfl | (simp_all [crW]; done) | (simp only [crW]; (repeat' split) <;> simp_all <;> omega), rfl⟩

theorem isSeg_s (s : TSegment) : VCalls Tryz.prog 170 [.agg s.en] (fun r M => r = B (isSeg s) ∧ M = []) := by
  refine VCalls.body Tryz.func170 rfl 17 rfl (fun E => ?_)
  simp only [List.reduceReplicate, List.cons_append, List.nil_append]
  dsimp only [TPoint.en, TSegment.en]
  repeat' ((first
    | ((with_reducible show AL ..); first | refine AL.any ?_ | refine AL.any (h := POp.k Tryz.func147 (hc := by first | exact isp_s_t _ _ (by assumption) | exact isp_s_f _ _ (by assumption) | exact isp_s _ _)) ?_ | refine AL.U ?_ | refine AL.F ?_ | refine AL.T ?_ | refine AL.T (h := POp.k Tryz.func147 (hc := by first | exact isp_s_t _ _ (by assumption) | exact isp_s_f _ _ (by assumption) | exact isp_s _ _)) ?_ | refine AL.W ?_ | refine AL.W (h := fun h => by (try rw [h]); exact POp.k Tryz.func147 (hc := by first | exact isp_s_t _ _ (by assumption) | exact isp_s_f _ _ (by assumption) | exact isp_s _ _)) ?_ | refine AL.nil ?_)
    | ((with_reducible show AW ..); first | refine AW.seq ?_ | refine AW.region ?_ | refine AW.skip ?_ | refine AW.block ?_ | refine AW.exit ?_ | refine AW.ret ?_)) <;> (try dsimp only))
  all_goals exact Fin.one rfl (RV.tmp (by rfl)) (clo_c _) ⟨by first | rfl | (simp_all [isSeg]; done) | (simp only [isSeg]; (repeat' split) <;> simp_all <;> omega), rfl⟩

theorem side_s (a b p : TPoint) : VCalls Tryz.prog 189 [.agg a.en, .agg b.en, .agg p.en] (fun r M => r = I (sdW a b p) ∧ M = []) := by
  refine VCalls.body Tryz.func189 rfl 28 rfl (fun E => ?_)
  simp only [List.reduceReplicate, List.cons_append, List.nil_append]
  dsimp only [TPoint.en, TSegment.en]
  repeat' ((first
    | ((with_reducible show AL ..); first | refine AL.any ?_ | refine AL.any (h := POp.k Tryz.func147 (hc := by first | exact isp_s_t _ _ (by assumption) | exact isp_s_f _ _ (by assumption) | exact isp_s _ _)) ?_ | refine AL.any (h := POp.k Tryz.func200 (hc := by first | exact crs_s a b p | exact crs_s s.a s.b p)) ?_ | refine AL.U ?_ | refine AL.F ?_ | refine AL.T ?_ | refine AL.T (h := POp.k Tryz.func147 (hc := by first | exact isp_s_t _ _ (by assumption) | exact isp_s_f _ _ (by assumption) | exact isp_s _ _)) ?_ | refine AL.W ?_ | refine AL.W (h := fun h => by (try rw [h]); exact POp.k Tryz.func147 (hc := by first | exact isp_s_t _ _ (by assumption) | exact isp_s_f _ _ (by assumption) | exact isp_s _ _)) ?_ | refine AL.nil ?_)
    | ((with_reducible show AW ..); first | refine AW.seq ?_ | refine AW.region ?_ | refine AW.skip ?_ | refine AW.cT ?_ | refine AW.cF ?_ | (refine AW.c2 ?_ ?_ <;> (intro h; try simp only [bT, bF] at h)) | refine AW.block ?_ | refine AW.exit ?_ | refine AW.ret ?_)) <;> (try dsimp only))
  all_goals exact Fin.one rfl (RV.tmp (by rfl)) (clo_c _) ⟨by first | rfl | (simp_all [sdW, sg, cmpI]; done) | (simp only [sdW, sg, cmpI]; (repeat' split) <;> simp_all <;> omega), rfl⟩

theorem isOn_s (s : TSegment) (p : TPoint) : VCalls Tryz.prog 199 [.agg s.en, .agg p.en] (fun r M => r = B (onW s p) ∧ M = []) := by
  refine VCalls.body Tryz.func199 rfl 56 rfl (fun E => ?_)
  simp only [List.reduceReplicate, List.cons_append, List.nil_append]
  dsimp only [TPoint.en, TSegment.en]
  repeat' ((first
    | ((with_reducible show AL ..); first | refine AL.any ?_ | refine AL.U ?_ | refine AL.F ?_ | refine AL.T ?_ | refine AL.T (h := POp.k Tryz.func77 (hc := inr_s _ _ _)) ?_ | refine AL.W ?_ | refine AL.W (h := fun h => by (try rw [h]); exact POp.k Tryz.func77 (hc := inr_s _ _ _)) ?_ | refine AL.nil ?_)
    | ((with_reducible show DL ..); first | refine DL.any ?_ | refine DL.any (h := POp.k Tryz.func170 (hc := isSeg_s s)) ?_ | refine DL.U ?_ | refine DL.F ?_ | refine DL.T ?_ | refine DL.T (h := POp.k Tryz.func77 (hc := inr_s _ _ _)) ?_ | refine DL.T (h := POp.k Tryz.func147 (hc := by first | exact isp_s_t _ _ (by assumption) | exact isp_s_f _ _ (by assumption) | exact isp_s _ _)) ?_ | refine DL.T (h := POp.k Tryz.func186 (hc := max_s _ _)) ?_ | refine DL.T (h := POp.k Tryz.func187 (hc := min_s _ _)) ?_ | refine DL.T (h := POp.k Tryz.func200 (hc := by first | exact crs_s a b p | exact crs_s s.a s.b p)) ?_ | refine DL.W ?_ | refine DL.W (h := fun h => by (try rw [h]); exact POp.k Tryz.func77 (hc := inr_s _ _ _)) ?_ | refine DL.W (h := fun h => by (try rw [h]); exact POp.k Tryz.func147 (hc := by first | exact isp_s_t _ _ (by assumption) | exact isp_s_f _ _ (by assumption) | exact isp_s _ _)) ?_ | refine DL.W (h := fun h => by (try rw [h]); exact POp.k Tryz.func186 (hc := max_s _ _)) ?_ | refine DL.W (h := fun h => by (try rw [h]); exact POp.k Tryz.func187 (hc := min_s _ _)) ?_ | refine DL.W (h := fun h => by (try rw [h]); exact POp.k Tryz.func200 (hc := by first | exact crs_s a b p | exact crs_s s.a s.b p)) ?_ | refine DL.nil ?_)
    | ((with_reducible show AW ..); first | refine AW.seq ?_ | refine AW.region ?_ | refine AW.skip ?_ | refine AW.dr (id := 1) 51 ?_ | refine AW.block ?_ | refine AW.exit ?_ | refine AW.ret ?_)) <;> (try dsimp only))
  all_goals exact Fin.one rfl (RV.tmp (by rfl)) (clo_c _) ⟨by first | rfl | (simp_all [onW, wmin, wmax]; done) | (simp only [onW, wmin, wmax]; (repeat' split) <;> simp_all <;> omega), rfl⟩

theorem crs_i (a b p : TPoint) : VCalls Tryz.prog 203 [.agg a.en, .agg b.en, .agg p.en] (fun r M => r = I (crW a b p) ∧ M = []) := by
  refine VCalls.body Tryz.func203 rfl 27 rfl (fun E => ?_)
  simp only [List.reduceReplicate, List.cons_append, List.nil_append]
  dsimp only [TPoint.en, TSegment.en]
  repeat' ((first
    | ((with_reducible show AL ..); first | refine AL.any ?_ | refine AL.nil ?_)
    | ((with_reducible show AW ..); first | refine AW.seq ?_ | refine AW.region ?_ | refine AW.skip ?_ | refine AW.block ?_ | refine AW.exit ?_ | refine AW.ret ?_)) <;> (try dsimp only))
  all_goals exact Fin.one rfl (RV.tmp (by rfl)) (clo_c _) ⟨by first | rfl | (simp_all [crW]; done) | (simp only [crW]; (repeat' split) <;> simp_all <;> omega), rfl⟩

theorem isSeg_i (s : TSegment) : VCalls Tryz.prog 177 [.agg s.en] (fun r M => r = B (isSeg s) ∧ M = []) := by
  refine VCalls.body Tryz.func177 rfl 17 rfl (fun E => ?_)
  simp only [List.reduceReplicate, List.cons_append, List.nil_append]
  dsimp only [TPoint.en, TSegment.en]
  repeat' ((first
    | ((with_reducible show AL ..); first | refine AL.any ?_ | refine AL.any (h := POp.k Tryz.func153 (hc := by first | exact isp_v_t _ _ (by assumption) | exact isp_v_f _ _ (by assumption) | exact isp_v _ _)) ?_ | refine AL.U ?_ | refine AL.F ?_ | refine AL.T ?_ | refine AL.T (h := POp.k Tryz.func153 (hc := by first | exact isp_v_t _ _ (by assumption) | exact isp_v_f _ _ (by assumption) | exact isp_v _ _)) ?_ | refine AL.W ?_ | refine AL.W (h := fun h => by (try rw [h]); exact POp.k Tryz.func153 (hc := by first | exact isp_v_t _ _ (by assumption) | exact isp_v_f _ _ (by assumption) | exact isp_v _ _)) ?_ | refine AL.nil ?_)
    | ((with_reducible show AW ..); first | refine AW.seq ?_ | refine AW.region ?_ | refine AW.skip ?_ | refine AW.block ?_ | refine AW.exit ?_ | refine AW.ret ?_)) <;> (try dsimp only))
  all_goals exact Fin.one rfl (RV.tmp (by rfl)) (clo_c _) ⟨by first | rfl | (simp_all [isSeg]; done) | (simp only [isSeg]; (repeat' split) <;> simp_all <;> omega), rfl⟩

theorem side_i (a b p : TPoint) : VCalls Tryz.prog 191 [.agg a.en, .agg b.en, .agg p.en] (fun r M => r = I (sdW a b p) ∧ M = []) := by
  refine VCalls.body Tryz.func191 rfl 22 rfl (fun E => ?_)
  simp only [List.reduceReplicate, List.cons_append, List.nil_append]
  dsimp only [TPoint.en, TSegment.en]
  repeat' ((first
    | ((with_reducible show AL ..); first | refine AL.any ?_ | refine AL.any (h := POp.k Tryz.func153 (hc := by first | exact isp_v_t _ _ (by assumption) | exact isp_v_f _ _ (by assumption) | exact isp_v _ _)) ?_ | refine AL.any (h := POp.k Tryz.func202 (hc := cmp_v _ _)) ?_ | refine AL.any (h := POp.k Tryz.func203 (hc := by first | exact crs_i a b p | exact crs_i s.a s.b p)) ?_ | refine AL.U ?_ | refine AL.F ?_ | refine AL.T ?_ | refine AL.T (h := POp.k Tryz.func153 (hc := by first | exact isp_v_t _ _ (by assumption) | exact isp_v_f _ _ (by assumption) | exact isp_v _ _)) ?_ | refine AL.W ?_ | refine AL.W (h := fun h => by (try rw [h]); exact POp.k Tryz.func153 (hc := by first | exact isp_v_t _ _ (by assumption) | exact isp_v_f _ _ (by assumption) | exact isp_v _ _)) ?_ | refine AL.nil ?_)
    | ((with_reducible show AW ..); first | refine AW.seq ?_ | refine AW.region ?_ | refine AW.skip ?_ | refine AW.cT ?_ | refine AW.cF ?_ | (refine AW.c2 ?_ ?_ <;> (intro h; try simp only [bT, bF] at h)) | refine AW.block ?_ | refine AW.exit ?_ | refine AW.ret ?_)) <;> (try dsimp only))
  all_goals exact Fin.one rfl (RV.tmp (by rfl)) (clo_c _) ⟨by first | rfl | (simp_all [sdW, sg, cmpI]; done) | (simp only [sdW, sg, cmpI]; (repeat' split) <;> simp_all <;> omega), rfl⟩

theorem isOn_i0 (s : TSegment) (p : TPoint) : VCalls Tryz.prog 194 [.agg s.en, .agg p.en] (fun r M => r = B (onWI s p) ∧ M = []) := by
  refine VCalls.body Tryz.func194 rfl 56 rfl (fun E => ?_)
  simp only [List.reduceReplicate, List.cons_append, List.nil_append]
  dsimp only [TPoint.en, TSegment.en]
  repeat' ((first
    | ((with_reducible show AL ..); first | refine AL.any ?_ | refine AL.any (h := POp.k Tryz.func177 (hc := isSeg_i s)) ?_ | refine AL.U ?_ | refine AL.F ?_ | refine AL.T ?_ | refine AL.T (h := POp.k Tryz.func78 (hc := inr_v _ _ _)) ?_ | refine AL.T (h := POp.k Tryz.func153 (hc := by first | exact isp_v_t _ _ (by assumption) | exact isp_v_f _ _ (by assumption) | exact isp_v _ _)) ?_ | refine AL.T (h := POp.k Tryz.func191 (hc := by first | exact side_i a b p | exact side_i s.a s.b p)) ?_ | refine AL.W ?_ | refine AL.W (h := fun h => by (try rw [h]); exact POp.k Tryz.func78 (hc := inr_v _ _ _)) ?_ | refine AL.W (h := fun h => by (try rw [h]); exact POp.k Tryz.func153 (hc := by first | exact isp_v_t _ _ (by assumption) | exact isp_v_f _ _ (by assumption) | exact isp_v _ _)) ?_ | refine AL.W (h := fun h => by (try rw [h]); exact POp.k Tryz.func191 (hc := by first | exact side_i a b p | exact side_i s.a s.b p)) ?_ | refine AL.nil ?_)
    | ((with_reducible show AW ..); first | refine AW.seq ?_ | refine AW.region ?_ | refine AW.skip ?_ | refine AW.block ?_ | refine AW.exit ?_ | refine AW.ret ?_)) <;> (try dsimp only))
  all_goals exact Fin.one rfl (RV.tmp (by rfl)) (clo_c _) ⟨by first | rfl | (simp only [onWI, Bool.and_assoc]; done), rfl⟩

theorem isOn_i (s : TSegment) (p : TPoint) : VCalls Tryz.prog 194 [.agg s.en, .agg p.en] (fun r M => r = B (onW s p) ∧ M = []) := onWI_eq s p ▸ isOn_i0 s p
theorem bef_i (a b : TPoint) : VCalls Tryz.prog 193 [.agg a.en, .agg b.en] (fun r M => r = B (bef a b) ∧ M = []) := by
  refine VCalls.body Tryz.func193 rfl 22 rfl (fun E => ?_)
  simp only [List.reduceReplicate, List.cons_append, List.nil_append]
  dsimp only [TPoint.en, TSegment.en]
  rcases bef_cases a b with h1 | ⟨h1, h2⟩ | ⟨h1, h2⟩
  repeat' ((first
    | ((with_reducible show AL ..); first | refine AL.any ?_ | refine AL.U ?_ | refine AL.F ?_ | refine AL.T ?_ | refine AL.W ?_ | refine AL.nil ?_)
    | ((with_reducible show AW ..); first | refine AW.seq ?_ | refine AW.region ?_ | refine AW.skip ?_ | refine AW.block ?_ | refine AW.exit ?_ | refine AW.ret ?_)) <;> (try dsimp only))
  all_goals exact Fin.one rfl (RV.tmp (by rfl)) (clo_c _) ⟨by first | rfl | (simp_all [bef]; done) | (simp only [bef]; (repeat' split) <;> simp_all <;> omega), rfl⟩

theorem turn_i (s : TSegment) : VCalls Tryz.prog 204 [.agg s.en] (fun r M => r = .agg [I s.b.x, I s.b.y, I s.a.x, I s.a.y] ∧ M = []) := by
  refine VCalls.body Tryz.func204 rfl 7 rfl (fun E => ?_)
  simp only [List.reduceReplicate, List.cons_append, List.nil_append]
  dsimp only [TPoint.en, TSegment.en]
  repeat' ((first
    | ((with_reducible show AL ..); first | refine AL.any ?_ | refine AL.nil ?_)
    | ((with_reducible show AW ..); first | refine AW.seq ?_ | refine AW.region ?_ | refine AW.skip ?_ | refine AW.block ?_ | refine AW.exit ?_ | refine AW.ret ?_)) <;> (try dsimp only))
  all_goals exact Fin.one rfl (RV.cell (QOp.quietA TT_ok (by rfl))) (clo_of (by rfl)) ⟨by rfl, rfl⟩

theorem fwd_i (s : TSegment) : VCalls Tryz.prog 192 [.agg s.en] (fun r M => r = .agg (fwdW s).en ∧ M = []) := by
  refine VCalls.body Tryz.func192 rfl 10 rfl (fun E => ?_)
  simp only [List.reduceReplicate, List.cons_append, List.nil_append]
  dsimp only [TPoint.en, TSegment.en]
  repeat' ((first
    | ((with_reducible show AL ..); first | refine AL.any ?_ | refine AL.any (h := POp.k Tryz.func193 (hc := by first | exact bef_i a b | exact bef_i s.b s.a)) ?_ | refine AL.any (h := POp.k Tryz.func204 (hc := turn_i s)) ?_ | refine AL.nil ?_)
    | ((with_reducible show AW ..); first | refine AW.seq ?_ | refine AW.region ?_ | refine AW.skip ?_ | refine AW.cT ?_ | refine AW.cF ?_ | (refine AW.c2 ?_ ?_ <;> (intro h; try simp only [bT, bF] at h)) | refine AW.block ?_ | refine AW.exit ?_ | refine AW.ret ?_)) <;> (try dsimp only))
  all_goals exact Fin.one rfl (RV.cell (QOp.quietA TT_ok (by rfl))) (clo_of (by rfl)) ⟨by first | (simp only [fwdW]; simp_all; done) | (simp [fwdW, *]; done), rfl⟩

def hmI (s t : TSegment) : Int :=
  if (!isSeg s || !isSeg t) = true then 0 else
  if ((sdW s.a s.b t.a == 0) && (sdW s.a s.b t.b == 0)) = true then
    if bef (if bef (fwdW t).b (fwdW s).b = true then (fwdW t).b else (fwdW s).b) (if bef (fwdW s).a (fwdW t).a = true then (fwdW t).a else (fwdW s).a) = true then 0
    else if ptE (if bef (fwdW s).a (fwdW t).a = true then (fwdW t).a else (fwdW s).a) (if bef (fwdW t).b (fwdW s).b = true then (fwdW t).b else (fwdW s).b) = true then 1 else 3
  else if (decide (wmul (sdW s.a s.b t.a) (sdW s.a s.b t.b) < 0) && decide (wmul (sdW t.a t.b s.a) (sdW t.a t.b s.b) < 0)) = true then 2
  else if (onW s t.a || onW s t.b || onW t s.a || onW t s.b) = true then 1 else 0
theorem mul_small {u v : Int} (h1 : -200 ≤ u ∧ u ≤ 200) (h2 : -200 ≤ v ∧ v ≤ 200) : -40000 ≤ u * v ∧ u * v ≤ 40000 := by
  have a1 := Int.mul_nonneg (show 0 ≤ 200 - u by omega) (show 0 ≤ 200 + v by omega)
  have a2 := Int.mul_nonneg (show 0 ≤ 200 + u by omega) (show 0 ≤ 200 - v by omega)
  have a3 := Int.mul_nonneg (show 0 ≤ 200 - u by omega) (show 0 ≤ 200 - v by omega)
  have a4 := Int.mul_nonneg (show 0 ≤ 200 + u by omega) (show 0 ≤ 200 + v by omega)
  have e1 : (200 - u) * (200 + v) + (200 + u) * (200 - v) = 80000 - 2 * (u * v) := by grind
  have e2 : (200 - u) * (200 - v) + (200 + u) * (200 + v) = 80000 + 2 * (u * v) := by grind
  omega
theorem isp_bd {x y : Int} (h : isp x y = true) : 0 ≤ x ∧ x ≤ 200 ∧ 0 ≤ y ∧ y ≤ 200 := by
  simp only [isp, inr, Bool.and_eq_true, decide_eq_true_eq] at h
  omega
theorem crW_crs {a b p : TPoint} (ha : isp a.x a.y = true) (hb : isp b.x b.y = true) (hp : isp p.x p.y = true) : crW a b p = crs a b p := by
  have ha := isp_bd ha
  have hb := isp_bd hb
  have hp := isp_bd hp
  have m1 := mul_small (u := b.x - a.x) (v := p.y - a.y) (by omega) (by omega)
  have m2 := mul_small (u := b.y - a.y) (v := p.x - a.x) (by omega) (by omega)
  unfold crW crs wmul wsub
  rw [w64 (n := b.x - a.x) (by omega) (by omega), w64 (n := p.y - a.y) (by omega) (by omega), w64 (n := b.y - a.y) (by omega) (by omega), w64 (n := p.x - a.x) (by omega) (by omega)]
  rw [w64 (n := (b.x - a.x) * (p.y - a.y)) (by omega) (by omega), w64 (n := (b.y - a.y) * (p.x - a.x)) (by omega) (by omega), w64 (by omega) (by omega)]
theorem sdW_sg {a b p : TPoint} (ha : isp a.x a.y = true) (hb : isp b.x b.y = true) (hp : isp p.x p.y = true) : sdW a b p = sg (crs a b p) := by
  unfold sdW
  rw [ha, hb, hp, crW_crs ha hb hp]
  rfl
theorem sg_bd (n : Int) : -1 ≤ sg n ∧ sg n ≤ 1 := by unfold sg; split <;> (try split) <;> omega
theorem wmul_sg (m n : Int) : wmul (sg m) (sg n) = sg m * sg n := by
  have h1 := sg_bd m
  have h2 := sg_bd n
  have := mul_small (u := sg m) (v := sg n) (by omega) (by omega)
  exact w64 (by omega) (by omega)
theorem isSeg_bd {s : TSegment} (h : isSeg s = true) : isp s.a.x s.a.y = true ∧ isp s.b.x s.b.y = true ∧ ptE s.a s.b = false := by
  simp only [isSeg, Bool.and_eq_true, Bool.not_eq_true'] at h
  exact ⟨h.1.1, h.1.2, h.2⟩
theorem ptE_eqP (a b : TPoint) : ptE a b = eqP a b := by
  rw [Bool.eq_iff_iff]
  simp [ptE, eqVs, eqV, eqP]
theorem isSeg_ne {s : TSegment} (h : isSeg s = true) : s.a ≠ s.b := fun e => by
  have := (isSeg_bd h).2.2
  rw [ptE_eqP, e] at this
  simp [eqP] at this
theorem inr_btw (a b p : Int) : inr p (wmin a b) (wmax a b) = btwB a b p := by
  rw [Bool.eq_iff_iff]
  unfold inr wmin wmax btwB
  simp only [Bool.and_eq_true, Bool.or_eq_true, decide_eq_true_eq]
  split <;> split <;> omega
theorem onW_onB {s : TSegment} {p : TPoint} (hs : isSeg s = true) (hp : isp p.x p.y = true) : onW s p = onB s.a s.b p := by
  unfold onW onB
  rw [hs, hp, crW_crs (isSeg_bd hs).1 (isSeg_bd hs).2.1 hp, inr_btw, inr_btw]
  rfl
theorem fwdW_ends (s : TSegment) : (fwdW s).a = lowE s.a s.b ∧ (fwdW s).b = highE s.a s.b := by
  unfold fwdW lowE highE
  split <;> exact ⟨rfl, rfl⟩
theorem hmI_eq {s t : TSegment} (hs : isSeg s = true) (ht : isSeg t = true) : hmI s t = meetI s.a s.b t.a t.b := by
  obtain ⟨h1, h2, h3⟩ := isSeg_bd hs
  obtain ⟨g1, g2, g3⟩ := isSeg_bd ht
  unfold hmI meetI crossB
  rw [hs, ht]
  rw [onW_onB hs g1, onW_onB hs g2, onW_onB ht h1, onW_onB ht h2]
  rw [sdW_sg h1 h2 g1, sdW_sg h1 h2 g2, sdW_sg g1 g2 h1, sdW_sg g1 g2 h2, wmul_sg, wmul_sg]
  rw [(fwdW_ends s).1, (fwdW_ends s).2, (fwdW_ends t).1, (fwdW_ends t).2, ptE_eqP]
  simp only [Bool.not_true, Bool.or_self, Bool.false_eq_true, if_false, Bool.and_eq_true, beq_iff_eq]
def endsL (s t : TSegment) : List TPoint := [s.a, s.b, t.a, t.b]
def endE (s t : TSegment) (i : Nat) : TPoint := (endsL s t).getD i ⟨0, 0⟩
def onE (s t : TSegment) (i : Nat) : Bool := if i < 2 then onW t (endE s t i) else onW s (endE s t i)
def addW (on : Bool) (e : TPoint) (l : List TPoint) : List TPoint := if (on && l.all fun q => !ptE q e) = true then l ++ [e] else l
def shK (s t : TSegment) : Nat → List TPoint
  | 0 => []
  | i + 1 => addW (onE s t i) (endE s t i) (shK s t i)
theorem shK_succ (s t : TSegment) (i : Nat) : shK s t (i + 1) = addW (onE s t i) (endE s t i) (shK s t i) := rfl
theorem shK_len (s t : TSegment) (i : Nat) : (shK s t i).length ≤ i := by
  induction i with
  | zero => simp [shK]
  | succ i ih =>
    rw [shK_succ]
    unfold addW
    split
    · simp; omega
    · omega
def onK (s t : TSegment) (i k : Nat) : Bool := onE s t i && ((shK s t i).take k).all fun q => !ptE q (endE s t i)
theorem onK_zero (s t : TSegment) (i : Nat) : onK s t i 0 = onE s t i := by simp [onK]
theorem onK_succ {s t : TSegment} {i k : Nat} {q : TPoint} (h : (shK s t i)[k]? = some q) : onK s t i (k + 1) = (onK s t i k && !ptE q (endE s t i)) := by
  unfold onK
  rw [take_succ_of h, List.all_append, Bool.and_assoc]
  simp
theorem sh_add {s t : TSegment} {i : Nat} (h : onK s t i (shK s t i).length = true) : (shK s t (i + 1)).map TPoint.en = (shK s t i).map TPoint.en ++ [(endE s t i).en] ∧ (shK s t (i + 1)).length = (shK s t i).length + 1 := by
  unfold onK at h
  rw [List.take_length] at h
  rw [shK_succ, addW, if_pos h]
  simp
theorem sh_not {s t : TSegment} {i : Nat} (h : onK s t i (shK s t i).length = false) : (shK s t (i + 1)).map TPoint.en = (shK s t i).map TPoint.en ∧ (shK s t (i + 1)).length = (shK s t i).length := by
  unfold onK at h
  rw [List.take_length] at h
  rw [shK_succ, addW, if_neg (by rw [h]; simp)]
  simp
theorem end_get {s t : TSegment} {i : Nat} (h : i < 4) : ((endsL s t).map TPoint.en)[((i : Int)).toNat]? = some (endE s t i).en := by
  refine map_get ?_
  rw [endE, List.getD_eq_getElem?_getD, List.getElem?_eq_getElem (show i < (endsL s t).length from h)]
  rfl
theorem fitsM_cons {n : Nat} {b : Blk} {M : Mem} (h : ∀ r ∈ b.es, ∀ y ∈ r, Clo y) (hm : FitsM n M) : FitsM n (some b :: M) := fun b' hb r hr x hx => by
  rcases List.mem_cons.1 hb with e | hb
  · cases e; exact Fits.clo (h r hr x hx)
  · exact hm b' hb r hr x hx
theorem clo_one {l : List AV} (h : ∀ x ∈ l, Clo x) : ∀ r ∈ [l], ∀ x ∈ r, Clo x := fun r hr => by
  rw [List.mem_singleton.1 hr]
  exact h
def apW (s t : TSegment) : Bool := decide (wmax s.a.x s.b.x < wmin t.a.x t.b.x) || decide (wmax t.a.x t.b.x < wmin s.a.x s.b.x) || decide (wmax s.a.y s.b.y < wmin t.a.y t.b.y) || decide (wmax t.a.y t.b.y < wmin s.a.y s.b.y)
def hmS (s t : TSegment) : Int :=
  if (!isSeg s || !isSeg t) = true then 0 else if apW s t = true then 0 else
  if (((shK s t 4).length : Int) == 0) = true then (if (decide (wmul (sdW s.a s.b t.a) (sdW s.a s.b t.b) < 0) && decide (wmul (sdW t.a t.b s.a) (sdW t.a t.b s.b) < 0)) = true then 2 else 0)
  else if (((shK s t 4).length : Int) == 1) = true then 1 else 3
theorem addW_addE (on : Bool) (e : TPoint) (l : List TPoint) : addW on e l = addE on e l := by
  unfold addW addE
  simp only [ptE_eqP]
theorem shK_shrd {s t : TSegment} (hs : isSeg s = true) (ht : isSeg t = true) : shK s t 4 = shrd s.a s.b t.a t.b := by
  obtain ⟨h1, h2, h3⟩ := isSeg_bd hs
  obtain ⟨g1, g2, g3⟩ := isSeg_bd ht
  unfold shrd
  rw [shK_succ, shK_succ, shK_succ, shK_succ]
  simp only [addW_addE, onE, endE, endsL, List.getD_cons_zero, List.getD_cons_succ, shK]
  rw [onW_onB hs g1, onW_onB hs g2, onW_onB ht h1, onW_onB ht h2]
  simp
theorem apW_apart {s t : TSegment} (h : apW s t = true) : apart s.a s.b t.a t.b := by
  unfold apW wmin wmax at h
  simp only [Bool.or_eq_true, decide_eq_true_eq] at h
  unfold apart
  rcases h with ((h | h) | h) | h
  · left; split at h <;> split at h <;> omega
  · right; left; split at h <;> split at h <;> omega
  · right; right; left; split at h <;> split at h <;> omega
  · right; right; right; split at h <;> split at h <;> omega
theorem hmS_eq (s t : TSegment) : hmS s t = hmI s t := by
  cases hs : isSeg s
  · simp [hmS, hmI, hs]
  · cases ht : isSeg t
    · simp [hmS, hmI, ht]
    · rw [hmI_eq hs ht]
      cases ha : apW s t
      · rw [← meet_eq (isSeg_ne hs) (isSeg_ne ht)]
        obtain ⟨h1, h2, h3⟩ := isSeg_bd hs
        obtain ⟨g1, g2, g3⟩ := isSeg_bd ht
        have e0 : ∀ n : Nat, ((n : Int) == 0) = decide (n = 0) := fun n => by rw [Bool.eq_iff_iff]; simp
        have e1 : ∀ n : Nat, ((n : Int) == 1) = decide (n = 1) := fun n => by rw [Bool.eq_iff_iff]; simp; omega
        unfold hmS meetS crossB
        simp only [e0, e1, decide_eq_true_eq]
        rw [hs, ht, ha, shK_shrd hs ht, sdW_sg h1 h2 g1, sdW_sg h1 h2 g2, sdW_sg g1 g2 h1, sdW_sg g1 g2 h2, wmul_sg, wmul_sg]
        rfl
      · rw [meet_eq_boxes (isSeg_ne hs) (isSeg_ne ht) (apW_apart ha)]
        simp [hmS, hs, ht, ha]

end Go.Proofs.YtacbpfbelcdeiaaGreat.Abs
