/- Part E of the walk over abstract states and of the functions' walks. -/
import Derived.Test.YtacbpfbelcdeiaaGreatWkStep
import Derived.Test.YtacbpfbelcdeiaaGreatBnD
/- The walks of all pieces, their digests and the seal. -/
namespace Go.Proofs.YtacbpfbelcdeiaaGreat.Abs
open Go.Proofs Go.RowKit
set_option linter.unusedVariables false
set_option linter.unusedSimpArgs false
attribute [local irreducible] OpA AL AW DL DLM DLR DLS QOp POp VCalls VCallsI
set_option maxRecDepth 100000 in
set_option maxHeartbeats 2000000 in
theorem dig_i (l : List TFeature) (ps : List TPiece) (hl : l.length ≤ 1048576) (hp : ∀ x ∈ l, x.gd) (hps : ps.length ≤ 1048576) (hpi : pcIs l ps) : VCalls Tryz.prog 144 [.ro 5 (l.map TFeature.en), .ro 2 (ps.map TPiece.en)] (fun r M => r = .ro 1 ((dig l ps).map enI) ∧ M = []) := by
  refine VCalls.bodyE Tryz.func144 rfl 28 rfl (fun E hE => ?_)
  simp only [List.reduceReplicate, List.cons_append, List.nil_append]
  have hclo : Clo (.ro 5 (l.map TFeature.en)) := clo_list TFeature.clo_en
  have hclps : Clo (.ro 2 (ps.map TPiece.en)) := clo_list TPiece.clo_en
  repeat' ((first
    | ((with_reducible show AL _ _ _ _ _ _ _); first | refine AL.any ?_ | refine AL.nil ?_)
    | ((with_reducible show DL _ _ _ _ _ _ _); first | refine DL.any ?_ | refine DL.any (h := POp.k Tryz.func163 (hc := pd_i y x.part (by assumption))) ?_ | refine DL.any (h := POp.k Tryz.func164 (hc := find_i l x.id (by assumption))) ?_ | refine DL.nil ?_)
    | ((with_reducible show DLM _ _ _ _ _ _ _ _ _ _); first | refine DLM.any ?_ | refine DLM.mk ?_ | refine DLM.any (h := fun Y => POp.k Tryz.func163 (hc := pd_i y x.part (by assumption))) ?_ | refine DLM.any (h := fun Y => POp.k Tryz.func164 (hc := find_i l x.id (by assumption))) ?_ | refine DLM.nil ?_)
    | ((with_reducible show AW _ _ _ _ _ _); first | refine AW.seq ?_ | refine AW.region ?_ | refine AW.skip ?_ | (refine AW.loopD hE (fun i : Nat => [.ro 5 (l.map TFeature.en), .ro 2 (ps.map TPiece.en), .any, .any, .any, .own 0 i, .any, .any, .any, .ro 2 (ps.map TPiece.en), I ((ps.map TPiece.en).length : Int), I (i : Int), .any, .any, .any, .any, .any, .any, .any, .any, .any, .any, .any, .any, .any, .any, .any, .any, .any, .any]) (fun i => [some ⟨3, 1, i, false, (digTo l ps i).map enI⟩]) (fun i => ps.length - i) (fun i => i ≤ ps.length) 0 (by simp) ?_ (by first | rfl | (simp [fil_zero]; done)) ?_) | refine AW.drM (id := 5) 12 11 ?_ | refine AW.cT ?_ | refine AW.cF ?_ | (refine AW.c2 ?_ ?_ <;> (intro h; try simp only [Bool.not_eq_true', Bool.not_eq_false'] at h)) | refine AW.block ?_ | refine AW.exit ?_ | refine AW.ret ?_)
    | with_reducible refine (if_pos rfl).mpr ?_
    | with_reducible refine (if_neg (by decide)).mpr ?_) <;> (try dsimp only))
  · (repeat' (first | exact Wk.nil | refine Wk.any ?_ | (with_reducible refine Wk.same ?_) | refine Wk.of ?_ ?_)) <;> first | rfl | (rfl)
  · intro i hi
    have hclo : Clo (.ro 5 (l.map TFeature.en)) := clo_list TFeature.clo_en
    have hclps : Clo (.ro 2 (ps.map TPiece.en)) := clo_list TPiece.clo_en
    by_cases hlt : i < ps.length
    · obtain ⟨x, hx⟩ : ∃ x, ps[i]? = some x := ⟨_, List.getElem?_eq_getElem hlt⟩
      have hg := map_get (f := TPiece.en) hx
      have ht := lt_true (f := TPiece.en) hlt
      have hn := next_ix hlt (by omega)
      obtain ⟨y, hym, hye, hy0, hyg⟩ := pc_at hpi hx
      have hgy := hp y hym
      have hm := digTo_map (l := l) hx
      rw [hye] at hm
      have hln := digTo_len l ps i
      have hclY : Clo (.agg y.en) := Clo.agg y.clo_en
      have hclP : Clo (.ro 2 (y.points.map TPoint.en)) := clo_list TPoint.clo_en
      repeat' ((first
        | ((with_reducible show AL _ _ _ _ _ _ _); first | refine AL.any ?_ | refine AL.nil ?_)
        | ((with_reducible show DL _ _ _ _ _ _ _); first | refine DL.any ?_ | refine DL.any (h := POp.k Tryz.func163 (hc := pd_i y x.part (by assumption))) ?_ | refine DL.any (h := POp.k Tryz.func164 (hc := find_i l x.id (by assumption))) ?_ | refine DL.nil ?_)
        | ((with_reducible show DLM _ _ _ _ _ _ _ _ _ _); first | refine DLM.any ?_ | refine DLM.mk ?_ | refine DLM.any (h := fun Y => POp.k Tryz.func163 (hc := pd_i y x.part (by assumption))) ?_ | refine DLM.any (h := fun Y => POp.k Tryz.func164 (hc := find_i l x.id (by assumption))) ?_ | refine DLM.nil ?_)
        | ((with_reducible show AW _ _ _ _ _ _); first | refine AW.seq ?_ | refine AW.region ?_ | refine AW.skip ?_ | refine AW.drM (id := 5) 12 11 ?_ | refine AW.cT ?_ | refine AW.cF ?_ | (refine AW.c2 ?_ ?_ <;> (intro h; try simp only [Bool.not_eq_true', Bool.not_eq_false'] at h)) | refine AW.block ?_ | refine AW.exit ?_ | refine AW.ret ?_)
        | with_reducible refine (if_pos rfl).mpr ?_
        | with_reducible refine (if_neg (by decide)).mpr ?_) <;> (try dsimp only))
      all_goals first
        | (refine ⟨i + 1, _, hlt, by omega, ?_, by rw [hm] <;> rfl, ?_, ?_⟩; (focus ((repeat' (first | exact Wk.nil | refine Wk.any ?_ | (with_reducible refine Wk.same ?_) | refine Wk.of ?_ ?_)) <;> (simp_all))); (focus ((repeat' (first | exact Fits.nil _ | refine Fits.cons ?_ ?_ | exact Fits.any _ | exact Fits.c _ _ | exact Fits.own (by rfl) | exact Fits.ref (by rfl) | exact Fits.clo (by assumption) | exact Fits.clo (clo_of (by rfl)) | exact Fits.clo (clo_fn _))))); (focus (exact fits_row (clo_rows clo_enI))))
    · have ht := lt_false (f := TPiece.en) hlt
      have e : i = ps.length := by omega
      subst e
      try rw [List.take_length]
      repeat' ((first
        | ((with_reducible show AL _ _ _ _ _ _ _); first | refine AL.any ?_ | refine AL.nil ?_)
        | ((with_reducible show DL _ _ _ _ _ _ _); first | refine DL.any ?_ | refine DL.any (h := POp.k Tryz.func163 (hc := pd_i y x.part (by assumption))) ?_ | refine DL.any (h := POp.k Tryz.func164 (hc := find_i l x.id (by assumption))) ?_ | refine DL.nil ?_)
        | ((with_reducible show DLM _ _ _ _ _ _ _ _ _ _); first | refine DLM.any ?_ | refine DLM.mk ?_ | refine DLM.any (h := fun Y => POp.k Tryz.func163 (hc := pd_i y x.part (by assumption))) ?_ | refine DLM.any (h := fun Y => POp.k Tryz.func164 (hc := find_i l x.id (by assumption))) ?_ | refine DLM.nil ?_)
        | ((with_reducible show AW _ _ _ _ _ _); first | refine AW.seq ?_ | refine AW.region ?_ | refine AW.skip ?_ | (refine AW.freezeRet (t := 4) (id := 0) rfl rfl rfl rfl (clo_rows clo_enI) ?_; (try simp only [List.take_length]); try dsimp only [dput, List.set, cond_true, cond_false, Nat.zero_add, Nat.add_zero, Nat.reduceAdd, splice, List.take, List.drop, List.length, List.nil_append, List.cons_append, List.append, TPoint.en, TSegment.en, TBox.en, TFeature.en, TMeet.en, TPlace.en, TCover.en, TLabel.en, TPiece.en, TLevel.en, TChart.en, TReason.en, TEdit.en, TEntry.en, TEdition.en, TListing.en, TAtlas.en, TEvent.en, TWindow.en]) | refine AW.drM (id := 5) 12 11 ?_ | refine AW.cT ?_ | refine AW.cF ?_ | (refine AW.c2 ?_ ?_ <;> (intro h; try simp only [Bool.not_eq_true', Bool.not_eq_false'] at h)) | refine AW.block ?_ | refine AW.exit ?_ | refine AW.ret ?_)
        | with_reducible refine (if_pos rfl).mpr ?_
        | with_reducible refine (if_neg (by decide)).mpr ?_) <;> (try dsimp only))
      all_goals exact Fin.one rfl (RV.tmp (by rfl)) (clo_list clo_enI) ⟨by rw [digTo_all], rfl⟩

set_option maxRecDepth 100000 in
set_option maxHeartbeats 2000000 in
theorem pca_i_f (f : TFeature) (hgd : f.gd) (hk : (f.kind == 1) = false) : VCalls Tryz.prog 165 [.agg f.en, .agg box0.en, B true] (fun r M => r = .ro 2 ((pca f).map TPiece.en) ∧ M = []) := by
  refine VCalls.bodyE Tryz.func165 rfl 51 rfl (fun E hE => ?_)
  simp only [List.reduceReplicate, List.cons_append, List.nil_append]
  have hclP : Clo (.ro 2 (f.points.map TPoint.en)) := clo_list TPoint.clo_en
  have hclS : Clo (.ro 4 ((partsOf f).map TSegment.en)) := clo_list TSegment.clo_en
  have hcle : Clo (.agg f.en) := Clo.agg f.clo_en
  have hpl := partsOf_le f
  have hb0 := pca_cases_f hk
  repeat' ((first
    | ((with_reducible show AL _ _ _ _ _ _ _); first | refine AL.any ?_ | refine AL.any (h := POp.k Tryz.func181 (hc := parts_i f (by assumption))) ?_ | refine AL.U ?_ | refine AL.F ?_ | refine AL.T ?_ | refine AL.W ?_ | refine AL.nil ?_)
    | ((with_reducible show DL _ _ _ _ _ _ _); first | refine DL.any ?_ | refine DL.U ?_ | refine DL.F ?_ | refine DL.T ?_ | refine DL.W ?_ | refine DL.nil ?_)
    | ((with_reducible show AW _ _ _ _ _ _); first | refine AW.seq ?_ | refine AW.region ?_ | refine AW.skip ?_ | (refine AW.loopX hE (fun i : Nat => [.any, .any, B true, .ref 0 0 5 0 0, .ref 1 0 4 0 0, .any, .any, .own 2 (pcaTo f i).length, .any, .any, .any, .any, .any, .any, .any, .any, .any, .any, .any, .any, .any, .any, .any, .any, .any, .any, .any, .any, .any, .any, .any, .any, .ro 4 ((partsOf f).map TSegment.en), I (((partsOf f).map TSegment.en).length : Int), I (i : Int), .any, .any, .any, .any, .any, .any, .any, .any, .any, .any, .any, .any, .any, .any, .any, .any, .any, .any, .any]) (fun i => [some ⟨69, 5, 0, true, [f.en]⟩, some ⟨181, 4, 0, true, [box0.en]⟩, some ⟨166, 2, (pcaTo f i).length, false, (pcaTo f i).map TPiece.en⟩]) (fun i => (partsOf f).length - i) (fun i => i ≤ (partsOf f).length) 0 _ (by simp) ?_ (by first | rfl | (rw [hb0]; rfl)) ?_ ?_ ?_) | refine AW.dr (id := 2) 11 ?_ | refine AW.cT ?_ | refine AW.cF ?_ | (refine AW.c2 ?_ ?_ <;> (intro h; try simp only [Bool.not_eq_true', Bool.not_eq_false'] at h)) | refine AW.block ?_ | refine AW.exit ?_ | refine AW.ret ?_)
    | with_reducible refine (if_pos rfl).mpr ?_
    | with_reducible refine (if_neg (by decide)).mpr ?_) <;> (try dsimp only))
  rotate_left 1
  · (repeat' (first | exact Fits.nil _ | refine Fits.cons ?_ ?_ | exact Fits.any _ | exact Fits.c _ _ | exact Fits.own (by rfl) | exact Fits.ref (by rfl) | exact Fits.clo (by assumption) | exact Fits.clo (clo_of (by rfl)) | exact Fits.clo (clo_fn _)))
  · exact fitsM_cons (clo_one f.clo_en) (fitsM_cons (clo_one box0.clo_en) (fitsM_cons (clo_rows TPiece.clo_en) (FitsM.nil _)))
  rotate_right 1
  · (repeat' (first | exact Wk.nil | refine Wk.any ?_ | (with_reducible refine Wk.same ?_) | refine Wk.of ?_ ?_)) <;> first | rfl | (simp_all)
  · intro i hi
    have hclP : Clo (.ro 2 (f.points.map TPoint.en)) := clo_list TPoint.clo_en
    have hclS : Clo (.ro 4 ((partsOf f).map TSegment.en)) := clo_list TSegment.clo_en
    have hcle : Clo (.agg f.en) := Clo.agg f.clo_en
    have hpl := partsOf_le f
    by_cases hlt : i < (partsOf f).length
    · obtain ⟨x, hx⟩ : ∃ x, (partsOf f)[i]? = some x := ⟨_, List.getElem?_eq_getElem hlt⟩
      have hg := map_get (f := TSegment.en) hx
      have ht := lt_true (f := TSegment.en) hlt
      have hn := next_ix hlt (by omega)
      have hln := pcaTo_len f i
      obtain ⟨h1, h2⟩ := pcaTo_map f i
      repeat' ((first
        | ((with_reducible show AL _ _ _ _ _ _ _); first | refine AL.any ?_ | refine AL.any (h := POp.k Tryz.func181 (hc := parts_i f (by assumption))) ?_ | refine AL.U ?_ | refine AL.F ?_ | refine AL.T ?_ | refine AL.W ?_ | refine AL.nil ?_)
        | ((with_reducible show DL _ _ _ _ _ _ _); first | refine DL.any ?_ | refine DL.U ?_ | refine DL.F ?_ | refine DL.T ?_ | refine DL.W ?_ | refine DL.nil ?_)
        | ((with_reducible show AW _ _ _ _ _ _); first | refine AW.seq ?_ | refine AW.region ?_ | refine AW.skip ?_ | refine AW.dr (id := 2) 11 ?_ | refine AW.cT ?_ | refine AW.cF ?_ | (refine AW.c2 ?_ ?_ <;> (intro h; try simp only [Bool.not_eq_true', Bool.not_eq_false'] at h)) | refine AW.block ?_ | refine AW.exit ?_ | refine AW.ret ?_)
        | with_reducible refine (if_pos rfl).mpr ?_
        | with_reducible refine (if_neg (by decide)).mpr ?_) <;> (try dsimp only))
      all_goals first
        | (refine ⟨i + 1, _, hlt, by omega, ?_, by rw [h1, h2] <;> rfl, ?_, ?_⟩; (focus ((repeat' (first | exact Wk.nil | refine Wk.any ?_ | (with_reducible refine Wk.same ?_) | refine Wk.of ?_ ?_)) <;> (simp_all))); (focus ((repeat' (first | exact Fits.nil _ | refine Fits.cons ?_ ?_ | exact Fits.any _ | exact Fits.c _ _ | exact Fits.own (by rfl) | exact Fits.ref (by rfl) | exact Fits.clo (by assumption) | exact Fits.clo (clo_of (by rfl)) | exact Fits.clo (clo_fn _))))); (focus (exact fitsM_cons (clo_one f.clo_en) (fitsM_cons (clo_one box0.clo_en) (fitsM_cons (clo_rows TPiece.clo_en) (FitsM.nil _))))))
    · have ht := lt_false (f := TSegment.en) hlt
      have e : i = (partsOf f).length := by omega
      subst e
      try rw [List.take_length]
      repeat' ((first
        | ((with_reducible show AL _ _ _ _ _ _ _); first | refine AL.any ?_ | refine AL.any (h := POp.k Tryz.func181 (hc := parts_i f (by assumption))) ?_ | refine AL.U ?_ | refine AL.F ?_ | refine AL.T ?_ | refine AL.W ?_ | refine AL.nil ?_)
        | ((with_reducible show DL _ _ _ _ _ _ _); first | refine DL.any ?_ | refine DL.U ?_ | refine DL.F ?_ | refine DL.T ?_ | refine DL.W ?_ | refine DL.nil ?_)
        | ((with_reducible show AW _ _ _ _ _ _); first | refine AW.seq ?_ | refine AW.region ?_ | refine AW.skip ?_ | (refine AW.freezeRet (t := 6) (id := 2) rfl rfl rfl rfl (clo_rows TPiece.clo_en) ?_; (try simp only [List.take_length]); try dsimp only [dput, List.set, cond_true, cond_false, Nat.zero_add, Nat.add_zero, Nat.reduceAdd, splice, List.take, List.drop, List.length, List.nil_append, List.cons_append, List.append, TPoint.en, TSegment.en, TBox.en, TFeature.en, TMeet.en, TPlace.en, TCover.en, TLabel.en, TPiece.en, TLevel.en, TChart.en, TReason.en, TEdit.en, TEntry.en, TEdition.en, TListing.en, TAtlas.en, TEvent.en, TWindow.en]) | refine AW.dr (id := 2) 11 ?_ | refine AW.cT ?_ | refine AW.cF ?_ | (refine AW.c2 ?_ ?_ <;> (intro h; try simp only [Bool.not_eq_true', Bool.not_eq_false'] at h)) | refine AW.block ?_ | refine AW.exit ?_ | refine AW.ret ?_)
        | with_reducible refine (if_pos rfl).mpr ?_
        | with_reducible refine (if_neg (by decide)).mpr ?_) <;> (try dsimp only))
      all_goals exact Fin.one rfl (RV.tmp (by rfl)) (clo_list TPiece.clo_en) ⟨rfl, rfl⟩

set_option maxRecDepth 100000 in
set_option maxHeartbeats 2000000 in
theorem pca_i_t (f : TFeature) (hgd : f.gd) (hk : (f.kind == 1) = true) : VCalls Tryz.prog 165 [.agg f.en, .agg box0.en, B true] (fun r M => r = .ro 2 ((pca f).map TPiece.en) ∧ M = []) := by
  refine VCalls.bodyE Tryz.func165 rfl 51 rfl (fun E hE => ?_)
  simp only [List.reduceReplicate, List.cons_append, List.nil_append]
  have hclP : Clo (.ro 2 (f.points.map TPoint.en)) := clo_list TPoint.clo_en
  have hclS : Clo (.ro 4 ((partsOf f).map TSegment.en)) := clo_list TSegment.clo_en
  have hcle : Clo (.agg f.en) := Clo.agg f.clo_en
  have hpl := partsOf_le f
  have hb0 := pca_cases_t hk
  repeat' ((first
    | ((with_reducible show AL _ _ _ _ _ _ _); first | refine AL.any ?_ | refine AL.any (h := POp.k Tryz.func181 (hc := parts_i f (by assumption))) ?_ | refine AL.U ?_ | refine AL.F ?_ | refine AL.T ?_ | refine AL.W ?_ | refine AL.nil ?_)
    | ((with_reducible show DL _ _ _ _ _ _ _); first | refine DL.any ?_ | refine DL.U ?_ | refine DL.F ?_ | refine DL.T ?_ | refine DL.W ?_ | refine DL.nil ?_)
    | ((with_reducible show AW _ _ _ _ _ _); first | refine AW.seq ?_ | refine AW.region ?_ | refine AW.skip ?_ | (refine AW.loopX hE (fun i : Nat => [.any, .any, B true, .ref 0 0 5 0 0, .ref 1 0 4 0 0, .any, .any, .own 2 (pcaTo f i).length, .any, .any, .any, .any, .any, .any, .any, .any, .any, .any, .any, .any, .any, .any, .any, .any, .any, .any, .any, .any, .any, .any, .any, .any, .ro 4 ((partsOf f).map TSegment.en), I (((partsOf f).map TSegment.en).length : Int), I (i : Int), .any, .any, .any, .any, .any, .any, .any, .any, .any, .any, .any, .any, .any, .any, .any, .any, .any, .any, .any]) (fun i => [some ⟨69, 5, 0, true, [f.en]⟩, some ⟨181, 4, 0, true, [box0.en]⟩, some ⟨166, 2, (pcaTo f i).length, false, (pcaTo f i).map TPiece.en⟩]) (fun i => (partsOf f).length - i) (fun i => i ≤ (partsOf f).length) 0 _ (by simp) ?_ (by first | rfl | (rw [hb0]; rfl)) ?_ ?_ ?_) | refine AW.dr (id := 2) 11 ?_ | refine AW.cT ?_ | refine AW.cF ?_ | (refine AW.c2 ?_ ?_ <;> (intro h; try simp only [Bool.not_eq_true', Bool.not_eq_false'] at h)) | refine AW.block ?_ | refine AW.exit ?_ | refine AW.ret ?_)
    | with_reducible refine (if_pos rfl).mpr ?_
    | with_reducible refine (if_neg (by decide)).mpr ?_) <;> (try dsimp only))
  rotate_left 1
  · (repeat' (first | exact Fits.nil _ | refine Fits.cons ?_ ?_ | exact Fits.any _ | exact Fits.c _ _ | exact Fits.own (by rfl) | exact Fits.ref (by rfl) | exact Fits.clo (by assumption) | exact Fits.clo (clo_of (by rfl)) | exact Fits.clo (clo_fn _)))
  · exact fitsM_cons (clo_one f.clo_en) (fitsM_cons (clo_one box0.clo_en) (fitsM_cons (clo_rows TPiece.clo_en) (FitsM.nil _)))
  rotate_right 1
  · (repeat' (first | exact Wk.nil | refine Wk.any ?_ | (with_reducible refine Wk.same ?_) | refine Wk.of ?_ ?_)) <;> first | rfl | (simp_all)
  · intro i hi
    have hclP : Clo (.ro 2 (f.points.map TPoint.en)) := clo_list TPoint.clo_en
    have hclS : Clo (.ro 4 ((partsOf f).map TSegment.en)) := clo_list TSegment.clo_en
    have hcle : Clo (.agg f.en) := Clo.agg f.clo_en
    have hpl := partsOf_le f
    by_cases hlt : i < (partsOf f).length
    · obtain ⟨x, hx⟩ : ∃ x, (partsOf f)[i]? = some x := ⟨_, List.getElem?_eq_getElem hlt⟩
      have hg := map_get (f := TSegment.en) hx
      have ht := lt_true (f := TSegment.en) hlt
      have hn := next_ix hlt (by omega)
      have hln := pcaTo_len f i
      obtain ⟨h1, h2⟩ := pcaTo_map f i
      repeat' ((first
        | ((with_reducible show AL _ _ _ _ _ _ _); first | refine AL.any ?_ | refine AL.any (h := POp.k Tryz.func181 (hc := parts_i f (by assumption))) ?_ | refine AL.U ?_ | refine AL.F ?_ | refine AL.T ?_ | refine AL.W ?_ | refine AL.nil ?_)
        | ((with_reducible show DL _ _ _ _ _ _ _); first | refine DL.any ?_ | refine DL.U ?_ | refine DL.F ?_ | refine DL.T ?_ | refine DL.W ?_ | refine DL.nil ?_)
        | ((with_reducible show AW _ _ _ _ _ _); first | refine AW.seq ?_ | refine AW.region ?_ | refine AW.skip ?_ | refine AW.dr (id := 2) 11 ?_ | refine AW.cT ?_ | refine AW.cF ?_ | (refine AW.c2 ?_ ?_ <;> (intro h; try simp only [Bool.not_eq_true', Bool.not_eq_false'] at h)) | refine AW.block ?_ | refine AW.exit ?_ | refine AW.ret ?_)
        | with_reducible refine (if_pos rfl).mpr ?_
        | with_reducible refine (if_neg (by decide)).mpr ?_) <;> (try dsimp only))
      all_goals first
        | (refine ⟨i + 1, _, hlt, by omega, ?_, by rw [h1, h2] <;> rfl, ?_, ?_⟩; (focus ((repeat' (first | exact Wk.nil | refine Wk.any ?_ | (with_reducible refine Wk.same ?_) | refine Wk.of ?_ ?_)) <;> (simp_all))); (focus ((repeat' (first | exact Fits.nil _ | refine Fits.cons ?_ ?_ | exact Fits.any _ | exact Fits.c _ _ | exact Fits.own (by rfl) | exact Fits.ref (by rfl) | exact Fits.clo (by assumption) | exact Fits.clo (clo_of (by rfl)) | exact Fits.clo (clo_fn _))))); (focus (exact fitsM_cons (clo_one f.clo_en) (fitsM_cons (clo_one box0.clo_en) (fitsM_cons (clo_rows TPiece.clo_en) (FitsM.nil _))))))
    · have ht := lt_false (f := TSegment.en) hlt
      have e : i = (partsOf f).length := by omega
      subst e
      try rw [List.take_length]
      repeat' ((first
        | ((with_reducible show AL _ _ _ _ _ _ _); first | refine AL.any ?_ | refine AL.any (h := POp.k Tryz.func181 (hc := parts_i f (by assumption))) ?_ | refine AL.U ?_ | refine AL.F ?_ | refine AL.T ?_ | refine AL.W ?_ | refine AL.nil ?_)
        | ((with_reducible show DL _ _ _ _ _ _ _); first | refine DL.any ?_ | refine DL.U ?_ | refine DL.F ?_ | refine DL.T ?_ | refine DL.W ?_ | refine DL.nil ?_)
        | ((with_reducible show AW _ _ _ _ _ _); first | refine AW.seq ?_ | refine AW.region ?_ | refine AW.skip ?_ | (refine AW.freezeRet (t := 6) (id := 2) rfl rfl rfl rfl (clo_rows TPiece.clo_en) ?_; (try simp only [List.take_length]); try dsimp only [dput, List.set, cond_true, cond_false, Nat.zero_add, Nat.add_zero, Nat.reduceAdd, splice, List.take, List.drop, List.length, List.nil_append, List.cons_append, List.append, TPoint.en, TSegment.en, TBox.en, TFeature.en, TMeet.en, TPlace.en, TCover.en, TLabel.en, TPiece.en, TLevel.en, TChart.en, TReason.en, TEdit.en, TEntry.en, TEdition.en, TListing.en, TAtlas.en, TEvent.en, TWindow.en]) | refine AW.dr (id := 2) 11 ?_ | refine AW.cT ?_ | refine AW.cF ?_ | (refine AW.c2 ?_ ?_ <;> (intro h; try simp only [Bool.not_eq_true', Bool.not_eq_false'] at h)) | refine AW.block ?_ | refine AW.exit ?_ | refine AW.ret ?_)
        | with_reducible refine (if_pos rfl).mpr ?_
        | with_reducible refine (if_neg (by decide)).mpr ?_) <;> (try dsimp only))
      all_goals exact Fin.one rfl (RV.tmp (by rfl)) (clo_list TPiece.clo_en) ⟨rfl, rfl⟩

theorem pca_i (f : TFeature) (hgd : f.gd) : VCalls Tryz.prog 165 [.agg f.en, .agg box0.en, B true] (fun r M => r = .ro 2 ((pca f).map TPiece.en) ∧ M = []) := by
  cases hk : (f.kind == 1)
  · exact pca_i_f f hgd hk
  · exact pca_i_t f hgd hk
set_option maxRecDepth 100000 in
set_option maxHeartbeats 2000000 in
theorem all_i_f (l : List TFeature) (hl : l.length ≤ 1048576) (hp : ∀ x ∈ l, x.gd) (hS : isSource l = false) : VCalls Tryz.prog 145 [.ro 5 (l.map TFeature.en)] (fun r M => r = .ro 2 ((allPc l).map TPiece.en) ∧ M = []) := by
  refine VCalls.body Tryz.func145 rfl 23 rfl (fun E => ?_)
  simp only [List.reduceReplicate, List.cons_append, List.nil_append]
  have hclo : Clo (.ro 5 (l.map TFeature.en)) := clo_list TFeature.clo_en
  repeat' ((first
    | ((with_reducible show AL _ _ _ _ _ _ _); first | refine AL.any ?_ | refine AL.any (h := POp.k Tryz.func135 (hc := isSource_i _ (by assumption) (by assumption))) ?_ | refine AL.any (h := POp.k Tryz.func165 (hc := pcs_i _ _ (by assumption) (by assumption))) ?_ | refine AL.nil ?_)
    | ((with_reducible show AW _ _ _ _ _ _); first | refine AW.seq ?_ | refine AW.region ?_ | refine AW.skip ?_ | (refine AW.freezeRet (t := 2) (id := 0) rfl rfl rfl rfl clo_rows_nil ?_; (try simp only [List.take_length]); try dsimp only [dput, List.set, cond_true, cond_false, Nat.zero_add, Nat.add_zero, Nat.reduceAdd, splice, List.take, List.drop, List.length, List.nil_append, List.cons_append, List.append, TPoint.en, TSegment.en, TBox.en, TFeature.en, TMeet.en, TPlace.en, TCover.en, TLabel.en, TPiece.en, TLevel.en, TChart.en, TReason.en, TEdit.en, TEntry.en, TEdition.en, TListing.en, TAtlas.en, TEvent.en, TWindow.en]) | refine AW.cT ?_ | refine AW.cF ?_ | (refine AW.c2 ?_ ?_ <;> (intro h; try simp only [Bool.not_eq_true', Bool.not_eq_false'] at h)) | refine AW.block ?_ | refine AW.exit ?_ | refine AW.ret ?_)
    | with_reducible refine (if_pos rfl).mpr ?_
    | with_reducible refine (if_neg (by decide)).mpr ?_) <;> (try dsimp only))
  all_goals exact Fin.one rfl (RV.tmp (by rfl)) (Clo.ro clo_rows_nil) ⟨by rw [allPc_f hS]; rfl, rfl⟩

set_option maxRecDepth 100000 in
set_option maxHeartbeats 2000000 in
theorem all_i_t (l : List TFeature) (hl : l.length ≤ 1048576) (hp : ∀ x ∈ l, x.gd) (hS : isSource l = true) : VCalls Tryz.prog 145 [.ro 5 (l.map TFeature.en)] (fun r M => r = .ro 2 ((allPc l).map TPiece.en) ∧ M = []) := by
  refine VCalls.bodyE Tryz.func145 rfl 23 rfl (fun E hE => ?_)
  simp only [List.reduceReplicate, List.cons_append, List.nil_append]
  have hclo : Clo (.ro 5 (l.map TFeature.en)) := clo_list TFeature.clo_en
  repeat' ((first
    | ((with_reducible show AL _ _ _ _ _ _ _); first | refine AL.any ?_ | refine AL.any (h := POp.k Tryz.func135 (hc := isSource_i _ (by assumption) (by assumption))) ?_ | refine AL.any (h := POp.k Tryz.func165 (hc := pca_i x (by assumption))) ?_ | refine AL.nil ?_)
    | ((with_reducible show AW _ _ _ _ _ _); first | refine AW.seq ?_ | refine AW.region ?_ | refine AW.skip ?_ | (refine AW.loopD hE (fun i : Nat => [.ro 5 (l.map TFeature.en), .any, .any, .own 0 i, .any, .any, .any, .any, .any, .any, .any, .ro 5 (l.map TFeature.en), I ((l.map TFeature.en).length : Int), I (i : Int), .any, .any, .any, .any, .any, .any, .any, .any, .any, .any]) (fun i => [some ⟨166, 2, i, false, (allTo l i).map TPiece.en⟩]) (fun i => l.length - i) (fun i => i ≤ l.length) 0 (by simp) ?_ (by first | rfl | (simp [fil_zero]; done)) ?_) | refine AW.cT ?_ | refine AW.cF ?_ | (refine AW.c2 ?_ ?_ <;> (intro h; try simp only [Bool.not_eq_true', Bool.not_eq_false'] at h)) | refine AW.block ?_ | refine AW.exit ?_ | refine AW.ret ?_)
    | with_reducible refine (if_pos rfl).mpr ?_
    | with_reducible refine (if_neg (by decide)).mpr ?_) <;> (try dsimp only))
  · (repeat' (first | exact Wk.nil | refine Wk.any ?_ | (with_reducible refine Wk.same ?_) | refine Wk.of ?_ ?_)) <;> first | rfl | (rfl)
  · intro i hi
    have hclo : Clo (.ro 5 (l.map TFeature.en)) := clo_list TFeature.clo_en
    by_cases hlt : i < l.length
    · obtain ⟨x, hx⟩ : ∃ x, l[i]? = some x := ⟨_, List.getElem?_eq_getElem hlt⟩
      have hg := map_get (f := TFeature.en) hx
      have ht := lt_true (f := TFeature.en) hlt
      have hn := next_ix hlt (by omega)
      have hgx := hp x (List.mem_of_getElem? hx)
      have hclQ : Clo (.ro 2 ((pca x).map TPiece.en)) := clo_list TPiece.clo_en
      have hclP : Clo (.ro 2 (x.points.map TPoint.en)) := clo_list TPoint.clo_en
      have hcle : Clo (.agg x.en) := Clo.agg x.clo_en
      have hm := allTo_map hx
      have hln := allTo_len l i (by omega)
      have hpl := pca_len x
      repeat' ((first
        | ((with_reducible show AL _ _ _ _ _ _ _); first | refine AL.any ?_ | refine AL.any (h := POp.k Tryz.func135 (hc := isSource_i _ (by assumption) (by assumption))) ?_ | refine AL.any (h := POp.k Tryz.func165 (hc := pca_i x (by assumption))) ?_ | refine AL.nil ?_)
        | ((with_reducible show AW _ _ _ _ _ _); first | refine AW.seq ?_ | refine AW.region ?_ | refine AW.skip ?_ | refine AW.cT ?_ | refine AW.cF ?_ | (refine AW.c2 ?_ ?_ <;> (intro h; try simp only [Bool.not_eq_true', Bool.not_eq_false'] at h)) | refine AW.block ?_ | refine AW.exit ?_ | refine AW.ret ?_)
        | with_reducible refine (if_pos rfl).mpr ?_
        | with_reducible refine (if_neg (by decide)).mpr ?_) <;> (try dsimp only))
      all_goals first
        | (refine ⟨i + 1, _, hlt, by omega, ?_, by rw [hm] <;> rfl, ?_, ?_⟩; (focus ((repeat' (first | exact Wk.nil | refine Wk.any ?_ | (with_reducible refine Wk.same ?_) | refine Wk.of ?_ ?_)) <;> (simp_all))); (focus ((repeat' (first | exact Fits.nil _ | refine Fits.cons ?_ ?_ | exact Fits.any _ | exact Fits.c _ _ | exact Fits.own (by rfl) | exact Fits.ref (by rfl) | exact Fits.clo (by assumption) | exact Fits.clo (clo_of (by rfl)) | exact Fits.clo (clo_fn _))))); (focus (exact fits_row (clo_rows TPiece.clo_en))))
    · have ht := lt_false (f := TFeature.en) hlt
      have e : i = l.length := by omega
      subst e
      try rw [List.take_length]
      repeat' ((first
        | ((with_reducible show AL _ _ _ _ _ _ _); first | refine AL.any ?_ | refine AL.any (h := POp.k Tryz.func135 (hc := isSource_i _ (by assumption) (by assumption))) ?_ | refine AL.any (h := POp.k Tryz.func165 (hc := pca_i x (by assumption))) ?_ | refine AL.nil ?_)
        | ((with_reducible show AW _ _ _ _ _ _); first | refine AW.seq ?_ | refine AW.region ?_ | refine AW.skip ?_ | (refine AW.freezeRet (t := 2) (id := 0) rfl rfl rfl rfl (clo_rows TPiece.clo_en) ?_; (try simp only [List.take_length]); try dsimp only [dput, List.set, cond_true, cond_false, Nat.zero_add, Nat.add_zero, Nat.reduceAdd, splice, List.take, List.drop, List.length, List.nil_append, List.cons_append, List.append, TPoint.en, TSegment.en, TBox.en, TFeature.en, TMeet.en, TPlace.en, TCover.en, TLabel.en, TPiece.en, TLevel.en, TChart.en, TReason.en, TEdit.en, TEntry.en, TEdition.en, TListing.en, TAtlas.en, TEvent.en, TWindow.en]) | refine AW.cT ?_ | refine AW.cF ?_ | (refine AW.c2 ?_ ?_ <;> (intro h; try simp only [Bool.not_eq_true', Bool.not_eq_false'] at h)) | refine AW.block ?_ | refine AW.exit ?_ | refine AW.ret ?_)
        | with_reducible refine (if_pos rfl).mpr ?_
        | with_reducible refine (if_neg (by decide)).mpr ?_) <;> (try dsimp only))
      all_goals exact Fin.one rfl (RV.tmp (by rfl)) (clo_list TPiece.clo_en) ⟨by rw [allPc_t hS], rfl⟩

theorem all_i (l : List TFeature) (hl : l.length ≤ 1048576) (hp : ∀ x ∈ l, x.gd) : VCalls Tryz.prog 145 [.ro 5 (l.map TFeature.en)] (fun r M => r = .ro 2 ((allPc l).map TPiece.en) ∧ M = []) := by
  cases hS : isSource l
  · exact all_i_f l hl hp hS
  · exact all_i_t l hl hp hS
set_option maxRecDepth 100000 in
set_option maxHeartbeats 2000000 in
theorem all_s (l : List TFeature) (hl : l.length ≤ 1048576) (hp : ∀ x ∈ l, x.gd) : VCalls Tryz.prog 139 [.ro 5 (l.map TFeature.en)] (fun r M => r = .ro 2 ((allPc l).map TPiece.en) ∧ M = []) := by
  refine VCalls.bodyE Tryz.func139 rfl 45 rfl (fun E hE => ?_)
  simp only [List.reduceReplicate, List.cons_append, List.nil_append]
  have hclo : Clo (.ro 5 (l.map TFeature.en)) := clo_list TFeature.clo_en
  have hclo : Clo (.ro 5 (l.map TFeature.en)) := clo_list TFeature.clo_en
  repeat' ((first
    | ((with_reducible show AL _ _ _ _ _ _ _); first | refine AL.any ?_ | refine AL.any (h := POp.k Tryz.func160 (hc := parts_s x (by assumption))) ?_ | refine AL.U ?_ | refine AL.F ?_ | refine AL.T ?_ | refine AL.T (h := POp.k Tryz.func133 (hc := isSource_s _ (by assumption) (by assumption))) ?_ | refine AL.W ?_ | refine AL.W (h := fun h => by (try rw [h]); exact POp.k Tryz.func133 (hc := isSource_s _ (by assumption) (by assumption))) ?_ | refine AL.nil ?_)
    | ((with_reducible show AW _ _ _ _ _ _); first | refine AW.seq ?_ | refine AW.region ?_ | refine AW.skip ?_ | (refine AW.loopD hE (fun i : Nat => [.ro 5 (l.map TFeature.en), .any, .any, .own 0 (allTo l i).length, I (i : Int), .any, .any, .any, .any, .any, .any, .any, .any, .any, .any, .any, .any, .any, .any, .any, .any, .any, .any, .any, .any, .any, .any, .any, .any, .any, .any, .any, .any, .any, .any, .any, .any, .any, .any, .any, .any, .any, .any, .any, .any, .any]) (fun i => [some ⟨166, 2, (allTo l i).length, false, (allTo l i).map TPiece.en⟩]) (fun i => nSrc l - i) (fun i => i ≤ nSrc l) 0 (Nat.zero_le _) ?_ (by first | rfl | (rfl; done)) ?_) | refine AW.cT ?_ | refine AW.cF ?_ | (refine AW.c2 ?_ ?_ <;> (intro h; try simp only [Bool.not_eq_true', Bool.not_eq_false'] at h)) | refine AW.block ?_ | refine AW.exit ?_ | refine AW.ret ?_)
    | with_reducible refine (if_pos rfl).mpr ?_
    | with_reducible refine (if_neg (by decide)).mpr ?_) <;> (try dsimp only))
  · (repeat' (first | exact Wk.nil | refine Wk.any ?_ | (with_reducible refine Wk.same ?_) | refine Wk.of ?_ ?_)) <;> first | rfl | (simp; done)
  · intro i hv_i
    have hclo : Clo (.ro 5 (l.map TFeature.en)) := clo_list TFeature.clo_en
    by_cases hlt_i : i < nSrc l
    · skip
      obtain ⟨hS, hN⟩ := nSrc_t hlt_i
      obtain ⟨x, hx⟩ : ∃ x, l[i]? = some x := ⟨_, List.getElem?_eq_getElem (by omega)⟩
      have hgm := map_get (f := TFeature.en) hx
      have ht : (decide ((i : Int) < ((l.map TFeature.en).length : Int)) && isSource l) = true := by rw [hS]; simp; omega
      have hn := next_ix hlt_i (by omega)
      have hclS : Clo (.ro 4 ((partsOf x).map TSegment.en)) := clo_list TSegment.clo_en
      have hln := allTo_len l i (by omega)
      have hpl := nPt_le x
      obtain ⟨e1, e2⟩ := all_next hx
      have hnp : nPt x = if (x.kind == 1) = true then 1 else (partsOf x).length := rfl
      have hgx := hp x (List.mem_of_getElem? hx)
      have hclQ : Clo (.ro 2 ((pca x).map TPiece.en)) := clo_list TPiece.clo_en
      have hclP : Clo (.ro 2 (x.points.map TPoint.en)) := clo_list TPoint.clo_en
      have hcle : Clo (.agg x.en) := Clo.agg x.clo_en
      cases hk : (x.kind == 1)
      all_goals
        repeat' ((first
          | ((with_reducible show AL _ _ _ _ _ _ _); first | refine AL.any ?_ | refine AL.any (h := POp.k Tryz.func160 (hc := parts_s x (by assumption))) ?_ | refine AL.U ?_ | refine AL.F ?_ | refine AL.T ?_ | refine AL.T (h := POp.k Tryz.func133 (hc := isSource_s _ (by assumption) (by assumption))) ?_ | refine AL.W ?_ | refine AL.W (h := fun h => by (try rw [h]); exact POp.k Tryz.func133 (hc := isSource_s _ (by assumption) (by assumption))) ?_ | refine AL.nil ?_)
          | ((with_reducible show AW _ _ _ _ _ _); first | refine AW.seq ?_ | refine AW.region ?_ | refine AW.skip ?_ | (refine AW.loopD hE (fun k : Nat => [.ro 5 (l.map TFeature.en), .any, .any, .own 0 ((allTo l i).length + k), I (i : Int), I ((nPt x : Nat) : Int), I (k : Int), .any, .any, .any, .any, .any, .any, .any, .any, .any, .any, .any, .any, .any, .any, .any, .any, .any, .any, .any, .any, .any, .any, .any, .any, .any, .any, .any, .any, .any, .any, .any, .any, .any, .any, .any, .any, .any, .any, .any]) (fun k => [some ⟨166, 2, (allTo l i).length + k, false, (allTo l i).map TPiece.en ++ (fpcTo x k).map TPiece.en⟩]) (fun k => nPt x - k) (fun k => k ≤ nPt x) 0 (Nat.zero_le _) ?_ (by first | rfl | (simp [fpcTo]; done)) ?_) | refine AW.cT ?_ | refine AW.cF ?_ | (refine AW.c2 ?_ ?_ <;> (intro h; try simp only [Bool.not_eq_true', Bool.not_eq_false'] at h)) | refine AW.block ?_ | refine AW.exit ?_ | refine AW.ret ?_)
          | with_reducible refine (if_pos rfl).mpr ?_
          | with_reducible refine (if_neg (by decide)).mpr ?_) <;> (try dsimp only))
        · (repeat' (first | exact Wk.nil | refine Wk.any ?_ | (with_reducible refine Wk.same ?_) | refine Wk.of ?_ ?_)) <;> first | rfl | (simp_all; done)
        · intro k hv_k
          have hclo : Clo (.ro 5 (l.map TFeature.en)) := clo_list TFeature.clo_en
          by_cases hlt_k : k < nPt x
          · skip
            have htk : decide ((k : Int) < ((nPt x : Nat) : Int)) = true := by simp; omega
            have hnk := next_ix hlt_k (by omega)
            have hm : (allTo l i).map TPiece.en ++ (fpcTo x (k + 1)).map TPiece.en = ((allTo l i).map TPiece.en ++ (fpcTo x k).map TPiece.en) ++ [[I x.id, I (k : Int)]] := by rw [fpcTo_map, List.append_assoc]
            have hfl := fpcTo_len x k
            repeat' ((first
              | ((with_reducible show AL _ _ _ _ _ _ _); first | refine AL.any ?_ | refine AL.any (h := POp.k Tryz.func160 (hc := parts_s x (by assumption))) ?_ | refine AL.U ?_ | refine AL.F ?_ | refine AL.T ?_ | refine AL.T (h := POp.k Tryz.func133 (hc := isSource_s _ (by assumption) (by assumption))) ?_ | refine AL.W ?_ | refine AL.W (h := fun h => by (try rw [h]); exact POp.k Tryz.func133 (hc := isSource_s _ (by assumption) (by assumption))) ?_ | refine AL.nil ?_)
              | ((with_reducible show AW _ _ _ _ _ _); first | refine AW.seq ?_ | refine AW.region ?_ | refine AW.skip ?_ | refine AW.cT ?_ | refine AW.cF ?_ | (refine AW.c2 ?_ ?_ <;> (intro h; try simp only [Bool.not_eq_true', Bool.not_eq_false'] at h)) | refine AW.block ?_ | refine AW.exit ?_ | refine AW.ret ?_)
              | with_reducible refine (if_pos rfl).mpr ?_
              | with_reducible refine (if_neg (by decide)).mpr ?_) <;> (try dsimp only))
            all_goals first
              | (refine ⟨k + 1, _, hlt_k, by omega, ?_, by rw [hm] <;> rfl, ?_, ?_⟩; (focus ((repeat' (first | exact Wk.nil | refine Wk.any ?_ | (with_reducible refine Wk.same ?_) | refine Wk.of ?_ ?_)) <;> (first | rfl | simp_all))); (focus ((repeat' (first | exact Fits.nil _ | refine Fits.cons ?_ ?_ | exact Fits.any _ | exact Fits.c _ _ | exact Fits.own (by rfl) | exact Fits.ref (by rfl) | exact Fits.clo (by assumption) | exact Fits.clo (clo_of (by rfl)) | exact Fits.clo (clo_fn _))))); (focus (refine fits_row ?_; exact clo_rows_app (clo_rows TPiece.clo_en) (clo_rows TPiece.clo_en))))
          · have e_k : k = nPt x := by omega
            have htk : decide ((k : Int) < ((nPt x : Nat) : Int)) = false := by simp; omega
            subst e_k
            repeat' ((first
              | ((with_reducible show AL _ _ _ _ _ _ _); first | refine AL.any ?_ | refine AL.any (h := POp.k Tryz.func160 (hc := parts_s x (by assumption))) ?_ | refine AL.U ?_ | refine AL.F ?_ | refine AL.T ?_ | refine AL.T (h := POp.k Tryz.func133 (hc := isSource_s _ (by assumption) (by assumption))) ?_ | refine AL.W ?_ | refine AL.W (h := fun h => by (try rw [h]); exact POp.k Tryz.func133 (hc := isSource_s _ (by assumption) (by assumption))) ?_ | refine AL.nil ?_)
              | ((with_reducible show AW _ _ _ _ _ _); first | refine AW.seq ?_ | refine AW.region ?_ | refine AW.skip ?_ | refine AW.cT ?_ | refine AW.cF ?_ | (refine AW.c2 ?_ ?_ <;> (intro h; try simp only [Bool.not_eq_true', Bool.not_eq_false'] at h)) | refine AW.block ?_ | refine AW.exit ?_ | refine AW.ret ?_)
              | with_reducible refine (if_pos rfl).mpr ?_
              | with_reducible refine (if_neg (by decide)).mpr ?_) <;> (try dsimp only))
            all_goals first
              | (refine ⟨i + 1, _, hlt_i, by omega, ?_, by rw [← e1, ← e2] <;> rfl, ?_, ?_⟩; (focus ((repeat' (first | exact Wk.nil | refine Wk.any ?_ | (with_reducible refine Wk.same ?_) | refine Wk.of ?_ ?_)) <;> (first | (rw [← e2]; done) | simp_all))); (focus ((repeat' (first | exact Fits.nil _ | refine Fits.cons ?_ ?_ | exact Fits.any _ | exact Fits.c _ _ | exact Fits.own (by rfl) | exact Fits.ref (by rfl) | exact Fits.clo (by assumption) | exact Fits.clo (clo_of (by rfl)) | exact Fits.clo (clo_fn _))))); (focus (exact fits_row (clo_rows TPiece.clo_en))))
    · have e_i : i = nSrc l := by omega
      have ht : (decide ((i : Int) < ((l.map TFeature.en).length : Int)) && isSource l) = false := by
        rw [e_i]
        unfold nSrc
        cases hS : isSource l
        · simp
        · simp
      subst e_i
      repeat' ((first
        | ((with_reducible show AL _ _ _ _ _ _ _); first | refine AL.any ?_ | refine AL.any (h := POp.k Tryz.func160 (hc := parts_s x (by assumption))) ?_ | refine AL.U ?_ | refine AL.F ?_ | refine AL.T ?_ | refine AL.T (h := POp.k Tryz.func133 (hc := isSource_s _ (by assumption) (by assumption))) ?_ | refine AL.W ?_ | refine AL.W (h := fun h => by (try rw [h]); exact POp.k Tryz.func133 (hc := isSource_s _ (by assumption) (by assumption))) ?_ | refine AL.nil ?_)
        | ((with_reducible show AW _ _ _ _ _ _); first | refine AW.seq ?_ | refine AW.region ?_ | refine AW.skip ?_ | (refine AW.freezeRet (t := 2) (id := 0) rfl rfl rfl rfl (clo_rows TPiece.clo_en) ?_; (try simp only [List.take_length]); try dsimp only [dput, List.set, cond_true, cond_false, Nat.zero_add, Nat.add_zero, Nat.reduceAdd, splice, List.take, List.drop, List.length, List.nil_append, List.cons_append, List.append, TPoint.en, TSegment.en, TBox.en, TFeature.en, TMeet.en, TPlace.en, TCover.en, TLabel.en, TPiece.en, TLevel.en, TChart.en, TReason.en, TEdit.en, TEntry.en, TEdition.en, TListing.en, TAtlas.en, TEvent.en, TWindow.en]) | refine AW.cT ?_ | refine AW.cF ?_ | (refine AW.c2 ?_ ?_ <;> (intro h; try simp only [Bool.not_eq_true', Bool.not_eq_false'] at h)) | refine AW.block ?_ | refine AW.exit ?_ | refine AW.ret ?_)
        | with_reducible refine (if_pos rfl).mpr ?_
        | with_reducible refine (if_neg (by decide)).mpr ?_) <;> (try dsimp only))
      all_goals first
        | exact Fin.one rfl (RV.tmp (by rfl)) (clo_list TPiece.clo_en) ⟨by rw [allPc_n], rfl⟩

set_option maxRecDepth 100000 in
set_option maxHeartbeats 2000000 in
theorem seal_i (b t : Int) (l : List TFeature) (hl : l.length ≤ 1048576) (hp : ∀ x ∈ l, x.gd) : VCalls Tryz.prog 121 [I b, I t, .ro 5 (l.map TFeature.en)] (fun r M => r = I (sealOf b t l) ∧ M = []) := by
  refine VCalls.body Tryz.func121 rfl 13 rfl (fun E => ?_)
  simp only [List.reduceReplicate, List.cons_append, List.nil_append]
  have hclo : Clo (.ro 5 (l.map TFeature.en)) := clo_list TFeature.clo_en
  have hclA : Clo (.ro 2 ((allPc l).map TPiece.en)) := clo_list TPiece.clo_en
  have hclD : Clo (.ro 1 ((dig l (allPc l)).map enI)) := clo_list clo_enI
  have hal := allPc_len l
  have hdl := dig_len l (allPc l)
  repeat' ((first
    | ((with_reducible show AL _ _ _ _ _ _ _); first | refine AL.any ?_ | refine AL.any (h := POp.kv Tryz.func143 (hc := hash_i' ([b, t] ++ dig l (allPc l)) (seal_rows b t (dig l (allPc l))) (seal_len b t l))) ?_ | refine AL.any (h := POp.k Tryz.func144 (hc := dig_i l (allPc l) (by assumption) (by assumption) (by have := allPc_len l; omega) (allPc_is l))) ?_ | refine AL.any (h := POp.k Tryz.func145 (hc := all_i _ (by assumption) (by assumption))) ?_ | refine AL.nil ?_)
    | ((with_reducible show AW _ _ _ _ _ _); first | refine AW.seq ?_ | refine AW.region ?_ | refine AW.skip ?_ | refine AW.block ?_ | refine AW.exit ?_ | refine AW.ret ?_)
    | with_reducible refine (if_pos rfl).mpr ?_
    | with_reducible refine (if_neg (by decide)).mpr ?_) <;> (try dsimp only))
  all_goals exact Fin.one rfl (RV.tmp (by rfl)) (clo_c _) ⟨by rfl, rfl⟩

set_option maxRecDepth 100000 in
set_option maxHeartbeats 2000000 in
theorem seal_s (b t : Int) (l : List TFeature) (hl : l.length ≤ 1048576) (hp : ∀ x ∈ l, x.gd) : VCalls Tryz.prog 118 [I b, I t, .ro 5 (l.map TFeature.en)] (fun r M => r = I (sealOf b t l) ∧ M = []) := by
  refine VCalls.bodyE Tryz.func118 rfl 39 rfl (fun E hE => ?_)
  simp only [List.reduceReplicate, List.cons_append, List.nil_append]
  have hclo : Clo (.ro 5 (l.map TFeature.en)) := clo_list TFeature.clo_en
  have hclA : Clo (.ro 2 ((allPc l).map TPiece.en)) := clo_list TPiece.clo_en
  have hclD : Clo (.ro 1 ((dig l (allPc l)).map enI)) := clo_list clo_enI
  have hal := allPc_len l
  have hdl := dig_len l (allPc l)
  repeat' ((first
    | ((with_reducible show AL _ _ _ _ _ _ _); first | refine AL.any ?_ | refine AL.any (h := POp.k Tryz.func139 (hc := all_s _ (by assumption) (by assumption))) ?_ | refine AL.any (h := POp.kv Tryz.func142 (hc := hash_s' (sealTo b t l (allPc l) (allPc l).length) rfl (sealTo_len b t l))) ?_ | refine AL.nil ?_)
    | ((with_reducible show DL _ _ _ _ _ _ _); first | refine DL.any ?_ | refine DL.any (h := POp.k Tryz.func140 (hc := pd_s y x.part (by assumption))) ?_ | refine DL.any (h := POp.k Tryz.func141 (hc := find_s l x.id (by assumption))) ?_ | refine DL.nil ?_)
    | ((with_reducible show DLM _ _ _ _ _ _ _ _ _ _); first | refine DLM.any ?_ | refine DLM.mk ?_ | refine DLM.any (h := fun Y => POp.k Tryz.func140 (hc := pd_s y x.part (by assumption))) ?_ | refine DLM.any (h := fun Y => POp.k Tryz.func141 (hc := find_s l x.id (by assumption))) ?_ | refine DLM.nil ?_)
    | ((with_reducible show AW _ _ _ _ _ _); first | refine AW.seq ?_ | refine AW.region ?_ | refine AW.skip ?_ | (refine AW.loopD hE (fun i : Nat => [.any, .any, .ro 5 (l.map TFeature.en), .any, .any, .any, .any, .own 0 i, .ro 2 ((allPc l).map TPiece.en), I (i : Int), .any, .any, .any, .any, .any, .any, .any, .any, .any, .any, .any, .any, .any, .any, .any, .any, .any, .any, .any, .any, .any, .any, .any, .any, .any, .any, .any, .any, .any, .any, .any, .any]) (fun i => [some ⟨3, 1, i, false, (sealTo b t l (allPc l) i).map enI⟩]) (fun i => (allPc l).length - i) (fun i => i ≤ (allPc l).length) 0 (by simp) ?_ (by first | rfl | (simp [fil_zero]; done)) ?_) | refine AW.drM (id := 6) 18 17 ?_ | refine AW.cT ?_ | refine AW.cF ?_ | (refine AW.c2 ?_ ?_ <;> (intro h; try simp only [Bool.not_eq_true', Bool.not_eq_false'] at h)) | refine AW.block ?_ | refine AW.exit ?_ | refine AW.ret ?_)
    | with_reducible refine (if_pos rfl).mpr ?_
    | with_reducible refine (if_neg (by decide)).mpr ?_) <;> (try dsimp only))
  · (repeat' (first | exact Wk.nil | refine Wk.any ?_ | (with_reducible refine Wk.same ?_) | refine Wk.of ?_ ?_)) <;> first | rfl | (rfl)
  · intro i hi
    have hclo : Clo (.ro 5 (l.map TFeature.en)) := clo_list TFeature.clo_en
    have hclA : Clo (.ro 2 ((allPc l).map TPiece.en)) := clo_list TPiece.clo_en
    have hclD : Clo (.ro 1 ((dig l (allPc l)).map enI)) := clo_list clo_enI
    have hal := allPc_len l
    have hdl := dig_len l (allPc l)
    by_cases hlt : i < (allPc l).length
    · obtain ⟨x, hx⟩ : ∃ x, (allPc l)[i]? = some x := ⟨_, List.getElem?_eq_getElem hlt⟩
      have hg := map_get (f := TPiece.en) hx
      have ht := lt_true (f := TPiece.en) hlt
      have hn := next_ix hlt (by omega)
      obtain ⟨y, hym, hye, hy0, hyg⟩ := pc_at (allPc_is l) hx
      have hgy := hp y hym
      have hm := sealTo_succ (b := b) (t := t) (l := l) hx
      rw [hye] at hm
      have hln := sealTo_lt b t l i
      have hclY : Clo (.agg y.en) := Clo.agg y.clo_en
      have hclP : Clo (.ro 2 (y.points.map TPoint.en)) := clo_list TPoint.clo_en
      repeat' ((first
        | ((with_reducible show AL _ _ _ _ _ _ _); first | refine AL.any ?_ | refine AL.any (h := POp.k Tryz.func139 (hc := all_s _ (by assumption) (by assumption))) ?_ | refine AL.any (h := POp.kv Tryz.func142 (hc := hash_s' (sealTo b t l (allPc l) (allPc l).length) rfl (sealTo_len b t l))) ?_ | refine AL.nil ?_)
        | ((with_reducible show DL _ _ _ _ _ _ _); first | refine DL.any ?_ | refine DL.any (h := POp.k Tryz.func140 (hc := pd_s y x.part (by assumption))) ?_ | refine DL.any (h := POp.k Tryz.func141 (hc := find_s l x.id (by assumption))) ?_ | refine DL.nil ?_)
        | ((with_reducible show DLM _ _ _ _ _ _ _ _ _ _); first | refine DLM.any ?_ | refine DLM.mk ?_ | refine DLM.any (h := fun Y => POp.k Tryz.func140 (hc := pd_s y x.part (by assumption))) ?_ | refine DLM.any (h := fun Y => POp.k Tryz.func141 (hc := find_s l x.id (by assumption))) ?_ | refine DLM.nil ?_)
        | ((with_reducible show AW _ _ _ _ _ _); first | refine AW.seq ?_ | refine AW.region ?_ | refine AW.skip ?_ | refine AW.drM (id := 6) 18 17 ?_ | refine AW.cT ?_ | refine AW.cF ?_ | (refine AW.c2 ?_ ?_ <;> (intro h; try simp only [Bool.not_eq_true', Bool.not_eq_false'] at h)) | refine AW.block ?_ | refine AW.exit ?_ | refine AW.ret ?_)
        | with_reducible refine (if_pos rfl).mpr ?_
        | with_reducible refine (if_neg (by decide)).mpr ?_) <;> (try dsimp only))
      all_goals first
        | (refine ⟨i + 1, _, hlt, by omega, ?_, by rw [hm] <;> rfl, ?_, ?_⟩; (focus ((repeat' (first | exact Wk.nil | refine Wk.any ?_ | (with_reducible refine Wk.same ?_) | refine Wk.of ?_ ?_)) <;> (simp_all))); (focus ((repeat' (first | exact Fits.nil _ | refine Fits.cons ?_ ?_ | exact Fits.any _ | exact Fits.c _ _ | exact Fits.own (by rfl) | exact Fits.ref (by rfl) | exact Fits.clo (by assumption) | exact Fits.clo (clo_of (by rfl)) | exact Fits.clo (clo_fn _))))); (focus (exact fits_row (clo_rows clo_enI))))
    · have ht := lt_false (f := TPiece.en) hlt
      have e : i = (allPc l).length := by omega
      subst e
      try rw [List.take_length]
      repeat' ((first
        | ((with_reducible show AL _ _ _ _ _ _ _); first | refine AL.any ?_ | refine AL.any (h := POp.k Tryz.func139 (hc := all_s _ (by assumption) (by assumption))) ?_ | refine AL.any (h := POp.kv Tryz.func142 (hc := hash_s' (sealTo b t l (allPc l) (allPc l).length) rfl (sealTo_len b t l))) ?_ | refine AL.nil ?_)
        | ((with_reducible show DL _ _ _ _ _ _ _); first | refine DL.any ?_ | refine DL.any (h := POp.k Tryz.func140 (hc := pd_s y x.part (by assumption))) ?_ | refine DL.any (h := POp.k Tryz.func141 (hc := find_s l x.id (by assumption))) ?_ | refine DL.nil ?_)
        | ((with_reducible show DLM _ _ _ _ _ _ _ _ _ _); first | refine DLM.any ?_ | refine DLM.mk ?_ | refine DLM.any (h := fun Y => POp.k Tryz.func140 (hc := pd_s y x.part (by assumption))) ?_ | refine DLM.any (h := fun Y => POp.k Tryz.func141 (hc := find_s l x.id (by assumption))) ?_ | refine DLM.nil ?_)
        | ((with_reducible show AW _ _ _ _ _ _); first | refine AW.seq ?_ | refine AW.region ?_ | refine AW.skip ?_ | refine AW.drM (id := 6) 18 17 ?_ | refine AW.cT ?_ | refine AW.cF ?_ | (refine AW.c2 ?_ ?_ <;> (intro h; try simp only [Bool.not_eq_true', Bool.not_eq_false'] at h)) | refine AW.block ?_ | refine AW.exit ?_ | refine AW.ret ?_)
        | with_reducible refine (if_pos rfl).mpr ?_
        | with_reducible refine (if_neg (by decide)).mpr ?_) <;> (try dsimp only))
      all_goals exact Fin.one rfl (RV.tmp (by rfl)) (clo_c _) ⟨by rw [seal_all]; rfl, rfl⟩

end Go.Proofs.YtacbpfbelcdeiaaGreat.Abs

/- The walks of levels, logs, covers. -/
namespace Go.Proofs.YtacbpfbelcdeiaaGreat.Abs
open Go.Proofs Go.RowKit
set_option linter.unusedVariables false
set_option linter.unusedSimpArgs false
attribute [local irreducible] OpA AL AW DL DLM DLR DLS QOp POp VCalls VCallsI
def covAt (s : ByteArray) (i : Nat) : Bool := match s[i]? with
  | none => false
  | some b => !(decide (((b.toNat : Nat) : Int) < 97) || decide (((b.toNat : Nat) : Int) > 122))
def covTo (s : ByteArray) (n : Nat) : Bool := (List.range n).all (covAt s)
theorem covTo_succ (s : ByteArray) (i : Nat) : covTo s (i + 1) = (covTo s i && covAt s i) := by simp [covTo, List.range_succ]
theorem covTo_not {s : ByteArray} {i n : Nat} (h : covAt s i = false) (hi : i < n) : covTo s n = false := by
  simp only [covTo, List.all_eq_false, List.mem_range]
  exact ⟨i, hi, by simp [h]⟩
def isCover (w g : Int) (s : ByteArray) : Bool := inr w 1 6 && inr g 1 6 && ((s.size : Int) == IntKind.i64.wrap (w * g)) && covTo s s.size
theorem isCover_size {w g : Int} {s : ByteArray} (hc : isCover w g s = true) : 1 ≤ s.size ∧ s.size ≤ 36 := by
  simp only [isCover, inr, Bool.and_eq_true, decide_eq_true_eq, beq_iff_eq] at hc
  obtain ⟨⟨⟨hw, hh⟩, hs⟩, _⟩ := hc
  have h1 : 1 * 1 ≤ w * g := Int.mul_le_mul hw.1 hh.1 (by omega) (by omega)
  have h2 : w * g ≤ 6 * 6 := Int.mul_le_mul hw.2 hh.2 (by omega) (by omega)
  rw [w64 (by omega) (by omega)] at hs
  omega
theorem str_get {s : ByteArray} {i : Nat} (h : i < s.size) : ∃ b : UInt8, s[i]? = some b ∧ s[((i : Nat) : Int).toNat]? = some b := ⟨s[i], by simp [h], by rw [Int.toNat_natCast]; simp [h]⟩
theorem covAt_some {s : ByteArray} {i : Nat} {b : UInt8} (h : s[i]? = some b) : covAt s i = !(decide (((b.toNat : Nat) : Int) < 97) || decide (((b.toNat : Nat) : Int) > 122)) := by simp [covAt, h]
theorem str_lt {s : ByteArray} {i : Nat} (h : i < s.size) : decide ((i : Int) < (s.size : Int)) = true := by simp; omega
theorem str_ge {s : ByteArray} {i : Nat} (h : ¬ i < s.size) : decide ((i : Int) < (s.size : Int)) = false := by simp; omega

/-! ### Lists each of whose elements is in order with the one before -/
def chAt {α : Type} (ok : α → Bool) (lt : α → α → Bool) (d : α) (l : List α) (i : Nat) : Bool := match l[i]? with
  | none => false
  | some x => ok x && (i == 0 || lt (l.getD (i - 1) d) x)
def chOk {α : Type} (ok : α → Bool) (lt : α → α → Bool) (d : α) (l : List α) (n : Nat) : Bool := (List.range n).all (chAt ok lt d l)
theorem chOk_succ {α : Type} (ok : α → Bool) (lt : α → α → Bool) (d : α) (l : List α) (i : Nat) : chOk ok lt d l (i + 1) = (chOk ok lt d l i && chAt ok lt d l i) := by simp [chOk, List.range_succ]
theorem chOk_not {α : Type} {ok : α → Bool} {lt : α → α → Bool} {d : α} {l : List α} {i n : Nat} (h : chAt ok lt d l i = false) (hi : i < n) : chOk ok lt d l n = false := by
  simp only [chOk, List.all_eq_false, List.mem_range]
  exact ⟨i, hi, by simp [h]⟩
theorem ch_cases {α : Type} (ok : α → Bool) (lt : α → α → Bool) (d : α) (en : α → List AV) {l : List α} {i : Nat} {x : α} (hx : l[i]? = some x) (hl : l.length ≤ 1048576) :
    (ok x = false ∧ chAt ok lt d l i = false) ∨ (ok x = true ∧ decide ((i : Int) > 0) = false ∧ chAt ok lt d l i = true) ∨
    (ok x = true ∧ decide ((i : Int) > 0) = true ∧ 0 ≤ IntKind.i64.wrap ((i : Int) - 1) ∧ (l.map en)[(IntKind.i64.wrap ((i : Int) - 1)).toNat]? = some (en (l.getD (i - 1) d)) ∧ chAt ok lt d l i = lt (l.getD (i - 1) d) x) := by
  have hi := (List.getElem?_eq_some_iff.1 hx).1
  cases hI : ok x
  · exact .inl ⟨rfl, by simp [chAt, hx, hI]⟩
  · rcases Nat.eq_zero_or_pos i with h0 | h0
    · subst h0
      exact .inr (.inl ⟨rfl, by simp, by simp [chAt, hx, hI]⟩)
    · have e : IntKind.i64.wrap ((i : Int) - 1) = ((i - 1 : Nat) : Int) := by rw [w64 (by omega) (by omega)]; omega
      refine .inr (.inr ⟨rfl, decide_eq_true (by omega), by omega, ?_, ?_⟩)
      · rw [e, Int.toNat_natCast, List.getElem?_map, List.getElem?_eq_getElem (show i - 1 < l.length by omega)]
        simp [List.getD_eq_getElem?_getD, List.getElem?_eq_getElem (show i - 1 < l.length by omega)]
      · have : (i == 0) = false := by simp; omega
        simp [chAt, hx, hI, this]
/-! ### Levels, logs -/
def isLevel (v : TLevel) : Bool := inr v.rank 0 9 && inr v.far 0 200 && inr v.least 0 100000
abbrev levLe (u v : TLevel) : Bool := !(decide (v.rank < u.rank) || decide (v.far < u.far) || decide (v.least < u.least))
def levD : TLevel := ⟨0, 0, 0⟩
def isLadder (l : List TLevel) : Bool := chOk isLevel levLe levD l l.length && inr l.length 1 5
def entOk (e : TEntry) : Bool := isFeat e.feature && inr e.tick 0 100000 && inr e.who 1 99
abbrev entLt (u e : TEntry) : Bool := decide (u.feature.id < e.feature.id)
def entD : TEntry := ⟨featD, 0, 0, false⟩
def isLog (l : List TEntry) : Bool := chOk entOk entLt entD l l.length && decide ((l.length : Int) ≤ 16)
theorem entOk_f {e : TEntry} (h : entOk e = false) : isFeat e.feature = false ∨ (isFeat e.feature = true ∧ inr e.tick 0 100000 = false) ∨ (isFeat e.feature = true ∧ inr e.tick 0 100000 = true ∧ inr e.who 1 99 = false) := by
  revert h
  unfold entOk
  cases isFeat e.feature <;> cases inr e.tick 0 100000 <;> cases inr e.who 1 99 <;> simp
theorem entOk_t {e : TEntry} (h : entOk e = true) : isFeat e.feature = true ∧ inr e.tick 0 100000 = true ∧ inr e.who 1 99 = true := by
  revert h
  unfold entOk
  cases isFeat e.feature <;> cases inr e.tick 0 100000 <;> cases inr e.who 1 99 <;> simp
theorem levLe_cases (u v : TLevel) : (decide (v.rank < u.rank) = true ∧ levLe u v = false) ∨ (decide (v.rank < u.rank) = false ∧ decide (v.far < u.far) = true ∧ levLe u v = false) ∨ (decide (v.rank < u.rank) = false ∧ decide (v.far < u.far) = false ∧ levLe u v = !decide (v.least < u.least)) := by
  unfold levLe
  cases decide (v.rank < u.rank) <;> cases decide (v.far < u.far) <;> simp
/-! ### Editions -/
def edD : TEdition := ⟨0, [], 0⟩
def edOk (b : Int) (e : TEdition) : Bool := inr e.tick 0 100000 && isSource e.source && (e.seal_ == sealOf b e.tick e.source)
def prevSeal (l : List TEdition) (i : Nat) : Int := if i = 0 then 0 else (l.getD (i - 1) edD).seal_
theorem prevSeal_succ {l : List TEdition} {i : Nat} {x : TEdition} (h : l[i]? = some x) : prevSeal l (i + 1) = x.seal_ := by simp [prevSeal, List.getD_eq_getElem?_getD, h]
def edAt (l : List TEdition) (i : Nat) : Bool := match l[i]? with
  | none => false
  | some x => edOk (prevSeal l i) x && (i == 0 || !decide (x.tick ≤ (l.getD (i - 1) edD).tick))
def edTo (l : List TEdition) (n : Nat) : Bool := (List.range n).all (edAt l)
theorem edTo_succ (l : List TEdition) (i : Nat) : edTo l (i + 1) = (edTo l i && edAt l i) := by simp [edTo, List.range_succ]
theorem edTo_not {l : List TEdition} {i n : Nat} (h : edAt l i = false) (hi : i < n) : edTo l n = false := by
  simp only [edTo, List.all_eq_false, List.mem_range]
  exact ⟨i, hi, by simp [h]⟩
def areEd (l : List TEdition) : Bool := edTo l l.length && decide ((l.length : Int) ≤ 6)
def nEd (l : List TEdition) : Nat := if l.length ≤ 6 then l.length else 0
theorem nEd_t {l : List TEdition} {i : Nat} (h : i < nEd l) : l.length ≤ 6 ∧ nEd l = l.length := by
  unfold nEd at h ⊢
  split at h
  · rename_i hS; exact ⟨hS, by rw [if_pos hS]⟩
  · omega
theorem ed_cases {l : List TEdition} {i : Nat} {x : TEdition} (hx : l[i]? = some x) (hl : l.length ≤ 1048576) :
    (inr x.tick 0 100000 = false ∧ edAt l i = false) ∨
    (inr x.tick 0 100000 = true ∧ decide ((i : Int) > 0) = false ∧ ((isSource x.source = false ∧ edAt l i = false) ∨ (isSource x.source = true ∧ (x.seal_ == sealOf (prevSeal l i) x.tick x.source) = false ∧ edAt l i = false) ∨ (isSource x.source = true ∧ (x.seal_ == sealOf (prevSeal l i) x.tick x.source) = true ∧ edAt l i = true))) ∨
    (∃ p : TEdition, inr x.tick 0 100000 = true ∧ decide ((i : Int) > 0) = true ∧ 0 ≤ IntKind.i64.wrap ((i : Int) - 1) ∧ (l.map TEdition.en)[(IntKind.i64.wrap ((i : Int) - 1)).toNat]? = some p.en ∧
      ((decide (x.tick ≤ p.tick) = true ∧ edAt l i = false ∧ (isSource x.source = false ∨ (isSource x.source = true ∧ (x.seal_ == sealOf (prevSeal l i) x.tick x.source) = false) ∨ (isSource x.source = true ∧ (x.seal_ == sealOf (prevSeal l i) x.tick x.source) = true))) ∨
       (decide (x.tick ≤ p.tick) = false ∧ ((isSource x.source = false ∧ edAt l i = false) ∨ (isSource x.source = true ∧ (x.seal_ == sealOf (prevSeal l i) x.tick x.source) = false ∧ edAt l i = false) ∨ (isSource x.source = true ∧ (x.seal_ == sealOf (prevSeal l i) x.tick x.source) = true ∧ edAt l i = true))))) := by
  have hi := (List.getElem?_eq_some_iff.1 hx).1
  have ea : edAt l i = (edOk (prevSeal l i) x && (i == 0 || !decide (x.tick ≤ (l.getD (i - 1) edD).tick))) := by simp [edAt, hx]
  rw [ea]
  unfold edOk
  cases hA : inr x.tick 0 100000
  · exact .inl ⟨rfl, by simp⟩
  · right
    rcases Nat.eq_zero_or_pos i with h0 | h0
    · left
      have e0 : (i == 0) = true := by simp [h0]
      rw [e0]
      refine ⟨rfl, by simp; omega, ?_⟩
      cases isSource x.source <;> cases (x.seal_ == sealOf (prevSeal l i) x.tick x.source) <;> simp
    · right
      have e0 : (i == 0) = false := by simp; omega
      have e : IntKind.i64.wrap ((i : Int) - 1) = ((i - 1 : Nat) : Int) := by rw [w64 (by omega) (by omega)]; omega
      rw [e0]
      refine ⟨l.getD (i - 1) edD, rfl, decide_eq_true (by omega), by omega, ?_, ?_⟩
      · rw [e, Int.toNat_natCast, List.getElem?_map, List.getElem?_eq_getElem (show i - 1 < l.length by omega)]
        simp [List.getD_eq_getElem?_getD, List.getElem?_eq_getElem (show i - 1 < l.length by omega)]
      · cases decide (x.tick ≤ (l.getD (i - 1) edD).tick) <;> cases isSource x.source <;> cases (x.seal_ == sealOf (prevSeal l i) x.tick x.source) <;> simp
/-! ### Atlases -/
def ticks {α : Type} (tk : α → Int) (now : Int) (l : List α) (i : Nat) : Bool := (l.take i).all fun e => !decide (tk e > now)
theorem ticks_succ {α : Type} {tk : α → Int} {now : Int} {l : List α} {i : Nat} {x : α} (h : l[i]? = some x) : ticks tk now l (i + 1) = (ticks tk now l i && !decide (tk x > now)) := by simp [ticks, take_succ_of h]
theorem ticks_not {α : Type} {tk : α → Int} {now : Int} {l : List α} {i : Nat} {x : α} (h : l[i]? = some x) (hx : decide (tk x > now) = true) : ticks tk now l l.length = false := by
  rw [ticks, List.take_length, List.all_eq_false]
  exact ⟨x, List.mem_of_getElem? h, by rw [hx]; simp⟩
def atlIn (a : TAtlas) : Bool := isLog a.log && isLadder a.levels && areEd a.editions && isCover a.cover.w a.cover.h a.cover.cells && inr a.now 0 100000
def isAtl (a : TAtlas) : Bool := ticks TEntry.tick a.now a.log a.log.length && ticks TEdition.tick a.now a.editions a.editions.length && atlIn a
def TAtlas.gd (a : TAtlas) : Prop := (a.log.length ≤ 1048576 ∧ ∀ e ∈ a.log, e.feature.gd) ∧ a.levels.length ≤ 1048576 ∧ (a.editions.length ≤ 1048576 ∧ ∀ e ∈ a.editions, e.source.length ≤ 1048576 ∧ ∀ x ∈ e.source, x.gd) ∧ a.cover.cells.size ≤ maxLen
theorem atl_f {a : TAtlas} (h : (!isLog a.log || !isLadder a.levels || !areEd a.editions || !isCover a.cover.w a.cover.h a.cover.cells || !inr a.now 0 100000) = true) : isAtl a = false := by
  unfold isAtl atlIn
  revert h
  cases isLog a.log <;> cases isLadder a.levels <;> cases areEd a.editions <;> cases isCover a.cover.w a.cover.h a.cover.cells <;> cases inr a.now 0 100000 <;> simp
theorem gdA_of {a : TAtlas} (h1 : a.sm) (h2 : a.ok) : a.gd := by
  obtain ⟨⟨s1, s2⟩, s3, s4, s5⟩ := h1
  obtain ⟨⟨_, k2⟩, _, ⟨_, k4⟩, ⟨_, _, k5⟩, _⟩ := h2
  exact ⟨⟨s1, fun e he => ⟨s2 e he, (k2 e he).1.2.2.2.1⟩⟩, s3, ⟨s4, fun e he => ⟨(s5 e he).1, fun x hx => ⟨(s5 e he).2 x hx, ((k4 e he).2.1.2 x hx).2.2.2.1⟩⟩⟩, k5⟩

set_option maxRecDepth 100000 in
set_option maxHeartbeats 2000000 in
theorem isLevel_s (v : TLevel) : VCalls Tryz.prog 132 [.agg v.en] (fun r M => r = B (isLevel v) ∧ M = []) := by
  refine VCalls.body Tryz.func132 rfl 15 rfl (fun E => ?_)
  simp only [List.reduceReplicate, List.cons_append, List.nil_append]
  dsimp only [TLevel.en]
  repeat' ((first
    | ((with_reducible show AL _ _ _ _ _ _ _); first | refine AL.any ?_ | refine AL.any (h := POp.k Tryz.func77 (hc := inr_s _ _ _)) ?_ | refine AL.U ?_ | refine AL.F ?_ | refine AL.T ?_ | refine AL.T (h := POp.k Tryz.func77 (hc := inr_s _ _ _)) ?_ | refine AL.W ?_ | refine AL.W (h := fun h => by (try rw [h]); exact POp.k Tryz.func77 (hc := inr_s _ _ _)) ?_ | refine AL.nil ?_)
    | ((with_reducible show AW _ _ _ _ _ _); first | refine AW.seq ?_ | refine AW.region ?_ | refine AW.skip ?_ | refine AW.block ?_ | refine AW.exit ?_ | refine AW.ret ?_)
    | with_reducible refine (if_pos rfl).mpr ?_
    | with_reducible refine (if_neg (by decide)).mpr ?_) <;> (try dsimp only))
  all_goals exact Fin.one rfl (RV.tmp (by rfl)) (clo_c _) ⟨by first | rfl | (simp only [isLevel, Bool.and_assoc]; done), rfl⟩

set_option maxRecDepth 100000 in
set_option maxHeartbeats 2000000 in
theorem isLevel_i (v : TLevel) : VCalls Tryz.prog 134 [.agg v.en] (fun r M => r = B (isLevel v) ∧ M = []) := by
  refine VCalls.body Tryz.func134 rfl 15 rfl (fun E => ?_)
  simp only [List.reduceReplicate, List.cons_append, List.nil_append]
  dsimp only [TLevel.en]
  repeat' ((first
    | ((with_reducible show AL _ _ _ _ _ _ _); first | refine AL.any ?_ | refine AL.any (h := POp.k Tryz.func78 (hc := inr_v _ _ _)) ?_ | refine AL.U ?_ | refine AL.F ?_ | refine AL.T ?_ | refine AL.T (h := POp.k Tryz.func78 (hc := inr_v _ _ _)) ?_ | refine AL.W ?_ | refine AL.W (h := fun h => by (try rw [h]); exact POp.k Tryz.func78 (hc := inr_v _ _ _)) ?_ | refine AL.nil ?_)
    | ((with_reducible show AW _ _ _ _ _ _); first | refine AW.seq ?_ | refine AW.region ?_ | refine AW.skip ?_ | refine AW.block ?_ | refine AW.exit ?_ | refine AW.ret ?_)
    | with_reducible refine (if_pos rfl).mpr ?_
    | with_reducible refine (if_neg (by decide)).mpr ?_) <;> (try dsimp only))
  all_goals exact Fin.one rfl (RV.tmp (by rfl)) (clo_c _) ⟨by first | rfl | (simp only [isLevel, Bool.and_assoc]; done), rfl⟩

set_option maxRecDepth 100000 in
set_option maxHeartbeats 2000000 in
theorem isLadder_s (l : List TLevel) (hl : l.length ≤ 1048576) : VCalls Tryz.prog 103 [.ro 3 (l.map TLevel.en)] (fun r M => r = B (isLadder l) ∧ M = []) := by
  refine VCalls.bodyE Tryz.func103 rfl 64 rfl (fun E hE => ?_)
  simp only [List.reduceReplicate, List.cons_append, List.nil_append]
  have hclo : Clo (.ro 3 (l.map TLevel.en)) := clo_list TLevel.clo_en
  repeat' ((first
    | ((with_reducible show AL _ _ _ _ _ _ _); first | refine AL.any ?_ | refine AL.any (h := POp.k Tryz.func77 (hc := inr_s _ _ _)) ?_ | refine AL.U ?_ | refine AL.F ?_ | refine AL.T ?_ | refine AL.W ?_ | refine AL.nil ?_)
    | ((with_reducible show DL _ _ _ _ _ _ _); first | refine DL.any ?_ | refine DL.any (h := POp.k Tryz.func132 (hc := isLevel_s x)) ?_ | refine DL.U ?_ | refine DL.F ?_ | refine DL.T ?_ | refine DL.W ?_ | refine DL.nil ?_)
    | ((with_reducible show AW _ _ _ _ _ _); first | refine AW.seq ?_ | refine AW.region ?_ | refine AW.skip ?_ | (refine AW.loopD hE (fun i : Nat => [.ro 3 (l.map TLevel.en), .any, .any, I (i : Int), .any, .any, .any, .any, .any, .any, .any, .any, .any, .any, .any, .any, .any, .any, .any, .any, .any, .any, .any, .any, .any, .any, .any, .any, .any, .any, .any, .any, .any, .any, .any, .any, .any, .any, .any, .any, .any, .any, .any, .any, .any, .any, .any, .any, .any, .any, .any, .any, .any, .any, .any, .any, .any, .any, .any, .any, .any, .any, .any, .any, .any]) (fun i => []) (fun i => l.length - i) (fun i => i ≤ l.length ∧ chOk isLevel levLe levD l i = true) 0 (by simp [chOk]) ?_ (by first | rfl | (simp [fil_zero]; done)) ?_) | refine AW.dr (id := 4) 48 ?_ | refine AW.cT ?_ | refine AW.cF ?_ | (refine AW.c2 ?_ ?_ <;> (intro h; try simp only [Bool.not_eq_true', Bool.not_eq_false'] at h)) | refine AW.block ?_ | refine AW.exit ?_ | refine AW.ret ?_)
    | with_reducible refine (if_pos rfl).mpr ?_
    | with_reducible refine (if_neg (by decide)).mpr ?_) <;> (try dsimp only))
  · (repeat' (first | exact Wk.nil | refine Wk.any ?_ | (with_reducible refine Wk.same ?_) | refine Wk.of ?_ ?_)) <;> first | rfl | (simp)
  · intro i hi
    have hclo : Clo (.ro 3 (l.map TLevel.en)) := clo_list TLevel.clo_en
    by_cases hlt : i < l.length
    · obtain ⟨x, hx⟩ : ∃ x, l[i]? = some x := ⟨_, List.getElem?_eq_getElem hlt⟩
      have hg := map_get (f := TLevel.en) hx
      have ht := lt_true (f := TLevel.en) hlt
      have hn := next_ix hlt (by omega)
      have hsu := chOk_succ isLevel levLe levD l i
      rcases ch_cases isLevel levLe levD TLevel.en hx hl with ⟨hI, hk⟩ | ⟨hI, hz, hk⟩ | ⟨hI, hz, h0, hp0, hk⟩
      rotate_left 2
      generalize l.getD (i - 1) levD = p at hp0 hk
      rcases levLe_cases p x with ⟨q1, q4⟩ | ⟨q1, q2, q4⟩ | ⟨q1, q2, q4⟩
      all_goals try rw [q4] at hk
      repeat' ((first
        | ((with_reducible show AL _ _ _ _ _ _ _); first | refine AL.any ?_ | refine AL.any (h := POp.k Tryz.func77 (hc := inr_s _ _ _)) ?_ | refine AL.U ?_ | refine AL.F ?_ | refine AL.T ?_ | refine AL.W ?_ | refine AL.nil ?_)
        | ((with_reducible show DL _ _ _ _ _ _ _); first | refine DL.any ?_ | refine DL.any (h := POp.k Tryz.func132 (hc := isLevel_s x)) ?_ | refine DL.U ?_ | refine DL.F ?_ | refine DL.T ?_ | refine DL.W ?_ | refine DL.nil ?_)
        | ((with_reducible show AW _ _ _ _ _ _); first | refine AW.seq ?_ | refine AW.region ?_ | refine AW.skip ?_ | refine AW.dr (id := 4) 48 ?_ | refine AW.cT ?_ | refine AW.cF ?_ | (refine AW.c2 ?_ ?_ <;> (intro h; try simp only [Bool.not_eq_true', Bool.not_eq_false'] at h)) | refine AW.block ?_ | refine AW.exit ?_ | refine AW.ret ?_)
        | with_reducible refine (if_pos rfl).mpr ?_
        | with_reducible refine (if_neg (by decide)).mpr ?_) <;> (try dsimp only))
      all_goals first
        | (refine ⟨i + 1, _, ⟨hlt, by simp_all⟩, by omega, ?_, rfl, ?_, ?_⟩; (focus ((repeat' (first | exact Wk.nil | refine Wk.any ?_ | (with_reducible refine Wk.same ?_) | refine Wk.of ?_ ?_)) <;> (simp_all))); (focus ((repeat' (first | exact Fits.nil _ | refine Fits.cons ?_ ?_ | exact Fits.any _ | exact Fits.c _ _ | exact Fits.own (by rfl) | exact Fits.ref (by rfl) | exact Fits.clo (by assumption) | exact Fits.clo (clo_of (by rfl)) | exact Fits.clo (clo_fn _))))); (focus (exact FitsM.nil _)))
        | exact Fin.one rfl (RV.tmp (by rfl)) (clo_c _) ⟨by have hn := chOk_not (ok := isLevel) (lt := levLe) (d := levD) (n := l.length) (by simp_all : chAt isLevel levLe levD l i = false) hlt; simp_all [isLadder], rfl⟩
    · have ht := lt_false (f := TLevel.en) hlt
      have e : i = l.length := by omega
      subst e
      try rw [List.take_length]
      repeat' ((first
        | ((with_reducible show AL _ _ _ _ _ _ _); first | refine AL.any ?_ | refine AL.any (h := POp.k Tryz.func77 (hc := inr_s _ _ _)) ?_ | refine AL.U ?_ | refine AL.F ?_ | refine AL.T ?_ | refine AL.W ?_ | refine AL.nil ?_)
        | ((with_reducible show DL _ _ _ _ _ _ _); first | refine DL.any ?_ | refine DL.any (h := POp.k Tryz.func132 (hc := isLevel_s x)) ?_ | refine DL.U ?_ | refine DL.F ?_ | refine DL.T ?_ | refine DL.W ?_ | refine DL.nil ?_)
        | ((with_reducible show AW _ _ _ _ _ _); first | refine AW.seq ?_ | refine AW.region ?_ | refine AW.skip ?_ | refine AW.dr (id := 4) 48 ?_ | refine AW.cT ?_ | refine AW.cF ?_ | (refine AW.c2 ?_ ?_ <;> (intro h; try simp only [Bool.not_eq_true', Bool.not_eq_false'] at h)) | refine AW.block ?_ | refine AW.exit ?_ | refine AW.ret ?_)
        | with_reducible refine (if_pos rfl).mpr ?_
        | with_reducible refine (if_neg (by decide)).mpr ?_) <;> (try dsimp only))
      all_goals exact Fin.one rfl (RV.tmp (by rfl)) (clo_c _) ⟨by simp_all [isLadder], rfl⟩

set_option maxRecDepth 100000 in
set_option maxHeartbeats 2000000 in
theorem isLadder_i (l : List TLevel) (hl : l.length ≤ 1048576) : VCalls Tryz.prog 106 [.ro 3 (l.map TLevel.en)] (fun r M => r = B (isLadder l) ∧ M = []) := by
  refine VCalls.bodyE Tryz.func106 rfl 56 rfl (fun E hE => ?_)
  simp only [List.reduceReplicate, List.cons_append, List.nil_append]
  have hclo : Clo (.ro 3 (l.map TLevel.en)) := clo_list TLevel.clo_en
  repeat' ((first
    | ((with_reducible show AL _ _ _ _ _ _ _); first | refine AL.any ?_ | refine AL.any (h := POp.k Tryz.func78 (hc := inr_v _ _ _)) ?_ | refine AL.U ?_ | refine AL.F ?_ | refine AL.T ?_ | refine AL.W ?_ | refine AL.nil ?_)
    | ((with_reducible show DL _ _ _ _ _ _ _); first | refine DL.any ?_ | refine DL.any (h := POp.k Tryz.func134 (hc := isLevel_i x)) ?_ | refine DL.U ?_ | refine DL.F ?_ | refine DL.T ?_ | refine DL.W ?_ | refine DL.nil ?_)
    | ((with_reducible show AW _ _ _ _ _ _); first | refine AW.seq ?_ | refine AW.region ?_ | refine AW.skip ?_ | (refine AW.loopD hE (fun i : Nat => [.ro 3 (l.map TLevel.en), .any, .any, .any, .any, .any, .any, .any, .any, .ro 3 (l.map TLevel.en), I ((l.map TLevel.en).length : Int), I (i : Int), .any, .any, .any, .any, .any, .any, .any, .any, .any, .any, .any, .any, .any, .any, .any, .any, .any, .any, .any, .any, .any, .any, .any, .any, .any, .any, .any, .any, .any, .any, .any, .any, .any, .any, .any, .any, .any, .any, .any, .any, .any, .any, .any, .any, .any]) (fun i => []) (fun i => l.length - i) (fun i => i ≤ l.length ∧ chOk isLevel levLe levD l i = true) 0 (by simp [chOk]) ?_ (by first | rfl | (simp [fil_zero]; done)) ?_) | refine AW.dr (id := 6) 36 ?_ | refine AW.cT ?_ | refine AW.cF ?_ | (refine AW.c2 ?_ ?_ <;> (intro h; try simp only [Bool.not_eq_true', Bool.not_eq_false'] at h)) | refine AW.block ?_ | refine AW.exit ?_ | refine AW.ret ?_)
    | with_reducible refine (if_pos rfl).mpr ?_
    | with_reducible refine (if_neg (by decide)).mpr ?_) <;> (try dsimp only))
  · exact Fin.one rfl (RV.tmp (by rfl)) (clo_c _) ⟨by simp_all [isLadder], rfl⟩
  · (repeat' (first | exact Wk.nil | refine Wk.any ?_ | (with_reducible refine Wk.same ?_) | refine Wk.of ?_ ?_)) <;> first | rfl | (simp)
  · intro i hi
    have hclo : Clo (.ro 3 (l.map TLevel.en)) := clo_list TLevel.clo_en
    by_cases hlt : i < l.length
    · obtain ⟨x, hx⟩ : ∃ x, l[i]? = some x := ⟨_, List.getElem?_eq_getElem hlt⟩
      have hg := map_get (f := TLevel.en) hx
      have ht := lt_true (f := TLevel.en) hlt
      have hn := next_ix hlt (by omega)
      have hsu := chOk_succ isLevel levLe levD l i
      rcases ch_cases isLevel levLe levD TLevel.en hx hl with ⟨hI, hk⟩ | ⟨hI, hz, hk⟩ | ⟨hI, hz, h0, hp0, hk⟩
      rotate_left 2
      generalize l.getD (i - 1) levD = p at hp0 hk
      rcases levLe_cases p x with ⟨q1, q4⟩ | ⟨q1, q2, q4⟩ | ⟨q1, q2, q4⟩
      all_goals try rw [q4] at hk
      repeat' ((first
        | ((with_reducible show AL _ _ _ _ _ _ _); first | refine AL.any ?_ | refine AL.any (h := POp.k Tryz.func78 (hc := inr_v _ _ _)) ?_ | refine AL.U ?_ | refine AL.F ?_ | refine AL.T ?_ | refine AL.W ?_ | refine AL.nil ?_)
        | ((with_reducible show DL _ _ _ _ _ _ _); first | refine DL.any ?_ | refine DL.any (h := POp.k Tryz.func134 (hc := isLevel_i x)) ?_ | refine DL.U ?_ | refine DL.F ?_ | refine DL.T ?_ | refine DL.W ?_ | refine DL.nil ?_)
        | ((with_reducible show AW _ _ _ _ _ _); first | refine AW.seq ?_ | refine AW.region ?_ | refine AW.skip ?_ | refine AW.dr (id := 6) 36 ?_ | refine AW.cT ?_ | refine AW.cF ?_ | (refine AW.c2 ?_ ?_ <;> (intro h; try simp only [Bool.not_eq_true', Bool.not_eq_false'] at h)) | refine AW.block ?_ | refine AW.exit ?_ | refine AW.ret ?_)
        | with_reducible refine (if_pos rfl).mpr ?_
        | with_reducible refine (if_neg (by decide)).mpr ?_) <;> (try dsimp only))
      all_goals first
        | (refine ⟨i + 1, _, ⟨hlt, by simp_all⟩, by omega, ?_, rfl, ?_, ?_⟩; (focus ((repeat' (first | exact Wk.nil | refine Wk.any ?_ | (with_reducible refine Wk.same ?_) | refine Wk.of ?_ ?_)) <;> (simp_all))); (focus ((repeat' (first | exact Fits.nil _ | refine Fits.cons ?_ ?_ | exact Fits.any _ | exact Fits.c _ _ | exact Fits.own (by rfl) | exact Fits.ref (by rfl) | exact Fits.clo (by assumption) | exact Fits.clo (clo_of (by rfl)) | exact Fits.clo (clo_fn _))))); (focus (exact FitsM.nil _)))
        | exact Fin.one rfl (RV.tmp (by rfl)) (clo_c _) ⟨by have hn := chOk_not (ok := isLevel) (lt := levLe) (d := levD) (n := l.length) (by simp_all : chAt isLevel levLe levD l i = false) hlt; simp_all [isLadder], rfl⟩
    · have ht := lt_false (f := TLevel.en) hlt
      have e : i = l.length := by omega
      subst e
      try rw [List.take_length]
      repeat' ((first
        | ((with_reducible show AL _ _ _ _ _ _ _); first | refine AL.any ?_ | refine AL.any (h := POp.k Tryz.func78 (hc := inr_v _ _ _)) ?_ | refine AL.U ?_ | refine AL.F ?_ | refine AL.T ?_ | refine AL.W ?_ | refine AL.nil ?_)
        | ((with_reducible show DL _ _ _ _ _ _ _); first | refine DL.any ?_ | refine DL.any (h := POp.k Tryz.func134 (hc := isLevel_i x)) ?_ | refine DL.U ?_ | refine DL.F ?_ | refine DL.T ?_ | refine DL.W ?_ | refine DL.nil ?_)
        | ((with_reducible show AW _ _ _ _ _ _); first | refine AW.seq ?_ | refine AW.region ?_ | refine AW.skip ?_ | refine AW.dr (id := 6) 36 ?_ | refine AW.cT ?_ | refine AW.cF ?_ | (refine AW.c2 ?_ ?_ <;> (intro h; try simp only [Bool.not_eq_true', Bool.not_eq_false'] at h)) | refine AW.block ?_ | refine AW.exit ?_ | refine AW.ret ?_)
        | with_reducible refine (if_pos rfl).mpr ?_
        | with_reducible refine (if_neg (by decide)).mpr ?_) <;> (try dsimp only))
      all_goals exact Fin.one rfl (RV.tmp (by rfl)) (clo_c _) ⟨by simp_all [isLadder], rfl⟩

set_option maxRecDepth 100000 in
set_option maxHeartbeats 2000000 in
theorem isLog_s (l : List TEntry) (hl : l.length ≤ 1048576) (hp : ∀ e ∈ l, e.feature.gd) : VCalls Tryz.prog 86 [.ro 8 (l.map TEntry.en)] (fun r M => r = B (isLog l) ∧ M = []) := by
  refine VCalls.bodyE Tryz.func86 rfl 57 rfl (fun E hE => ?_)
  simp only [List.reduceReplicate, List.cons_append, List.nil_append]
  have hclo : Clo (.ro 8 (l.map TEntry.en)) := clo_list TEntry.clo_en
  repeat' ((first
    | ((with_reducible show AL _ _ _ _ _ _ _); first | refine AL.any ?_ | refine AL.U ?_ | refine AL.F ?_ | refine AL.T ?_ | refine AL.W ?_ | refine AL.nil ?_)
    | ((with_reducible show DL _ _ _ _ _ _ _); first | refine DL.any ?_ | refine DL.any (h := POp.k Tryz.func123 (hc := isFeat_s x.feature (by assumption))) ?_ | refine DL.U ?_ | refine DL.F ?_ | refine DL.T ?_ | refine DL.T (h := POp.k Tryz.func77 (hc := inr_s _ _ _)) ?_ | refine DL.W ?_ | refine DL.W (h := fun h => by (try rw [h]); exact POp.k Tryz.func77 (hc := inr_s _ _ _)) ?_ | refine DL.nil ?_)
    | ((with_reducible show AW _ _ _ _ _ _); first | refine AW.seq ?_ | refine AW.region ?_ | refine AW.skip ?_ | (refine AW.loopD hE (fun i : Nat => [.ro 8 (l.map TEntry.en), .any, .any, I (i : Int), .any, .any, .any, .any, .any, .any, .any, .any, .any, .any, .any, .any, .any, .any, .any, .any, .any, .any, .any, .any, .any, .any, .any, .any, .any, .any, .any, .any, .any, .any, .any, .any, .any, .any, .any, .any, .any, .any, .any, .any, .any, .any, .any, .any, .any, .any, .any, .any, .any, .any, .any, .any, .any, .any]) (fun i => []) (fun i => l.length - i) (fun i => i ≤ l.length ∧ chOk entOk entLt entD l i = true) 0 (by simp [chOk]) ?_ (by first | rfl | (simp [fil_zero]; done)) ?_) | refine AW.dr (id := 4) 42 ?_ | refine AW.cT ?_ | refine AW.cF ?_ | (refine AW.c2 ?_ ?_ <;> (intro h; try simp only [Bool.not_eq_true', Bool.not_eq_false'] at h)) | refine AW.block ?_ | refine AW.exit ?_ | refine AW.ret ?_)
    | with_reducible refine (if_pos rfl).mpr ?_
    | with_reducible refine (if_neg (by decide)).mpr ?_) <;> (try dsimp only))
  · (repeat' (first | exact Wk.nil | refine Wk.any ?_ | (with_reducible refine Wk.same ?_) | refine Wk.of ?_ ?_)) <;> first | rfl | (simp)
  · intro i hi
    have hclo : Clo (.ro 8 (l.map TEntry.en)) := clo_list TEntry.clo_en
    by_cases hlt : i < l.length
    · obtain ⟨x, hx⟩ : ∃ x, l[i]? = some x := ⟨_, List.getElem?_eq_getElem hlt⟩
      have hg := map_get (f := TEntry.en) hx
      have ht := lt_true (f := TEntry.en) hlt
      have hn := next_ix hlt (by omega)
      have hgx := hp x (List.mem_of_getElem? hx)
      have hsu := chOk_succ entOk entLt entD l i
      have hclP : Clo (.ro 2 (x.feature.points.map TPoint.en)) := clo_list TPoint.clo_en
      have hcle : Clo (.agg x.en) := Clo.agg x.clo_en
      have hclf : Clo (.agg x.feature.en) := Clo.agg x.feature.clo_en
      rcases ch_cases entOk entLt entD TEntry.en hx hl with ⟨hI, hk⟩ | ⟨hI, hz, hk⟩ | ⟨hI, hz, h0, hp0, hk⟩
      rotate_left 1
      all_goals first | obtain ⟨q1, q2, q3⟩ := entOk_t hI | rcases entOk_f hI with q1 | ⟨q1, q2⟩ | ⟨q1, q2, q3⟩
      repeat' ((first
        | ((with_reducible show AL _ _ _ _ _ _ _); first | refine AL.any ?_ | refine AL.U ?_ | refine AL.F ?_ | refine AL.T ?_ | refine AL.W ?_ | refine AL.nil ?_)
        | ((with_reducible show DL _ _ _ _ _ _ _); first | refine DL.any ?_ | refine DL.any (h := POp.k Tryz.func123 (hc := isFeat_s x.feature (by assumption))) ?_ | refine DL.U ?_ | refine DL.F ?_ | refine DL.T ?_ | refine DL.T (h := POp.k Tryz.func77 (hc := inr_s _ _ _)) ?_ | refine DL.W ?_ | refine DL.W (h := fun h => by (try rw [h]); exact POp.k Tryz.func77 (hc := inr_s _ _ _)) ?_ | refine DL.nil ?_)
        | ((with_reducible show AW _ _ _ _ _ _); first | refine AW.seq ?_ | refine AW.region ?_ | refine AW.skip ?_ | refine AW.dr (id := 4) 42 ?_ | refine AW.cT ?_ | refine AW.cF ?_ | (refine AW.c2 ?_ ?_ <;> (intro h; try simp only [Bool.not_eq_true', Bool.not_eq_false'] at h)) | refine AW.block ?_ | refine AW.exit ?_ | refine AW.ret ?_)
        | with_reducible refine (if_pos rfl).mpr ?_
        | with_reducible refine (if_neg (by decide)).mpr ?_) <;> (try dsimp only))
      all_goals first
        | (refine ⟨i + 1, _, ⟨hlt, by simp_all <;> omega⟩, by omega, ?_, rfl, ?_, ?_⟩; (focus ((repeat' (first | exact Wk.nil | refine Wk.any ?_ | (with_reducible refine Wk.same ?_) | refine Wk.of ?_ ?_)) <;> (simp_all))); (focus ((repeat' (first | exact Fits.nil _ | refine Fits.cons ?_ ?_ | exact Fits.any _ | exact Fits.c _ _ | exact Fits.own (by rfl) | exact Fits.ref (by rfl) | exact Fits.clo (by assumption) | exact Fits.clo (clo_of (by rfl)) | exact Fits.clo (clo_fn _))))); (focus (exact FitsM.nil _)))
        | exact Fin.one rfl (RV.tmp (by rfl)) (clo_c _) ⟨by have hn := chOk_not (ok := entOk) (lt := entLt) (d := entD) (n := l.length) (by simp_all <;> omega : chAt entOk entLt entD l i = false) hlt; simp_all [isLog], rfl⟩
    · have ht := lt_false (f := TEntry.en) hlt
      have e : i = l.length := by omega
      subst e
      try rw [List.take_length]
      repeat' ((first
        | ((with_reducible show AL _ _ _ _ _ _ _); first | refine AL.any ?_ | refine AL.U ?_ | refine AL.F ?_ | refine AL.T ?_ | refine AL.W ?_ | refine AL.nil ?_)
        | ((with_reducible show DL _ _ _ _ _ _ _); first | refine DL.any ?_ | refine DL.any (h := POp.k Tryz.func123 (hc := isFeat_s x.feature (by assumption))) ?_ | refine DL.U ?_ | refine DL.F ?_ | refine DL.T ?_ | refine DL.T (h := POp.k Tryz.func77 (hc := inr_s _ _ _)) ?_ | refine DL.W ?_ | refine DL.W (h := fun h => by (try rw [h]); exact POp.k Tryz.func77 (hc := inr_s _ _ _)) ?_ | refine DL.nil ?_)
        | ((with_reducible show AW _ _ _ _ _ _); first | refine AW.seq ?_ | refine AW.region ?_ | refine AW.skip ?_ | refine AW.dr (id := 4) 42 ?_ | refine AW.cT ?_ | refine AW.cF ?_ | (refine AW.c2 ?_ ?_ <;> (intro h; try simp only [Bool.not_eq_true', Bool.not_eq_false'] at h)) | refine AW.block ?_ | refine AW.exit ?_ | refine AW.ret ?_)
        | with_reducible refine (if_pos rfl).mpr ?_
        | with_reducible refine (if_neg (by decide)).mpr ?_) <;> (try dsimp only))
      all_goals exact Fin.one rfl (RV.tmp (by rfl)) (clo_c _) ⟨by first | (simp_all [isLog]; done) | (simp_all [isLog] <;> omega), rfl⟩

set_option maxRecDepth 100000 in
set_option maxHeartbeats 2000000 in
theorem isLog_i (l : List TEntry) (hl : l.length ≤ 1048576) (hp : ∀ e ∈ l, e.feature.gd) : VCalls Tryz.prog 89 [.ro 8 (l.map TEntry.en)] (fun r M => r = B (isLog l) ∧ M = []) := by
  refine VCalls.bodyE Tryz.func89 rfl 48 rfl (fun E hE => ?_)
  simp only [List.reduceReplicate, List.cons_append, List.nil_append]
  have hclo : Clo (.ro 8 (l.map TEntry.en)) := clo_list TEntry.clo_en
  repeat' ((first
    | ((with_reducible show AL _ _ _ _ _ _ _); first | refine AL.any ?_ | refine AL.U ?_ | refine AL.F ?_ | refine AL.T ?_ | refine AL.W ?_ | refine AL.nil ?_)
    | ((with_reducible show DL _ _ _ _ _ _ _); first | refine DL.any ?_ | refine DL.any (h := POp.k Tryz.func125 (hc := isFeat_i x.feature (by assumption))) ?_ | refine DL.U ?_ | refine DL.F ?_ | refine DL.T ?_ | refine DL.T (h := POp.k Tryz.func78 (hc := inr_v _ _ _)) ?_ | refine DL.W ?_ | refine DL.W (h := fun h => by (try rw [h]); exact POp.k Tryz.func78 (hc := inr_v _ _ _)) ?_ | refine DL.nil ?_)
    | ((with_reducible show AW _ _ _ _ _ _); first | refine AW.seq ?_ | refine AW.region ?_ | refine AW.skip ?_ | (refine AW.loopD hE (fun i : Nat => [.ro 8 (l.map TEntry.en), .any, .any, .any, .any, .any, .any, .any, .ro 8 (l.map TEntry.en), I ((l.map TEntry.en).length : Int), I (i : Int), .any, .any, .any, .any, .any, .any, .any, .any, .any, .any, .any, .any, .any, .any, .any, .any, .any, .any, .any, .any, .any, .any, .any, .any, .any, .any, .any, .any, .any, .any, .any, .any, .any, .any, .any, .any, .any, .any]) (fun i => []) (fun i => l.length - i) (fun i => i ≤ l.length ∧ chOk entOk entLt entD l i = true) 0 (by simp [chOk]) ?_ (by first | rfl | (simp [fil_zero]; done)) ?_) | refine AW.dr (id := 6) 30 ?_ | refine AW.cT ?_ | refine AW.cF ?_ | (refine AW.c2 ?_ ?_ <;> (intro h; try simp only [Bool.not_eq_true', Bool.not_eq_false'] at h)) | refine AW.block ?_ | refine AW.exit ?_ | refine AW.ret ?_)
    | with_reducible refine (if_pos rfl).mpr ?_
    | with_reducible refine (if_neg (by decide)).mpr ?_) <;> (try dsimp only))
  · exact Fin.one rfl (RV.tmp (by rfl)) (clo_c _) ⟨by simp_all [isLog] <;> omega, rfl⟩
  · (repeat' (first | exact Wk.nil | refine Wk.any ?_ | (with_reducible refine Wk.same ?_) | refine Wk.of ?_ ?_)) <;> first | rfl | (simp)
  · intro i hi
    have hclo : Clo (.ro 8 (l.map TEntry.en)) := clo_list TEntry.clo_en
    by_cases hlt : i < l.length
    · obtain ⟨x, hx⟩ : ∃ x, l[i]? = some x := ⟨_, List.getElem?_eq_getElem hlt⟩
      have hg := map_get (f := TEntry.en) hx
      have ht := lt_true (f := TEntry.en) hlt
      have hn := next_ix hlt (by omega)
      have hgx := hp x (List.mem_of_getElem? hx)
      have hsu := chOk_succ entOk entLt entD l i
      have hclP : Clo (.ro 2 (x.feature.points.map TPoint.en)) := clo_list TPoint.clo_en
      have hcle : Clo (.agg x.en) := Clo.agg x.clo_en
      have hclf : Clo (.agg x.feature.en) := Clo.agg x.feature.clo_en
      rcases ch_cases entOk entLt entD TEntry.en hx hl with ⟨hI, hk⟩ | ⟨hI, hz, hk⟩ | ⟨hI, hz, h0, hp0, hk⟩
      rotate_left 1
      all_goals first | obtain ⟨q1, q2, q3⟩ := entOk_t hI | rcases entOk_f hI with q1 | ⟨q1, q2⟩ | ⟨q1, q2, q3⟩
      repeat' ((first
        | ((with_reducible show AL _ _ _ _ _ _ _); first | refine AL.any ?_ | refine AL.U ?_ | refine AL.F ?_ | refine AL.T ?_ | refine AL.W ?_ | refine AL.nil ?_)
        | ((with_reducible show DL _ _ _ _ _ _ _); first | refine DL.any ?_ | refine DL.any (h := POp.k Tryz.func125 (hc := isFeat_i x.feature (by assumption))) ?_ | refine DL.U ?_ | refine DL.F ?_ | refine DL.T ?_ | refine DL.T (h := POp.k Tryz.func78 (hc := inr_v _ _ _)) ?_ | refine DL.W ?_ | refine DL.W (h := fun h => by (try rw [h]); exact POp.k Tryz.func78 (hc := inr_v _ _ _)) ?_ | refine DL.nil ?_)
        | ((with_reducible show AW _ _ _ _ _ _); first | refine AW.seq ?_ | refine AW.region ?_ | refine AW.skip ?_ | refine AW.dr (id := 6) 30 ?_ | refine AW.cT ?_ | refine AW.cF ?_ | (refine AW.c2 ?_ ?_ <;> (intro h; try simp only [Bool.not_eq_true', Bool.not_eq_false'] at h)) | refine AW.block ?_ | refine AW.exit ?_ | refine AW.ret ?_)
        | with_reducible refine (if_pos rfl).mpr ?_
        | with_reducible refine (if_neg (by decide)).mpr ?_) <;> (try dsimp only))
      all_goals first
        | (refine ⟨i + 1, _, ⟨hlt, by simp_all <;> omega⟩, by omega, ?_, rfl, ?_, ?_⟩; (focus ((repeat' (first | exact Wk.nil | refine Wk.any ?_ | (with_reducible refine Wk.same ?_) | refine Wk.of ?_ ?_)) <;> (simp_all))); (focus ((repeat' (first | exact Fits.nil _ | refine Fits.cons ?_ ?_ | exact Fits.any _ | exact Fits.c _ _ | exact Fits.own (by rfl) | exact Fits.ref (by rfl) | exact Fits.clo (by assumption) | exact Fits.clo (clo_of (by rfl)) | exact Fits.clo (clo_fn _))))); (focus (exact FitsM.nil _)))
        | exact Fin.one rfl (RV.tmp (by rfl)) (clo_c _) ⟨by have hn := chOk_not (ok := entOk) (lt := entLt) (d := entD) (n := l.length) (by simp_all <;> omega : chAt entOk entLt entD l i = false) hlt; simp_all [isLog], rfl⟩
    · have ht := lt_false (f := TEntry.en) hlt
      have e : i = l.length := by omega
      subst e
      try rw [List.take_length]
      repeat' ((first
        | ((with_reducible show AL _ _ _ _ _ _ _); first | refine AL.any ?_ | refine AL.U ?_ | refine AL.F ?_ | refine AL.T ?_ | refine AL.W ?_ | refine AL.nil ?_)
        | ((with_reducible show DL _ _ _ _ _ _ _); first | refine DL.any ?_ | refine DL.any (h := POp.k Tryz.func125 (hc := isFeat_i x.feature (by assumption))) ?_ | refine DL.U ?_ | refine DL.F ?_ | refine DL.T ?_ | refine DL.T (h := POp.k Tryz.func78 (hc := inr_v _ _ _)) ?_ | refine DL.W ?_ | refine DL.W (h := fun h => by (try rw [h]); exact POp.k Tryz.func78 (hc := inr_v _ _ _)) ?_ | refine DL.nil ?_)
        | ((with_reducible show AW _ _ _ _ _ _); first | refine AW.seq ?_ | refine AW.region ?_ | refine AW.skip ?_ | refine AW.dr (id := 6) 30 ?_ | refine AW.cT ?_ | refine AW.cF ?_ | (refine AW.c2 ?_ ?_ <;> (intro h; try simp only [Bool.not_eq_true', Bool.not_eq_false'] at h)) | refine AW.block ?_ | refine AW.exit ?_ | refine AW.ret ?_)
        | with_reducible refine (if_pos rfl).mpr ?_
        | with_reducible refine (if_neg (by decide)).mpr ?_) <;> (try dsimp only))
      all_goals exact Fin.one rfl (RV.tmp (by rfl)) (clo_c _) ⟨by first | (simp_all [isLog]; done) | (simp_all [isLog] <;> omega), rfl⟩

set_option maxRecDepth 100000 in
set_option maxHeartbeats 2000000 in
theorem isCover_s (w g : Int) (s : ByteArray) (hs : s.size ≤ maxLen) : VCalls Tryz.prog 105 [.agg [I w, I g, S s]] (fun r M => r = B (isCover w g s) ∧ M = []) := by
  refine VCalls.bodyE Tryz.func105 rfl 43 rfl (fun E hE => ?_)
  simp only [List.reduceReplicate, List.cons_append, List.nil_append]
  rw [maxLen_eq] at hs
  repeat' ((first
    | ((with_reducible show AL _ _ _ _ _ _ _); first | refine AL.any ?_ | refine AL.any (h := POp.k Tryz.func77 (hc := inr_s _ _ _)) ?_ | refine AL.U ?_ | refine AL.F ?_ | refine AL.T ?_ | refine AL.T (h := POp.k Tryz.func77 (hc := inr_s _ _ _)) ?_ | refine AL.W ?_ | refine AL.W (h := fun h => by (try rw [h]); exact POp.k Tryz.func77 (hc := inr_s _ _ _)) ?_ | refine AL.nil ?_)
    | ((with_reducible show AW _ _ _ _ _ _); first | refine AW.seq ?_ | refine AW.region ?_ | refine AW.skip ?_ | (refine AW.loopD hE (fun i : Nat => [.agg [I w, I g, S s], .ref 0 0 3 0 0, .any, I (i : Int), .any, .any, .any, .any, .any, .any, .any, .any, .any, .any, .any, .any, .any, .any, .any, .any, .any, .any, .any, .any, .any, .any, .any, .any, .any, .any, .any, .any, .any, .any, .any, .any, .any, .any, .any, .any, .any, .any, .any, .any]) (fun i => [some ⟨30, 3, 0, true, [[I w, I g, S s]]⟩]) (fun i => s.size - i) (fun i => i ≤ s.size ∧ covTo s i = true) 0 ⟨Nat.zero_le _, by simp [covTo]⟩ ?_ (by first | rfl | (simp [fil_zero]; done)) ?_) | refine AW.cT ?_ | refine AW.cF ?_ | (refine AW.c2 ?_ ?_ <;> (intro h; try simp only [Bool.not_eq_true', Bool.not_eq_false'] at h)) | refine AW.block ?_ | refine AW.exit ?_ | refine AW.ret ?_)
    | with_reducible refine (if_pos rfl).mpr ?_
    | with_reducible refine (if_neg (by decide)).mpr ?_) <;> (try dsimp only))
  · exact Fin.one rfl (RV.tmp (by rfl)) (clo_c _) ⟨by simp only [isCover]; revert h; cases inr w 1 6 <;> cases inr g 1 6 <;> simp <;> simp_all, rfl⟩
  · (repeat' (first | exact Wk.nil | refine Wk.any ?_ | (with_reducible refine Wk.same ?_) | refine Wk.of ?_ ?_)) <;> first | rfl | (simp)
  · intro i hi
    by_cases hlt : i < s.size
    · skip
      obtain ⟨b, hb, hb'⟩ := str_get hlt
      have ht := str_lt hlt
      have hn := next_ix hlt (by omega)
      have hc := covAt_some hb
      have hsu := covTo_succ s i
      repeat' ((first
        | ((with_reducible show AL _ _ _ _ _ _ _); first | refine AL.any ?_ | refine AL.any (h := POp.k Tryz.func77 (hc := inr_s _ _ _)) ?_ | refine AL.U ?_ | refine AL.F ?_ | refine AL.T ?_ | refine AL.T (h := POp.k Tryz.func77 (hc := inr_s _ _ _)) ?_ | refine AL.W ?_ | refine AL.W (h := fun h => by (try rw [h]); exact POp.k Tryz.func77 (hc := inr_s _ _ _)) ?_ | refine AL.nil ?_)
        | ((with_reducible show AW _ _ _ _ _ _); first | refine AW.seq ?_ | refine AW.region ?_ | refine AW.skip ?_ | refine AW.cT ?_ | refine AW.cF ?_ | (refine AW.c2 ?_ ?_ <;> (intro h; try simp only [Bool.not_eq_true', Bool.not_eq_false'] at h)) | refine AW.block ?_ | refine AW.exit ?_ | refine AW.ret ?_)
        | with_reducible refine (if_pos rfl).mpr ?_
        | with_reducible refine (if_neg (by decide)).mpr ?_) <;> (try dsimp only))
      all_goals first
        | (refine ⟨i + 1, [], ⟨hlt, by simp_all⟩, by omega, ?_, rfl, ?_, ?_⟩; (focus ((repeat' (first | exact Wk.nil | refine Wk.any ?_ | (with_reducible refine Wk.same ?_) | refine Wk.of ?_ ?_)) <;> (simp_all))); (focus ((repeat' (first | exact Fits.nil _ | refine Fits.cons ?_ ?_ | exact Fits.any _ | exact Fits.c _ _ | exact Fits.own (by rfl) | exact Fits.ref (by rfl) | exact Fits.clo (by assumption) | exact Fits.clo (clo_of (by rfl)) | exact Fits.clo (clo_fn _))))); (focus (exact fits_row (clo_rows_b rfl))))
        | exact Fin.one rfl (RV.tmp (by rfl)) (clo_c _) ⟨by have hn := covTo_not (n := s.size) (by simp_all : covAt s i = false) hlt; simp_all [isCover], rfl⟩
    · have e : i = s.size := by omega
      have ht := str_ge hlt
      subst e
      repeat' ((first
        | ((with_reducible show AL _ _ _ _ _ _ _); first | refine AL.any ?_ | refine AL.any (h := POp.k Tryz.func77 (hc := inr_s _ _ _)) ?_ | refine AL.U ?_ | refine AL.F ?_ | refine AL.T ?_ | refine AL.T (h := POp.k Tryz.func77 (hc := inr_s _ _ _)) ?_ | refine AL.W ?_ | refine AL.W (h := fun h => by (try rw [h]); exact POp.k Tryz.func77 (hc := inr_s _ _ _)) ?_ | refine AL.nil ?_)
        | ((with_reducible show AW _ _ _ _ _ _); first | refine AW.seq ?_ | refine AW.region ?_ | refine AW.skip ?_ | refine AW.cT ?_ | refine AW.cF ?_ | (refine AW.c2 ?_ ?_ <;> (intro h; try simp only [Bool.not_eq_true', Bool.not_eq_false'] at h)) | refine AW.block ?_ | refine AW.exit ?_ | refine AW.ret ?_)
        | with_reducible refine (if_pos rfl).mpr ?_
        | with_reducible refine (if_neg (by decide)).mpr ?_) <;> (try dsimp only))
      all_goals exact Fin.one rfl (RV.tmp (by rfl)) (clo_c _) ⟨by simp_all [isCover], rfl⟩

set_option maxRecDepth 100000 in
set_option maxHeartbeats 2000000 in
theorem isCover_i (w g : Int) (s : ByteArray) (hs : s.size ≤ maxLen) : VCalls Tryz.prog 108 [.agg [I w, I g, S s]] (fun r M => r = B (isCover w g s) ∧ M = []) := by
  refine VCalls.bodyE Tryz.func108 rfl 43 rfl (fun E hE => ?_)
  simp only [List.reduceReplicate, List.cons_append, List.nil_append]
  rw [maxLen_eq] at hs
  repeat' ((first
    | ((with_reducible show AL _ _ _ _ _ _ _); first | refine AL.any ?_ | refine AL.any (h := POp.k Tryz.func78 (hc := inr_v _ _ _)) ?_ | refine AL.U ?_ | refine AL.F ?_ | refine AL.T ?_ | refine AL.T (h := POp.k Tryz.func78 (hc := inr_v _ _ _)) ?_ | refine AL.W ?_ | refine AL.W (h := fun h => by (try rw [h]); exact POp.k Tryz.func78 (hc := inr_v _ _ _)) ?_ | refine AL.nil ?_)
    | ((with_reducible show AW _ _ _ _ _ _); first | refine AW.seq ?_ | refine AW.region ?_ | refine AW.skip ?_ | (refine AW.loopD hE (fun i : Nat => [.agg [I w, I g, S s], .ref 0 0 3 0 0, .any, .any, .any, .any, .any, .any, .any, .any, .any, .any, .any, .any, .any, .any, .any, .any, .any, .any, .any, .any, .any, .any, .any, .any, .any, I (s.size : Int), I (i : Int), .any, .any, .any, .any, .any, .any, .any, .any, .any, .any, .any, .any, .any, .any, .any]) (fun i => [some ⟨30, 3, 0, true, [[I w, I g, S s]]⟩]) (fun i => s.size - i) (fun i => i ≤ s.size ∧ covTo s i = true) 0 ⟨Nat.zero_le _, by simp [covTo]⟩ ?_ (by first | rfl | (simp [fil_zero]; done)) ?_) | refine AW.cT ?_ | refine AW.cF ?_ | (refine AW.c2 ?_ ?_ <;> (intro h; try simp only [Bool.not_eq_true', Bool.not_eq_false'] at h)) | refine AW.block ?_ | refine AW.exit ?_ | refine AW.ret ?_)
    | with_reducible refine (if_pos rfl).mpr ?_
    | with_reducible refine (if_neg (by decide)).mpr ?_) <;> (try dsimp only))
  · exact Fin.one rfl (RV.tmp (by rfl)) (clo_c _) ⟨by simp only [isCover]; revert h; cases inr w 1 6 <;> cases inr g 1 6 <;> simp <;> simp_all, rfl⟩
  · (repeat' (first | exact Wk.nil | refine Wk.any ?_ | (with_reducible refine Wk.same ?_) | refine Wk.of ?_ ?_)) <;> first | rfl | (simp)
  · intro i hi
    by_cases hlt : i < s.size
    · skip
      obtain ⟨b, hb, hb'⟩ := str_get hlt
      have ht := str_lt hlt
      have hn := next_ix hlt (by omega)
      have hc := covAt_some hb
      have hsu := covTo_succ s i
      repeat' ((first
        | ((with_reducible show AL _ _ _ _ _ _ _); first | refine AL.any ?_ | refine AL.any (h := POp.k Tryz.func78 (hc := inr_v _ _ _)) ?_ | refine AL.U ?_ | refine AL.F ?_ | refine AL.T ?_ | refine AL.T (h := POp.k Tryz.func78 (hc := inr_v _ _ _)) ?_ | refine AL.W ?_ | refine AL.W (h := fun h => by (try rw [h]); exact POp.k Tryz.func78 (hc := inr_v _ _ _)) ?_ | refine AL.nil ?_)
        | ((with_reducible show AW _ _ _ _ _ _); first | refine AW.seq ?_ | refine AW.region ?_ | refine AW.skip ?_ | refine AW.cT ?_ | refine AW.cF ?_ | (refine AW.c2 ?_ ?_ <;> (intro h; try simp only [Bool.not_eq_true', Bool.not_eq_false'] at h)) | refine AW.block ?_ | refine AW.exit ?_ | refine AW.ret ?_)
        | with_reducible refine (if_pos rfl).mpr ?_
        | with_reducible refine (if_neg (by decide)).mpr ?_) <;> (try dsimp only))
      all_goals first
        | (refine ⟨i + 1, [], ⟨hlt, by simp_all⟩, by omega, ?_, rfl, ?_, ?_⟩; (focus ((repeat' (first | exact Wk.nil | refine Wk.any ?_ | (with_reducible refine Wk.same ?_) | refine Wk.of ?_ ?_)) <;> (simp_all))); (focus ((repeat' (first | exact Fits.nil _ | refine Fits.cons ?_ ?_ | exact Fits.any _ | exact Fits.c _ _ | exact Fits.own (by rfl) | exact Fits.ref (by rfl) | exact Fits.clo (by assumption) | exact Fits.clo (clo_of (by rfl)) | exact Fits.clo (clo_fn _))))); (focus (exact fits_row (clo_rows_b rfl))))
        | exact Fin.one rfl (RV.tmp (by rfl)) (clo_c _) ⟨by have hn := covTo_not (n := s.size) (by simp_all : covAt s i = false) hlt; simp_all [isCover], rfl⟩
    · have e : i = s.size := by omega
      have ht := str_ge hlt
      subst e
      repeat' ((first
        | ((with_reducible show AL _ _ _ _ _ _ _); first | refine AL.any ?_ | refine AL.any (h := POp.k Tryz.func78 (hc := inr_v _ _ _)) ?_ | refine AL.U ?_ | refine AL.F ?_ | refine AL.T ?_ | refine AL.T (h := POp.k Tryz.func78 (hc := inr_v _ _ _)) ?_ | refine AL.W ?_ | refine AL.W (h := fun h => by (try rw [h]); exact POp.k Tryz.func78 (hc := inr_v _ _ _)) ?_ | refine AL.nil ?_)
        | ((with_reducible show AW _ _ _ _ _ _); first | refine AW.seq ?_ | refine AW.region ?_ | refine AW.skip ?_ | refine AW.cT ?_ | refine AW.cF ?_ | (refine AW.c2 ?_ ?_ <;> (intro h; try simp only [Bool.not_eq_true', Bool.not_eq_false'] at h)) | refine AW.block ?_ | refine AW.exit ?_ | refine AW.ret ?_)
        | with_reducible refine (if_pos rfl).mpr ?_
        | with_reducible refine (if_neg (by decide)).mpr ?_) <;> (try dsimp only))
      all_goals exact Fin.one rfl (RV.tmp (by rfl)) (clo_c _) ⟨by simp_all [isCover], rfl⟩

end Go.Proofs.YtacbpfbelcdeiaaGreat.Abs
