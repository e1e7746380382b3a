/- Part C of the walk over abstract states and of the functions' walks. -/
import Derived.Test.YtacbpfbelcdeiaaGreatWkStep
import Derived.Test.YtacbpfbelcdeiaaGreatBnB
import Derived.Test.YtacbpfbelcdeiaaGreatBnA
/- The walks of all pieces, their digests and the seal. -/
namespace Go.Proofs.YtacbpfbelcdeiaaGreat.Abs
open Go.Proofs Go.RowKit
set_option linter.unusedVariables false
set_option linter.unusedSimpArgs false
set_option maxRecDepth 100000
set_option maxHeartbeats 2000000
attribute [local irreducible] OpA AL AW DL DLM DLR DLS QOp POp VCalls VCallsI
theorem dig_i (l : List TFeature) (ps : List TPiece) (hl : l.length ≤ 1048576) (hp : ∀ x ∈ l, x.gd) (hps : ps.length ≤ 1048576) (hpi : pcIs l ps) : VCalls Tryz.prog 144 [.ro 5 (l.map TFeature.en), .ro 2 (ps.map TPiece.en)] (fun r M => r = .ro 1 ((dig l ps).map enI) ∧ M = []) := by
  refine VB Tryz.func144 28 (fun E hE => ?_)
  have hclo : Clo (.ro 5 (l.map TFeature.en)) := clo_list TFeature.clo_en
  have hclps : Clo (.ro 2 (ps.map TPiece.en)) := clo_list TPiece.clo_en
  repeat' ((first
    | (refine iAL ?_; first | refine AL.any ?_ | refine AL.nil ?_)
    | ((with_reducible show DL ..); first | refine DL.any ?_ | refine DL.any (h := POp.k Tryz.func163 (hc := pd_i y x.part (by assumption))) ?_ | refine DL.any (h := POp.k Tryz.func164 (hc := find_i l x.id (by assumption))) ?_ | refine DL.nil ?_)
    | ((with_reducible show DLM ..); first | refine DLM.any ?_ | refine DLM.mk ?_ | refine DLM.any (h := fun Y => POp.k Tryz.func163 (hc := pd_i y x.part (by assumption))) ?_ | refine DLM.any (h := fun Y => POp.k Tryz.func164 (hc := find_i l x.id (by assumption))) ?_ | refine DLM.nil ?_)
    | (refine iAW ?_; first | (refine AW.freezeRet (t := 4) (id := 0) rfl rfl rfl rfl (clo_rows clo_enI) ?_; (try simp only [List.take_length]); try dsimp only [dput, List.set, cond_true, cond_false, Nat.zero_add, Nat.add_zero, Nat.reduceAdd, splice, List.take, List.drop, List.length, List.nil_append, List.cons_append, List.append, TPoint.en, TSegment.en, TBox.en, TFeature.en, TMeet.en, TPlace.en, TCover.en, TLabel.en, TPiece.en, TLevel.en, TChart.en, TReason.en, TEdit.en, TEntry.en, TEdition.en, TListing.en, TAtlas.en, TEvent.en, TWindow.en]) | (refine AW.c0 ?_; constructor) | refine AW.drM (id := 5) 12 11 ?_ | refine AW.cT ?_ | refine AW.cF ?_ | (refine AW.c2 ?_ ?_ <;> (intro h; try simp only [bT, bF] at h)))
    | (refine AW.loopD hE (fun i : Nat => [.ro 5 (l.map TFeature.en), .ro 2 (ps.map TPiece.en), .any, .any, .any, .own 0 i, .any, .any, .any, .ro 2 (ps.map TPiece.en), I ((ps.map TPiece.en).length : Int), I (i : Int), .any, .any, .any, .any, .any, .any, .any, .any, .any, .any, .any, .any, .any, .any, .any, .any, .any, .any]) (fun i => [some ⟨3, 1, i, false, (digTo l ps i).map enI⟩]) (fun i => ps.length - i) (fun i => i ≤ ps.length) 0 (by simp) ?_ (by first | rfl | (simp [fil_zero]; done)) ?_
       (focus ((repeat' (first | exact Wk.nil | refine Wk.any ?_ | (with_reducible refine Wk.same ?_) | refine Wk.of ?_ ?_)) <;> first | rfl | (rfl)))
       intro i hi
       by_cases hlt : i < ps.length
       case' pos =>
         have hP := True.intro
         obtain ⟨x, hx⟩ : ∃ x, ps[i]? = some x := ⟨_, List.getElem?_eq_getElem hlt⟩
         have hg := map_get (f := TPiece.en) hx
         have ht := lt_true (f := TPiece.en) hlt
         have hn := next_ix hlt (by omega)
         obtain ⟨y, hym, hye, hy0, hyg⟩ := pc_at hpi hx
         have hgy := hp y hym
         have hm := digTo_map (l := l) hx
         rw [hye] at hm
         have hln := digTo_len l ps i
         have hclY : Clo (.agg y.en) := Clo.agg y.clo_en
         have hclP : Clo (.ro 2 (y.points.map TPoint.en)) := clo_list TPoint.clo_en
       case' neg =>
         have hQ := True.intro
         have ht := lt_false (f := TPiece.en) hlt
         have e : i = ps.length := by omega
         subst e
         try rw [List.take_length])
    | with_reducible refine ifP ?_
    | with_reducible refine ifN ?_) <;> (try dsimp only))
  all_goals first
    | (have _ := hP; (refine ⟨i + 1, _, hlt, by omega, ?_, by rw [hm] <;> rfl, ?_, ?_⟩; (focus (exact wkN)); (focus (exact fitsA)); (focus (exact fits_row (clo_rows clo_enI)))))
    | (have _ := hQ; exact Fin.one rfl (RV.tmp (by rfl)) (clo_list clo_enI) ⟨by rw [digTo_all], rfl⟩)

theorem pca_i_f (f : TFeature) (hgd : f.gd) (hk : (f.kind == 1) = false) : VCalls Tryz.prog 165 [.agg f.en, .agg box0.en, B true] (fun r M => r = .ro 2 ((pca f).map TPiece.en) ∧ M = []) := by
  refine VB Tryz.func165 51 (fun E hE => ?_)
  have hclP : Clo (.ro 2 (f.points.map TPoint.en)) := clo_list TPoint.clo_en
  have hclS : Clo (.ro 4 ((partsOf f).map TSegment.en)) := clo_list TSegment.clo_en
  have hcle : Clo (.agg f.en) := Clo.agg f.clo_en
  have hpl := partsOf_le f
  have hb0 := pca_cases_f hk
  repeat' ((first
    | (refine iAL ?_; first | refine AL.any ?_ | refine AL.any (h := POp.k Tryz.func181 (hc := parts_i f (by assumption))) ?_ | refine AL.U ?_ | refine AL.F ?_ | refine AL.T ?_ | refine AL.W ?_ | refine AL.nil ?_)
    | ((with_reducible show DL ..); first | refine DL.any ?_ | refine DL.U ?_ | refine DL.F ?_ | refine DL.T ?_ | refine DL.W ?_ | refine DL.nil ?_)
    | (refine iAW ?_; first | (refine AW.freezeRet (t := 6) (id := 2) rfl rfl rfl rfl (clo_rows TPiece.clo_en) ?_; (try simp only [List.take_length]); try dsimp only [dput, List.set, cond_true, cond_false, Nat.zero_add, Nat.add_zero, Nat.reduceAdd, splice, List.take, List.drop, List.length, List.nil_append, List.cons_append, List.append, TPoint.en, TSegment.en, TBox.en, TFeature.en, TMeet.en, TPlace.en, TCover.en, TLabel.en, TPiece.en, TLevel.en, TChart.en, TReason.en, TEdit.en, TEntry.en, TEdition.en, TListing.en, TAtlas.en, TEvent.en, TWindow.en]) | (refine AW.c0 ?_; constructor) | refine AW.dr (id := 2) 11 ?_ | refine AW.cT ?_ | refine AW.cF ?_ | (refine AW.c2 ?_ ?_ <;> (intro h; try simp only [bT, bF] at h)))
    | (refine AW.loopX hE (fun i : Nat => [.any, .any, B true, .ref 0 0 5 0 0, .ref 1 0 4 0 0, .any, .any, .own 2 (pcaTo f i).length, .any, .any, .any, .any, .any, .any, .any, .any, .any, .any, .any, .any, .any, .any, .any, .any, .any, .any, .any, .any, .any, .any, .any, .any, .ro 4 ((partsOf f).map TSegment.en), I (((partsOf f).map TSegment.en).length : Int), I (i : Int), .any, .any, .any, .any, .any, .any, .any, .any, .any, .any, .any, .any, .any, .any, .any, .any, .any, .any, .any]) (fun i => [some ⟨69, 5, 0, true, [f.en]⟩, some ⟨181, 4, 0, true, [box0.en]⟩, some ⟨166, 2, (pcaTo f i).length, false, (pcaTo f i).map TPiece.en⟩]) (fun i => (partsOf f).length - i) (fun i => i ≤ (partsOf f).length) 0 _ (by simp) ?_ (by first | rfl | (rw [hb0]; rfl)) ?_ ?_ ?_
       rotate_left 1
       (focus (exact fitsA))
       (focus (exact fitsM_cons (clo_one f.clo_en) (fitsM_cons (clo_one box0.clo_en) (fitsM_cons (clo_rows TPiece.clo_en) (FitsM.nil _)))))
       rotate_right 1
       (focus ((repeat' (first | exact Wk.nil | refine Wk.any ?_ | (with_reducible refine Wk.same ?_) | refine Wk.of ?_ ?_)) <;> first | rfl | (simp_all)))
       intro i hi
       by_cases hlt : i < (partsOf f).length
       case' pos =>
         have hP := True.intro
         obtain ⟨x, hx⟩ : ∃ x, (partsOf f)[i]? = some x := ⟨_, List.getElem?_eq_getElem hlt⟩
         have hg := map_get (f := TSegment.en) hx
         have ht := lt_true (f := TSegment.en) hlt
         have hn := next_ix hlt (by omega)
         have hln := pcaTo_len f i
         obtain ⟨h1, h2⟩ := pcaTo_map f i
       case' neg =>
         have hQ := True.intro
         have ht := lt_false (f := TSegment.en) hlt
         have e : i = (partsOf f).length := by omega
         subst e
         try rw [List.take_length])
    | with_reducible refine ifP ?_
    | with_reducible refine ifN ?_) <;> (try dsimp only))
  all_goals first
    | (have _ := hP; (refine ⟨i + 1, _, hlt, by omega, ?_, by rw [h1, h2] <;> rfl, ?_, ?_⟩; (focus (exact wkN)); (focus (exact fitsA)); (focus (exact fitsM_cons (clo_one f.clo_en) (fitsM_cons (clo_one box0.clo_en) (fitsM_cons (clo_rows TPiece.clo_en) (FitsM.nil _)))))))
    | (have _ := hQ; exact Fin.one rfl (RV.tmp (by rfl)) (clo_list TPiece.clo_en) ⟨rfl, rfl⟩)

theorem pca_i_t (f : TFeature) (hgd : f.gd) (hk : (f.kind == 1) = true) : VCalls Tryz.prog 165 [.agg f.en, .agg box0.en, B true] (fun r M => r = .ro 2 ((pca f).map TPiece.en) ∧ M = []) := by
  refine VB Tryz.func165 51 (fun E hE => ?_)
  have hclP : Clo (.ro 2 (f.points.map TPoint.en)) := clo_list TPoint.clo_en
  have hclS : Clo (.ro 4 ((partsOf f).map TSegment.en)) := clo_list TSegment.clo_en
  have hcle : Clo (.agg f.en) := Clo.agg f.clo_en
  have hpl := partsOf_le f
  have hb0 := pca_cases_t hk
  repeat' ((first
    | (refine iAL ?_; first | refine AL.any ?_ | refine AL.any (h := POp.k Tryz.func181 (hc := parts_i f (by assumption))) ?_ | refine AL.U ?_ | refine AL.F ?_ | refine AL.T ?_ | refine AL.W ?_ | refine AL.nil ?_)
    | ((with_reducible show DL ..); first | refine DL.any ?_ | refine DL.U ?_ | refine DL.F ?_ | refine DL.T ?_ | refine DL.W ?_ | refine DL.nil ?_)
    | (refine iAW ?_; first | (refine AW.freezeRet (t := 6) (id := 2) rfl rfl rfl rfl (clo_rows TPiece.clo_en) ?_; (try simp only [List.take_length]); try dsimp only [dput, List.set, cond_true, cond_false, Nat.zero_add, Nat.add_zero, Nat.reduceAdd, splice, List.take, List.drop, List.length, List.nil_append, List.cons_append, List.append, TPoint.en, TSegment.en, TBox.en, TFeature.en, TMeet.en, TPlace.en, TCover.en, TLabel.en, TPiece.en, TLevel.en, TChart.en, TReason.en, TEdit.en, TEntry.en, TEdition.en, TListing.en, TAtlas.en, TEvent.en, TWindow.en]) | (refine AW.c0 ?_; constructor) | refine AW.dr (id := 2) 11 ?_ | refine AW.cT ?_ | refine AW.cF ?_ | (refine AW.c2 ?_ ?_ <;> (intro h; try simp only [bT, bF] at h)))
    | (refine AW.loopX hE (fun i : Nat => [.any, .any, B true, .ref 0 0 5 0 0, .ref 1 0 4 0 0, .any, .any, .own 2 (pcaTo f i).length, .any, .any, .any, .any, .any, .any, .any, .any, .any, .any, .any, .any, .any, .any, .any, .any, .any, .any, .any, .any, .any, .any, .any, .any, .ro 4 ((partsOf f).map TSegment.en), I (((partsOf f).map TSegment.en).length : Int), I (i : Int), .any, .any, .any, .any, .any, .any, .any, .any, .any, .any, .any, .any, .any, .any, .any, .any, .any, .any, .any]) (fun i => [some ⟨69, 5, 0, true, [f.en]⟩, some ⟨181, 4, 0, true, [box0.en]⟩, some ⟨166, 2, (pcaTo f i).length, false, (pcaTo f i).map TPiece.en⟩]) (fun i => (partsOf f).length - i) (fun i => i ≤ (partsOf f).length) 0 _ (by simp) ?_ (by first | rfl | (rw [hb0]; rfl)) ?_ ?_ ?_
       rotate_left 1
       (focus (exact fitsA))
       (focus (exact fitsM_cons (clo_one f.clo_en) (fitsM_cons (clo_one box0.clo_en) (fitsM_cons (clo_rows TPiece.clo_en) (FitsM.nil _)))))
       rotate_right 1
       (focus ((repeat' (first | exact Wk.nil | refine Wk.any ?_ | (with_reducible refine Wk.same ?_) | refine Wk.of ?_ ?_)) <;> first | rfl | (simp_all)))
       intro i hi
       by_cases hlt : i < (partsOf f).length
       case' pos =>
         have hP := True.intro
         obtain ⟨x, hx⟩ : ∃ x, (partsOf f)[i]? = some x := ⟨_, List.getElem?_eq_getElem hlt⟩
         have hg := map_get (f := TSegment.en) hx
         have ht := lt_true (f := TSegment.en) hlt
         have hn := next_ix hlt (by omega)
         have hln := pcaTo_len f i
         obtain ⟨h1, h2⟩ := pcaTo_map f i
       case' neg =>
         have hQ := True.intro
         have ht := lt_false (f := TSegment.en) hlt
         have e : i = (partsOf f).length := by omega
         subst e
         try rw [List.take_length])
    | with_reducible refine ifP ?_
    | with_reducible refine ifN ?_) <;> (try dsimp only))
  all_goals first
    | (have _ := hP; (refine ⟨i + 1, _, hlt, by omega, ?_, by rw [h1, h2] <;> rfl, ?_, ?_⟩; (focus (exact wkN)); (focus (exact fitsA)); (focus (exact fitsM_cons (clo_one f.clo_en) (fitsM_cons (clo_one box0.clo_en) (fitsM_cons (clo_rows TPiece.clo_en) (FitsM.nil _)))))))
    | (have _ := hQ; exact Fin.one rfl (RV.tmp (by rfl)) (clo_list TPiece.clo_en) ⟨rfl, rfl⟩)

theorem pca_i (f : TFeature) (hgd : f.gd) : VCalls Tryz.prog 165 [.agg f.en, .agg box0.en, B true] (fun r M => r = .ro 2 ((pca f).map TPiece.en) ∧ M = []) := by
  cases hk : (f.kind == 1)
  · exact pca_i_f f hgd hk
  · exact pca_i_t f hgd hk
theorem all_i_f (l : List TFeature) (hl : l.length ≤ 1048576) (hp : ∀ x ∈ l, x.gd) (hS : isSource l = false) : VCalls Tryz.prog 145 [.ro 5 (l.map TFeature.en)] (fun r M => r = .ro 2 ((allPc l).map TPiece.en) ∧ M = []) := by
  refine VB Tryz.func145 23 (fun E hE => ?_)
  have hclo : Clo (.ro 5 (l.map TFeature.en)) := clo_list TFeature.clo_en
  repeat' ((first
    | (refine iAL ?_; first | refine AL.any ?_ | refine AL.any (h := POp.k Tryz.func135 (hc := isSource_i _ (by assumption) (by assumption))) ?_ | refine AL.any (h := POp.k Tryz.func165 (hc := pcs_i _ _ (by assumption) (by assumption))) ?_ | refine AL.nil ?_)
    | (refine iAW ?_; first | (refine AW.freezeRet (t := 2) (id := 0) rfl rfl rfl rfl clo_rows_nil ?_; (try simp only [List.take_length]); try dsimp only [dput, List.set, cond_true, cond_false, Nat.zero_add, Nat.add_zero, Nat.reduceAdd, splice, List.take, List.drop, List.length, List.nil_append, List.cons_append, List.append, TPoint.en, TSegment.en, TBox.en, TFeature.en, TMeet.en, TPlace.en, TCover.en, TLabel.en, TPiece.en, TLevel.en, TChart.en, TReason.en, TEdit.en, TEntry.en, TEdition.en, TListing.en, TAtlas.en, TEvent.en, TWindow.en]) | (refine AW.c0 ?_; constructor) | refine AW.cT ?_ | refine AW.cF ?_ | (refine AW.c2 ?_ ?_ <;> (intro h; try simp only [bT, bF] at h)))
    | with_reducible refine ifP ?_
    | with_reducible refine ifN ?_) <;> (try dsimp only))
  all_goals exact Fin.one rfl (RV.tmp (by rfl)) (Clo.ro clo_rows_nil) ⟨by rw [allPc_f hS]; rfl, rfl⟩

theorem all_i_t (l : List TFeature) (hl : l.length ≤ 1048576) (hp : ∀ x ∈ l, x.gd) (hS : isSource l = true) : VCalls Tryz.prog 145 [.ro 5 (l.map TFeature.en)] (fun r M => r = .ro 2 ((allPc l).map TPiece.en) ∧ M = []) := by
  refine VB Tryz.func145 23 (fun E hE => ?_)
  have hclo : Clo (.ro 5 (l.map TFeature.en)) := clo_list TFeature.clo_en
  repeat' ((first
    | (refine iAL ?_; first | refine AL.any ?_ | refine AL.any (h := POp.k Tryz.func135 (hc := isSource_i _ (by assumption) (by assumption))) ?_ | refine AL.any (h := POp.k Tryz.func165 (hc := pca_i x (by assumption))) ?_ | refine AL.nil ?_)
    | (refine iAW ?_; first | (refine AW.freezeRet (t := 2) (id := 0) rfl rfl rfl rfl (clo_rows TPiece.clo_en) ?_; (try simp only [List.take_length]); try dsimp only [dput, List.set, cond_true, cond_false, Nat.zero_add, Nat.add_zero, Nat.reduceAdd, splice, List.take, List.drop, List.length, List.nil_append, List.cons_append, List.append, TPoint.en, TSegment.en, TBox.en, TFeature.en, TMeet.en, TPlace.en, TCover.en, TLabel.en, TPiece.en, TLevel.en, TChart.en, TReason.en, TEdit.en, TEntry.en, TEdition.en, TListing.en, TAtlas.en, TEvent.en, TWindow.en]) | (refine AW.c0 ?_; constructor) | refine AW.cT ?_ | refine AW.cF ?_ | (refine AW.c2 ?_ ?_ <;> (intro h; try simp only [bT, bF] at h)))
    | (refine AW.loopD hE (fun i : Nat => [.ro 5 (l.map TFeature.en), .any, .any, .own 0 i, .any, .any, .any, .any, .any, .any, .any, .ro 5 (l.map TFeature.en), I ((l.map TFeature.en).length : Int), I (i : Int), .any, .any, .any, .any, .any, .any, .any, .any, .any, .any]) (fun i => [some ⟨166, 2, i, false, (allTo l i).map TPiece.en⟩]) (fun i => l.length - i) (fun i => i ≤ l.length) 0 (by simp) ?_ (by first | rfl | (simp [fil_zero]; done)) ?_
       (focus ((repeat' (first | exact Wk.nil | refine Wk.any ?_ | (with_reducible refine Wk.same ?_) | refine Wk.of ?_ ?_)) <;> first | rfl | (rfl)))
       intro i hi
       by_cases hlt : i < l.length
       case' pos =>
         have hP := True.intro
         obtain ⟨x, hx⟩ : ∃ x, l[i]? = some x := ⟨_, List.getElem?_eq_getElem hlt⟩
         have hg := map_get (f := TFeature.en) hx
         have ht := lt_true (f := TFeature.en) hlt
         have hn := next_ix hlt (by omega)
         have hgx := hp x (List.mem_of_getElem? hx)
         have hclQ : Clo (.ro 2 ((pca x).map TPiece.en)) := clo_list TPiece.clo_en
         have hclP : Clo (.ro 2 (x.points.map TPoint.en)) := clo_list TPoint.clo_en
         have hcle : Clo (.agg x.en) := Clo.agg x.clo_en
         have hm := allTo_map hx
         have hln := allTo_len l i (by omega)
         have hpl := pca_len x
       case' neg =>
         have hQ := True.intro
         have ht := lt_false (f := TFeature.en) hlt
         have e : i = l.length := by omega
         subst e
         try rw [List.take_length])
    | with_reducible refine ifP ?_
    | with_reducible refine ifN ?_) <;> (try dsimp only))
  all_goals first
    | (have _ := hP; (refine ⟨i + 1, _, hlt, by omega, ?_, by rw [hm] <;> rfl, ?_, ?_⟩; (focus (exact wkN)); (focus (exact fitsA)); (focus (exact fits_row (clo_rows TPiece.clo_en)))))
    | (have _ := hQ; exact Fin.one rfl (RV.tmp (by rfl)) (clo_list TPiece.clo_en) ⟨by rw [allPc_t hS], rfl⟩)

theorem all_i (l : List TFeature) (hl : l.length ≤ 1048576) (hp : ∀ x ∈ l, x.gd) : VCalls Tryz.prog 145 [.ro 5 (l.map TFeature.en)] (fun r M => r = .ro 2 ((allPc l).map TPiece.en) ∧ M = []) := by
  cases hS : isSource l
  · exact all_i_f l hl hp hS
  · exact all_i_t l hl hp hS
theorem all_s (l : List TFeature) (hl : l.length ≤ 1048576) (hp : ∀ x ∈ l, x.gd) : VCalls Tryz.prog 139 [.ro 5 (l.map TFeature.en)] (fun r M => r = .ro 2 ((allPc l).map TPiece.en) ∧ M = []) := by
  refine VB Tryz.func139 45 (fun E hE => ?_)
  have hclo : Clo (.ro 5 (l.map TFeature.en)) := clo_list TFeature.clo_en
  have hclo : Clo (.ro 5 (l.map TFeature.en)) := clo_list TFeature.clo_en
  repeat' ((first
    | (refine iAL ?_; first | refine AL.any ?_ | refine AL.any (h := POp.k Tryz.func160 (hc := parts_s x (by assumption))) ?_ | refine AL.U ?_ | refine AL.F ?_ | refine AL.T ?_ | refine AL.T (h := POp.k Tryz.func133 (hc := isSource_s _ (by assumption) (by assumption))) ?_ | refine AL.W ?_ | refine AL.W (h := fun h => by (try rw [h]); exact POp.k Tryz.func133 (hc := isSource_s _ (by assumption) (by assumption))) ?_ | refine AL.nil ?_)
    | (refine iAW ?_; first | (refine AW.c0 ?_; constructor) | (refine AW.loopD hE (fun i : Nat => [.ro 5 (l.map TFeature.en), .any, .any, .own 0 (allTo l i).length, I (i : Int), .any, .any, .any, .any, .any, .any, .any, .any, .any, .any, .any, .any, .any, .any, .any, .any, .any, .any, .any, .any, .any, .any, .any, .any, .any, .any, .any, .any, .any, .any, .any, .any, .any, .any, .any, .any, .any, .any, .any, .any, .any]) (fun i => [some ⟨166, 2, (allTo l i).length, false, (allTo l i).map TPiece.en⟩]) (fun i => nSrc l - i) (fun i => i ≤ nSrc l) 0 (Nat.zero_le _) ?_ (by first | rfl | (rfl; done)) ?_) | refine AW.cT ?_ | refine AW.cF ?_ | (refine AW.c2 ?_ ?_ <;> (intro h; try simp only [bT, bF] at h)))
    | with_reducible refine ifP ?_
    | with_reducible refine ifN ?_) <;> (try dsimp only))
  · (repeat' (first | exact Wk.nil | refine Wk.any ?_ | (with_reducible refine Wk.same ?_) | refine Wk.of ?_ ?_)) <;> first | rfl | (simp; done)
  · intro i hv_i
    have hclo : Clo (.ro 5 (l.map TFeature.en)) := clo_list TFeature.clo_en
    by_cases hlt_i : i < nSrc l
    · skip
      obtain ⟨hS, hN⟩ := nSrc_t hlt_i
      obtain ⟨x, hx⟩ : ∃ x, l[i]? = some x := ⟨_, List.getElem?_eq_getElem (by omega)⟩
      have hgm := map_get (f := TFeature.en) hx
      have ht : (decide ((i : Int) < ((l.map TFeature.en).length : Int)) && isSource l) = true := by rw [hS]; simp; omega
      have hn := next_ix hlt_i (by omega)
      have hclS : Clo (.ro 4 ((partsOf x).map TSegment.en)) := clo_list TSegment.clo_en
      have hln := allTo_len l i (by omega)
      have hpl := nPt_le x
      obtain ⟨e1, e2⟩ := all_next hx
      have hnp : nPt x = if (x.kind == 1) = true then 1 else (partsOf x).length := rfl
      have hgx := hp x (List.mem_of_getElem? hx)
      have hclQ : Clo (.ro 2 ((pca x).map TPiece.en)) := clo_list TPiece.clo_en
      have hclP : Clo (.ro 2 (x.points.map TPoint.en)) := clo_list TPoint.clo_en
      have hcle : Clo (.agg x.en) := Clo.agg x.clo_en
      cases hk : (x.kind == 1)
      all_goals
        repeat' ((first
          | (refine iAL ?_; first | refine AL.any ?_ | refine AL.any (h := POp.k Tryz.func160 (hc := parts_s x (by assumption))) ?_ | refine AL.U ?_ | refine AL.F ?_ | refine AL.T ?_ | refine AL.T (h := POp.k Tryz.func133 (hc := isSource_s _ (by assumption) (by assumption))) ?_ | refine AL.W ?_ | refine AL.W (h := fun h => by (try rw [h]); exact POp.k Tryz.func133 (hc := isSource_s _ (by assumption) (by assumption))) ?_ | refine AL.nil ?_)
          | (refine iAW ?_; first | (refine AW.c0 ?_; constructor) | (refine AW.loopD hE (fun k : Nat => [.ro 5 (l.map TFeature.en), .any, .any, .own 0 ((allTo l i).length + k), I (i : Int), I ((nPt x : Nat) : Int), I (k : Int), .any, .any, .any, .any, .any, .any, .any, .any, .any, .any, .any, .any, .any, .any, .any, .any, .any, .any, .any, .any, .any, .any, .any, .any, .any, .any, .any, .any, .any, .any, .any, .any, .any, .any, .any, .any, .any, .any, .any]) (fun k => [some ⟨166, 2, (allTo l i).length + k, false, (allTo l i).map TPiece.en ++ (fpcTo x k).map TPiece.en⟩]) (fun k => nPt x - k) (fun k => k ≤ nPt x) 0 (Nat.zero_le _) ?_ (by first | rfl | (simp [fpcTo]; done)) ?_) | refine AW.cT ?_ | refine AW.cF ?_ | (refine AW.c2 ?_ ?_ <;> (intro h; try simp only [bT, bF] at h)))
          | with_reducible refine ifP ?_
          | with_reducible refine ifN ?_) <;> (try dsimp only))
        · (repeat' (first | exact Wk.nil | refine Wk.any ?_ | (with_reducible refine Wk.same ?_) | refine Wk.of ?_ ?_)) <;> first | rfl | (simp_all; done)
        · intro k hv_k
          have hclo : Clo (.ro 5 (l.map TFeature.en)) := clo_list TFeature.clo_en
          by_cases hlt_k : k < nPt x
          · skip
            have htk : decide ((k : Int) < ((nPt x : Nat) : Int)) = true := by simp; omega
            have hnk := next_ix hlt_k (by omega)
            have hm : (allTo l i).map TPiece.en ++ (fpcTo x (k + 1)).map TPiece.en = ((allTo l i).map TPiece.en ++ (fpcTo x k).map TPiece.en) ++ [[I x.id, I (k : Int)]] := by rw [fpcTo_map, List.append_assoc]
            have hfl := fpcTo_len x k
            repeat' ((first
              | (refine iAL ?_; first | refine AL.any ?_ | refine AL.any (h := POp.k Tryz.func160 (hc := parts_s x (by assumption))) ?_ | refine AL.U ?_ | refine AL.F ?_ | refine AL.T ?_ | refine AL.T (h := POp.k Tryz.func133 (hc := isSource_s _ (by assumption) (by assumption))) ?_ | refine AL.W ?_ | refine AL.W (h := fun h => by (try rw [h]); exact POp.k Tryz.func133 (hc := isSource_s _ (by assumption) (by assumption))) ?_ | refine AL.nil ?_)
              | (refine iAW ?_; first | (refine AW.c0 ?_; constructor) | refine AW.cT ?_ | refine AW.cF ?_ | (refine AW.c2 ?_ ?_ <;> (intro h; try simp only [bT, bF] at h)))
              | with_reducible refine ifP ?_
              | with_reducible refine ifN ?_) <;> (try dsimp only))
            all_goals first
              | (refine ⟨k + 1, _, hlt_k, by omega, ?_, by rw [hm] <;> rfl, ?_, ?_⟩; (focus ((repeat' (first | exact Wk.nil | refine Wk.any ?_ | (with_reducible refine Wk.same ?_) | refine Wk.of ?_ ?_)) <;> (first | rfl | simp_all))); (focus (exact fitsA)); (focus (refine fits_row ?_; exact clo_rows_app (clo_rows TPiece.clo_en) (clo_rows TPiece.clo_en))))
          · have e_k : k = nPt x := by omega
            have htk : decide ((k : Int) < ((nPt x : Nat) : Int)) = false := by simp; omega
            subst e_k
            repeat' ((first
              | (refine iAL ?_; first | refine AL.any ?_ | refine AL.any (h := POp.k Tryz.func160 (hc := parts_s x (by assumption))) ?_ | refine AL.U ?_ | refine AL.F ?_ | refine AL.T ?_ | refine AL.T (h := POp.k Tryz.func133 (hc := isSource_s _ (by assumption) (by assumption))) ?_ | refine AL.W ?_ | refine AL.W (h := fun h => by (try rw [h]); exact POp.k Tryz.func133 (hc := isSource_s _ (by assumption) (by assumption))) ?_ | refine AL.nil ?_)
              | (refine iAW ?_; first | (refine AW.c0 ?_; constructor) | refine AW.cT ?_ | refine AW.cF ?_ | (refine AW.c2 ?_ ?_ <;> (intro h; try simp only [bT, bF] at h)))
              | with_reducible refine ifP ?_
              | with_reducible refine ifN ?_) <;> (try dsimp only))
            all_goals first
              | (refine ⟨i + 1, _, hlt_i, by omega, ?_, by rw [← e1, ← e2] <;> rfl, ?_, ?_⟩; (focus ((repeat' (first | exact Wk.nil | refine Wk.any ?_ | (with_reducible refine Wk.same ?_) | refine Wk.of ?_ ?_)) <;> (first | (rw [← e2]; done) | simp_all))); (focus (exact fitsA)); (focus (exact fits_row (clo_rows TPiece.clo_en))))
    · have e_i : i = nSrc l := by omega
      have ht : (decide ((i : Int) < ((l.map TFeature.en).length : Int)) && isSource l) = false := by
        rw [e_i]
        unfold nSrc
        cases hS : isSource l
        · simp
        · simp
      subst e_i
      repeat' ((first
        | (refine iAL ?_; first | refine AL.any ?_ | refine AL.any (h := POp.k Tryz.func160 (hc := parts_s x (by assumption))) ?_ | refine AL.U ?_ | refine AL.F ?_ | refine AL.T ?_ | refine AL.T (h := POp.k Tryz.func133 (hc := isSource_s _ (by assumption) (by assumption))) ?_ | refine AL.W ?_ | refine AL.W (h := fun h => by (try rw [h]); exact POp.k Tryz.func133 (hc := isSource_s _ (by assumption) (by assumption))) ?_ | refine AL.nil ?_)
        | (refine iAW ?_; first | (refine AW.freezeRet (t := 2) (id := 0) rfl rfl rfl rfl (clo_rows TPiece.clo_en) ?_; (try simp only [List.take_length]); try dsimp only [dput, List.set, cond_true, cond_false, Nat.zero_add, Nat.add_zero, Nat.reduceAdd, splice, List.take, List.drop, List.length, List.nil_append, List.cons_append, List.append, TPoint.en, TSegment.en, TBox.en, TFeature.en, TMeet.en, TPlace.en, TCover.en, TLabel.en, TPiece.en, TLevel.en, TChart.en, TReason.en, TEdit.en, TEntry.en, TEdition.en, TListing.en, TAtlas.en, TEvent.en, TWindow.en]) | (refine AW.c0 ?_; constructor) | refine AW.cT ?_ | refine AW.cF ?_ | (refine AW.c2 ?_ ?_ <;> (intro h; try simp only [bT, bF] at h)))
        | with_reducible refine ifP ?_
        | with_reducible refine ifN ?_) <;> (try dsimp only))
      all_goals first
        | exact Fin.one rfl (RV.tmp (by rfl)) (clo_list TPiece.clo_en) ⟨by rw [allPc_n], rfl⟩

theorem seal_i (b t : Int) (l : List TFeature) (hl : l.length ≤ 1048576) (hp : ∀ x ∈ l, x.gd) : VCalls Tryz.prog 121 [I b, I t, .ro 5 (l.map TFeature.en)] (fun r M => r = I (sealOf b t l) ∧ M = []) := by
  refine VB Tryz.func121 13 (fun E hE => ?_)
  have hclo : Clo (.ro 5 (l.map TFeature.en)) := clo_list TFeature.clo_en
  have hclA : Clo (.ro 2 ((allPc l).map TPiece.en)) := clo_list TPiece.clo_en
  have hclD : Clo (.ro 1 ((dig l (allPc l)).map enI)) := clo_list clo_enI
  have hal := allPc_len l
  have hdl := dig_len l (allPc l)
  repeat' ((first
    | (refine iAL ?_; first | refine AL.any ?_ | refine AL.any (h := POp.kv Tryz.func143 (hc := hash_i' ([b, t] ++ dig l (allPc l)) (seal_rows b t (dig l (allPc l))) (seal_len b t l))) ?_ | refine AL.any (h := POp.k Tryz.func144 (hc := dig_i l (allPc l) (by assumption) (by assumption) (by have := allPc_len l; omega) (allPc_is l))) ?_ | refine AL.any (h := POp.k Tryz.func145 (hc := all_i _ (by assumption) (by assumption))) ?_ | refine AL.nil ?_)
    | (refine iAW ?_; first | (refine AW.c0 ?_; constructor))) <;> (try dsimp only))
  all_goals exact Fin.one rfl (RV.tmp (by rfl)) (clo_c _) ⟨by rfl, rfl⟩

theorem seal_s (b t : Int) (l : List TFeature) (hl : l.length ≤ 1048576) (hp : ∀ x ∈ l, x.gd) : VCalls Tryz.prog 118 [I b, I t, .ro 5 (l.map TFeature.en)] (fun r M => r = I (sealOf b t l) ∧ M = []) := by
  refine VB Tryz.func118 39 (fun E hE => ?_)
  have hclo : Clo (.ro 5 (l.map TFeature.en)) := clo_list TFeature.clo_en
  have hclA : Clo (.ro 2 ((allPc l).map TPiece.en)) := clo_list TPiece.clo_en
  have hclD : Clo (.ro 1 ((dig l (allPc l)).map enI)) := clo_list clo_enI
  have hal := allPc_len l
  have hdl := dig_len l (allPc l)
  repeat' ((first
    | (refine iAL ?_; first | refine AL.any ?_ | refine AL.any (h := POp.k Tryz.func139 (hc := all_s _ (by assumption) (by assumption))) ?_ | refine AL.any (h := POp.kv Tryz.func142 (hc := hash_s' (sealTo b t l (allPc l) (allPc l).length) rfl (sealTo_len b t l))) ?_ | refine AL.nil ?_)
    | ((with_reducible show DL ..); first | refine DL.any ?_ | refine DL.any (h := POp.k Tryz.func140 (hc := pd_s y x.part (by assumption))) ?_ | refine DL.any (h := POp.k Tryz.func141 (hc := find_s l x.id (by assumption))) ?_ | refine DL.nil ?_)
    | ((with_reducible show DLM ..); first | refine DLM.any ?_ | refine DLM.mk ?_ | refine DLM.any (h := fun Y => POp.k Tryz.func140 (hc := pd_s y x.part (by assumption))) ?_ | refine DLM.any (h := fun Y => POp.k Tryz.func141 (hc := find_s l x.id (by assumption))) ?_ | refine DLM.nil ?_)
    | (refine iAW ?_; first | (refine AW.c0 ?_; constructor) | refine AW.drM (id := 6) 18 17 ?_ | refine AW.cT ?_ | refine AW.cF ?_ | (refine AW.c2 ?_ ?_ <;> (intro h; try simp only [bT, bF] at h)))
    | (refine AW.loopD hE (fun i : Nat => [.any, .any, .ro 5 (l.map TFeature.en), .any, .any, .any, .any, .own 0 i, .ro 2 ((allPc l).map TPiece.en), I (i : Int), .any, .any, .any, .any, .any, .any, .any, .any, .any, .any, .any, .any, .any, .any, .any, .any, .any, .any, .any, .any, .any, .any, .any, .any, .any, .any, .any, .any, .any, .any, .any, .any]) (fun i => [some ⟨3, 1, i, false, (sealTo b t l (allPc l) i).map enI⟩]) (fun i => (allPc l).length - i) (fun i => i ≤ (allPc l).length) 0 (by simp) ?_ (by first | rfl | (simp [fil_zero]; done)) ?_
       (focus ((repeat' (first | exact Wk.nil | refine Wk.any ?_ | (with_reducible refine Wk.same ?_) | refine Wk.of ?_ ?_)) <;> first | rfl | (rfl)))
       intro i hi
       by_cases hlt : i < (allPc l).length
       case' pos =>
         have hP := True.intro
         obtain ⟨x, hx⟩ : ∃ x, (allPc l)[i]? = some x := ⟨_, List.getElem?_eq_getElem hlt⟩
         have hg := map_get (f := TPiece.en) hx
         have ht := lt_true (f := TPiece.en) hlt
         have hn := next_ix hlt (by omega)
         obtain ⟨y, hym, hye, hy0, hyg⟩ := pc_at (allPc_is l) hx
         have hgy := hp y hym
         have hm := sealTo_succ (b := b) (t := t) (l := l) hx
         rw [hye] at hm
         have hln := sealTo_lt b t l i
         have hclY : Clo (.agg y.en) := Clo.agg y.clo_en
         have hclP : Clo (.ro 2 (y.points.map TPoint.en)) := clo_list TPoint.clo_en
       case' neg =>
         have hQ := True.intro
         have ht := lt_false (f := TPiece.en) hlt
         have e : i = (allPc l).length := by omega
         subst e
         try rw [List.take_length])
    | with_reducible refine ifP ?_
    | with_reducible refine ifN ?_) <;> (try dsimp only))
  all_goals first
    | (have _ := hP; (refine ⟨i + 1, _, hlt, by omega, ?_, by rw [hm] <;> rfl, ?_, ?_⟩; (focus (exact wkN)); (focus (exact fitsA)); (focus (exact fits_row (clo_rows clo_enI)))))
    | (have _ := hQ; exact Fin.one rfl (RV.tmp (by rfl)) (clo_c _) ⟨by rw [seal_all]; rfl, rfl⟩)

def covAt (s : ByteArray) (i : Nat) : Bool := match s[i]? with
  | none => false
  | some b => !(decide (((b.toNat : Nat) : Int) < 97) || decide (((b.toNat : Nat) : Int) > 122))
def covTo (s : ByteArray) (n : Nat) : Bool := (List.range n).all (covAt s)
theorem covTo_succ (s : ByteArray) (i : Nat) : covTo s (i + 1) = (covTo s i && covAt s i) := by simp [covTo, List.range_succ]
theorem covTo_not {s : ByteArray} {i n : Nat} (h : covAt s i = false) (hi : i < n) : covTo s n = false := by
  simp only [covTo, List.all_eq_false, List.mem_range]
  exact ⟨i, hi, by simp [h]⟩
def isCover (w g : Int) (s : ByteArray) : Bool := inr w 1 6 && inr g 1 6 && ((s.size : Int) == IntKind.i64.wrap (w * g)) && covTo s s.size
theorem str_get {s : ByteArray} {i : Nat} (h : i < s.size) : ∃ b : UInt8, s[i]? = some b ∧ s[((i : Nat) : Int).toNat]? = some b := ⟨s[i], by simp [h], by rw [Int.toNat_natCast]; simp [h]⟩
theorem covAt_some {s : ByteArray} {i : Nat} {b : UInt8} (h : s[i]? = some b) : covAt s i = !(decide (((b.toNat : Nat) : Int) < 97) || decide (((b.toNat : Nat) : Int) > 122)) := by simp [covAt, h]
theorem str_lt {s : ByteArray} {i : Nat} (h : i < s.size) : decide ((i : Int) < (s.size : Int)) = true := by simp; omega
theorem str_ge {s : ByteArray} {i : Nat} (h : ¬ i < s.size) : decide ((i : Int) < (s.size : Int)) = false := by simp; omega

def chAt {α : Type} (ok : α → Bool) (lt : α → α → Bool) (d : α) (l : List α) (i : Nat) : Bool := match l[i]? with
  | none => false
  | some x => ok x && (i == 0 || lt (l.getD (i - 1) d) x)
def chOk {α : Type} (ok : α → Bool) (lt : α → α → Bool) (d : α) (l : List α) (n : Nat) : Bool := (List.range n).all (chAt ok lt d l)
theorem chOk_succ {α : Type} (ok : α → Bool) (lt : α → α → Bool) (d : α) (l : List α) (i : Nat) : chOk ok lt d l (i + 1) = (chOk ok lt d l i && chAt ok lt d l i) := by simp [chOk, List.range_succ]
theorem chOk_not {α : Type} {ok : α → Bool} {lt : α → α → Bool} {d : α} {l : List α} {i n : Nat} (h : chAt ok lt d l i = false) (hi : i < n) : chOk ok lt d l n = false := by
  simp only [chOk, List.all_eq_false, List.mem_range]
  exact ⟨i, hi, by simp [h]⟩
theorem ch_cases {α : Type} (ok : α → Bool) (lt : α → α → Bool) (d : α) (en : α → List AV) {l : List α} {i : Nat} {x : α} (hx : l[i]? = some x) (hl : l.length ≤ 1048576) :
    (ok x = false ∧ chAt ok lt d l i = false) ∨ (ok x = true ∧ decide ((i : Int) > 0) = false ∧ chAt ok lt d l i = true) ∨
    (ok x = true ∧ decide ((i : Int) > 0) = true ∧ 0 ≤ IntKind.i64.wrap ((i : Int) - 1) ∧ (l.map en)[(IntKind.i64.wrap ((i : Int) - 1)).toNat]? = some (en (l.getD (i - 1) d)) ∧ chAt ok lt d l i = lt (l.getD (i - 1) d) x) := by
  have hi := (List.getElem?_eq_some_iff.1 hx).1
  cases hI : ok x
  · exact .inl ⟨rfl, by simp [chAt, hx, hI]⟩
  · rcases Nat.eq_zero_or_pos i with h0 | h0
    · subst h0
      exact .inr (.inl ⟨rfl, by simp, by simp [chAt, hx, hI]⟩)
    · have e : IntKind.i64.wrap ((i : Int) - 1) = ((i - 1 : Nat) : Int) := by rw [w64 (by omega) (by omega)]; omega
      refine .inr (.inr ⟨rfl, decide_eq_true (by omega), by omega, ?_, ?_⟩)
      · rw [e, Int.toNat_natCast, List.getElem?_map, List.getElem?_eq_getElem (show i - 1 < l.length by omega)]
        simp [List.getD_eq_getElem?_getD, List.getElem?_eq_getElem (show i - 1 < l.length by omega)]
      · have : (i == 0) = false := by simp; omega
        simp [chAt, hx, hI, this]
def isLevel (v : TLevel) : Bool := inr v.rank 0 9 && inr v.far 0 200 && inr v.least 0 100000
abbrev levLe (u v : TLevel) : Bool := !(decide (v.rank < u.rank) || decide (v.far < u.far) || decide (v.least < u.least))
def levD : TLevel := ⟨0, 0, 0⟩
def isLadder (l : List TLevel) : Bool := chOk isLevel levLe levD l l.length && inr l.length 1 5
def entOk (e : TEntry) : Bool := isFeat e.feature && inr e.tick 0 100000 && inr e.who 1 99
abbrev entLt (u e : TEntry) : Bool := decide (u.feature.id < e.feature.id)
def entD : TEntry := ⟨featD, 0, 0, false⟩
def isLog (l : List TEntry) : Bool := chOk entOk entLt entD l l.length && decide ((l.length : Int) ≤ 16)
theorem entOk_f {e : TEntry} (h : entOk e = false) : isFeat e.feature = false ∨ (isFeat e.feature = true ∧ inr e.tick 0 100000 = false) ∨ (isFeat e.feature = true ∧ inr e.tick 0 100000 = true ∧ inr e.who 1 99 = false) := by
  revert h
  unfold entOk
  cases isFeat e.feature <;> cases inr e.tick 0 100000 <;> cases inr e.who 1 99 <;> simp
theorem entOk_t {e : TEntry} (h : entOk e = true) : isFeat e.feature = true ∧ inr e.tick 0 100000 = true ∧ inr e.who 1 99 = true := by
  revert h
  unfold entOk
  cases isFeat e.feature <;> cases inr e.tick 0 100000 <;> cases inr e.who 1 99 <;> simp
theorem levLe_cases (u v : TLevel) : (decide (v.rank < u.rank) = true ∧ levLe u v = false) ∨ (decide (v.rank < u.rank) = false ∧ decide (v.far < u.far) = true ∧ levLe u v = false) ∨ (decide (v.rank < u.rank) = false ∧ decide (v.far < u.far) = false ∧ levLe u v = !decide (v.least < u.least)) := by
  unfold levLe
  cases decide (v.rank < u.rank) <;> cases decide (v.far < u.far) <;> simp
def edD : TEdition := ⟨0, [], 0⟩
def edOk (b : Int) (e : TEdition) : Bool := inr e.tick 0 100000 && isSource e.source && (e.seal_ == sealOf b e.tick e.source)
def prevSeal (l : List TEdition) (i : Nat) : Int := if i = 0 then 0 else (l.getD (i - 1) edD).seal_
theorem prevSeal_succ {l : List TEdition} {i : Nat} {x : TEdition} (h : l[i]? = some x) : prevSeal l (i + 1) = x.seal_ := by simp [prevSeal, List.getD_eq_getElem?_getD, h]
def edAt (l : List TEdition) (i : Nat) : Bool := match l[i]? with
  | none => false
  | some x => edOk (prevSeal l i) x && (i == 0 || !decide (x.tick ≤ (l.getD (i - 1) edD).tick))
def edTo (l : List TEdition) (n : Nat) : Bool := (List.range n).all (edAt l)
theorem edTo_succ (l : List TEdition) (i : Nat) : edTo l (i + 1) = (edTo l i && edAt l i) := by simp [edTo, List.range_succ]
theorem edTo_not {l : List TEdition} {i n : Nat} (h : edAt l i = false) (hi : i < n) : edTo l n = false := by
  simp only [edTo, List.all_eq_false, List.mem_range]
  exact ⟨i, hi, by simp [h]⟩
def areEd (l : List TEdition) : Bool := edTo l l.length && decide ((l.length : Int) ≤ 6)
def nEd (l : List TEdition) : Nat := if l.length ≤ 6 then l.length else 0
theorem nEd_t {l : List TEdition} {i : Nat} (h : i < nEd l) : l.length ≤ 6 ∧ nEd l = l.length := by
  unfold nEd at h ⊢
  split at h
  · rename_i hS; exact ⟨hS, by rw [if_pos hS]⟩
  · omega
theorem ed_cases {l : List TEdition} {i : Nat} {x : TEdition} (hx : l[i]? = some x) (hl : l.length ≤ 1048576) :
    (inr x.tick 0 100000 = false ∧ edAt l i = false) ∨
    (inr x.tick 0 100000 = true ∧ decide ((i : Int) > 0) = false ∧ ((isSource x.source = false ∧ edAt l i = false) ∨ (isSource x.source = true ∧ (x.seal_ == sealOf (prevSeal l i) x.tick x.source) = false ∧ edAt l i = false) ∨ (isSource x.source = true ∧ (x.seal_ == sealOf (prevSeal l i) x.tick x.source) = true ∧ edAt l i = true))) ∨
    (∃ p : TEdition, inr x.tick 0 100000 = true ∧ decide ((i : Int) > 0) = true ∧ 0 ≤ IntKind.i64.wrap ((i : Int) - 1) ∧ (l.map TEdition.en)[(IntKind.i64.wrap ((i : Int) - 1)).toNat]? = some p.en ∧
      ((decide (x.tick ≤ p.tick) = true ∧ edAt l i = false ∧ (isSource x.source = false ∨ (isSource x.source = true ∧ (x.seal_ == sealOf (prevSeal l i) x.tick x.source) = false) ∨ (isSource x.source = true ∧ (x.seal_ == sealOf (prevSeal l i) x.tick x.source) = true))) ∨
       (decide (x.tick ≤ p.tick) = false ∧ ((isSource x.source = false ∧ edAt l i = false) ∨ (isSource x.source = true ∧ (x.seal_ == sealOf (prevSeal l i) x.tick x.source) = false ∧ edAt l i = false) ∨ (isSource x.source = true ∧ (x.seal_ == sealOf (prevSeal l i) x.tick x.source) = true ∧ edAt l i = true))))) := by
  have hi := (List.getElem?_eq_some_iff.1 hx).1
  have ea : edAt l i = (edOk (prevSeal l i) x && (i == 0 || !decide (x.tick ≤ (l.getD (i - 1) edD).tick))) := by simp [edAt, hx]
  rw [ea]
  unfold edOk
  cases hA : inr x.tick 0 100000
  · exact .inl ⟨rfl, by simp⟩
  · right
    rcases Nat.eq_zero_or_pos i with h0 | h0
    · left
      have e0 : (i == 0) = true := by simp [h0]
      rw [e0]
      refine ⟨rfl, by simp; omega, ?_⟩
      cases isSource x.source <;> cases (x.seal_ == sealOf (prevSeal l i) x.tick x.source) <;> simp
    · right
      have e0 : (i == 0) = false := by simp; omega
      have e : IntKind.i64.wrap ((i : Int) - 1) = ((i - 1 : Nat) : Int) := by rw [w64 (by omega) (by omega)]; omega
      rw [e0]
      refine ⟨l.getD (i - 1) edD, rfl, decide_eq_true (by omega), by omega, ?_, ?_⟩
      · rw [e, Int.toNat_natCast, List.getElem?_map, List.getElem?_eq_getElem (show i - 1 < l.length by omega)]
        simp [List.getD_eq_getElem?_getD, List.getElem?_eq_getElem (show i - 1 < l.length by omega)]
      · cases decide (x.tick ≤ (l.getD (i - 1) edD).tick) <;> cases isSource x.source <;> cases (x.seal_ == sealOf (prevSeal l i) x.tick x.source) <;> simp
def ticks {α : Type} (tk : α → Int) (now : Int) (l : List α) (i : Nat) : Bool := (l.take i).all fun e => !decide (tk e > now)
theorem ticks_succ {α : Type} {tk : α → Int} {now : Int} {l : List α} {i : Nat} {x : α} (h : l[i]? = some x) : ticks tk now l (i + 1) = (ticks tk now l i && !decide (tk x > now)) := by simp [ticks, take_succ_of h]
theorem ticks_not {α : Type} {tk : α → Int} {now : Int} {l : List α} {i : Nat} {x : α} (h : l[i]? = some x) (hx : decide (tk x > now) = true) : ticks tk now l l.length = false := by
  rw [ticks, List.take_length, List.all_eq_false]
  exact ⟨x, List.mem_of_getElem? h, by rw [hx]; simp⟩
def atlIn (a : TAtlas) : Bool := isLog a.log && isLadder a.levels && areEd a.editions && isCover a.cover.w a.cover.h a.cover.cells && inr a.now 0 100000
def isAtl (a : TAtlas) : Bool := ticks TEntry.tick a.now a.log a.log.length && ticks TEdition.tick a.now a.editions a.editions.length && atlIn a
def TAtlas.gd (a : TAtlas) : Prop := (a.log.length ≤ 1048576 ∧ ∀ e ∈ a.log, e.feature.gd) ∧ a.levels.length ≤ 1048576 ∧ (a.editions.length ≤ 1048576 ∧ ∀ e ∈ a.editions, e.source.length ≤ 1048576 ∧ ∀ x ∈ e.source, x.gd) ∧ a.cover.cells.size ≤ maxLen
theorem atl_f {a : TAtlas} (h : (!isLog a.log || !isLadder a.levels || !areEd a.editions || !isCover a.cover.w a.cover.h a.cover.cells || !inr a.now 0 100000) = true) : isAtl a = false := by
  unfold isAtl atlIn
  revert h
  cases isLog a.log <;> cases isLadder a.levels <;> cases areEd a.editions <;> cases isCover a.cover.w a.cover.h a.cover.cells <;> cases inr a.now 0 100000 <;> simp
theorem gdA_of {a : TAtlas} (h1 : a.sm) (h2 : a.ok) : a.gd := by
  obtain ⟨⟨s1, s2⟩, s3, s4, s5⟩ := h1
  obtain ⟨⟨_, k2⟩, _, ⟨_, k4⟩, ⟨_, _, k5⟩, _⟩ := h2
  exact ⟨⟨s1, fun e he => ⟨s2 e he, (k2 e he).1.2.2.2.1⟩⟩, s3, ⟨s4, fun e he => ⟨(s5 e he).1, fun x hx => ⟨(s5 e he).2 x hx, ((k4 e he).2.1.2 x hx).2.2.2.1⟩⟩⟩, k5⟩

theorem isLevel_s (v : TLevel) : VCalls Tryz.prog 132 [.agg v.en] (fun r M => r = B (isLevel v) ∧ M = []) := by
  refine VB Tryz.func132 15 (fun E hE => ?_)
  dsimp only [TLevel.en]
  repeat' ((first
    | (refine iAL ?_; first | refine AL.any ?_ | refine AL.any (h := POp.k Tryz.func77 (hc := inr_s _ _ _)) ?_ | refine AL.U ?_ | refine AL.F ?_ | refine AL.T ?_ | refine AL.T (h := POp.k Tryz.func77 (hc := inr_s _ _ _)) ?_ | refine AL.W ?_ | refine AL.W (h := fun h => by (try rw [h]); exact POp.k Tryz.func77 (hc := inr_s _ _ _)) ?_ | refine AL.nil ?_)
    | (refine iAW ?_; first | (refine AW.c0 ?_; constructor))) <;> (try dsimp only))
  all_goals exact Fin.one rfl (RV.tmp (by rfl)) (clo_c _) ⟨by first | rfl | (simp only [isLevel, Bool.and_assoc]; done), rfl⟩

theorem isLevel_i (v : TLevel) : VCalls Tryz.prog 134 [.agg v.en] (fun r M => r = B (isLevel v) ∧ M = []) := by
  refine VB Tryz.func134 15 (fun E hE => ?_)
  dsimp only [TLevel.en]
  repeat' ((first
    | (refine iAL ?_; first | refine AL.any ?_ | refine AL.any (h := POp.k Tryz.func78 (hc := inr_v _ _ _)) ?_ | refine AL.U ?_ | refine AL.F ?_ | refine AL.T ?_ | refine AL.T (h := POp.k Tryz.func78 (hc := inr_v _ _ _)) ?_ | refine AL.W ?_ | refine AL.W (h := fun h => by (try rw [h]); exact POp.k Tryz.func78 (hc := inr_v _ _ _)) ?_ | refine AL.nil ?_)
    | (refine iAW ?_; first | (refine AW.c0 ?_; constructor))) <;> (try dsimp only))
  all_goals exact Fin.one rfl (RV.tmp (by rfl)) (clo_c _) ⟨by first | rfl | (simp only [isLevel, Bool.and_assoc]; done), rfl⟩

theorem isLadder_s (l : List TLevel) (hl : l.length ≤ 1048576) : VCalls Tryz.prog 103 [.ro 3 (l.map TLevel.en)] (fun r M => r = B (isLadder l) ∧ M = []) := by
  refine VB Tryz.func103 64 (fun E hE => ?_)
  have hclo : Clo (.ro 3 (l.map TLevel.en)) := clo_list TLevel.clo_en
  repeat' ((first
    | (refine iAL ?_; first | refine AL.any ?_ | refine AL.any (h := POp.k Tryz.func77 (hc := inr_s _ _ _)) ?_ | refine AL.U ?_ | refine AL.F ?_ | refine AL.T ?_ | refine AL.W ?_ | refine AL.nil ?_)
    | ((with_reducible show DL ..); first | refine DL.any ?_ | refine DL.any (h := POp.k Tryz.func132 (hc := isLevel_s x)) ?_ | refine DL.U ?_ | refine DL.F ?_ | refine DL.T ?_ | refine DL.W ?_ | refine DL.nil ?_)
    | (refine iAW ?_; first | (refine AW.c0 ?_; constructor) | refine AW.dr (id := 4) 48 ?_ | refine AW.cT ?_ | refine AW.cF ?_ | (refine AW.c2 ?_ ?_ <;> (intro h; try simp only [bT, bF] at h)))
    | (refine AW.loopD hE (fun i : Nat => (.ro 3 (l.map TLevel.en) :: .any :: .any :: I (i : Int) :: .any :: .any :: .any :: .any :: .any :: .any :: .any :: .any :: .any :: .any :: .any :: .any :: .any :: .any :: .any :: .any :: .any :: .any :: .any :: .any :: .any :: .any :: .any :: .any :: .any :: .any :: .any :: .any :: .any :: .any :: .any :: .any :: .any :: .any :: .any :: .any :: .any :: .any :: .any :: .any :: .any :: .any :: .any :: .any :: .any :: .any :: .any :: .any :: .any :: .any :: .any :: .any :: .any :: .any :: .any :: .any :: .any :: .any :: .any :: .any :: .any :: [])) (fun i => []) (fun i => l.length - i) (fun i => i ≤ l.length ∧ chOk isLevel levLe levD l i = true) 0 (by simp [chOk]) ?_ (by first | rfl | (simp [fil_zero]; done)) ?_
       (focus (exact wkI))
       intro i hi
       by_cases hlt : i < l.length
       case' pos =>
         have hP := True.intro
         obtain ⟨x, hx⟩ : ∃ x, l[i]? = some x := ⟨_, List.getElem?_eq_getElem hlt⟩
         have hg := map_get (f := TLevel.en) hx
         have ht := lt_true (f := TLevel.en) hlt
         have hn := next_ix hlt (by omega)
         have hsu := chOk_succ isLevel levLe levD l i
         rcases ch_cases isLevel levLe levD TLevel.en hx hl with ⟨hI, hk⟩ | ⟨hI, hz, hk⟩ | ⟨hI, hz, h0, hp0, hk⟩
         rotate_left 2
         generalize l.getD (i - 1) levD = p at hp0 hk
         rcases levLe_cases p x with ⟨q1, q4⟩ | ⟨q1, q2, q4⟩ | ⟨q1, q2, q4⟩
         all_goals try rw [q4] at hk
       case' neg =>
         have hQ := True.intro
         have ht := lt_false (f := TLevel.en) hlt
         have e : i = l.length := by omega
         subst e
         try rw [List.take_length])
    | with_reducible refine ifP ?_
    | with_reducible refine ifN ?_) <;> (try dsimp only))
  all_goals first
    | (have _ := hP; (refine ⟨i + 1, _, ⟨hlt, by simp_all⟩, by omega, ?_, rfl, ?_, ?_⟩; (focus (exact wkN)); (focus (exact fitsA)); (focus (exact FitsM.nil _))))
    | (have _ := hP; exact Fin.one rfl (RV.tmp (by rfl)) (clo_c _) ⟨by have hn := chOk_not (ok := isLevel) (lt := levLe) (d := levD) (n := l.length) (by simp_all : chAt isLevel levLe levD l i = false) hlt; simp_all [isLadder], rfl⟩)
    | (have _ := hQ; exact Fin.one rfl (RV.tmp (by rfl)) (clo_c _) ⟨by simp_all [isLadder], rfl⟩)

theorem isLadder_i (l : List TLevel) (hl : l.length ≤ 1048576) : VCalls Tryz.prog 106 [.ro 3 (l.map TLevel.en)] (fun r M => r = B (isLadder l) ∧ M = []) := by
  refine VB Tryz.func106 56 (fun E hE => ?_)
  have hclo : Clo (.ro 3 (l.map TLevel.en)) := clo_list TLevel.clo_en
  repeat' ((first
    | (refine iAL ?_; first | refine AL.any ?_ | refine AL.any (h := POp.k Tryz.func78 (hc := inr_v _ _ _)) ?_ | refine AL.U ?_ | refine AL.F ?_ | refine AL.T ?_ | refine AL.W ?_ | refine AL.nil ?_)
    | ((with_reducible show DL ..); first | refine DL.any ?_ | refine DL.any (h := POp.k Tryz.func134 (hc := isLevel_i x)) ?_ | refine DL.U ?_ | refine DL.F ?_ | refine DL.T ?_ | refine DL.W ?_ | refine DL.nil ?_)
    | (refine iAW ?_; first | (refine AW.c0 ?_; constructor) | refine AW.dr (id := 6) 36 ?_ | refine AW.cT ?_ | refine AW.cF ?_ | (refine AW.c2 ?_ ?_ <;> (intro h; try simp only [bT, bF] at h)))
    | (refine AW.loopD hE (fun i : Nat => [.ro 3 (l.map TLevel.en), .any, .any, .any, .any, .any, .any, .any, .any, .ro 3 (l.map TLevel.en), I ((l.map TLevel.en).length : Int), I (i : Int), .any, .any, .any, .any, .any, .any, .any, .any, .any, .any, .any, .any, .any, .any, .any, .any, .any, .any, .any, .any, .any, .any, .any, .any, .any, .any, .any, .any, .any, .any, .any, .any, .any, .any, .any, .any, .any, .any, .any, .any, .any, .any, .any, .any, .any]) (fun i => []) (fun i => l.length - i) (fun i => i ≤ l.length ∧ chOk isLevel levLe levD l i = true) 0 (by simp [chOk]) ?_ (by first | rfl | (simp [fil_zero]; done)) ?_
       (focus (exact wkI))
       intro i hi
       by_cases hlt : i < l.length
       case' pos =>
         have hP := True.intro
         obtain ⟨x, hx⟩ : ∃ x, l[i]? = some x := ⟨_, List.getElem?_eq_getElem hlt⟩
         have hg := map_get (f := TLevel.en) hx
         have ht := lt_true (f := TLevel.en) hlt
         have hn := next_ix hlt (by omega)
         have hsu := chOk_succ isLevel levLe levD l i
         rcases ch_cases isLevel levLe levD TLevel.en hx hl with ⟨hI, hk⟩ | ⟨hI, hz, hk⟩ | ⟨hI, hz, h0, hp0, hk⟩
         rotate_left 2
         generalize l.getD (i - 1) levD = p at hp0 hk
         rcases levLe_cases p x with ⟨q1, q4⟩ | ⟨q1, q2, q4⟩ | ⟨q1, q2, q4⟩
         all_goals try rw [q4] at hk
       case' neg =>
         have hQ := True.intro
         have ht := lt_false (f := TLevel.en) hlt
         have e : i = l.length := by omega
         subst e
         try rw [List.take_length])
    | with_reducible refine ifP ?_
    | with_reducible refine ifN ?_) <;> (try dsimp only))
  all_goals first
    | (have _ := hP; (refine ⟨i + 1, _, ⟨hlt, by simp_all⟩, by omega, ?_, rfl, ?_, ?_⟩; (focus (exact wkN)); (focus (exact fitsA)); (focus (exact FitsM.nil _))))
    | (have _ := hP; exact Fin.one rfl (RV.tmp (by rfl)) (clo_c _) ⟨by have hn := chOk_not (ok := isLevel) (lt := levLe) (d := levD) (n := l.length) (by simp_all : chAt isLevel levLe levD l i = false) hlt; simp_all [isLadder], rfl⟩)
    | (have _ := hQ; exact Fin.one rfl (RV.tmp (by rfl)) (clo_c _) ⟨by simp_all [isLadder], rfl⟩)
    | (exact Fin.one rfl (RV.tmp (by rfl)) (clo_c _) ⟨by simp_all [isLadder], rfl⟩)

theorem isLog_s (l : List TEntry) (hl : l.length ≤ 1048576) (hp : ∀ e ∈ l, e.feature.gd) : VCalls Tryz.prog 86 [.ro 8 (l.map TEntry.en)] (fun r M => r = B (isLog l) ∧ M = []) := by
  refine VB Tryz.func86 57 (fun E hE => ?_)
  have hclo : Clo (.ro 8 (l.map TEntry.en)) := clo_list TEntry.clo_en
  repeat' ((first
    | (refine iAL ?_; first | refine AL.any ?_ | refine AL.U ?_ | refine AL.F ?_ | refine AL.T ?_ | refine AL.W ?_ | refine AL.nil ?_)
    | ((with_reducible show DL ..); first | refine DL.any ?_ | refine DL.any (h := POp.k Tryz.func123 (hc := isFeat_s x.feature (by assumption))) ?_ | refine DL.U ?_ | refine DL.F ?_ | refine DL.T ?_ | refine DL.T (h := POp.k Tryz.func77 (hc := inr_s _ _ _)) ?_ | refine DL.W ?_ | refine DL.W (h := fun h => by (try rw [h]); exact POp.k Tryz.func77 (hc := inr_s _ _ _)) ?_ | refine DL.nil ?_)
    | (refine iAW ?_; first | (refine AW.c0 ?_; constructor) | refine AW.dr (id := 4) 42 ?_ | refine AW.cT ?_ | refine AW.cF ?_ | (refine AW.c2 ?_ ?_ <;> (intro h; try simp only [bT, bF] at h)))
    | (refine AW.loopD hE (fun i : Nat => [.ro 8 (l.map TEntry.en), .any, .any, I (i : Int), .any, .any, .any, .any, .any, .any, .any, .any, .any, .any, .any, .any, .any, .any, .any, .any, .any, .any, .any, .any, .any, .any, .any, .any, .any, .any, .any, .any, .any, .any, .any, .any, .any, .any, .any, .any, .any, .any, .any, .any, .any, .any, .any, .any, .any, .any, .any, .any, .any, .any, .any, .any, .any, .any]) (fun i => []) (fun i => l.length - i) (fun i => i ≤ l.length ∧ chOk entOk entLt entD l i = true) 0 (by simp [chOk]) ?_ (by first | rfl | (simp [fil_zero]; done)) ?_
       (focus (exact wkI))
       intro i hi
       by_cases hlt : i < l.length
       case' pos =>
         have hP := True.intro
         obtain ⟨x, hx⟩ : ∃ x, l[i]? = some x := ⟨_, List.getElem?_eq_getElem hlt⟩
         have hg := map_get (f := TEntry.en) hx
         have ht := lt_true (f := TEntry.en) hlt
         have hn := next_ix hlt (by omega)
         have hgx := hp x (List.mem_of_getElem? hx)
         have hsu := chOk_succ entOk entLt entD l i
         have hclP : Clo (.ro 2 (x.feature.points.map TPoint.en)) := clo_list TPoint.clo_en
         have hcle : Clo (.agg x.en) := Clo.agg x.clo_en
         have hclf : Clo (.agg x.feature.en) := Clo.agg x.feature.clo_en
         rcases ch_cases entOk entLt entD TEntry.en hx hl with ⟨hI, hk⟩ | ⟨hI, hz, hk⟩ | ⟨hI, hz, h0, hp0, hk⟩
         rotate_left 1
         all_goals first | obtain ⟨q1, q2, q3⟩ := entOk_t hI | rcases entOk_f hI with q1 | ⟨q1, q2⟩ | ⟨q1, q2, q3⟩
       case' neg =>
         have hQ := True.intro
         have ht := lt_false (f := TEntry.en) hlt
         have e : i = l.length := by omega
         subst e
         try rw [List.take_length])
    | with_reducible refine ifP ?_
    | with_reducible refine ifN ?_) <;> (try dsimp only))
  all_goals first
    | (have _ := hP; (refine ⟨i + 1, _, ⟨hlt, by simp_all <;> omega⟩, by omega, ?_, rfl, ?_, ?_⟩; (focus (exact wkN)); (focus (exact fitsA)); (focus (exact FitsM.nil _))))
    | (have _ := hP; exact Fin.one rfl (RV.tmp (by rfl)) (clo_c _) ⟨by have hn := chOk_not (ok := entOk) (lt := entLt) (d := entD) (n := l.length) (by simp_all <;> omega : chAt entOk entLt entD l i = false) hlt; simp_all [isLog], rfl⟩)
    | (have _ := hQ; exact Fin.one rfl (RV.tmp (by rfl)) (clo_c _) ⟨by first | (simp_all [isLog]; done) | (simp_all [isLog] <;> omega), rfl⟩)

theorem isLog_i (l : List TEntry) (hl : l.length ≤ 1048576) (hp : ∀ e ∈ l, e.feature.gd) : VCalls Tryz.prog 89 [.ro 8 (l.map TEntry.en)] (fun r M => r = B (isLog l) ∧ M = []) := by
  refine VB Tryz.func89 48 (fun E hE => ?_)
  have hclo : Clo (.ro 8 (l.map TEntry.en)) := clo_list TEntry.clo_en
  repeat' ((first
    | (refine iAL ?_; first | refine AL.any ?_ | refine AL.U ?_ | refine AL.F ?_ | refine AL.T ?_ | refine AL.W ?_ | refine AL.nil ?_)
    | ((with_reducible show DL ..); first | refine DL.any ?_ | refine DL.any (h := POp.k Tryz.func125 (hc := isFeat_i x.feature (by assumption))) ?_ | refine DL.U ?_ | refine DL.F ?_ | refine DL.T ?_ | refine DL.T (h := POp.k Tryz.func78 (hc := inr_v _ _ _)) ?_ | refine DL.W ?_ | refine DL.W (h := fun h => by (try rw [h]); exact POp.k Tryz.func78 (hc := inr_v _ _ _)) ?_ | refine DL.nil ?_)
    | (refine iAW ?_; first | (refine AW.c0 ?_; constructor) | refine AW.dr (id := 6) 30 ?_ | refine AW.cT ?_ | refine AW.cF ?_ | (refine AW.c2 ?_ ?_ <;> (intro h; try simp only [bT, bF] at h)))
    | (refine AW.loopD hE (fun i : Nat => [.ro 8 (l.map TEntry.en), .any, .any, .any, .any, .any, .any, .any, .ro 8 (l.map TEntry.en), I ((l.map TEntry.en).length : Int), I (i : Int), .any, .any, .any, .any, .any, .any, .any, .any, .any, .any, .any, .any, .any, .any, .any, .any, .any, .any, .any, .any, .any, .any, .any, .any, .any, .any, .any, .any, .any, .any, .any, .any, .any, .any, .any, .any, .any, .any]) (fun i => []) (fun i => l.length - i) (fun i => i ≤ l.length ∧ chOk entOk entLt entD l i = true) 0 (by simp [chOk]) ?_ (by first | rfl | (simp [fil_zero]; done)) ?_
       (focus (exact wkI))
       intro i hi
       by_cases hlt : i < l.length
       case' pos =>
         have hP := True.intro
         obtain ⟨x, hx⟩ : ∃ x, l[i]? = some x := ⟨_, List.getElem?_eq_getElem hlt⟩
         have hg := map_get (f := TEntry.en) hx
         have ht := lt_true (f := TEntry.en) hlt
         have hn := next_ix hlt (by omega)
         have hgx := hp x (List.mem_of_getElem? hx)
         have hsu := chOk_succ entOk entLt entD l i
         have hclP : Clo (.ro 2 (x.feature.points.map TPoint.en)) := clo_list TPoint.clo_en
         have hcle : Clo (.agg x.en) := Clo.agg x.clo_en
         have hclf : Clo (.agg x.feature.en) := Clo.agg x.feature.clo_en
         rcases ch_cases entOk entLt entD TEntry.en hx hl with ⟨hI, hk⟩ | ⟨hI, hz, hk⟩ | ⟨hI, hz, h0, hp0, hk⟩
         rotate_left 1
         all_goals first | obtain ⟨q1, q2, q3⟩ := entOk_t hI | rcases entOk_f hI with q1 | ⟨q1, q2⟩ | ⟨q1, q2, q3⟩
       case' neg =>
         have hQ := True.intro
         have ht := lt_false (f := TEntry.en) hlt
         have e : i = l.length := by omega
         subst e
         try rw [List.take_length])
    | with_reducible refine ifP ?_
    | with_reducible refine ifN ?_) <;> (try dsimp only))
  all_goals first
    | (have _ := hP; (refine ⟨i + 1, _, ⟨hlt, by simp_all <;> omega⟩, by omega, ?_, rfl, ?_, ?_⟩; (focus (exact wkN)); (focus (exact fitsA)); (focus (exact FitsM.nil _))))
    | (have _ := hP; exact Fin.one rfl (RV.tmp (by rfl)) (clo_c _) ⟨by have hn := chOk_not (ok := entOk) (lt := entLt) (d := entD) (n := l.length) (by simp_all <;> omega : chAt entOk entLt entD l i = false) hlt; simp_all [isLog], rfl⟩)
    | (have _ := hQ; exact Fin.one rfl (RV.tmp (by rfl)) (clo_c _) ⟨by first | (simp_all [isLog]; done) | (simp_all [isLog] <;> omega), rfl⟩)
    | (exact Fin.one rfl (RV.tmp (by rfl)) (clo_c _) ⟨by simp_all [isLog] <;> omega, rfl⟩)

theorem isCover_s (w g : Int) (s : ByteArray) (hs : s.size ≤ maxLen) : VCalls Tryz.prog 105 [.agg [I w, I g, S s]] (fun r M => r = B (isCover w g s) ∧ M = []) := by
  refine VB Tryz.func105 43 (fun E hE => ?_)
  rw [maxLen_eq] at hs
  repeat' ((first
    | (refine iAL ?_; first | refine AL.any ?_ | refine AL.any (h := POp.k Tryz.func77 (hc := inr_s _ _ _)) ?_ | refine AL.U ?_ | refine AL.F ?_ | refine AL.T ?_ | refine AL.T (h := POp.k Tryz.func77 (hc := inr_s _ _ _)) ?_ | refine AL.W ?_ | refine AL.W (h := fun h => by (try rw [h]); exact POp.k Tryz.func77 (hc := inr_s _ _ _)) ?_ | refine AL.nil ?_)
    | (refine iAW ?_; first | (refine AW.c0 ?_; constructor) | refine AW.cT ?_ | refine AW.cF ?_ | (refine AW.c2 ?_ ?_ <;> (intro h; try simp only [bT, bF] at h)))
    | (refine AW.loopD hE (fun i : Nat => [.agg [I w, I g, S s], .ref 0 0 3 0 0, .any, I (i : Int), .any, .any, .any, .any, .any, .any, .any, .any, .any, .any, .any, .any, .any, .any, .any, .any, .any, .any, .any, .any, .any, .any, .any, .any, .any, .any, .any, .any, .any, .any, .any, .any, .any, .any, .any, .any, .any, .any, .any, .any]) (fun i => [some ⟨30, 3, 0, true, [[I w, I g, S s]]⟩]) (fun i => s.size - i) (fun i => i ≤ s.size ∧ covTo s i = true) 0 ⟨Nat.zero_le _, by simp [covTo]⟩ ?_ (by first | rfl | (simp [fil_zero]; done)) ?_
       (focus (exact wkI))
       intro i hi
       by_cases hlt : i < s.size
       case' pos =>
         have hP := True.intro
         obtain ⟨b, hb, hb'⟩ := str_get hlt
         have ht := str_lt hlt
         have hn := next_ix hlt (by omega)
         have hc := covAt_some hb
         have hsu := covTo_succ s i
       case' neg =>
         have hQ := True.intro
         have e : i = s.size := by omega
         have ht := str_ge hlt
         subst e)
    | with_reducible refine ifP ?_
    | with_reducible refine ifN ?_) <;> (try dsimp only))
  all_goals first
    | (have _ := hP; (refine ⟨i + 1, [], ⟨hlt, by simp_all⟩, by omega, ?_, rfl, ?_, ?_⟩; (focus (exact wkN)); (focus (exact fitsA)); (focus (exact fits_row (clo_rows_b rfl)))))
    | (have _ := hP; exact Fin.one rfl (RV.tmp (by rfl)) (clo_c _) ⟨by have hn := covTo_not (n := s.size) (by simp_all : covAt s i = false) hlt; simp_all [isCover], rfl⟩)
    | (have _ := hQ; exact Fin.one rfl (RV.tmp (by rfl)) (clo_c _) ⟨by simp_all [isCover], rfl⟩)
    | (exact Fin.one rfl (RV.tmp (by rfl)) (clo_c _) ⟨by simp only [isCover]; revert h; cases inr w 1 6 <;> cases inr g 1 6 <;> simp <;> simp_all, rfl⟩)

theorem isCover_i (w g : Int) (s : ByteArray) (hs : s.size ≤ maxLen) : VCalls Tryz.prog 108 [.agg [I w, I g, S s]] (fun r M => r = B (isCover w g s) ∧ M = []) := by
  refine VB Tryz.func108 43 (fun E hE => ?_)
  rw [maxLen_eq] at hs
  repeat' ((first
    | (refine iAL ?_; first | refine AL.any ?_ | refine AL.any (h := POp.k Tryz.func78 (hc := inr_v _ _ _)) ?_ | refine AL.U ?_ | refine AL.F ?_ | refine AL.T ?_ | refine AL.T (h := POp.k Tryz.func78 (hc := inr_v _ _ _)) ?_ | refine AL.W ?_ | refine AL.W (h := fun h => by (try rw [h]); exact POp.k Tryz.func78 (hc := inr_v _ _ _)) ?_ | refine AL.nil ?_)
    | (refine iAW ?_; first | (refine AW.c0 ?_; constructor) | refine AW.cT ?_ | refine AW.cF ?_ | (refine AW.c2 ?_ ?_ <;> (intro h; try simp only [bT, bF] at h)))
    | (refine AW.loopD hE (fun i : Nat => [.agg [I w, I g, S s], .ref 0 0 3 0 0, .any, .any, .any, .any, .any, .any, .any, .any, .any, .any, .any, .any, .any, .any, .any, .any, .any, .any, .any, .any, .any, .any, .any, .any, .any, I (s.size : Int), I (i : Int), .any, .any, .any, .any, .any, .any, .any, .any, .any, .any, .any, .any, .any, .any, .any]) (fun i => [some ⟨30, 3, 0, true, [[I w, I g, S s]]⟩]) (fun i => s.size - i) (fun i => i ≤ s.size ∧ covTo s i = true) 0 ⟨Nat.zero_le _, by simp [covTo]⟩ ?_ (by first | rfl | (simp [fil_zero]; done)) ?_
       (focus (exact wkI))
       intro i hi
       by_cases hlt : i < s.size
       case' pos =>
         have hP := True.intro
         obtain ⟨b, hb, hb'⟩ := str_get hlt
         have ht := str_lt hlt
         have hn := next_ix hlt (by omega)
         have hc := covAt_some hb
         have hsu := covTo_succ s i
       case' neg =>
         have hQ := True.intro
         have e : i = s.size := by omega
         have ht := str_ge hlt
         subst e)
    | with_reducible refine ifP ?_
    | with_reducible refine ifN ?_) <;> (try dsimp only))
  all_goals first
    | (have _ := hP; (refine ⟨i + 1, [], ⟨hlt, by simp_all⟩, by omega, ?_, rfl, ?_, ?_⟩; (focus (exact wkN)); (focus (exact fitsA)); (focus (exact fits_row (clo_rows_b rfl)))))
    | (have _ := hP; exact Fin.one rfl (RV.tmp (by rfl)) (clo_c _) ⟨by have hn := covTo_not (n := s.size) (by simp_all : covAt s i = false) hlt; simp_all [isCover], rfl⟩)
    | (have _ := hQ; exact Fin.one rfl (RV.tmp (by rfl)) (clo_c _) ⟨by simp_all [isCover], rfl⟩)
    | (exact Fin.one rfl (RV.tmp (by rfl)) (clo_c _) ⟨by simp only [isCover]; revert h; cases inr w 1 6 <;> cases inr g 1 6 <;> simp <;> simp_all, rfl⟩)

theorem areEd_s (l : List TEdition) (hl : l.length ≤ 1048576) (hp : ∀ e ∈ l, e.source.length ≤ 1048576 ∧ ∀ x ∈ e.source, x.gd) : VCalls Tryz.prog 104 [.ro 3 (l.map TEdition.en)] (fun r M => r = B (areEd l) ∧ M = []) := by
  refine VB Tryz.func104 73 (fun E hE => ?_)
  have hclo : Clo (.ro 3 (l.map TEdition.en)) := clo_list TEdition.clo_en
  repeat' ((first
    | (refine iAL ?_; first | refine AL.any ?_ | refine AL.any (h := POp.k Tryz.func118 (hc := seal_s (prevSeal l i) x.tick x.source (by assumption) (by assumption))) ?_ | refine AL.U ?_ | refine AL.F ?_ | refine AL.T ?_ | refine AL.W ?_ | refine AL.nil ?_)
    | ((with_reducible show DL ..); first | refine DL.any ?_ | refine DL.any (h := POp.k Tryz.func77 (hc := inr_s _ _ _)) ?_ | refine DL.U ?_ | refine DL.F ?_ | refine DL.T ?_ | refine DL.T (h := POp.k Tryz.func133 (hc := isSource_s x.source (by assumption) (by assumption))) ?_ | refine DL.W ?_ | refine DL.W (h := fun h => by (try rw [h]); exact POp.k Tryz.func133 (hc := isSource_s x.source (by assumption) (by assumption))) ?_ | refine DL.nil ?_)
    | (refine iAW ?_; first | (refine AW.c0 ?_; constructor) | refine AW.dr (id := 5) 11 ?_ | refine AW.dr (id := 6) 40 ?_ | refine AW.cT ?_ | refine AW.cF ?_ | (refine AW.c2 ?_ ?_ <;> (intro h; try simp only [bT, bF] at h)))
    | (refine AW.loopD hE (fun i : Nat => (.ro 3 (l.map TEdition.en) :: .any :: .any :: I (prevSeal l i) :: I (i : Int) :: .any :: .any :: .any :: .any :: .any :: .any :: .any :: .any :: .any :: .any :: .any :: .any :: .any :: .any :: .any :: .any :: .any :: .any :: .any :: .any :: .any :: .any :: .any :: .any :: .any :: .any :: .any :: .any :: .any :: .any :: .any :: .any :: .any :: .any :: .any :: .any :: .any :: .any :: .any :: .any :: .any :: .any :: .any :: .any :: .any :: .any :: .any :: .any :: .any :: .any :: .any :: .any :: .any :: .any :: .any :: .any :: .any :: .any :: .any :: .any :: .any :: .any :: .any :: .any :: .any :: .any :: .any :: .any :: .any :: [])) (fun i => []) (fun i => nEd l - i) (fun i => i ≤ nEd l ∧ edTo l i = true) 0 ⟨Nat.zero_le _, by simp [edTo]⟩ ?_ (by first | rfl | (simp [fil_zero]; done)) ?_
       (focus ((repeat' (first | exact Wk.nil | refine Wk.any ?_ | (with_reducible refine Wk.same ?_) | refine Wk.of ?_ ?_)) <;> first | rfl | (simp [prevSeal])))
       intro i hi
       by_cases hlt : i < nEd l
       case' pos =>
         have hP := True.intro
         obtain ⟨hN, hE6⟩ := nEd_t hlt
         obtain ⟨x, hx⟩ : ∃ x, l[i]? = some x := ⟨_, List.getElem?_eq_getElem (by omega)⟩
         have hg := map_get (f := TEdition.en) hx
         have ht : (decide ((i : Int) < ((l.map TEdition.en).length : Int)) && decide (((l.map TEdition.en).length : Int) ≤ 6)) = true := by simp; omega
         have hn := next_ix hlt (by omega)
         obtain ⟨hsl, hsx⟩ := hp x (List.mem_of_getElem? hx)
         have hsu := edTo_succ l i
         have hps := prevSeal_succ hx
         have hclS : Clo (.ro 5 (x.source.map TFeature.en)) := clo_list TFeature.clo_en
         have hcle : Clo (.agg x.en) := Clo.agg x.clo_en
         rcases ed_cases hx hl with ⟨q1, hk⟩ | ⟨q1, hz, ⟨q2, hk⟩ | ⟨q2, q3, hk⟩ | ⟨q2, q3, hk⟩⟩ | ⟨p, q1, hz, h0, hp0, ⟨q4, hk, q2 | ⟨q2, q3⟩ | ⟨q2, q3⟩⟩ | ⟨q4, ⟨q2, hk⟩ | ⟨q2, q3, hk⟩ | ⟨q2, q3, hk⟩⟩⟩
       case' neg =>
         have hQ := True.intro
         have e : i = nEd l := by omega
         have ht : (decide ((i : Int) < ((l.map TEdition.en).length : Int)) && decide (((l.map TEdition.en).length : Int) ≤ 6)) = false := by
           rw [e]
           unfold nEd
           split
           · simp
           · simp; omega
         subst e)
    | with_reducible refine ifP ?_
    | with_reducible refine ifN ?_) <;> (try dsimp only))
  all_goals first
    | (have _ := hP; (refine ⟨i + 1, _, ⟨hlt, by simp_all⟩, by omega, ?_, rfl, ?_, ?_⟩; (focus ((repeat' (first | exact Wk.nil | refine Wk.any ?_ | (with_reducible refine Wk.same ?_) | refine Wk.of ?_ ?_)) <;> (first | rfl | (simp_all [hps]; done) | simp_all))); (focus (exact fitsA)); (focus (exact FitsM.nil _))))
    | (have _ := hP; exact Fin.one rfl (RV.tmp (by rfl)) (clo_c _) ⟨by have hn := edTo_not (n := l.length) (by simp_all : edAt l i = false) (by omega); simp_all [areEd], rfl⟩)
    | (have _ := hQ; exact Fin.one rfl (RV.tmp (by rfl)) (clo_c _) ⟨by have h2 := hi.2; unfold nEd at h2; unfold areEd; split at h2 <;> simp_all <;> omega, rfl⟩)

theorem areEd_i (l : List TEdition) (hl : l.length ≤ 1048576) (hp : ∀ e ∈ l, e.source.length ≤ 1048576 ∧ ∀ x ∈ e.source, x.gd) : VCalls Tryz.prog 107 [.ro 3 (l.map TEdition.en)] (fun r M => r = B (areEd l) ∧ M = []) := by
  refine VB Tryz.func107 54 (fun E hE => ?_)
  have hclo : Clo (.ro 3 (l.map TEdition.en)) := clo_list TEdition.clo_en
  repeat' ((first
    | (refine iAL ?_; first | refine AL.any ?_ | refine AL.U ?_ | refine AL.F ?_ | refine AL.T ?_ | refine AL.W ?_ | refine AL.nil ?_)
    | ((with_reducible show DL ..); first | refine DL.any ?_ | refine DL.any (h := POp.k Tryz.func78 (hc := inr_v _ _ _)) ?_ | refine DL.U ?_ | refine DL.F ?_ | refine DL.T ?_ | refine DL.T (h := POp.k Tryz.func121 (hc := seal_i (prevSeal l i) x.tick x.source (by assumption) (by assumption))) ?_ | refine DL.T (h := POp.k Tryz.func135 (hc := isSource_i x.source (by assumption) (by assumption))) ?_ | refine DL.W ?_ | refine DL.W (h := fun h => by (try rw [h]); exact POp.k Tryz.func121 (hc := seal_i (prevSeal l i) x.tick x.source (by assumption) (by assumption))) ?_ | refine DL.W (h := fun h => by (try rw [h]); exact POp.k Tryz.func135 (hc := isSource_i x.source (by assumption) (by assumption))) ?_ | refine DL.nil ?_)
    | (refine iAW ?_; first | (refine AW.c0 ?_; constructor) | refine AW.dr (id := 7) 34 ?_ | refine AW.cT ?_ | refine AW.cF ?_ | (refine AW.c2 ?_ ?_ <;> (intro h; try simp only [bT, bF] at h)))
    | (refine AW.loopD hE (fun i : Nat => [.ro 3 (l.map TEdition.en), .any, .any, I (prevSeal l i), .any, .any, .any, .any, .any, .ro 3 (l.map TEdition.en), I ((l.map TEdition.en).length : Int), I (i : Int), .any, .any, .any, .any, .any, .any, .any, .any, .any, .any, .any, .any, .any, .any, .any, .any, .any, .any, .any, .any, .any, .any, .any, .any, .any, .any, .any, .any, .any, .any, .any, .any, .any, .any, .any, .any, .any, .any, .any, .any, .any, .any, .any]) (fun i => []) (fun i => l.length - i) (fun i => i ≤ l.length ∧ edTo l i = true) 0 (by simp [edTo]) ?_ (by first | rfl | (simp [fil_zero]; done)) ?_
       (focus ((repeat' (first | exact Wk.nil | refine Wk.any ?_ | (with_reducible refine Wk.same ?_) | refine Wk.of ?_ ?_)) <;> first | rfl | (simp [prevSeal])))
       intro i hi
       by_cases hlt : i < l.length
       case' pos =>
         have hP := True.intro
         obtain ⟨x, hx⟩ : ∃ x, l[i]? = some x := ⟨_, List.getElem?_eq_getElem hlt⟩
         have hg := map_get (f := TEdition.en) hx
         have ht := lt_true (f := TEdition.en) hlt
         have hn := next_ix hlt (by omega)
         obtain ⟨hsl, hsx⟩ := hp x (List.mem_of_getElem? hx)
         have hsu := edTo_succ l i
         have hps := prevSeal_succ hx
         have hclS : Clo (.ro 5 (x.source.map TFeature.en)) := clo_list TFeature.clo_en
         have hcle : Clo (.agg x.en) := Clo.agg x.clo_en
         rcases ed_cases hx hl with ⟨q1, hk⟩ | ⟨q1, hz, ⟨q2, hk⟩ | ⟨q2, q3, hk⟩ | ⟨q2, q3, hk⟩⟩ | ⟨p, q1, hz, h0, hp0, ⟨q4, hk, q2 | ⟨q2, q3⟩ | ⟨q2, q3⟩⟩ | ⟨q4, ⟨q2, hk⟩ | ⟨q2, q3, hk⟩ | ⟨q2, q3, hk⟩⟩⟩
       case' neg =>
         have hQ := True.intro
         have ht := lt_false (f := TEdition.en) hlt
         have e : i = l.length := by omega
         subst e
         try rw [List.take_length])
    | with_reducible refine ifP ?_
    | with_reducible refine ifN ?_) <;> (try dsimp only))
  all_goals first
    | (have _ := hP; (refine ⟨i + 1, _, ⟨hlt, by simp_all⟩, by omega, ?_, rfl, ?_, ?_⟩; (focus ((repeat' (first | exact Wk.nil | refine Wk.any ?_ | (with_reducible refine Wk.same ?_) | refine Wk.of ?_ ?_)) <;> (first | rfl | (simp_all [hps]; done) | simp_all))); (focus (exact fitsA)); (focus (exact FitsM.nil _))))
    | (have _ := hP; exact Fin.one rfl (RV.tmp (by rfl)) (clo_c _) ⟨by have hn := edTo_not (n := l.length) (by simp_all : edAt l i = false) (by omega); simp_all [areEd], rfl⟩)
    | (have _ := hQ; exact Fin.one rfl (RV.tmp (by rfl)) (clo_c _) ⟨by first | (simp_all [areEd]; done) | (simp_all [areEd] <;> omega), rfl⟩)
    | (exact Fin.one rfl (RV.tmp (by rfl)) (clo_c _) ⟨by simp_all [areEd] <;> omega, rfl⟩)

theorem isAtl_s (a : TAtlas) (hgd : a.gd) : VCalls Tryz.prog 61 [.agg a.en] (fun r M => r = B (isAtl a) ∧ M = []) := by
  refine VB Tryz.func61 59 (fun E hE => ?_)
  have hclL : Clo (.ro 8 (a.log.map TEntry.en)) := clo_list TEntry.clo_en
  have hclV : Clo (.ro 3 (a.levels.map TLevel.en)) := clo_list TLevel.clo_en
  have hclE : Clo (.ro 3 (a.editions.map TEdition.en)) := clo_list TEdition.clo_en
  have hclA : Clo (.agg a.en) := Clo.agg a.clo_en
  obtain ⟨⟨g1, g2⟩, g3, ⟨g4, g5⟩, g6⟩ := id hgd
  dsimp only [TAtlas.en]
  repeat' ((first
    | (refine iAL ?_; first | refine AL.any ?_ | refine AL.any (h := POp.k Tryz.func86 (hc := isLog_s a.log g1 g2)) ?_ | refine AL.U ?_ | refine AL.F ?_ | refine AL.T ?_ | refine AL.T (h := POp.k Tryz.func77 (hc := inr_s _ _ _)) ?_ | refine AL.T (h := POp.k Tryz.func103 (hc := isLadder_s a.levels g3)) ?_ | refine AL.T (h := POp.k Tryz.func104 (hc := areEd_s a.editions g4 g5)) ?_ | refine AL.T (h := POp.k Tryz.func105 (hc := isCover_s a.cover.w a.cover.h a.cover.cells g6)) ?_ | refine AL.W ?_ | refine AL.W (h := fun h => by (try rw [h]); exact POp.k Tryz.func77 (hc := inr_s _ _ _)) ?_ | refine AL.W (h := fun h => by (try rw [h]); exact POp.k Tryz.func103 (hc := isLadder_s a.levels g3)) ?_ | refine AL.W (h := fun h => by (try rw [h]); exact POp.k Tryz.func104 (hc := areEd_s a.editions g4 g5)) ?_ | refine AL.W (h := fun h => by (try rw [h]); exact POp.k Tryz.func105 (hc := isCover_s a.cover.w a.cover.h a.cover.cells g6)) ?_ | refine AL.nil ?_)
    | ((with_reducible show DL ..); first | refine DL.any ?_ | refine DL.nil ?_)
    | (refine iAW ?_; first | (refine AW.c0 ?_; constructor) | (refine AW.loopD hE (fun i : Nat => [.any, .ref 0 0 7 0 0, .any, I (i : Int), .any, .any, .any, .any, .any, .any, .any, .any, .any, .any, .any, .any, .any, .any, .any, .any, .any, .any, .any, .any, .any, .any, .any, .any, .any, .any, .any, .any, .any, .any, .any, .any, .any, .any, .any, .any, .any, .any, .any, .any, .any, .any, .any, .any, .any, .any, .any, .any, .any, .any, .any, .any, .any, .any, .any, .any]) (fun i => [some ⟨32, 7, 0, true, [a.en]⟩]) (fun i => a.log.length - i) (fun i => i ≤ a.log.length ∧ ticks TEntry.tick a.now a.log i = true) 0 ⟨Nat.zero_le _, by simp [ticks]⟩ ?_ (by first | rfl | (simp; done)) ?_) | refine AW.dr (id := 4) 8 ?_ | refine AW.dr (id := 9) 8 ?_ | refine AW.cT ?_ | refine AW.cF ?_ | (refine AW.c2 ?_ ?_ <;> (intro h; try simp only [bT, bF] at h)))
    | with_reducible refine ifP ?_
    | with_reducible refine ifN ?_) <;> (try dsimp only))
  · (repeat' (first | exact Wk.nil | refine Wk.any ?_ | (with_reducible refine Wk.same ?_) | refine Wk.of ?_ ?_)) <;> first | rfl | (simp; done)
  · intro i hv_i
    by_cases hlt_i : i < a.log.length
    · skip
      obtain ⟨x, hx⟩ : ∃ x, a.log[i]? = some x := ⟨_, List.getElem?_eq_getElem hlt_i⟩
      have hg := map_get (f := TEntry.en) hx
      have ht := lt_true (f := TEntry.en) hlt_i
      have hn := next_ix hlt_i (by omega)
      have hsu := ticks_succ (tk := TEntry.tick) (now := a.now) hx
      have hno := ticks_not (tk := TEntry.tick) (now := a.now) hx
      have hcle : Clo (.agg x.en) := Clo.agg x.clo_en
      repeat' ((first
        | (refine iAL ?_; first | refine AL.any ?_ | refine AL.any (h := POp.k Tryz.func86 (hc := isLog_s a.log g1 g2)) ?_ | refine AL.U ?_ | refine AL.F ?_ | refine AL.T ?_ | refine AL.T (h := POp.k Tryz.func77 (hc := inr_s _ _ _)) ?_ | refine AL.T (h := POp.k Tryz.func103 (hc := isLadder_s a.levels g3)) ?_ | refine AL.T (h := POp.k Tryz.func104 (hc := areEd_s a.editions g4 g5)) ?_ | refine AL.T (h := POp.k Tryz.func105 (hc := isCover_s a.cover.w a.cover.h a.cover.cells g6)) ?_ | refine AL.W ?_ | refine AL.W (h := fun h => by (try rw [h]); exact POp.k Tryz.func77 (hc := inr_s _ _ _)) ?_ | refine AL.W (h := fun h => by (try rw [h]); exact POp.k Tryz.func103 (hc := isLadder_s a.levels g3)) ?_ | refine AL.W (h := fun h => by (try rw [h]); exact POp.k Tryz.func104 (hc := areEd_s a.editions g4 g5)) ?_ | refine AL.W (h := fun h => by (try rw [h]); exact POp.k Tryz.func105 (hc := isCover_s a.cover.w a.cover.h a.cover.cells g6)) ?_ | refine AL.nil ?_)
        | ((with_reducible show DL ..); first | refine DL.any ?_ | refine DL.nil ?_)
        | (refine iAW ?_; first | (refine AW.c0 ?_; constructor) | refine AW.dr (id := 4) 8 ?_ | refine AW.dr (id := 9) 8 ?_ | refine AW.cT ?_ | refine AW.cF ?_ | (refine AW.c2 ?_ ?_ <;> (intro h; try simp only [bT, bF] at h)))
        | with_reducible refine ifP ?_
        | with_reducible refine ifN ?_) <;> (try dsimp only))
      all_goals first
        | (refine ⟨i + 1, _, ⟨hlt_i, by simp_all⟩, by omega, ?_, rfl, ?_, ?_⟩; (focus ((repeat' (first | exact Wk.nil | refine Wk.any ?_ | (with_reducible refine Wk.same ?_) | refine Wk.of ?_ ?_)) <;> (simp_all))); (focus (exact fitsA)); (focus (exact fitsM_cons (clo_one a.clo_en) (FitsM.nil _))))
        | exact Fin.one rfl (RV.tmp (by rfl)) (clo_c _) ⟨by have hf := hno (by assumption); simp_all [isAtl], rfl⟩
    · have e_i : i = a.log.length := by omega
      have ht := lt_false (f := TEntry.en) (show ¬ i < a.log.length by omega)
      subst e_i
      repeat' ((first
        | (refine iAL ?_; first | refine AL.any ?_ | refine AL.any (h := POp.k Tryz.func86 (hc := isLog_s a.log g1 g2)) ?_ | refine AL.U ?_ | refine AL.F ?_ | refine AL.T ?_ | refine AL.T (h := POp.k Tryz.func77 (hc := inr_s _ _ _)) ?_ | refine AL.T (h := POp.k Tryz.func103 (hc := isLadder_s a.levels g3)) ?_ | refine AL.T (h := POp.k Tryz.func104 (hc := areEd_s a.editions g4 g5)) ?_ | refine AL.T (h := POp.k Tryz.func105 (hc := isCover_s a.cover.w a.cover.h a.cover.cells g6)) ?_ | refine AL.W ?_ | refine AL.W (h := fun h => by (try rw [h]); exact POp.k Tryz.func77 (hc := inr_s _ _ _)) ?_ | refine AL.W (h := fun h => by (try rw [h]); exact POp.k Tryz.func103 (hc := isLadder_s a.levels g3)) ?_ | refine AL.W (h := fun h => by (try rw [h]); exact POp.k Tryz.func104 (hc := areEd_s a.editions g4 g5)) ?_ | refine AL.W (h := fun h => by (try rw [h]); exact POp.k Tryz.func105 (hc := isCover_s a.cover.w a.cover.h a.cover.cells g6)) ?_ | refine AL.nil ?_)
        | ((with_reducible show DL ..); first | refine DL.any ?_ | refine DL.nil ?_)
        | (refine iAW ?_; first | (refine AW.c0 ?_; constructor) | (refine AW.loopD hE (fun k : Nat => [.any, .ref 0 0 7 0 0, .any, .any, I (k : Int), .any, .any, .any, .any, .any, .any, .any, .any, .any, .any, .any, .any, .any, .any, .any, .any, .any, .any, .any, .any, .any, .any, .any, .any, .any, .any, .any, .any, .any, .any, .any, .any, .any, .any, .any, .any, .any, .any, .any, .any, .any, .any, .any, .any, .any, .any, .any, .any, .any, .any, .any, .any, .any, .any, .any]) (fun k => [some ⟨32, 7, 0, true, [a.en]⟩]) (fun k => a.editions.length - k) (fun k => k ≤ a.editions.length ∧ ticks TEdition.tick a.now a.editions k = true) 0 ⟨Nat.zero_le _, by simp [ticks]⟩ ?_ (by first | rfl | (simp; done)) ?_) | refine AW.dr (id := 4) 8 ?_ | refine AW.dr (id := 9) 8 ?_ | refine AW.cT ?_ | refine AW.cF ?_ | (refine AW.c2 ?_ ?_ <;> (intro h; try simp only [bT, bF] at h)))
        | with_reducible refine ifP ?_
        | with_reducible refine ifN ?_) <;> (try dsimp only))
      · (repeat' (first | exact Wk.nil | refine Wk.any ?_ | (with_reducible refine Wk.same ?_) | refine Wk.of ?_ ?_)) <;> first | rfl | (simp; done)
      · intro k hv_k
        by_cases hlt_k : k < a.editions.length
        · skip
          obtain ⟨x, hx⟩ : ∃ x, a.editions[k]? = some x := ⟨_, List.getElem?_eq_getElem hlt_k⟩
          have hg := map_get (f := TEdition.en) hx
          have ht := lt_true (f := TEdition.en) hlt_k
          have hn := next_ix hlt_k (by omega)
          have hsu := ticks_succ (tk := TEdition.tick) (now := a.now) hx
          have hno := ticks_not (tk := TEdition.tick) (now := a.now) hx
          have hcle : Clo (.agg x.en) := Clo.agg x.clo_en
          repeat' ((first
            | (refine iAL ?_; first | refine AL.any ?_ | refine AL.any (h := POp.k Tryz.func86 (hc := isLog_s a.log g1 g2)) ?_ | refine AL.U ?_ | refine AL.F ?_ | refine AL.T ?_ | refine AL.T (h := POp.k Tryz.func77 (hc := inr_s _ _ _)) ?_ | refine AL.T (h := POp.k Tryz.func103 (hc := isLadder_s a.levels g3)) ?_ | refine AL.T (h := POp.k Tryz.func104 (hc := areEd_s a.editions g4 g5)) ?_ | refine AL.T (h := POp.k Tryz.func105 (hc := isCover_s a.cover.w a.cover.h a.cover.cells g6)) ?_ | refine AL.W ?_ | refine AL.W (h := fun h => by (try rw [h]); exact POp.k Tryz.func77 (hc := inr_s _ _ _)) ?_ | refine AL.W (h := fun h => by (try rw [h]); exact POp.k Tryz.func103 (hc := isLadder_s a.levels g3)) ?_ | refine AL.W (h := fun h => by (try rw [h]); exact POp.k Tryz.func104 (hc := areEd_s a.editions g4 g5)) ?_ | refine AL.W (h := fun h => by (try rw [h]); exact POp.k Tryz.func105 (hc := isCover_s a.cover.w a.cover.h a.cover.cells g6)) ?_ | refine AL.nil ?_)
            | ((with_reducible show DL ..); first | refine DL.any ?_ | refine DL.nil ?_)
            | (refine iAW ?_; first | (refine AW.c0 ?_; constructor) | refine AW.dr (id := 4) 8 ?_ | refine AW.dr (id := 9) 8 ?_ | refine AW.cT ?_ | refine AW.cF ?_ | (refine AW.c2 ?_ ?_ <;> (intro h; try simp only [bT, bF] at h)))
            | with_reducible refine ifP ?_
            | with_reducible refine ifN ?_) <;> (try dsimp only))
          all_goals first
            | (refine ⟨k + 1, _, ⟨hlt_k, by simp_all⟩, by omega, ?_, rfl, ?_, ?_⟩; (focus ((repeat' (first | exact Wk.nil | refine Wk.any ?_ | (with_reducible refine Wk.same ?_) | refine Wk.of ?_ ?_)) <;> (simp_all))); (focus (exact fitsA)); (focus (exact fitsM_cons (clo_one a.clo_en) (FitsM.nil _))))
            | exact Fin.one rfl (RV.tmp (by rfl)) (clo_c _) ⟨by have hf := hno (by assumption); simp_all [isAtl], rfl⟩
        · have e_k : k = a.editions.length := by omega
          have ht := lt_false (f := TEdition.en) (show ¬ k < a.editions.length by omega)
          subst e_k
          repeat' ((first
            | (refine iAL ?_; first | refine AL.any ?_ | refine AL.any (h := POp.k Tryz.func86 (hc := isLog_s a.log g1 g2)) ?_ | refine AL.U ?_ | refine AL.F ?_ | refine AL.T ?_ | refine AL.T (h := POp.k Tryz.func77 (hc := inr_s _ _ _)) ?_ | refine AL.T (h := POp.k Tryz.func103 (hc := isLadder_s a.levels g3)) ?_ | refine AL.T (h := POp.k Tryz.func104 (hc := areEd_s a.editions g4 g5)) ?_ | refine AL.T (h := POp.k Tryz.func105 (hc := isCover_s a.cover.w a.cover.h a.cover.cells g6)) ?_ | refine AL.W ?_ | refine AL.W (h := fun h => by (try rw [h]); exact POp.k Tryz.func77 (hc := inr_s _ _ _)) ?_ | refine AL.W (h := fun h => by (try rw [h]); exact POp.k Tryz.func103 (hc := isLadder_s a.levels g3)) ?_ | refine AL.W (h := fun h => by (try rw [h]); exact POp.k Tryz.func104 (hc := areEd_s a.editions g4 g5)) ?_ | refine AL.W (h := fun h => by (try rw [h]); exact POp.k Tryz.func105 (hc := isCover_s a.cover.w a.cover.h a.cover.cells g6)) ?_ | refine AL.nil ?_)
            | ((with_reducible show DL ..); first | refine DL.any ?_ | refine DL.nil ?_)
            | (refine iAW ?_; first | (refine AW.c0 ?_; constructor) | refine AW.dr (id := 4) 8 ?_ | refine AW.dr (id := 9) 8 ?_ | refine AW.cT ?_ | refine AW.cF ?_ | (refine AW.c2 ?_ ?_ <;> (intro h; try simp only [bT, bF] at h)))
            | with_reducible refine ifP ?_
            | with_reducible refine ifN ?_) <;> (try dsimp only))
          all_goals first
            | exact Fin.one rfl (RV.tmp (by rfl)) (clo_c _) ⟨by simp_all [isAtl, atlIn], rfl⟩

theorem isAtl_i (a : TAtlas) (hgd : a.gd) : VCalls Tryz.prog 64 [.agg a.en] (fun r M => r = B (isAtl a) ∧ M = []) := by
  refine VB Tryz.func64 60 (fun E hE => ?_)
  have hclL : Clo (.ro 8 (a.log.map TEntry.en)) := clo_list TEntry.clo_en
  have hclV : Clo (.ro 3 (a.levels.map TLevel.en)) := clo_list TLevel.clo_en
  have hclE : Clo (.ro 3 (a.editions.map TEdition.en)) := clo_list TEdition.clo_en
  have hclA : Clo (.agg a.en) := Clo.agg a.clo_en
  obtain ⟨⟨g1, g2⟩, g3, ⟨g4, g5⟩, g6⟩ := id hgd
  dsimp only [TAtlas.en]
  repeat' ((first
    | (refine iAL ?_; first | refine AL.any ?_ | refine AL.any (h := POp.k Tryz.func89 (hc := isLog_i a.log g1 g2)) ?_ | refine AL.U ?_ | refine AL.F ?_ | refine AL.T ?_ | refine AL.T (h := POp.k Tryz.func78 (hc := inr_v _ _ _)) ?_ | refine AL.T (h := POp.k Tryz.func106 (hc := isLadder_i a.levels g3)) ?_ | refine AL.T (h := POp.k Tryz.func107 (hc := areEd_i a.editions g4 g5)) ?_ | refine AL.T (h := POp.k Tryz.func108 (hc := isCover_i a.cover.w a.cover.h a.cover.cells g6)) ?_ | refine AL.W ?_ | refine AL.W (h := fun h => by (try rw [h]); exact POp.k Tryz.func78 (hc := inr_v _ _ _)) ?_ | refine AL.W (h := fun h => by (try rw [h]); exact POp.k Tryz.func106 (hc := isLadder_i a.levels g3)) ?_ | refine AL.W (h := fun h => by (try rw [h]); exact POp.k Tryz.func107 (hc := areEd_i a.editions g4 g5)) ?_ | refine AL.W (h := fun h => by (try rw [h]); exact POp.k Tryz.func108 (hc := isCover_i a.cover.w a.cover.h a.cover.cells g6)) ?_ | refine AL.nil ?_)
    | (refine iAW ?_; first | (refine AW.c0 ?_; constructor) | (refine AW.loopD hE (fun i : Nat => [.any, .ref 0 0 7 0 0, .any, .any, .any, .any, .any, .any, .any, .any, .any, .any, .any, .any, .any, .any, .any, .any, .any, .any, .any, .any, .any, .any, .any, .any, .any, .any, .any, .any, .any, .any, .any, .any, .any, .any, .ro 8 (a.log.map TEntry.en), I ((a.log.map TEntry.en).length : Int), I (i : Int), .any, .any, .any, .any, .any, .any, .any, .any, .any, .any, .any, .any, .any, .any, .any, .any, .any, .any, .any, .any, .any, .any]) (fun i => [some ⟨32, 7, 0, true, [a.en]⟩]) (fun i => a.log.length - i) (fun i => i ≤ a.log.length ∧ ticks TEntry.tick a.now a.log i = true) 0 ⟨Nat.zero_le _, by simp [ticks]⟩ ?_ (by first | rfl | (simp; done)) ?_) | refine AW.cT ?_ | refine AW.cF ?_ | (refine AW.c2 ?_ ?_ <;> (intro h; try simp only [bT, bF] at h)))
    | with_reducible refine ifP ?_
    | with_reducible refine ifN ?_) <;> (try dsimp only))
  any_goals first | exact Fin.one rfl (RV.tmp (by rfl)) (clo_c _) ⟨by rw [atl_f (by assumption)], rfl⟩
  · (repeat' (first | exact Wk.nil | refine Wk.any ?_ | (with_reducible refine Wk.same ?_) | refine Wk.of ?_ ?_)) <;> first | rfl | (simp; done)
  · intro i hv_i
    by_cases hlt_i : i < a.log.length
    · skip
      obtain ⟨x, hx⟩ : ∃ x, a.log[i]? = some x := ⟨_, List.getElem?_eq_getElem hlt_i⟩
      have hg := map_get (f := TEntry.en) hx
      have ht := lt_true (f := TEntry.en) hlt_i
      have hn := next_ix hlt_i (by omega)
      have hsu := ticks_succ (tk := TEntry.tick) (now := a.now) hx
      have hno := ticks_not (tk := TEntry.tick) (now := a.now) hx
      have hcle : Clo (.agg x.en) := Clo.agg x.clo_en
      repeat' ((first
        | (refine iAL ?_; first | refine AL.any ?_ | refine AL.any (h := POp.k Tryz.func89 (hc := isLog_i a.log g1 g2)) ?_ | refine AL.U ?_ | refine AL.F ?_ | refine AL.T ?_ | refine AL.T (h := POp.k Tryz.func78 (hc := inr_v _ _ _)) ?_ | refine AL.T (h := POp.k Tryz.func106 (hc := isLadder_i a.levels g3)) ?_ | refine AL.T (h := POp.k Tryz.func107 (hc := areEd_i a.editions g4 g5)) ?_ | refine AL.T (h := POp.k Tryz.func108 (hc := isCover_i a.cover.w a.cover.h a.cover.cells g6)) ?_ | refine AL.W ?_ | refine AL.W (h := fun h => by (try rw [h]); exact POp.k Tryz.func78 (hc := inr_v _ _ _)) ?_ | refine AL.W (h := fun h => by (try rw [h]); exact POp.k Tryz.func106 (hc := isLadder_i a.levels g3)) ?_ | refine AL.W (h := fun h => by (try rw [h]); exact POp.k Tryz.func107 (hc := areEd_i a.editions g4 g5)) ?_ | refine AL.W (h := fun h => by (try rw [h]); exact POp.k Tryz.func108 (hc := isCover_i a.cover.w a.cover.h a.cover.cells g6)) ?_ | refine AL.nil ?_)
        | (refine iAW ?_; first | (refine AW.c0 ?_; constructor) | refine AW.cT ?_ | refine AW.cF ?_ | (refine AW.c2 ?_ ?_ <;> (intro h; try simp only [bT, bF] at h)))
        | with_reducible refine ifP ?_
        | with_reducible refine ifN ?_) <;> (try dsimp only))
      all_goals first
        | (refine ⟨i + 1, _, ⟨hlt_i, by simp_all⟩, by omega, ?_, rfl, ?_, ?_⟩; (focus ((repeat' (first | exact Wk.nil | refine Wk.any ?_ | (with_reducible refine Wk.same ?_) | refine Wk.of ?_ ?_)) <;> (simp_all))); (focus (exact fitsA)); (focus (exact fitsM_cons (clo_one a.clo_en) (FitsM.nil _))))
        | exact Fin.one rfl (RV.tmp (by rfl)) (clo_c _) ⟨by have hf := hno (by assumption); simp_all [isAtl], rfl⟩
    · have e_i : i = a.log.length := by omega
      have ht := lt_false (f := TEntry.en) (show ¬ i < a.log.length by omega)
      subst e_i
      repeat' ((first
        | (refine iAL ?_; first | refine AL.any ?_ | refine AL.any (h := POp.k Tryz.func89 (hc := isLog_i a.log g1 g2)) ?_ | refine AL.U ?_ | refine AL.F ?_ | refine AL.T ?_ | refine AL.T (h := POp.k Tryz.func78 (hc := inr_v _ _ _)) ?_ | refine AL.T (h := POp.k Tryz.func106 (hc := isLadder_i a.levels g3)) ?_ | refine AL.T (h := POp.k Tryz.func107 (hc := areEd_i a.editions g4 g5)) ?_ | refine AL.T (h := POp.k Tryz.func108 (hc := isCover_i a.cover.w a.cover.h a.cover.cells g6)) ?_ | refine AL.W ?_ | refine AL.W (h := fun h => by (try rw [h]); exact POp.k Tryz.func78 (hc := inr_v _ _ _)) ?_ | refine AL.W (h := fun h => by (try rw [h]); exact POp.k Tryz.func106 (hc := isLadder_i a.levels g3)) ?_ | refine AL.W (h := fun h => by (try rw [h]); exact POp.k Tryz.func107 (hc := areEd_i a.editions g4 g5)) ?_ | refine AL.W (h := fun h => by (try rw [h]); exact POp.k Tryz.func108 (hc := isCover_i a.cover.w a.cover.h a.cover.cells g6)) ?_ | refine AL.nil ?_)
        | (refine iAW ?_; first | (refine AW.c0 ?_; constructor) | (refine AW.loopD hE (fun k : Nat => [.any, .ref 0 0 7 0 0, .any, .any, .any, .any, .any, .any, .any, .any, .any, .any, .any, .any, .any, .any, .any, .any, .any, .any, .any, .any, .any, .any, .any, .any, .any, .any, .any, .any, .any, .any, .any, .any, .any, .any, .any, .any, .any, .any, .any, .any, .any, .any, .any, .any, .any, .any, .any, .ro 3 (a.editions.map TEdition.en), I ((a.editions.map TEdition.en).length : Int), I (k : Int), .any, .any, .any, .any, .any, .any, .any, .any, .any]) (fun k => [some ⟨32, 7, 0, true, [a.en]⟩]) (fun k => a.editions.length - k) (fun k => k ≤ a.editions.length ∧ ticks TEdition.tick a.now a.editions k = true) 0 ⟨Nat.zero_le _, by simp [ticks]⟩ ?_ (by first | rfl | (simp; done)) ?_) | refine AW.cT ?_ | refine AW.cF ?_ | (refine AW.c2 ?_ ?_ <;> (intro h; try simp only [bT, bF] at h)))
        | with_reducible refine ifP ?_
        | with_reducible refine ifN ?_) <;> (try dsimp only))
      · (repeat' (first | exact Wk.nil | refine Wk.any ?_ | (with_reducible refine Wk.same ?_) | refine Wk.of ?_ ?_)) <;> first | rfl | (simp; done)
      · intro k hv_k
        by_cases hlt_k : k < a.editions.length
        · skip
          obtain ⟨x, hx⟩ : ∃ x, a.editions[k]? = some x := ⟨_, List.getElem?_eq_getElem hlt_k⟩
          have hg := map_get (f := TEdition.en) hx
          have ht := lt_true (f := TEdition.en) hlt_k
          have hn := next_ix hlt_k (by omega)
          have hsu := ticks_succ (tk := TEdition.tick) (now := a.now) hx
          have hno := ticks_not (tk := TEdition.tick) (now := a.now) hx
          have hcle : Clo (.agg x.en) := Clo.agg x.clo_en
          repeat' ((first
            | (refine iAL ?_; first | refine AL.any ?_ | refine AL.any (h := POp.k Tryz.func89 (hc := isLog_i a.log g1 g2)) ?_ | refine AL.U ?_ | refine AL.F ?_ | refine AL.T ?_ | refine AL.T (h := POp.k Tryz.func78 (hc := inr_v _ _ _)) ?_ | refine AL.T (h := POp.k Tryz.func106 (hc := isLadder_i a.levels g3)) ?_ | refine AL.T (h := POp.k Tryz.func107 (hc := areEd_i a.editions g4 g5)) ?_ | refine AL.T (h := POp.k Tryz.func108 (hc := isCover_i a.cover.w a.cover.h a.cover.cells g6)) ?_ | refine AL.W ?_ | refine AL.W (h := fun h => by (try rw [h]); exact POp.k Tryz.func78 (hc := inr_v _ _ _)) ?_ | refine AL.W (h := fun h => by (try rw [h]); exact POp.k Tryz.func106 (hc := isLadder_i a.levels g3)) ?_ | refine AL.W (h := fun h => by (try rw [h]); exact POp.k Tryz.func107 (hc := areEd_i a.editions g4 g5)) ?_ | refine AL.W (h := fun h => by (try rw [h]); exact POp.k Tryz.func108 (hc := isCover_i a.cover.w a.cover.h a.cover.cells g6)) ?_ | refine AL.nil ?_)
            | (refine iAW ?_; first | (refine AW.c0 ?_; constructor) | refine AW.cT ?_ | refine AW.cF ?_ | (refine AW.c2 ?_ ?_ <;> (intro h; try simp only [bT, bF] at h)))
            | with_reducible refine ifP ?_
            | with_reducible refine ifN ?_) <;> (try dsimp only))
          all_goals first
            | (refine ⟨k + 1, _, ⟨hlt_k, by simp_all⟩, by omega, ?_, rfl, ?_, ?_⟩; (focus ((repeat' (first | exact Wk.nil | refine Wk.any ?_ | (with_reducible refine Wk.same ?_) | refine Wk.of ?_ ?_)) <;> (simp_all))); (focus (exact fitsA)); (focus (exact fitsM_cons (clo_one a.clo_en) (FitsM.nil _))))
            | exact Fin.one rfl (RV.tmp (by rfl)) (clo_c _) ⟨by have hf := hno (by assumption); simp_all [isAtl], rfl⟩
        · have e_k : k = a.editions.length := by omega
          have ht := lt_false (f := TEdition.en) (show ¬ k < a.editions.length by omega)
          subst e_k
          repeat' ((first
            | (refine iAL ?_; first | refine AL.any ?_ | refine AL.any (h := POp.k Tryz.func89 (hc := isLog_i a.log g1 g2)) ?_ | refine AL.U ?_ | refine AL.F ?_ | refine AL.T ?_ | refine AL.T (h := POp.k Tryz.func78 (hc := inr_v _ _ _)) ?_ | refine AL.T (h := POp.k Tryz.func106 (hc := isLadder_i a.levels g3)) ?_ | refine AL.T (h := POp.k Tryz.func107 (hc := areEd_i a.editions g4 g5)) ?_ | refine AL.T (h := POp.k Tryz.func108 (hc := isCover_i a.cover.w a.cover.h a.cover.cells g6)) ?_ | refine AL.W ?_ | refine AL.W (h := fun h => by (try rw [h]); exact POp.k Tryz.func78 (hc := inr_v _ _ _)) ?_ | refine AL.W (h := fun h => by (try rw [h]); exact POp.k Tryz.func106 (hc := isLadder_i a.levels g3)) ?_ | refine AL.W (h := fun h => by (try rw [h]); exact POp.k Tryz.func107 (hc := areEd_i a.editions g4 g5)) ?_ | refine AL.W (h := fun h => by (try rw [h]); exact POp.k Tryz.func108 (hc := isCover_i a.cover.w a.cover.h a.cover.cells g6)) ?_ | refine AL.nil ?_)
            | (refine iAW ?_; first | (refine AW.c0 ?_; constructor) | refine AW.cT ?_ | refine AW.cF ?_ | (refine AW.c2 ?_ ?_ <;> (intro h; try simp only [bT, bF] at h)))
            | with_reducible refine ifP ?_
            | with_reducible refine ifN ?_) <;> (try dsimp only))
          all_goals first
            | exact Fin.one rfl (RV.tmp (by rfl)) (clo_c _) ⟨by simp_all [isAtl, atlIn], rfl⟩

theorem AW.row1 {P : Program} {E : Env} {tm : List AV} {c : Code} {Qx : XPost} {b0 : Option Blk} {A X : List (List AV)} {ty : TypeId} {sz g : Nat} {bx : Bool} {Mr : Mem} (hx : A = X) (h : AW P c E tm (b0 :: some ⟨ty, sz, g, bx, X⟩ :: Mr) Qx) : AW P c E tm (b0 :: some ⟨ty, sz, g, bx, A⟩ :: Mr) Qx := by
  subst hx
  exact h
def newer (a b : TEntry) : Bool := decide (a.tick > b.tick) || (a.tick == b.tick && decide (a.who > b.who))
def posTo (l : List TEntry) (id : Int) : Nat := (l.takeWhile fun x => decide (x.feature.id < id)).length
theorem posTo_le : ∀ (l : List TEntry) (id : Int), posTo l id ≤ l.length
  | [], _ => Nat.le_refl _
  | x :: l, id => by
    unfold posTo
    rw [List.takeWhile_cons]
    split
    · have := posTo_le l id
      unfold posTo at this
      simp only [List.length_cons]
      omega
    · exact Nat.zero_le _
theorem posTo_lt : ∀ {l : List TEntry} {id : Int} {i : Nat}, i < posTo l id → ∃ x, l[i]? = some x ∧ decide (x.feature.id < id) = true
  | [], id, i, h => by simp [posTo] at h
  | x :: l, id, i, h => by
    unfold posTo at h
    rw [List.takeWhile_cons] at h
    split at h
    · rename_i hx
      cases i with
      | zero => exact ⟨x, rfl, hx⟩
      | succ i =>
        simp only [List.length_cons] at h
        exact posTo_lt (l := l) (id := id) (i := i) (by unfold posTo; omega)
    · simp at h
theorem posTo_at : ∀ {l : List TEntry} {id : Int} {x : TEntry}, l[posTo l id]? = some x → decide (x.feature.id < id) = false
  | [], id, x, h => by simp at h
  | y :: l, id, x, h => by
    unfold posTo at h
    rw [List.takeWhile_cons] at h
    split at h
    · simp only [List.length_cons, List.getElem?_cons_succ] at h
      exact posTo_at (l := l) (id := id) h
    · rename_i hy
      simp only [List.length_nil, List.getElem?_cons_zero, Option.some.injEq] at h
      subst h
      simpa using hy
def sameAt (l : List TEntry) (id : Int) : Bool := match l[posTo l id]? with
  | some x => x.feature.id == id
  | none => false
def refused (l : List TEntry) (e : TEntry) : Bool := match l[posTo l e.feature.id]? with
  | some x => (x.feature.id == e.feature.id) && !newer e x
  | none => false
def newL (l : List TEntry) (e : TEntry) : List TEntry := l.take (posTo l e.feature.id) ++ [e] ++ l.drop (if sameAt l e.feature.id = true then posTo l e.feature.id + 1 else posTo l e.feature.id)
def takeE (l : List TEntry) (e : TEntry) : List TEntry := if (!isLog l || refused l e || !isLog (newL l e)) = true then l else newL l e
theorem takeE_l {l : List TEntry} {e : TEntry} (h : (!isLog l || refused l e || !isLog (newL l e)) = true) : takeE l e = l := if_pos h
theorem takeE_n {l : List TEntry} {e : TEntry} (h : (!isLog l || refused l e || !isLog (newL l e)) = false) : takeE l e = newL l e := if_neg (by rw [h]; decide)
theorem takeE_1 {l : List TEntry} {e : TEntry} (h : isLog l = false) : takeE l e = l := takeE_l (by rw [h]; rfl)
theorem takeE_2 {l : List TEntry} {e : TEntry} (h : refused l e = true) : takeE l e = l := takeE_l (by rw [h]; cases isLog l <;> rfl)
theorem takeE_3 {l : List TEntry} {e : TEntry} (h : isLog (newL l e) = false) : takeE l e = l := takeE_l (by rw [h]; cases isLog l <;> cases refused l e <;> rfl)
theorem takeE_4 {l : List TEntry} {e : TEntry} (h1 : isLog l = true) (h2 : refused l e = false) (h3 : isLog (newL l e) = true) : takeE l e = newL l e := takeE_n (by rw [h1, h2, h3]; rfl)
theorem newL_len (l : List TEntry) (e : TEntry) : (newL l e).length ≤ l.length + 1 := by
  unfold newL
  have := posTo_le l e.feature.id
  simp only [List.length_append, List.length_take, List.length_drop, List.length_cons, List.length_nil]
  split <;> omega
theorem newL_all {l : List TEntry} {e : TEntry} {p : TEntry → Prop} (hp : ∀ x ∈ l, p x) (he : p e) : ∀ x ∈ newL l e, p x := fun x hx => by
  unfold newL at hx
  rcases List.mem_append.1 hx with h | h
  · rcases List.mem_append.1 h with h | h
    · exact hp x (List.mem_of_mem_take h)
    · obtain rfl := List.mem_singleton.1 h
      exact he
  · exact hp x (List.mem_of_mem_drop h)
theorem takeE_all {l : List TEntry} {e : TEntry} {p : TEntry → Prop} (hp : ∀ x ∈ l, p x) (he : p e) : ∀ x ∈ takeE l e, p x := by
  unfold takeE
  split
  · exact hp
  · exact newL_all hp he
theorem isLog_len {l : List TEntry} (h : isLog l = true) : l.length ≤ 16 := by
  unfold isLog at h
  simp only [Bool.and_eq_true, decide_eq_true_eq] at h
  omega
theorem takeE_len {l : List TEntry} {e : TEntry} (hl : l.length ≤ 1048576) : (takeE l e).length ≤ 1048576 := by
  unfold takeE
  split
  · exact hl
  · rename_i h
    have h : isLog (newL l e) = true := by
      revert h
      cases isLog (newL l e) <;> simp
    have := isLog_len h
    omega
theorem pos_cases (l : List TEntry) (e : TEntry) : (posTo l e.feature.id = l.length ∧ sameAt l e.feature.id = false ∧ refused l e = false ∧ newL l e = l.take l.length ++ [e] ++ l.drop l.length) ∨
    ∃ x, l[posTo l e.feature.id]? = some x ∧ decide (x.feature.id < e.feature.id) = false ∧ sameAt l e.feature.id = (x.feature.id == e.feature.id) ∧ refused l e = ((x.feature.id == e.feature.id) && !newer e x) := by
  have hle := posTo_le l e.feature.id
  rcases Nat.lt_or_ge (posTo l e.feature.id) l.length with h | h
  · obtain ⟨x, hx⟩ : ∃ x, l[posTo l e.feature.id]? = some x := ⟨_, List.getElem?_eq_getElem h⟩
    exact .inr ⟨x, hx, posTo_at hx, by simp [sameAt, hx], by simp [refused, hx]⟩
  · have e1 : posTo l e.feature.id = l.length := by omega
    have e2 : l[posTo l e.feature.id]? = none := List.getElem?_eq_none (by omega)
    have e3 : sameAt l e.feature.id = false := by simp [sameAt, e2]
    refine .inl ⟨e1, e3, by simp [refused, e2], ?_⟩
    unfold newL
    rw [e3, e1]
    rfl
theorem newer_cases (a b : TEntry) : (decide (a.tick > b.tick) = true ∧ newer a b = true) ∨ (decide (a.tick > b.tick) = false ∧ (a.tick == b.tick) = true ∧ newer a b = decide (a.who > b.who)) ∨ (decide (a.tick > b.tick) = false ∧ (a.tick == b.tick) = false ∧ newer a b = false) := by
  unfold newer
  cases decide (a.tick > b.tick) <;> cases (a.tick == b.tick) <;> simp
theorem isLog_cases (l : List TEntry) (y : TEntry) : (isLog l = true ∧ (newL l y).length ≤ 1048576) ∨ isLog l = false := by
  cases hL : isLog l
  · exact .inr rfl
  · have h1 := isLog_len hL
    have h2 := newL_len l y
    exact .inl ⟨rfl, by omega⟩

theorem newer_s (a b : TEntry) : VCalls Tryz.prog 126 [.agg a.en, .agg b.en] (fun r M => r = B (newer a b) ∧ M = []) := by
  refine VB Tryz.func126 22 (fun E hE => ?_)
  have hclA : Clo (.agg a.en) := Clo.agg a.clo_en
  have hclB : Clo (.agg b.en) := Clo.agg b.clo_en
  have hclP : Clo (.ro 2 (a.feature.points.map TPoint.en)) := clo_list TPoint.clo_en
  have hclQ : Clo (.ro 2 (b.feature.points.map TPoint.en)) := clo_list TPoint.clo_en
  rcases newer_cases a b with ⟨h1, hnw⟩ | ⟨h1, h2, hnw⟩ | ⟨h1, h2, hnw⟩
  all_goals dsimp only [TEntry.en]
  repeat' ((first
    | (refine iAL ?_; first | refine AL.any ?_ | refine AL.U ?_ | refine AL.F ?_ | refine AL.T ?_ | refine AL.W ?_ | refine AL.nil ?_)
    | (refine iAW ?_; first | (refine AW.c0 ?_; constructor))) <;> (try dsimp only))
  all_goals exact Fin.one rfl (RV.tmp (by rfl)) (clo_c _) ⟨by first | rfl | (simp_all; done), rfl⟩

theorem newer_i (a b : TEntry) : VCalls Tryz.prog 150 [.agg a.en, .agg b.en] (fun r M => r = B (newer a b) ∧ M = []) := by
  refine VB Tryz.func150 22 (fun E hE => ?_)
  have hclA : Clo (.agg a.en) := Clo.agg a.clo_en
  have hclB : Clo (.agg b.en) := Clo.agg b.clo_en
  have hclP : Clo (.ro 2 (a.feature.points.map TPoint.en)) := clo_list TPoint.clo_en
  have hclQ : Clo (.ro 2 (b.feature.points.map TPoint.en)) := clo_list TPoint.clo_en
  rcases newer_cases a b with ⟨h1, hnw⟩ | ⟨h1, h2, hnw⟩ | ⟨h1, h2, hnw⟩
  all_goals dsimp only [TEntry.en]
  repeat' ((first
    | (refine iAL ?_; first | refine AL.any ?_ | refine AL.U ?_ | refine AL.F ?_ | refine AL.T ?_ | refine AL.W ?_ | refine AL.nil ?_)
    | (refine iAW ?_; first | (refine AW.c0 ?_; constructor))) <;> (try dsimp only))
  all_goals exact Fin.one rfl (RV.tmp (by rfl)) (clo_c _) ⟨by first | rfl | (simp_all; done), rfl⟩

theorem TAtlas.gd.gs {a : TAtlas} (h : a.gd) : a.gs := ⟨⟨h.1.1, fun e he => (h.1.2 e he).1⟩, h.2.1, ⟨h.2.2.1.1, fun e he => ⟨(h.2.2.1.2 e he).1, fun x hx => ((h.2.2.1.2 e he).2 x hx).1⟩⟩⟩
def stp (a o : TAtlas) (ok : Bool) : TAtlas := if (ok && isAtl a && isAtl o) = true then o else a
def stpB (a o : TAtlas) (ok : Bool) : Bool := ok && isAtl a && isAtl o
theorem stp_f {a o : TAtlas} {ok : Bool} (h : stpB a o ok = false) : stp a o ok = a := by unfold stp; unfold stpB at h; rw [h]; rfl
theorem stp_t {a o : TAtlas} {ok : Bool} (h : stpB a o ok = true) : stp a o ok = o := by unfold stp; unfold stpB at h; rw [if_pos h]
theorem stepped_i (a o : TAtlas) (ok : Bool) (hgd : a.gd) (hgo : o.gd) : HCalls Tryz.prog 76 [.agg a.en, .agg o.eo, B ok] o.rw (fun r M => r = .tup [.agg (stp a o ok).eo, B (stpB a o ok)] ∧ M = (stp a o ok).rw) := by
  have hgs := hgd.gs
  have hclA : Clo (.agg a.en) := Clo.agg a.clo_en
  have hclL : Clo (.ro 8 (a.log.map TEntry.en)) := clo_list TEntry.clo_en
  have hclV : Clo (.ro 3 (a.levels.map TLevel.en)) := clo_list TLevel.clo_en
  have hclE : Clo (.ro 3 (a.editions.map TEdition.en)) := clo_list TEdition.clo_en
  refine HCalls.body Tryz.func76 rfl 20 rfl (fun E hE => ?_)
  dsimp only [TAtlas.en, TAtlas.eo, TAtlas.rw]
  simp only [List.reduceReplicate, List.cons_append, List.nil_append]
  repeat' ((first
    | (refine iAL ?_; first | refine AL.any ?_ | refine AL.any (h := POp.O Tryz.func75 (hc := cpA_i a (by assumption))) ?_ | refine AL.U ?_ | refine AL.F ?_ | refine AL.T ?_ | refine AL.T (h := POp.k Tryz.func64 (hc := isAtl_i a (by assumption))) ?_ | refine AL.T (h := POp.D Tryz.func64 (hc := isAtl_i o (by assumption))) ?_ | refine AL.W ?_ | refine AL.W (h := fun h => by (try rw [h]); exact POp.k Tryz.func64 (hc := isAtl_i a (by assumption))) ?_ | refine AL.W (h := fun h => by (try rw [h]); exact POp.D Tryz.func64 (hc := isAtl_i o (by assumption))) ?_ | refine AL.nil ?_)
    | (refine iAW ?_; first | (refine AW.c0 ?_; constructor) | refine AW.cT ?_ | refine AW.cF ?_ | (refine AW.c2 ?_ ?_ <;> (intro h; try simp only [bT, bF] at h)))) <;> (try dsimp only))
  all_goals first
    | (have hst : stpB a o ok = true := by (unfold stpB; cases ok <;> cases h1 : isAtl a <;> cases h2 : isAtl o <;> simp_all)); rw [stp_t hst, hst]; exact Fin.rows2 [0, 1, 2] rfl (RV.cell (QOp.quietA TT_ok (by rfl))) (RV.tmp (by rfl)) (by decide) (by repeat' (first | exact trivial | refine ⟨⟨_, rfl, ?_⟩, ?_⟩ | exact DCl.b rfl | exact DCl.map (fun _ => rfl))) (by repeat' (first | exact all_nil | refine all_cons ?_ ?_ | exact ⟨⟨_, rfl, rfl⟩, rfl⟩ | (show Clo _; exact clo_of (by rfl)))) ⟨rfl, rfl⟩
    | (have hst : stpB a o ok = false := by (unfold stpB; cases ok <;> cases h1 : isAtl a <;> cases h2 : isAtl o <;> simp_all)); rw [stp_f hst, hst]; exact Fin.rows2 [6, 7, 8] rfl (RV.cell (QOp.quietA TT_ok (by rfl))) (RV.tmp (by rfl)) (by decide) (by repeat' (first | exact trivial | refine ⟨⟨_, rfl, ?_⟩, ?_⟩ | exact DCl.b rfl | exact DCl.map (fun _ => rfl))) (by repeat' (first | exact all_nil | refine all_cons ?_ ?_ | exact ⟨⟨_, rfl, rfl⟩, rfl⟩ | (show Clo _; exact clo_of (by rfl)))) ⟨rfl, rfl⟩

theorem stepped_s (a o : TAtlas) (ok : Bool) (hgd : a.gd) (hgo : o.gd) : HCalls Tryz.prog 73 [.agg a.en, .agg o.eo, B ok] o.rw (fun r M => r = .tup [.agg (stp a o ok).eo, B (stpB a o ok)] ∧ M = (stp a o ok).rw) := by
  have hgs := hgd.gs
  have hclA : Clo (.agg a.en) := Clo.agg a.clo_en
  have hclL : Clo (.ro 8 (a.log.map TEntry.en)) := clo_list TEntry.clo_en
  have hclV : Clo (.ro 3 (a.levels.map TLevel.en)) := clo_list TLevel.clo_en
  have hclE : Clo (.ro 3 (a.editions.map TEdition.en)) := clo_list TEdition.clo_en
  refine HCalls.body Tryz.func73 rfl 20 rfl (fun E hE => ?_)
  dsimp only [TAtlas.en, TAtlas.eo, TAtlas.rw]
  simp only [List.reduceReplicate, List.cons_append, List.nil_append]
  repeat' ((first
    | (refine iAL ?_; first | refine AL.any ?_ | refine AL.any (h := POp.O Tryz.func60 (hc := cpA_s a (by assumption))) ?_ | refine AL.U ?_ | refine AL.F ?_ | refine AL.T ?_ | refine AL.T (h := POp.k Tryz.func61 (hc := isAtl_s a (by assumption))) ?_ | refine AL.T (h := POp.D Tryz.func61 (hc := isAtl_s o (by assumption))) ?_ | refine AL.W ?_ | refine AL.W (h := fun h => by (try rw [h]); exact POp.k Tryz.func61 (hc := isAtl_s a (by assumption))) ?_ | refine AL.W (h := fun h => by (try rw [h]); exact POp.D Tryz.func61 (hc := isAtl_s o (by assumption))) ?_ | refine AL.nil ?_)
    | (refine iAW ?_; first | (refine AW.c0 ?_; constructor) | refine AW.cT ?_ | refine AW.cF ?_ | (refine AW.c2 ?_ ?_ <;> (intro h; try simp only [bT, bF] at h)))) <;> (try dsimp only))
  all_goals first
    | (have hst : stpB a o ok = true := by (unfold stpB; cases ok <;> cases h1 : isAtl a <;> cases h2 : isAtl o <;> simp_all)); rw [stp_t hst, hst]; exact Fin.rows2 [0, 1, 2] rfl (RV.cell (QOp.quietA TT_ok (by rfl))) (RV.tmp (by rfl)) (by decide) (by repeat' (first | exact trivial | refine ⟨⟨_, rfl, ?_⟩, ?_⟩ | exact DCl.b rfl | exact DCl.map (fun _ => rfl))) (by repeat' (first | exact all_nil | refine all_cons ?_ ?_ | exact ⟨⟨_, rfl, rfl⟩, rfl⟩ | (show Clo _; exact clo_of (by rfl)))) ⟨rfl, rfl⟩
    | (have hst : stpB a o ok = false := by (unfold stpB; cases ok <;> cases h1 : isAtl a <;> cases h2 : isAtl o <;> simp_all)); rw [stp_f hst, hst]; exact Fin.rows2 [6, 7, 8] rfl (RV.cell (QOp.quietA TT_ok (by rfl))) (RV.tmp (by rfl)) (by decide) (by repeat' (first | exact trivial | refine ⟨⟨_, rfl, ?_⟩, ?_⟩ | exact DCl.b rfl | exact DCl.map (fun _ => rfl))) (by repeat' (first | exact all_nil | refine all_cons ?_ ?_ | exact ⟨⟨_, rfl, rfl⟩, rfl⟩ | (show Clo _; exact clo_of (by rfl)))) ⟨rfl, rfl⟩

theorem stepped_iX (a o : TAtlas) (ok : Bool) (hgd : a.gd) (hgo : o.gd) : HCalls Tryz.prog 76 [.agg [.ro 8 (a.log.map TEntry.en), .ro 3 (a.levels.map TLevel.en), .ro 3 (a.editions.map TEdition.en), I a.cover.w, I a.cover.h, S a.cover.cells, I a.now], .agg [.own 0 0, .own 1 0, .own 2 0, I o.cover.w, I o.cover.h, S o.cover.cells, I o.now], B ok] [some ⟨121, 8, 0, false, o.log.map TEntry.ed⟩, some ⟨97, 3, 0, false, o.levels.map TLevel.en⟩, some ⟨136, 3, 0, false, o.editions.map TEdition.ed⟩] (fun r M => r = .tup [.agg [.own 0 0, .own 1 0, .own 2 0, I (stp a o ok).cover.w, I (stp a o ok).cover.h, S (stp a o ok).cover.cells, I (stp a o ok).now], B (stpB a o ok)] ∧ M = [some ⟨121, 8, 0, false, (stp a o ok).log.map TEntry.ed⟩, some ⟨97, 3, 0, false, (stp a o ok).levels.map TLevel.en⟩, some ⟨136, 3, 0, false, (stp a o ok).editions.map TEdition.ed⟩]) := stepped_i a o ok hgd hgo
theorem cpA_iX (a : TAtlas) (hgs : a.gs) : VCalls Tryz.prog 75 [.agg [.ro 8 (a.log.map TEntry.en), .ro 3 (a.levels.map TLevel.en), .ro 3 (a.editions.map TEdition.en), I a.cover.w, I a.cover.h, S a.cover.cells, I a.now]] (fun r M => r = .agg [.own 0 0, .own 1 0, .own 2 0, I a.cover.w, I a.cover.h, S a.cover.cells, I a.now] ∧ M = [some ⟨121, 8, 0, false, a.log.map TEntry.ed⟩, some ⟨97, 3, 0, false, a.levels.map TLevel.en⟩, some ⟨136, 3, 0, false, a.editions.map TEdition.ed⟩]) := cpA_i a hgs
theorem stepped_sX (a o : TAtlas) (ok : Bool) (hgd : a.gd) (hgo : o.gd) : HCalls Tryz.prog 73 [.agg [.ro 8 (a.log.map TEntry.en), .ro 3 (a.levels.map TLevel.en), .ro 3 (a.editions.map TEdition.en), I a.cover.w, I a.cover.h, S a.cover.cells, I a.now], .agg [.own 0 0, .own 1 0, .own 2 0, I o.cover.w, I o.cover.h, S o.cover.cells, I o.now], B ok] [some ⟨121, 8, 0, false, o.log.map TEntry.ed⟩, some ⟨97, 3, 0, false, o.levels.map TLevel.en⟩, some ⟨136, 3, 0, false, o.editions.map TEdition.ed⟩] (fun r M => r = .tup [.agg [.own 0 0, .own 1 0, .own 2 0, I (stp a o ok).cover.w, I (stp a o ok).cover.h, S (stp a o ok).cover.cells, I (stp a o ok).now], B (stpB a o ok)] ∧ M = [some ⟨121, 8, 0, false, (stp a o ok).log.map TEntry.ed⟩, some ⟨97, 3, 0, false, (stp a o ok).levels.map TLevel.en⟩, some ⟨136, 3, 0, false, (stp a o ok).editions.map TEdition.ed⟩]) := stepped_s a o ok hgd hgo
theorem cpA_sX (a : TAtlas) (hgs : a.gs) : VCalls Tryz.prog 60 [.agg [.ro 8 (a.log.map TEntry.en), .ro 3 (a.levels.map TLevel.en), .ro 3 (a.editions.map TEdition.en), I a.cover.w, I a.cover.h, S a.cover.cells, I a.now]] (fun r M => r = .agg [.own 0 0, .own 1 0, .own 2 0, I a.cover.w, I a.cover.h, S a.cover.cells, I a.now] ∧ M = [some ⟨121, 8, 0, false, a.log.map TEntry.ed⟩, some ⟨97, 3, 0, false, a.levels.map TLevel.en⟩, some ⟨136, 3, 0, false, a.editions.map TEdition.ed⟩]) := cpA_s a hgs
theorem View.tup' {M : Mem} {cs cs' : List AV} (h : VwL M cs cs') : View M (.tup cs) (.tup cs') := fun base w0 w Fx β Fc u hh hF hown hr => by
  have hl := h.get.1
  cases hr with
  | tup hl2 h3 => exact .tup (by rw [hl2, hl]) (fun i x' u hx hu => by
      have hlt : i < cs.length := by rw [← hl]; exact (List.getElem?_eq_some_iff.1 hx).1
      exact h.get.2 i _ x' (List.getElem?_eq_getElem hlt) hx _ _ _ _ _ _ _ hh hF hown (h3 i _ u (List.getElem?_eq_getElem hlt) hu))

end Go.Proofs.YtacbpfbelcdeiaaGreat.Abs

/- A row appended whole, its trees with it. -/
namespace Go.Proofs.YtacbpfbelcdeiaaGreat.Abs
open Go.Proofs Go.RowKit
set_option linter.unusedVariables false
set_option linter.unusedSimpArgs false
set_option maxRecDepth 100000
set_option maxHeartbeats 2000000
section
variable {P : Program} {E : Env} {tm : List AV} {M : Mem} {o : Oper} {w w0 : World} {Fx : Nat → Prop} {β : List Hd} {base : Nat} {G : List (Option Nat)}
theorem CellsD.append2 {pv pv2 : Nat → Prop} {hb hb2 : Option Nat} {sz : Nat} {es es2 : List (List AV)} {xs ys : List Value} (h : CellsD w Fx β G pv hb sz es xs) (k : CellsD w Fx β G pv2 hb2 sz es2 ys) (hd : ∀ q, pv2 q → ¬ pv q ∧ hb ≠ some q) :
    CellsD w Fx β G (fun q => pv q ∨ pv2 q) hb sz (es ++ es2) (xs ++ ys) := by
  obtain ⟨h1, h2, pc, h3, h4, h5⟩ := h
  obtain ⟨k1, k2, pc2, k3, k4, k5⟩ := k
  refine ⟨by rw [List.length_append, List.length_append, h1, k1, Nat.add_mul], fun i r hr => ?_, fun i j q => (i < es.length ∧ pc i j q) ∨ (es.length ≤ i ∧ pc2 (i - es.length) j q), fun i j q hp => ?_, fun i j i' j' q hp hq => ?_, fun i r j d hr hx => ?_⟩
  · rcases Nat.lt_or_ge i es.length with hi | hi
    · rw [List.getElem?_append_left hi] at hr
      refine ⟨(h2 i r hr).1, fun j x hx => ?_⟩
      obtain ⟨u, hu, ho, hR⟩ := (h2 i r hr).2 j x hx
      exact ⟨u, by rw [List.getElem?_append_left (List.getElem?_eq_some_iff.1 hu).1]; exact hu, ho, hR⟩
    · rw [List.getElem?_append_right hi] at hr
      refine ⟨(k2 _ r hr).1, fun j x hx => ?_⟩
      obtain ⟨u, hu, ho, hR⟩ := (k2 _ r hr).2 j x hx
      have e : es.length * sz ≤ i * sz := Nat.mul_le_mul_right _ hi
      refine ⟨u, ?_, ho, hR⟩
      rw [List.getElem?_append_right (by rw [h1]; omega), h1, show i * sz + j - es.length * sz = (i - es.length) * sz + j by rw [Nat.sub_mul]; omega]
      exact hu
  · rcases hp with ⟨_, hp⟩ | ⟨_, hp⟩
    · exact ⟨.inl (h3 i j q hp).1, (h3 i j q hp).2⟩
    · exact ⟨.inr (k3 _ j q hp).1, (hd q (k3 _ j q hp).1).2⟩
  · rcases hp with ⟨a1, hp⟩ | ⟨a1, hp⟩ <;> rcases hq with ⟨a2, hq⟩ | ⟨a2, hq⟩
    · exact h4 _ _ _ _ q hp hq
    · exact absurd (h3 _ _ q hp).1 (hd q (k3 _ _ q hq).1).1
    · exact absurd (h3 _ _ q hq).1 (hd q (k3 _ _ q hp).1).1
    · have := k4 _ _ _ _ q hp hq
      exact ⟨by omega, this.2⟩
  · rcases Nat.lt_or_ge i es.length with hi | hi
    · rw [List.getElem?_append_left hi] at hr
      obtain ⟨u, hu, hR⟩ := h5 i r j d hr hx
      refine ⟨u, by rw [List.getElem?_append_left (List.getElem?_eq_some_iff.1 hu).1]; exact hu, hR.mono fun q hq => .inl ⟨hi, hq⟩⟩
    · rw [List.getElem?_append_right hi] at hr
      obtain ⟨u, hu, hR⟩ := k5 _ r j d hr hx
      have e : es.length * sz ≤ i * sz := Nat.mul_le_mul_right _ hi
      refine ⟨u, ?_, hR.mono fun q hq => .inr ⟨hi, hq⟩⟩
      rw [List.getElem?_append_right (by rw [h1]; omega), h1, show i * sz + j - es.length * sz = (i - es.length) * sz + j by rw [Nat.sub_mul]; omega]
      exact hu
theorem HS.give (hh : HS base w0 w Fx β M) {id id2 : Nat} {b b2 : Blk} {u u2 : Hd} (hM : M[id]? = some (some b)) (hM2 : M[id2]? = some (some b2)) (hne : id ≠ id2) (hu : β[id]? = some u) (hu2 : β[id2]? = some u2) :
    HS base w0 w Fx (β.set id ⟨u.v, fun q => u.pv q ∨ u2.pv q⟩) (M.set id2 none) ∧ Mv w Fx β (gens M) w Fx (β.set id ⟨u.v, fun q => u.pv q ∨ u2.pv q⟩) (gens (M.set id2 none)) ∧
      ∀ (i : Nat) b' (v : Hd) k, (M.set id2 none)[i]? = some (some b') → (β.set id ⟨u.v, fun q => u.pv q ∨ u2.pv q⟩)[i]? = some v → v.has k → ∃ (i' : Nat) (b'' : Blk) (v' : Hd), M[i']? = some (some b'') ∧ β[i']? = some v' ∧ v'.has k := by
  have up : ∀ {i : Nat} {b1 : Blk}, (M.set id2 none)[i]? = some (some b1) → i ≠ id2 ∧ M[i]? = some (some b1) := fun {i b1} h => by
    rcases set_get h with ⟨_, e, _⟩ | h
    · cases e
    · exact h
  have m : Mv w Fx β (gens M) w Fx (β.set id ⟨u.v, fun q => u.pv q ∨ u2.pv q⟩) (gens (M.set id2 none)) := ⟨fun _ h => h, fun _ _ => rfl, by simp [gens], fun i g' hi hg' => ⟨g', (gens_none hg').2, Nat.le_refl _, fun _ => by
    by_cases e : id = i
    · subst e
      rw [List.getElem?_set, if_pos rfl, if_pos (List.getElem?_eq_some_iff.1 hu).1, hu]
      rfl
    · rw [List.getElem?_set, if_neg e]⟩⟩
  have has : ∀ {i : Nat} {v : Hd} {k : Nat}, (β.set id ⟨u.v, fun q => u.pv q ∨ u2.pv q⟩)[i]? = some v → v.has k → (i = id ∧ (u.has k ∨ u2.has k)) ∨ (i ≠ id ∧ β[i]? = some v) := fun {i v k} h hk => by
    rcases set_get h with ⟨e, rfl, _⟩ | h
    · refine .inl ⟨e, ?_⟩
      rcases hk with hk | hk | hk
      · exact .inl (.inl hk)
      · exact .inl (.inr hk)
      · exact .inr (.inr hk)
    · exact .inr h
  obtain ⟨u0, hu0, hok⟩ := hh.blk id b hM
  rw [hu] at hu0
  obtain rfl := Option.some.inj hu0
  obtain ⟨u0, hu0, hok2⟩ := hh.blk id2 b2 hM2
  rw [hu2] at hu0
  obtain rfl := Option.some.inj hu0
  refine ⟨⟨hh.bel, hh.bs, hh.fx, by simp [hh.len], fun i b1 h1 => ?_, fun i1 i2 b1 c2 v1 v2 k hne2 h1 h2 hv1 hv2 hk1 hk2 => ?_⟩, m, fun i b' v k h1 h2 h3 => ?_⟩
  · obtain ⟨n2, h1⟩ := up h1
    by_cases e : i = id
    · subst e
      rw [hM] at h1
      obtain rfl := Option.some.inj (Option.some.inj h1)
      obtain ⟨xs, hcd, mk⟩ := hok.open
      refine ⟨⟨u.v, fun q => u.pv q ∨ u2.pv q⟩, by rw [List.getElem?_set, if_pos rfl, if_pos (List.getElem?_eq_some_iff.1 hu).1], mk b ⟨u.v, fun q => u.pv q ∨ u2.pv q⟩ _ _ rfl rfl rfl rfl rfl (fun k hk => ?_) ?_⟩
      · rcases hk with hk | hk | hk
        · exact hok.1 k (.inl hk)
        · exact hok.1 k (.inr hk)
        · exact hok2.1 k (.inr hk)
      · obtain ⟨c1, c2, pc, c3, c4, c5⟩ := hcd.mv m (fun k _ _ => rfl)
        exact ⟨c1, c2, pc, fun i j k hp => ⟨.inl (c3 i j k hp).1, (c3 i j k hp).2⟩, c4, c5⟩
    · obtain ⟨v, hv, hk⟩ := hh.blk i b1 h1
      exact ⟨v, by rw [List.getElem?_set, if_neg (Ne.symm e)]; exact hv, hk.mv m (Nat.le_refl _) (fun _ _ => rfl) (fun k hk' => (hk.1 k hk').2.2)⟩
  · obtain ⟨n1, h1⟩ := up h1
    obtain ⟨n2, h2⟩ := up h2
    rcases has hv1 hk1 with ⟨rfl, hq1⟩ | ⟨e1, hw1⟩
    · rcases has hv2 hk2 with ⟨rfl, _⟩ | ⟨e2, hw2⟩
      · exact hne2 rfl
      · rcases hq1 with hq1 | hq1
        · exact hh.inj i1 i2 _ _ _ _ k hne2 hM h2 hu hw2 hq1 hk2
        · exact hh.inj id2 i2 _ _ _ _ k (Ne.symm n2) hM2 h2 hu2 hw2 hq1 hk2
    · rcases has hv2 hk2 with ⟨rfl, hq2⟩ | ⟨e2, hw2⟩
      · rcases hq2 with hq2 | hq2
        · exact hh.inj i1 i2 _ _ _ _ k hne2 h1 hM hw1 hu hk1 hq2
        · exact hh.inj i1 id2 _ _ _ _ k n1 h1 hM2 hw1 hu2 hk1 hq2
      · exact hh.inj i1 i2 _ _ _ _ k hne2 h1 h2 hw1 hw2 hk1 hk2
  · obtain ⟨n1, h1⟩ := up h1
    rcases has h2 h3 with ⟨rfl, h3 | h3⟩ | ⟨_, h2⟩
    · exact ⟨i, _, _, hM, hu, h3⟩
    · exact ⟨id2, _, _, hM2, hu2, h3⟩
    · exact ⟨i, _, _, h1, h2, h3⟩
theorem POp.appendMv {s x : Operand} {t e : TypeId} {sz bytes id g id2 g2 : Nat} {zs : List Value} {b b2 : Blk} (ho : o.op = .call { callee := .builtin .append, args := #[s, x], argTypes := #[t, t] }) (hr : rwk P t = some (e, sz, bytes, zs))
    (hs : evA tm s = some (.own id g)) (hM : M[id]? = some (some b)) (hg : b.gen = g) (hb : b.box = false) (hty : b.ty = e) (hbs : b.sz = sz) (hx : evA tm x = some (.own id2 g2)) (hM2 : M[id2]? = some (some b2)) (hg2 : b2.gen = g2) (hb2 : b2.box = false) (hbs2 : b2.sz = sz) (hne : Nat.beq id id2 = false)
    (hlen : (b.es.length + b2.es.length) * bytes ≤ 140737488355328) (hm : b.es.length + b2.es.length ≤ maxLen) : POp P o E tm M (.own id (g + 1)) ((M.set id2 none).set id (some { b with es := b.es ++ b2.es, gen := b.gen + 1 })) := by
  obtain ⟨i, z, h1, h2, h3, h4, h5, h6, h7, h8, h9⟩ := rwk_inv hr
  have hne : id ≠ id2 := Nat.ne_of_beq_eq_false hne
  intro a w K Q Fx β hh hsl hk
  have hrs := hsl.ev hs
  generalize hv0 : a.eval s = v at hrs
  obtain ⟨hd, hvv, hdv⟩ : ∃ hd, β[id]? = some hd ∧ hd.v = v := by
    cases hrs with
    | own _ _ _ h => exact h (by rw [← hg]; exact gens_of hM)
  have hrx := hsl.ev hx
  generalize hu0 : a.eval x = u at hrx
  obtain ⟨hd2, hvv2, hdv2⟩ : ∃ hd, β[id2]? = some hd ∧ hd.v = u := by
    cases hrx with
    | own _ _ _ h => exact h (by rw [← hg2]; exact gens_of hM2)
  obtain ⟨hh2, m2, own2⟩ := hh.give hM hM2 hne hvv hvv2
  obtain ⟨v2, hv2, hok⟩ := hh.blk id b hM
  rw [hvv] at hv2
  obtain rfl := Option.some.inj hv2
  obtain ⟨v2, hv2, hokx⟩ := hh.blk id2 b2 hM2
  rw [hvv2] at hv2
  obtain rfl := Option.some.inj hv2
  obtain ⟨hok1, hok2⟩ := hok
  obtain ⟨hokx1, hokx2⟩ := hokx
  rw [hb] at hok2
  rw [hb2] at hokx2
  obtain ⟨xs, hown, hc⟩ := hok2
  obtain ⟨ys, hownx, hcx⟩ := hokx2
  subst hty hbs
  rw [hbs2] at hownx hcx
  rw [← hdv] at hv0
  rw [← hdv2] at hu0
  clear hrs hdv v hrx hdv2 u
  obtain ⟨v, pv⟩ := hd
  obtain ⟨u, pv2⟩ := hd2
  dsimp only at hv0 hu0 hown hc hownx hcx hh2 m2 own2
  have hc2 := (hc.mv m2 (fun _ _ _ => rfl)).append2 (hcx.mv m2 (fun _ _ _ => rfl)) (fun q hq => ⟨fun hp => hh.inj id id2 _ _ _ _ q hne hM hM2 hvv hvv2 (.inr hp) (.inr hq), fun hp => hh.inj id id2 _ _ _ _ q hne hM hM2 hvv hvv2 (.inl hp) (.inr hq)⟩)
  have hidl : id < M.length := (List.getElem?_eq_some_iff.1 hM).1
  have hM' : (M.set id2 none)[id]? = some (some b) := by rw [List.getElem?_set, if_neg (Ne.symm hne)]; exact hM
  have hv' : (β.set id ⟨v, fun q => pv q ∨ pv2 q⟩)[id]? = some ⟨v, fun q => pv q ∨ pv2 q⟩ := by rw [List.getElem?_set, if_pos rfl, if_pos (by rw [hh.len]; exact hidl)]
  have fin : ∀ v' w' xs', (Builtin.append_ #[t, t] o.type #[v, u]).run P w = .ok v' w' → w'.ownsRow E.base b.ty b.sz v' (b.es.length + b2.es.length) xs' → w.grownBy w' v.ownBlock → (∀ k, blockOf v' = some k → blockOf v = some k ∨ w.heap.size ≤ k) →
      CellsD w Fx (β.set id ⟨v, fun q => pv q ∨ pv2 q⟩) (gens (M.set id2 none)) (fun q => pv q ∨ pv2 q) (blockOf v) b.sz (b.es ++ b2.es) xs' → o.wp P a w K Q := by
    intro v' w' xs' hrun ho' hgr hfr hc'
    obtain ⟨hh', hx'⟩ := hh2.regrow hM' hb hv' hgr (es := b.es ++ b2.es) (by rw [List.length_append]; exact ho') hfr hc'
    unfold Oper.wp
    have e : (execOp a.eval o).run P w = .ok (.value v') w' := by simp [execOp, ho, resolve, invoke, builtin, hv0, hu0, hrun]
    rw [e, Oper.upon_value]
    have hl2 : id < (M.set id2 none).length := by simpa using hidl
    refine hk _ _ _ _ hh' ⟨m2.trans hx'.mv, hx'.size, fun k hF => ?_, fun i b1 v1 k g1 g2 g3 => ?_⟩ (.own ?_ (by simp [gens, hidl]) (fun g1 hg1 => ?_) (fun _ => ?_))
    · rcases hx'.lim k hF with h | h | ⟨i, b1, v1, g1, g2, g3⟩
      · exact .inl h
      · exact .inr (.inl h)
      · obtain ⟨i', b', v', k1, k2, k3⟩ := own2 i b1 v1 k g1 g2 g3
        exact .inr (.inr ⟨i', b', v', k1, k2, k3⟩)
    · rcases hx'.own i b1 v1 k g1 g2 g3 with h | ⟨i', b', v', k1, k2, k3⟩
      · exact .inl h
      · exact .inr (own2 i' b' v' k k1 k2 k3)
    · rcases ho'.2 with ⟨rfl, _⟩ | ⟨g', cap, cur, rfl, _⟩ <;> rfl
    · have := gens_of (M := (M.set id2 none).set id (some { b with es := b.es ++ b2.es, gen := b.gen + 1 })) (id := id) (b := { b with es := b.es ++ b2.es, gen := b.gen + 1 }) (by rw [List.getElem?_set, if_pos rfl, if_pos hl2])
      rw [this] at hg1
      simp at hg1
      omega
    · exact ⟨_, by rw [List.getElem?_set, if_pos rfl, if_pos (by rw [hh2.len]; exact hl2)], rfl⟩
  have one : ∀ v ∈ ys, v.oneCell' = true := fun v hv => by
    obtain ⟨q, hq⟩ := List.getElem?_of_mem hv
    have hlt : q < _ := (List.getElem?_eq_some_iff.1 hq).1
    rw [hcx.len] at hlt
    have hi' : q / b.sz < b2.es.length := (Nat.div_lt_iff_lt_mul h9).2 hlt
    have hrl := (hcx.cel (q / b.sz) _ (List.getElem?_eq_getElem hi')).1
    have hj : q % b.sz < (b2.es[q / b.sz]).length := by rw [hrl]; exact Nat.mod_lt _ h9
    obtain ⟨v2, hv2, h1, _⟩ := (hcx.cel (q / b.sz) _ (List.getElem?_eq_getElem hi')).2 (q % b.sz) _ (List.getElem?_eq_getElem hj)
    rw [Nat.div_add_mod'] at hv2
    rw [hq] at hv2
    obtain rfl := Option.some.inj hv2
    exact h1
  rcases hownx.2 with ⟨rfl, hn⟩ | ⟨g', cap, cur, rfl, _⟩
  · have e0 : b2.es = [] := List.length_eq_zero_iff.1 hn
    have e1 : ys = [] := List.eq_nil_of_length_eq_zero (by rw [hownx.1, hn, Nat.zero_mul])
    subst e1
    refine fin v w xs (run_append_none h1 h2 hown) (by rw [e0]; simpa using hown) ⟨rfl, rfl, rfl, Nat.le_refl _, fun _ _ _ => rfl⟩ (fun k hk => .inl hk) (by simpa using hc2)
  · obtain ⟨v', w', q1, q2, q3, q4⟩ := run_append_fresh (P := P) (ty := o.type) h1 h2 h3 h4 h5 h6 h9 hown hcx.len (hownx.cells (g := g') rfl) one hm hlen hh.bs
    exact fin v' w' _ q1 q2 q3 q4 hc2
end

end Go.Proofs.YtacbpfbelcdeiaaGreat.Abs
