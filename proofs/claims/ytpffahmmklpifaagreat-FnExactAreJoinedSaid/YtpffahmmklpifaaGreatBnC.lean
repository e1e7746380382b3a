/- Part C of the walk over abstract states and of the functions' walks. -/
import Derived.Test.YtpffahmmklpifaaGreatWkStep
import Derived.Test.YtpffahmmklpifaaGreatBnB
import Derived.Lib.SlicesCompact
import Derived.Shelf.GgSortFunc.InsertionK
/- The walks of PiecesIn and FullestTile. -/
namespace Go.Proofs.YtpffahmmklpifaaGreat.Abs
open Go.Proofs Go.RowKit
set_option linter.unusedVariables false
set_option linter.unusedSimpArgs false
set_option maxRecDepth 100000
set_option maxHeartbeats 2000000
attribute [local irreducible] OpA AL AW DL DLM DLR DLS QOp POp VCalls VCallsI
theorem pcIn_i (l : List TFeature) (t : Int) (hl : l.length ≤ 1048576) (hp : ∀ x ∈ l, x.gd) (hS : isSource l = true) (htl : inr t 0 440 = true) : VCalls Tryz.prog 124 [.ro 5 (l.map TFeature.en), I t] (fun r M => r = .ro 2 ((pcIn l t l.length).map TPiece.en) ∧ M = []) := by
  refine VB Tryz.func124 35 (fun E hE => ?_)
  have hclo : Clo (.ro 5 (l.map TFeature.en)) := clo_list TFeature.clo_en
  repeat' ((first
    | (refine iAL ?_; first | refine AL.any ?_ | refine AL.any (h := POp.k Tryz.func120 (hc := tileBox_i t)) ?_ | refine AL.any (h := POp.k Tryz.func121 (hc := pcs_i x (tileBox t) (by assumption) (by assumption))) ?_ | refine AL.U ?_ | refine AL.F ?_ | refine AL.T ?_ | refine AL.T (h := POp.k Tryz.func80 (hc := isSource_i _ (by assumption) (by assumption))) ?_ | refine AL.W ?_ | refine AL.W (h := fun h => by (try rw [h]); exact POp.k Tryz.func80 (hc := isSource_i _ (by assumption) (by assumption))) ?_ | refine AL.nil ?_)
    | (refine iAW ?_; first | (refine AW.freezeRet (t := 4) (id := 0) rfl rfl rfl rfl (clo_rows TPiece.clo_en) ?_; (try simp only [List.take_length]); try dsimp only [dput, List.set, cond_true, cond_false, Nat.zero_add, Nat.add_zero, Nat.reduceAdd, splice, List.take, List.drop, List.length, List.nil_append, List.cons_append, List.append, TPoint.en, TSegment.en, TBox.en, TFeature.en, TMeet.en, TPlace.en, TCover.en, TLabel.en, TPiece.en, TLevel.en, TChart.en, TReason.en, TEdit.en, TEntry.en, TEdition.en, TListing.en, TAtlas.en, TEvent.en, TWindow.en]) | (refine AW.c0 ?_; constructor) | refine AW.cT ?_ | refine AW.cF ?_ | (refine AW.c2 ?_ ?_ <;> (intro h; try simp only [bT, bF] at h)))
    | (refine AW.loopD hE (fun i : Nat => [.ro 5 (l.map TFeature.en), I t, .any, .any, .any, .own 0 i, .ref 1 0 4 0 0, .any, .any, .any, .any, .any, .any, .any, .any, .any, .any, .any, .any, .any, .any, .any, .any, .any, .ro 5 (l.map TFeature.en), I ((l.map TFeature.en).length : Int), I (i : Int), .any, .any, .any, .any, .any, .any, .any, .any, .any, .any]) (fun i => [some ⟨87, 2, i, false, (pcIn l t i).map TPiece.en⟩, some ⟨143, 4, 0, true, [(tileBox t).en]⟩]) (fun i => l.length - i) (fun i => i ≤ l.length) 0 (by simp) ?_ (by first | rfl | (simp [fil_zero]; done)) ?_
       (focus (exact wkI))
       intro i hi
       by_cases hlt : i < l.length
       case' pos =>
         have hP := True.intro
         obtain ⟨x, hx⟩ : ∃ x, l[i]? = some x := ⟨_, List.getElem?_eq_getElem hlt⟩
         have hg := map_get (f := TFeature.en) hx
         have ht := lt_true (f := TFeature.en) hlt
         have hn := next_ix hlt (by omega)
         have hgx := hp x (List.mem_of_getElem? hx)
         have hfx := src_feat hS hx
         have hm := pcIn_map (t := t) hx
         have hln := pcIn_len l t i (by omega)
         have hpl := pcs_len x (tileBox t)
         have hclQ : Clo (.ro 2 ((pcs x (tileBox t)).map TPiece.en)) := clo_list TPiece.clo_en
         have hclP : Clo (.ro 2 (x.points.map TPoint.en)) := clo_list TPoint.clo_en
         have hcle : Clo (.agg x.en) := Clo.agg x.clo_en
       case' neg =>
         have hQ := True.intro
         have ht := lt_false (f := TFeature.en) hlt
         have e : i = l.length := by omega
         subst e
         try rw [List.take_length])
    | with_reducible refine ifP ?_
    | with_reducible refine ifN ?_) <;> (try dsimp only))
  all_goals first
    | (have _ := hP; (refine ⟨i + 1, _, hlt, by omega, ?_, by rw [hm] <;> rfl, ?_, ?_⟩; (focus (exact wkN)); (focus (exact fitsA)); (focus (exact fitsM_cons (clo_rows TPiece.clo_en) (fitsM_cons (clo_one (TBox.clo_en _)) (FitsM.nil _))))))
    | (have _ := hQ; exact Fin.one rfl (RV.tmp (by rfl)) (clo_list TPiece.clo_en) ⟨rfl, rfl⟩)

abbrev enI (n : Int) : List AV := [I n]
theorem clo_enI (n : Int) : ∀ x ∈ enI n, Clo x := clo_cons (clo_c _) clo_nil
def featD : TFeature := ⟨0, 0, 0, ⟨#[]⟩, []⟩
def pcaBase (f : TFeature) : List TPiece := if (f.kind == 1) = true then [⟨f.id, 0⟩] else []
def pcaTo (f : TFeature) (i : Nat) : List TPiece := pcaBase f ++ (List.range i).map fun k => ⟨f.id, (k : Int)⟩
def pca (f : TFeature) : List TPiece := pcaTo f (partsOf f).length
theorem pcaTo_zero (f : TFeature) : pcaTo f 0 = pcaBase f := by simp [pcaTo]
theorem pcaTo_succ (f : TFeature) (i : Nat) : pcaTo f (i + 1) = pcaTo f i ++ [⟨f.id, (i : Int)⟩] := by
  unfold pcaTo
  rw [List.range_succ, List.map_append, ← List.append_assoc]
  rfl
theorem pcaTo_len (f : TFeature) (i : Nat) : (pcaTo f i).length ≤ 1 + i := by
  unfold pcaTo pcaBase
  rw [List.length_append, List.length_map, List.length_range]
  split <;> simp
theorem pca_len (f : TFeature) : (pca f).length ≤ 11 := by
  have h1 := pcaTo_len f (partsOf f).length
  have h2 := partsOf_le f
  unfold pca
  omega
def nPt (f : TFeature) : Nat := if (f.kind == 1) = true then 1 else (partsOf f).length
theorem nPt_le (f : TFeature) : nPt f ≤ 10 := by
  have h2 := partsOf_le f
  unfold nPt
  split <;> omega
def fpcTo (f : TFeature) (k : Nat) : List TPiece := (List.range k).map fun (j : Nat) => ⟨f.id, (j : Int)⟩
theorem fpcTo_succ (f : TFeature) (k : Nat) : fpcTo f (k + 1) = fpcTo f k ++ [⟨f.id, (k : Int)⟩] := by
  rw [fpcTo, List.range_succ, List.map_append]
  rfl
theorem pca_eq (f : TFeature) : fpcTo f (nPt f) = pca f := by
  unfold pca pcaTo pcaBase nPt fpcTo
  split
  · rename_i hk
    rw [parts_k1 hk]
    rfl
  · simp
def allTo (l : List TFeature) (i : Nat) : List TPiece := (l.take i).flatMap pca
theorem allTo_succ {l : List TFeature} {i : Nat} {x : TFeature} (h : l[i]? = some x) : allTo l (i + 1) = allTo l i ++ pca x := by
  unfold allTo
  rw [take_succ_of h, List.flatMap_append]
  simp
theorem allTo_len (l : List TFeature) (i : Nat) (hi : i ≤ l.length) : (allTo l i).length ≤ 11 * i := by
  induction i with
  | zero => simp [allTo]
  | succ i ih =>
    have := ih (by omega)
    have hx : l[i]? = some l[i] := List.getElem?_eq_getElem (by omega)
    have h2 := pca_len l[i]
    rw [allTo_succ hx, List.length_append]
    omega
def allPc (l : List TFeature) : List TPiece := if isSource l = true then allTo l l.length else []
theorem allPc_len (l : List TFeature) : (allPc l).length ≤ 176 := by
  unfold allPc
  split
  · rename_i hS
    have h1 := allTo_len l l.length (Nat.le_refl _)
    have h2 := src_len hS
    omega
  · simp
theorem pca_cases_f {f : TFeature} (hk : (f.kind == 1) = false) : pcaTo f 0 = [] := by rw [pcaTo_zero, pcaBase, if_neg (by rw [hk]; simp)]
theorem pca_cases_t {f : TFeature} (hk : (f.kind == 1) = true) : pcaTo f 0 = [⟨f.id, 0⟩] := by rw [pcaTo_zero, pcaBase, if_pos hk]
theorem pcaTo_map (f : TFeature) (i : Nat) : (pcaTo f (i + 1)).map TPiece.en = (pcaTo f i).map TPiece.en ++ [[I f.id, I (i : Int)]] ∧ (pcaTo f (i + 1)).length = (pcaTo f i).length + 1 := by
  rw [pcaTo_succ, List.map_append, List.length_append]
  exact ⟨rfl, rfl⟩
theorem allTo_map {l : List TFeature} {i : Nat} {x : TFeature} (h : l[i]? = some x) : (allTo l (i + 1)).map TPiece.en = (allTo l i).map TPiece.en ++ (pca x).map TPiece.en := by rw [allTo_succ h, List.map_append]
theorem fpcTo_map (f : TFeature) (k : Nat) : (fpcTo f (k + 1)).map TPiece.en = (fpcTo f k).map TPiece.en ++ [[I f.id, I (k : Int)]] := by
  rw [fpcTo_succ, List.map_append]
  rfl
theorem fpcTo_len (f : TFeature) (k : Nat) : (fpcTo f k).length = k := by rw [fpcTo, List.length_map, List.length_range]
theorem all_next {l : List TFeature} {i : Nat} {x : TFeature} (h : l[i]? = some x) : (allTo l i).map TPiece.en ++ (fpcTo x (nPt x)).map TPiece.en = (allTo l (i + 1)).map TPiece.en ∧ (allTo l i).length + nPt x = (allTo l (i + 1)).length := by
  rw [allTo_map h, allTo_succ h, List.length_append, ← pca_eq, fpcTo_len]
  exact ⟨rfl, rfl⟩
theorem allPc_f {l : List TFeature} (h : isSource l = false) : allPc l = [] := by rw [allPc, if_neg (by rw [h]; simp)]
theorem allPc_t {l : List TFeature} (h : isSource l = true) : allPc l = allTo l l.length := by rw [allPc, if_pos h]
theorem allPc_n (l : List TFeature) : allTo l (nSrc l) = allPc l := by
  unfold nSrc allPc
  split
  · rfl
  · simp [allTo]
theorem pca_i_f (f : TFeature) (hgd : f.gd) (hk : (f.kind == 1) = false) : VCalls Tryz.prog 121 [.agg f.en, .agg box0.en, B true] (fun r M => r = .ro 2 ((pca f).map TPiece.en) ∧ M = []) := by
  refine VB Tryz.func121 51 (fun E hE => ?_)
  have hclP : Clo (.ro 2 (f.points.map TPoint.en)) := clo_list TPoint.clo_en
  have hclS : Clo (.ro 4 ((partsOf f).map TSegment.en)) := clo_list TSegment.clo_en
  have hcle : Clo (.agg f.en) := Clo.agg f.clo_en
  have hpl := partsOf_le f
  have hb0 := pca_cases_f hk
  repeat' ((first
    | (refine iAL ?_; first | refine AL.any ?_ | refine AL.any (h := POp.k Tryz.func184 (hc := parts_i f (by assumption))) ?_ | refine AL.U ?_ | refine AL.F ?_ | refine AL.T ?_ | refine AL.W ?_ | refine AL.nil ?_)
    | ((with_reducible show DL ..); first | refine DL.any ?_ | refine DL.U ?_ | refine DL.F ?_ | refine DL.T ?_ | refine DL.W ?_ | refine DL.nil ?_)
    | (refine iAW ?_; first | (refine AW.freezeRet (t := 6) (id := 2) rfl rfl rfl rfl (clo_rows TPiece.clo_en) ?_; (try simp only [List.take_length]); try dsimp only [dput, List.set, cond_true, cond_false, Nat.zero_add, Nat.add_zero, Nat.reduceAdd, splice, List.take, List.drop, List.length, List.nil_append, List.cons_append, List.append, TPoint.en, TSegment.en, TBox.en, TFeature.en, TMeet.en, TPlace.en, TCover.en, TLabel.en, TPiece.en, TLevel.en, TChart.en, TReason.en, TEdit.en, TEntry.en, TEdition.en, TListing.en, TAtlas.en, TEvent.en, TWindow.en]) | (refine AW.c0 ?_; constructor) | refine AW.dr (id := 2) 11 ?_ | refine AW.cT ?_ | refine AW.cF ?_ | (refine AW.c2 ?_ ?_ <;> (intro h; try simp only [bT, bF] at h)))
    | (refine AW.loopX hE (fun i : Nat => [.any, .any, B true, .ref 0 0 5 0 0, .ref 1 0 4 0 0, .any, .any, .own 2 (pcaTo f i).length, .any, .any, .any, .any, .any, .any, .any, .any, .any, .any, .any, .any, .any, .any, .any, .any, .any, .any, .any, .any, .any, .any, .any, .any, .ro 4 ((partsOf f).map TSegment.en), I (((partsOf f).map TSegment.en).length : Int), I (i : Int), .any, .any, .any, .any, .any, .any, .any, .any, .any, .any, .any, .any, .any, .any, .any, .any, .any, .any, .any]) (fun i => [some ⟨81, 5, 0, true, [f.en]⟩, some ⟨143, 4, 0, true, [box0.en]⟩, some ⟨87, 2, (pcaTo f i).length, false, (pcaTo f i).map TPiece.en⟩]) (fun i => (partsOf f).length - i) (fun i => i ≤ (partsOf f).length) 0 _ (by simp) ?_ (by first | rfl | (rw [hb0]; rfl)) ?_ ?_ ?_
       rotate_left 1
       (focus (exact fitsA))
       (focus (exact fitsM_cons (clo_one f.clo_en) (fitsM_cons (clo_one box0.clo_en) (fitsM_cons (clo_rows TPiece.clo_en) (FitsM.nil _)))))
       rotate_right 1
       (focus ((repeat' (first | exact Wk.nil | refine Wk.any ?_ | (with_reducible refine Wk.same ?_) | refine Wk.of ?_ ?_)) <;> first | rfl | (simp_all)))
       intro i hi
       by_cases hlt : i < (partsOf f).length
       case' pos =>
         have hP := True.intro
         obtain ⟨x, hx⟩ : ∃ x, (partsOf f)[i]? = some x := ⟨_, List.getElem?_eq_getElem hlt⟩
         have hg := map_get (f := TSegment.en) hx
         have ht := lt_true (f := TSegment.en) hlt
         have hn := next_ix hlt (by omega)
         have hln := pcaTo_len f i
         obtain ⟨h1, h2⟩ := pcaTo_map f i
       case' neg =>
         have hQ := True.intro
         have ht := lt_false (f := TSegment.en) hlt
         have e : i = (partsOf f).length := by omega
         subst e
         try rw [List.take_length])
    | with_reducible refine ifP ?_
    | with_reducible refine ifN ?_) <;> (try dsimp only))
  all_goals first
    | (have _ := hP; (refine ⟨i + 1, _, hlt, by omega, ?_, by rw [h1, h2] <;> rfl, ?_, ?_⟩; (focus (exact wkN)); (focus (exact fitsA)); (focus (exact fitsM_cons (clo_one f.clo_en) (fitsM_cons (clo_one box0.clo_en) (fitsM_cons (clo_rows TPiece.clo_en) (FitsM.nil _)))))))
    | (have _ := hQ; exact Fin.one rfl (RV.tmp (by rfl)) (clo_list TPiece.clo_en) ⟨rfl, rfl⟩)

theorem pca_i_t (f : TFeature) (hgd : f.gd) (hk : (f.kind == 1) = true) : VCalls Tryz.prog 121 [.agg f.en, .agg box0.en, B true] (fun r M => r = .ro 2 ((pca f).map TPiece.en) ∧ M = []) := by
  refine VB Tryz.func121 51 (fun E hE => ?_)
  have hclP : Clo (.ro 2 (f.points.map TPoint.en)) := clo_list TPoint.clo_en
  have hclS : Clo (.ro 4 ((partsOf f).map TSegment.en)) := clo_list TSegment.clo_en
  have hcle : Clo (.agg f.en) := Clo.agg f.clo_en
  have hpl := partsOf_le f
  have hb0 := pca_cases_t hk
  repeat' ((first
    | (refine iAL ?_; first | refine AL.any ?_ | refine AL.any (h := POp.k Tryz.func184 (hc := parts_i f (by assumption))) ?_ | refine AL.U ?_ | refine AL.F ?_ | refine AL.T ?_ | refine AL.W ?_ | refine AL.nil ?_)
    | ((with_reducible show DL ..); first | refine DL.any ?_ | refine DL.U ?_ | refine DL.F ?_ | refine DL.T ?_ | refine DL.W ?_ | refine DL.nil ?_)
    | (refine iAW ?_; first | (refine AW.freezeRet (t := 6) (id := 2) rfl rfl rfl rfl (clo_rows TPiece.clo_en) ?_; (try simp only [List.take_length]); try dsimp only [dput, List.set, cond_true, cond_false, Nat.zero_add, Nat.add_zero, Nat.reduceAdd, splice, List.take, List.drop, List.length, List.nil_append, List.cons_append, List.append, TPoint.en, TSegment.en, TBox.en, TFeature.en, TMeet.en, TPlace.en, TCover.en, TLabel.en, TPiece.en, TLevel.en, TChart.en, TReason.en, TEdit.en, TEntry.en, TEdition.en, TListing.en, TAtlas.en, TEvent.en, TWindow.en]) | (refine AW.c0 ?_; constructor) | refine AW.dr (id := 2) 11 ?_ | refine AW.cT ?_ | refine AW.cF ?_ | (refine AW.c2 ?_ ?_ <;> (intro h; try simp only [bT, bF] at h)))
    | (refine AW.loopX hE (fun i : Nat => [.any, .any, B true, .ref 0 0 5 0 0, .ref 1 0 4 0 0, .any, .any, .own 2 (pcaTo f i).length, .any, .any, .any, .any, .any, .any, .any, .any, .any, .any, .any, .any, .any, .any, .any, .any, .any, .any, .any, .any, .any, .any, .any, .any, .ro 4 ((partsOf f).map TSegment.en), I (((partsOf f).map TSegment.en).length : Int), I (i : Int), .any, .any, .any, .any, .any, .any, .any, .any, .any, .any, .any, .any, .any, .any, .any, .any, .any, .any, .any]) (fun i => [some ⟨81, 5, 0, true, [f.en]⟩, some ⟨143, 4, 0, true, [box0.en]⟩, some ⟨87, 2, (pcaTo f i).length, false, (pcaTo f i).map TPiece.en⟩]) (fun i => (partsOf f).length - i) (fun i => i ≤ (partsOf f).length) 0 _ (by simp) ?_ (by first | rfl | (rw [hb0]; rfl)) ?_ ?_ ?_
       rotate_left 1
       (focus (exact fitsA))
       (focus (exact fitsM_cons (clo_one f.clo_en) (fitsM_cons (clo_one box0.clo_en) (fitsM_cons (clo_rows TPiece.clo_en) (FitsM.nil _)))))
       rotate_right 1
       (focus ((repeat' (first | exact Wk.nil | refine Wk.any ?_ | (with_reducible refine Wk.same ?_) | refine Wk.of ?_ ?_)) <;> first | rfl | (simp_all)))
       intro i hi
       by_cases hlt : i < (partsOf f).length
       case' pos =>
         have hP := True.intro
         obtain ⟨x, hx⟩ : ∃ x, (partsOf f)[i]? = some x := ⟨_, List.getElem?_eq_getElem hlt⟩
         have hg := map_get (f := TSegment.en) hx
         have ht := lt_true (f := TSegment.en) hlt
         have hn := next_ix hlt (by omega)
         have hln := pcaTo_len f i
         obtain ⟨h1, h2⟩ := pcaTo_map f i
       case' neg =>
         have hQ := True.intro
         have ht := lt_false (f := TSegment.en) hlt
         have e : i = (partsOf f).length := by omega
         subst e
         try rw [List.take_length])
    | with_reducible refine ifP ?_
    | with_reducible refine ifN ?_) <;> (try dsimp only))
  all_goals first
    | (have _ := hP; (refine ⟨i + 1, _, hlt, by omega, ?_, by rw [h1, h2] <;> rfl, ?_, ?_⟩; (focus (exact wkN)); (focus (exact fitsA)); (focus (exact fitsM_cons (clo_one f.clo_en) (fitsM_cons (clo_one box0.clo_en) (fitsM_cons (clo_rows TPiece.clo_en) (FitsM.nil _)))))))
    | (have _ := hQ; exact Fin.one rfl (RV.tmp (by rfl)) (clo_list TPiece.clo_en) ⟨rfl, rfl⟩)

theorem pca_i (f : TFeature) (hgd : f.gd) : VCalls Tryz.prog 121 [.agg f.en, .agg box0.en, B true] (fun r M => r = .ro 2 ((pca f).map TPiece.en) ∧ M = []) := by
  cases hk : (f.kind == 1)
  · exact pca_i_f f hgd hk
  · exact pca_i_t f hgd hk
theorem all_i_f (l : List TFeature) (hl : l.length ≤ 1048576) (hp : ∀ x ∈ l, x.gd) (hS : isSource l = false) : VCalls Tryz.prog 66 [.ro 5 (l.map TFeature.en)] (fun r M => r = .ro 2 ((allPc l).map TPiece.en) ∧ M = []) := by
  refine VB Tryz.func66 23 (fun E hE => ?_)
  have hclo : Clo (.ro 5 (l.map TFeature.en)) := clo_list TFeature.clo_en
  repeat' ((first
    | (refine iAL ?_; first | refine AL.any ?_ | refine AL.any (h := POp.k Tryz.func80 (hc := isSource_i _ (by assumption) (by assumption))) ?_ | refine AL.any (h := POp.k Tryz.func121 (hc := pcs_i _ _ (by assumption) (by assumption))) ?_ | refine AL.nil ?_)
    | (refine iAW ?_; first | (refine AW.freezeRet (t := 2) (id := 0) rfl rfl rfl rfl clo_rows_nil ?_; (try simp only [List.take_length]); try dsimp only [dput, List.set, cond_true, cond_false, Nat.zero_add, Nat.add_zero, Nat.reduceAdd, splice, List.take, List.drop, List.length, List.nil_append, List.cons_append, List.append, TPoint.en, TSegment.en, TBox.en, TFeature.en, TMeet.en, TPlace.en, TCover.en, TLabel.en, TPiece.en, TLevel.en, TChart.en, TReason.en, TEdit.en, TEntry.en, TEdition.en, TListing.en, TAtlas.en, TEvent.en, TWindow.en]) | (refine AW.c0 ?_; constructor) | refine AW.cT ?_ | refine AW.cF ?_ | (refine AW.c2 ?_ ?_ <;> (intro h; try simp only [bT, bF] at h)))
    | with_reducible refine ifP ?_
    | with_reducible refine ifN ?_) <;> (try dsimp only))
  all_goals exact Fin.one rfl (RV.tmp (by rfl)) (Clo.ro clo_rows_nil) ⟨by rw [allPc_f hS]; rfl, rfl⟩

theorem all_i_t (l : List TFeature) (hl : l.length ≤ 1048576) (hp : ∀ x ∈ l, x.gd) (hS : isSource l = true) : VCalls Tryz.prog 66 [.ro 5 (l.map TFeature.en)] (fun r M => r = .ro 2 ((allPc l).map TPiece.en) ∧ M = []) := by
  refine VB Tryz.func66 23 (fun E hE => ?_)
  have hclo : Clo (.ro 5 (l.map TFeature.en)) := clo_list TFeature.clo_en
  repeat' ((first
    | (refine iAL ?_; first | refine AL.any ?_ | refine AL.any (h := POp.k Tryz.func80 (hc := isSource_i _ (by assumption) (by assumption))) ?_ | refine AL.any (h := POp.k Tryz.func121 (hc := pca_i x (by assumption))) ?_ | refine AL.nil ?_)
    | (refine iAW ?_; first | (refine AW.freezeRet (t := 2) (id := 0) rfl rfl rfl rfl (clo_rows TPiece.clo_en) ?_; (try simp only [List.take_length]); try dsimp only [dput, List.set, cond_true, cond_false, Nat.zero_add, Nat.add_zero, Nat.reduceAdd, splice, List.take, List.drop, List.length, List.nil_append, List.cons_append, List.append, TPoint.en, TSegment.en, TBox.en, TFeature.en, TMeet.en, TPlace.en, TCover.en, TLabel.en, TPiece.en, TLevel.en, TChart.en, TReason.en, TEdit.en, TEntry.en, TEdition.en, TListing.en, TAtlas.en, TEvent.en, TWindow.en]) | (refine AW.c0 ?_; constructor) | refine AW.cT ?_ | refine AW.cF ?_ | (refine AW.c2 ?_ ?_ <;> (intro h; try simp only [bT, bF] at h)))
    | (refine AW.loopD hE (fun i : Nat => [.ro 5 (l.map TFeature.en), .any, .any, .own 0 i, .any, .any, .any, .any, .any, .any, .any, .ro 5 (l.map TFeature.en), I ((l.map TFeature.en).length : Int), I (i : Int), .any, .any, .any, .any, .any, .any, .any, .any, .any, .any]) (fun i => [some ⟨87, 2, i, false, (allTo l i).map TPiece.en⟩]) (fun i => l.length - i) (fun i => i ≤ l.length) 0 (by simp) ?_ (by first | rfl | (simp [fil_zero]; done)) ?_
       (focus ((repeat' (first | exact Wk.nil | refine Wk.any ?_ | (with_reducible refine Wk.same ?_) | refine Wk.of ?_ ?_)) <;> first | rfl | (rfl)))
       intro i hi
       by_cases hlt : i < l.length
       case' pos =>
         have hP := True.intro
         obtain ⟨x, hx⟩ : ∃ x, l[i]? = some x := ⟨_, List.getElem?_eq_getElem hlt⟩
         have hg := map_get (f := TFeature.en) hx
         have ht := lt_true (f := TFeature.en) hlt
         have hn := next_ix hlt (by omega)
         have hgx := hp x (List.mem_of_getElem? hx)
         have hclQ : Clo (.ro 2 ((pca x).map TPiece.en)) := clo_list TPiece.clo_en
         have hclP : Clo (.ro 2 (x.points.map TPoint.en)) := clo_list TPoint.clo_en
         have hcle : Clo (.agg x.en) := Clo.agg x.clo_en
         have hm := allTo_map hx
         have hln := allTo_len l i (by omega)
         have hpl := pca_len x
       case' neg =>
         have hQ := True.intro
         have ht := lt_false (f := TFeature.en) hlt
         have e : i = l.length := by omega
         subst e
         try rw [List.take_length])
    | with_reducible refine ifP ?_
    | with_reducible refine ifN ?_) <;> (try dsimp only))
  all_goals first
    | (have _ := hP; (refine ⟨i + 1, _, hlt, by omega, ?_, by rw [hm] <;> rfl, ?_, ?_⟩; (focus (exact wkN)); (focus (exact fitsA)); (focus (exact fits_row (clo_rows TPiece.clo_en)))))
    | (have _ := hQ; exact Fin.one rfl (RV.tmp (by rfl)) (clo_list TPiece.clo_en) ⟨by rw [allPc_t hS], rfl⟩)

theorem all_i (l : List TFeature) (hl : l.length ≤ 1048576) (hp : ∀ x ∈ l, x.gd) : VCalls Tryz.prog 66 [.ro 5 (l.map TFeature.en)] (fun r M => r = .ro 2 ((allPc l).map TPiece.en) ∧ M = []) := by
  cases hS : isSource l
  · exact all_i_f l hl hp hS
  · exact all_i_t l hl hp hS
theorem all_s (l : List TFeature) (hl : l.length ≤ 1048576) (hp : ∀ x ∈ l, x.gd) : VCalls Tryz.prog 56 [.ro 5 (l.map TFeature.en)] (fun r M => r = .ro 2 ((allPc l).map TPiece.en) ∧ M = []) := by
  refine VB Tryz.func56 45 (fun E hE => ?_)
  have hclo : Clo (.ro 5 (l.map TFeature.en)) := clo_list TFeature.clo_en
  have hclo : Clo (.ro 5 (l.map TFeature.en)) := clo_list TFeature.clo_en
  repeat' ((first
    | (refine iAL ?_; first | refine AL.any ?_ | refine AL.any (h := POp.k Tryz.func110 (hc := parts_s x (by assumption))) ?_ | refine AL.U ?_ | refine AL.F ?_ | refine AL.T ?_ | refine AL.T (h := POp.k Tryz.func78 (hc := isSource_s _ (by assumption) (by assumption))) ?_ | refine AL.W ?_ | refine AL.W (h := fun h => by (try rw [h]); exact POp.k Tryz.func78 (hc := isSource_s _ (by assumption) (by assumption))) ?_ | refine AL.nil ?_)
    | (refine iAW ?_; first | (refine AW.c0 ?_; constructor) | (refine AW.loopD hE (fun i : Nat => [.ro 5 (l.map TFeature.en), .any, .any, .own 0 (allTo l i).length, I (i : Int), .any, .any, .any, .any, .any, .any, .any, .any, .any, .any, .any, .any, .any, .any, .any, .any, .any, .any, .any, .any, .any, .any, .any, .any, .any, .any, .any, .any, .any, .any, .any, .any, .any, .any, .any, .any, .any, .any, .any, .any, .any]) (fun i => [some ⟨87, 2, (allTo l i).length, false, (allTo l i).map TPiece.en⟩]) (fun i => nSrc l - i) (fun i => i ≤ nSrc l) 0 (Nat.zero_le _) ?_ (by first | rfl | (rfl; done)) ?_) | refine AW.cT ?_ | refine AW.cF ?_ | (refine AW.c2 ?_ ?_ <;> (intro h; try simp only [bT, bF] at h)))
    | with_reducible refine ifP ?_
    | with_reducible refine ifN ?_) <;> (try dsimp only))
  · (repeat' (first | exact Wk.nil | refine Wk.any ?_ | (with_reducible refine Wk.same ?_) | refine Wk.of ?_ ?_)) <;> first | rfl | (simp; done)
  · intro i hv_i
    have hclo : Clo (.ro 5 (l.map TFeature.en)) := clo_list TFeature.clo_en
    by_cases hlt_i : i < nSrc l
    · skip
      obtain ⟨hS, hN⟩ := nSrc_t hlt_i
      obtain ⟨x, hx⟩ : ∃ x, l[i]? = some x := ⟨_, List.getElem?_eq_getElem (by omega)⟩
      have hgm := map_get (f := TFeature.en) hx
      have ht : (decide ((i : Int) < ((l.map TFeature.en).length : Int)) && isSource l) = true := by rw [hS]; simp; omega
      have hn := next_ix hlt_i (by omega)
      have hclS : Clo (.ro 4 ((partsOf x).map TSegment.en)) := clo_list TSegment.clo_en
      have hln := allTo_len l i (by omega)
      have hpl := nPt_le x
      obtain ⟨e1, e2⟩ := all_next hx
      have hnp : nPt x = if (x.kind == 1) = true then 1 else (partsOf x).length := rfl
      have hgx := hp x (List.mem_of_getElem? hx)
      have hclQ : Clo (.ro 2 ((pca x).map TPiece.en)) := clo_list TPiece.clo_en
      have hclP : Clo (.ro 2 (x.points.map TPoint.en)) := clo_list TPoint.clo_en
      have hcle : Clo (.agg x.en) := Clo.agg x.clo_en
      cases hk : (x.kind == 1)
      all_goals
        repeat' ((first
          | (refine iAL ?_; first | refine AL.any ?_ | refine AL.any (h := POp.k Tryz.func110 (hc := parts_s x (by assumption))) ?_ | refine AL.U ?_ | refine AL.F ?_ | refine AL.T ?_ | refine AL.T (h := POp.k Tryz.func78 (hc := isSource_s _ (by assumption) (by assumption))) ?_ | refine AL.W ?_ | refine AL.W (h := fun h => by (try rw [h]); exact POp.k Tryz.func78 (hc := isSource_s _ (by assumption) (by assumption))) ?_ | refine AL.nil ?_)
          | (refine iAW ?_; first | (refine AW.c0 ?_; constructor) | (refine AW.loopD hE (fun k : Nat => [.ro 5 (l.map TFeature.en), .any, .any, .own 0 ((allTo l i).length + k), I (i : Int), I ((nPt x : Nat) : Int), I (k : Int), .any, .any, .any, .any, .any, .any, .any, .any, .any, .any, .any, .any, .any, .any, .any, .any, .any, .any, .any, .any, .any, .any, .any, .any, .any, .any, .any, .any, .any, .any, .any, .any, .any, .any, .any, .any, .any, .any, .any]) (fun k => [some ⟨87, 2, (allTo l i).length + k, false, (allTo l i).map TPiece.en ++ (fpcTo x k).map TPiece.en⟩]) (fun k => nPt x - k) (fun k => k ≤ nPt x) 0 (Nat.zero_le _) ?_ (by first | rfl | (simp [fpcTo]; done)) ?_) | refine AW.cT ?_ | refine AW.cF ?_ | (refine AW.c2 ?_ ?_ <;> (intro h; try simp only [bT, bF] at h)))
          | with_reducible refine ifP ?_
          | with_reducible refine ifN ?_) <;> (try dsimp only))
        · (repeat' (first | exact Wk.nil | refine Wk.any ?_ | (with_reducible refine Wk.same ?_) | refine Wk.of ?_ ?_)) <;> first | rfl | (simp_all; done)
        · intro k hv_k
          have hclo : Clo (.ro 5 (l.map TFeature.en)) := clo_list TFeature.clo_en
          by_cases hlt_k : k < nPt x
          · skip
            have htk : decide ((k : Int) < ((nPt x : Nat) : Int)) = true := by simp; omega
            have hnk := next_ix hlt_k (by omega)
            have hm : (allTo l i).map TPiece.en ++ (fpcTo x (k + 1)).map TPiece.en = ((allTo l i).map TPiece.en ++ (fpcTo x k).map TPiece.en) ++ [[I x.id, I (k : Int)]] := by rw [fpcTo_map, List.append_assoc]
            have hfl := fpcTo_len x k
            repeat' ((first
              | (refine iAL ?_; first | refine AL.any ?_ | refine AL.any (h := POp.k Tryz.func110 (hc := parts_s x (by assumption))) ?_ | refine AL.U ?_ | refine AL.F ?_ | refine AL.T ?_ | refine AL.T (h := POp.k Tryz.func78 (hc := isSource_s _ (by assumption) (by assumption))) ?_ | refine AL.W ?_ | refine AL.W (h := fun h => by (try rw [h]); exact POp.k Tryz.func78 (hc := isSource_s _ (by assumption) (by assumption))) ?_ | refine AL.nil ?_)
              | (refine iAW ?_; first | (refine AW.c0 ?_; constructor) | refine AW.cT ?_ | refine AW.cF ?_ | (refine AW.c2 ?_ ?_ <;> (intro h; try simp only [bT, bF] at h)))
              | with_reducible refine ifP ?_
              | with_reducible refine ifN ?_) <;> (try dsimp only))
            all_goals first
              | (refine ⟨k + 1, _, hlt_k, by omega, ?_, by rw [hm] <;> rfl, ?_, ?_⟩; (focus ((repeat' (first | exact Wk.nil | refine Wk.any ?_ | (with_reducible refine Wk.same ?_) | refine Wk.of ?_ ?_)) <;> (first | rfl | simp_all))); (focus (exact fitsA)); (focus (refine fits_row ?_; exact clo_rows_app (clo_rows TPiece.clo_en) (clo_rows TPiece.clo_en))))
          · have e_k : k = nPt x := by omega
            have htk : decide ((k : Int) < ((nPt x : Nat) : Int)) = false := by simp; omega
            subst e_k
            repeat' ((first
              | (refine iAL ?_; first | refine AL.any ?_ | refine AL.any (h := POp.k Tryz.func110 (hc := parts_s x (by assumption))) ?_ | refine AL.U ?_ | refine AL.F ?_ | refine AL.T ?_ | refine AL.T (h := POp.k Tryz.func78 (hc := isSource_s _ (by assumption) (by assumption))) ?_ | refine AL.W ?_ | refine AL.W (h := fun h => by (try rw [h]); exact POp.k Tryz.func78 (hc := isSource_s _ (by assumption) (by assumption))) ?_ | refine AL.nil ?_)
              | (refine iAW ?_; first | (refine AW.c0 ?_; constructor) | refine AW.cT ?_ | refine AW.cF ?_ | (refine AW.c2 ?_ ?_ <;> (intro h; try simp only [bT, bF] at h)))
              | with_reducible refine ifP ?_
              | with_reducible refine ifN ?_) <;> (try dsimp only))
            all_goals first
              | (refine ⟨i + 1, _, hlt_i, by omega, ?_, by rw [← e1, ← e2] <;> rfl, ?_, ?_⟩; (focus ((repeat' (first | exact Wk.nil | refine Wk.any ?_ | (with_reducible refine Wk.same ?_) | refine Wk.of ?_ ?_)) <;> (first | (rw [← e2]; done) | simp_all))); (focus (exact fitsA)); (focus (exact fits_row (clo_rows TPiece.clo_en))))
    · have e_i : i = nSrc l := by omega
      have ht : (decide ((i : Int) < ((l.map TFeature.en).length : Int)) && isSource l) = false := by
        rw [e_i]
        unfold nSrc
        cases hS : isSource l
        · simp
        · simp
      subst e_i
      repeat' ((first
        | (refine iAL ?_; first | refine AL.any ?_ | refine AL.any (h := POp.k Tryz.func110 (hc := parts_s x (by assumption))) ?_ | refine AL.U ?_ | refine AL.F ?_ | refine AL.T ?_ | refine AL.T (h := POp.k Tryz.func78 (hc := isSource_s _ (by assumption) (by assumption))) ?_ | refine AL.W ?_ | refine AL.W (h := fun h => by (try rw [h]); exact POp.k Tryz.func78 (hc := isSource_s _ (by assumption) (by assumption))) ?_ | refine AL.nil ?_)
        | (refine iAW ?_; first | (refine AW.freezeRet (t := 2) (id := 0) rfl rfl rfl rfl (clo_rows TPiece.clo_en) ?_; (try simp only [List.take_length]); try dsimp only [dput, List.set, cond_true, cond_false, Nat.zero_add, Nat.add_zero, Nat.reduceAdd, splice, List.take, List.drop, List.length, List.nil_append, List.cons_append, List.append, TPoint.en, TSegment.en, TBox.en, TFeature.en, TMeet.en, TPlace.en, TCover.en, TLabel.en, TPiece.en, TLevel.en, TChart.en, TReason.en, TEdit.en, TEntry.en, TEdition.en, TListing.en, TAtlas.en, TEvent.en, TWindow.en]) | (refine AW.c0 ?_; constructor) | refine AW.cT ?_ | refine AW.cF ?_ | (refine AW.c2 ?_ ?_ <;> (intro h; try simp only [bT, bF] at h)))
        | with_reducible refine ifP ?_
        | with_reducible refine ifN ?_) <;> (try dsimp only))
      all_goals first
        | exact Fin.one rfl (RV.tmp (by rfl)) (clo_list TPiece.clo_en) ⟨by rw [allPc_n], rfl⟩

end Go.Proofs.YtpffahmmklpifaaGreat.Abs

/- Pieces of lists that stay; a row of ours cut short. -/
namespace Go.Proofs.YtpffahmmklpifaaGreat.Abs
open Go.Proofs Go.RowKit
set_option linter.unusedVariables false
set_option linter.unusedSimpArgs false
set_option maxRecDepth 100000
set_option maxHeartbeats 2000000
section
variable {P : Program} {o : Oper} {tm : List AV} {M : Mem}
theorem elem_of {t e : TypeId} (h : P.underlying t = some (.slice e)) : P.elem t = e := by simp [Program.elem, h]
theorem Addr.add_block (a : Addr) (n : Nat) : (a.add n).block = a.block := by unfold Addr.add; split <;> rfl
theorem QOp.cut_l {x y : Operand} {t e : TypeId} {sz : Nat} {es : List (List AV)} {k : IntKind} {n : Int} {es2 : List (List AV)} (ho : o.op = .slice t x (some y) none none) (ht : slk P t = some (e, sz)) (hx : evA tm x = some (.ro sz es)) (hy : sc tm y = some (.int k n)) (h0 : 0 ≤ n) (h1 : n ≤ (es.length : Int)) (he : es.drop n.toNat = es2) :
    QOp P o tm M (.ro sz es2) := he ▸ fun base w0 a w Fx β hh hs => by
  have hrep := hs.ev hx
  generalize hu : a.eval x = u at hrep
  cases hrep with
  | @ro _ _ A cap f hc hm hA hl h1c h =>
    have hun := (slk_inv ht).1
    obtain ⟨i0, hi0, hs0⟩ := info_size (slk_inv ht).2
    have hun2 : P.underlying t = some (.slice (P.elem t)) := by rw [elem_of hun]; exact hun
    refine ⟨sliced A n.toNat es.length cap sz, fun w' _ => ?_, ?_⟩
    · simp [execOp, ho, hu, hs.sc hy, run_sliceAt_slice w' t _ _ _ _ hun2, run_slice_l w' t A es.length cap hun2 k n h0 h1, elem_of hun, sizeOf, typeInfo, hi0, hs0, Result.andThen]
    · have e1 : es.length - n.toNat = (es.drop n.toNat).length := by simp
      unfold sliced
      rw [e1]
      refine .ro (fun i j => f (i + n.toNat) j) (by rw [← e1]; omega) (by rw [← e1]; omega) (fun hp => ?_) (fun i r hr => hl (i + n.toNat) r (by rw [List.getElem?_drop] at hr; rw [Nat.add_comm]; exact hr)) (fun i j => h1c _ _) (fun i r j z hr hz => h (i + n.toNat) r j z (by rw [List.getElem?_drop] at hr; rw [Nat.add_comm]; exact hr) hz)
      have hlt : n.toNat < es.length := by rw [← e1] at hp; omega
      obtain ⟨ad, rfl, hF, hcell⟩ := hA (by omega)
      rw [if_neg (by omega)]
      refine ⟨ad.add (n.toNat * sz), rfl, by rw [Addr.add_block]; exact hF, fun i r j hr hj => ?_⟩
      rw [Addr.add_add, show n.toNat * sz + (i * sz + j) = (i + n.toNat) * sz + j by rw [Nat.add_mul]; omega]
      exact hcell (i + n.toNat) r j (by rw [List.getElem?_drop] at hr; rw [Nat.add_comm]; exact hr) hj
theorem QOp.cut_h {x y : Operand} {t e : TypeId} {sz : Nat} {es : List (List AV)} {k : IntKind} {n : Int} {es2 : List (List AV)} (ho : o.op = .slice t x none (some y) none) (ht : slk P t = some (e, sz)) (hx : evA tm x = some (.ro sz es)) (hy : sc tm y = some (.int k n)) (h0 : 0 ≤ n) (h1 : n ≤ (es.length : Int)) (he : es.take n.toNat = es2) :
    QOp P o tm M (.ro sz es2) := he ▸ fun base w0 a w Fx β hh hs => by
  have hrep := hs.ev hx
  generalize hu : a.eval x = u at hrep
  cases hrep with
  | @ro _ _ A cap f hc hm hA hl h1c h =>
    have hun := (slk_inv ht).1
    obtain ⟨i0, hi0, hs0⟩ := info_size (slk_inv ht).2
    have hun2 : P.underlying t = some (.slice (P.elem t)) := by rw [elem_of hun]; exact hun
    refine ⟨sliced A 0 n.toNat cap sz, fun w' _ => ?_, ?_⟩
    · simp [execOp, ho, hu, hs.sc hy, run_sliceAt_slice w' t _ _ _ _ hun2, run_slice_h w' t A es.length cap hun2 k n h0 (by omega), elem_of hun, sizeOf, typeInfo, hi0, hs0, Result.andThen]
    · have e1 : n.toNat - 0 = (es.take n.toNat).length := by simp; omega
      have tk : ∀ {i : Nat} {r : List AV}, (es.take n.toNat)[i]? = some r → es[i]? = some r := fun {i r} hr => by
        rw [List.getElem?_take] at hr
        split at hr
        · exact hr
        · cases hr
      unfold sliced
      rw [e1, Nat.sub_zero]
      refine .ro f (by rw [← e1]; omega) (by rw [← e1]; omega) (fun hp => ?_) (fun i r hr => hl i r (tk hr)) h1c (fun i r j z hr hz => h i r j z (tk hr) hz)
      have hlt : 0 < es.length := by rw [← e1] at hp; omega
      obtain ⟨ad, rfl, hF, hcell⟩ := hA hlt
      refine ⟨ad, ?_, hF, fun i r j hr hj => hcell i r j (tk hr) hj⟩
      split
      · rfl
      · simp [Addr.add]
end

section
variable {P : Program} {E : Env} {tm : List AV} {M : Mem} {o : Oper} {w : World} {Fx : Nat → Prop} {β : List Hd} {G : List (Option Nat)}
theorem CellsD.take {pv : Nat → Prop} {hb : Option Nat} {sz : Nat} {es : List (List AV)} {xs : List Value} (h : CellsD w Fx β G pv hb sz es xs) (k : Nat) : CellsD w Fx β G pv hb sz (es.take k) (xs.take (k * sz)) := by
  have hl := h.len
  obtain ⟨h1, h2, pc, h3, h4, h5⟩ := h
  have tk : ∀ {i : Nat} {r : List AV}, (es.take k)[i]? = some r → i < k ∧ es[i]? = some r := fun {i r} hr => by
    rw [List.getElem?_take] at hr
    split at hr
    · exact ⟨by assumption, hr⟩
    · cases hr
  have tx : ∀ {i j : Nat}, i < k → j < sz → (xs.take (k * sz))[i * sz + j]? = xs[i * sz + j]? := fun {i j} hi hj => by
    have : (i + 1) * sz ≤ k * sz := Nat.mul_le_mul_right _ hi
    rw [List.getElem?_take, if_pos (by rw [Nat.add_mul] at this; omega)]
  refine ⟨?_, fun i r hr => ⟨(h2 i r (tk hr).2).1, fun j x hx => ?_⟩, pc, h3, h4, fun i r j d hr hx => ?_⟩
  · rw [List.length_take, List.length_take, hl]
    rcases Nat.le_total k es.length with h | h
    · rw [Nat.min_eq_left h, Nat.min_eq_left (Nat.mul_le_mul_right _ h)]
    · rw [Nat.min_eq_right h, Nat.min_eq_right (Nat.mul_le_mul_right _ h)]
  · obtain ⟨u, hu, ho, hR⟩ := (h2 i r (tk hr).2).2 j x hx
    exact ⟨u, by rw [tx (tk hr).1 (by rw [← (h2 i r (tk hr).2).1]; exact (List.getElem?_eq_some_iff.1 hx).1)]; exact hu, ho, hR⟩
  · obtain ⟨u, hu, hR⟩ := h5 i r j d (tk hr).2 hx
    exact ⟨u, by rw [tx (tk hr).1 (by rw [← (h2 i r (tk hr).2).1]; exact (List.getElem?_eq_some_iff.1 hx).1)]; exact hu, hR⟩
end

section
variable {P : Program} {E : Env} {tm : List AV} {M : Mem} {o : Oper}
theorem POp.lit0 {t : TypeId} {sz : Nat} {es : List (List AV)} (h : RowRun P o E tm M t sz es) (hc : ∀ r ∈ es, ∀ x ∈ r, Clo x) : POp P o E tm M (.ro sz es) M := by
  intro a w K Q Fx β hh hsl hk
  obtain ⟨v, w', xs, hrun, hg, hown, hfr, hcell⟩ := h a w Fx β hh hsl
  obtain ⟨h1, hx⟩ := hh.addRow hg hown hfr hcell
  have hM : (M ++ [some ⟨t, sz, 0, false, es⟩])[M.length]? = some (some ⟨t, sz, 0, false, es⟩) := by simp
  have hv : (β ++ [Hd.flat v])[M.length]? = some (Hd.flat v) := by rw [← hh.len]; simp
  obtain ⟨h2, m2, hrep⟩ := h1.freeze hM hv rfl hc
  obtain ⟨h3, m3⟩ := hh.step (w' := w') ⟨hg.os, hg.tape, hg.output, hg.size, fun k hk => hg.block k hk (by simp)⟩
  have hF : ∀ k, (Hd.flat v).has k → w.heap.size ≤ k := fun k hk => by
    rcases hk with hk | hk
    · exact hfr k hk
    · exact hk.elim
  have m4 : Mv w' Fx β (gens M) w' (fun k => Fx k ∨ (Hd.flat v).has k) β (gens M) := ⟨fun k h => .inl h, fun _ _ => rfl, Nat.le_refl _, fun id g' _ h => ⟨g', h, Nat.le_refl _, fun _ => rfl⟩⟩
  have h4 : HS E.base E.w0 w' (fun k => Fx k ∨ (Hd.flat v).has k) β M := by
    refine ⟨h3.bel, h3.bs, h2.fx, h3.len, fun id b hb => ?_, h3.inj⟩
    obtain ⟨u, hu, hk'⟩ := h3.blk id b hb
    refine ⟨u, hu, hk'.mv m4 (Nat.le_refl _) (fun _ _ => rfl) (fun k hk2 hF2 => ?_)⟩
    rcases hF2 with hF2 | hF2
    · exact (hk'.1 k hk2).2.2 hF2
    · obtain ⟨u0, hu0, hk0⟩ := hh.blk id b hb
      rw [hu] at hu0
      obtain rfl := Option.some.inj hu0
      have := (hk0.1 k hk2).2.1
      have := hF k hF2
      omega
  unfold Oper.wp
  rw [hrun, Oper.upon_value]
  refine hk _ _ _ _ h4 ⟨m3.trans m4, hg.size, fun k hk => ?_, fun id b u k g1 g2 g3 => .inr ⟨id, b, u, g1, g2, g3⟩⟩ ((Clo.ro hc _ _ _ _ _ hrep.cr).of_clo)
  rcases hk with hk | hk
  · exact .inl hk
  · exact .inr (.inl (hF k hk))
end

end Go.Proofs.YtpffahmmklpifaaGreat.Abs

/- The walk of a number put into a list in its order. -/
namespace Go.Proofs.YtpffahmmklpifaaGreat.Abs
open Go.Proofs Go.RowKit
set_option linter.unusedVariables false
set_option linter.unusedSimpArgs false
set_option maxRecDepth 100000
set_option maxHeartbeats 2000000
attribute [local irreducible] OpA AL AW DL DLM DLR DLS QOp POp VCalls VCallsI
def posI (l : List Int) (x : Int) : Nat := (l.takeWhile fun y => decide (y < x)).length
theorem posI_le : ∀ (l : List Int) (x : Int), posI l x ≤ l.length
  | [], _ => Nat.le_refl _
  | y :: l, x => by
    unfold posI
    rw [List.takeWhile_cons]
    split
    · have := posI_le l x
      unfold posI at this
      simp only [List.length_cons]
      omega
    · exact Nat.zero_le _
theorem posI_lt : ∀ {l : List Int} {x : Int} {i : Nat}, i < posI l x → ∃ y, l[i]? = some y ∧ decide (y < x) = true
  | [], x, i, h => by simp [posI] at h
  | y :: l, x, i, h => by
    unfold posI at h
    rw [List.takeWhile_cons] at h
    split at h
    · rename_i hy
      cases i with
      | zero => exact ⟨y, rfl, hy⟩
      | succ i =>
        simp only [List.length_cons] at h
        exact posI_lt (l := l) (x := x) (i := i) (by unfold posI; omega)
    · simp at h
theorem posI_at : ∀ {l : List Int} {x y : Int}, l[posI l x]? = some y → decide (y < x) = false
  | [], x, y, h => by simp at h
  | z :: l, x, y, h => by
    unfold posI at h
    rw [List.takeWhile_cons] at h
    split at h
    · simp only [List.length_cons, List.getElem?_cons_succ] at h
      exact posI_at (l := l) (x := x) h
    · rename_i hz
      simp only [List.length_nil, List.getElem?_cons_zero, Option.some.injEq] at h
      subst h
      simpa using hz
def putI (l : List Int) (x : Int) : List Int := if l[posI l x]? = some x then l else l.take (posI l x) ++ [x] ++ l.drop (posI l x)
theorem putI_y {l : List Int} {x y : Int} (h : l[posI l x]? = some y) (e : (y == x) = true) : putI l x = l := by
  unfold putI
  rw [if_pos (by rw [h]; simpa using e)]
theorem putI_n {l : List Int} {x y : Int} (h : l[posI l x]? = some y) (e : (y == x) = false) : putI l x = l.take (posI l x) ++ [x] ++ l.drop (posI l x) := by
  unfold putI
  rw [if_neg (by rw [h]; simpa using e)]
theorem putI_end {l : List Int} {x : Int} (h : posI l x = l.length) : putI l x = l.take l.length ++ [x] ++ l.drop l.length := by
  unfold putI
  rw [h, if_neg (by rw [List.getElem?_eq_none (Nat.le_refl _)]; simp)]
theorem put14_s (l : List Int) (x : Int) (hl : l.length ≤ 1048576) : VCalls Tryz.prog 54 [.ro 1 (l.map enI), I x] (fun r M => r = .own 0 0 ∧ M = [some ⟨3, 1, 0, false, (putI l x).map enI⟩]) := by
  refine VB Tryz.func54 45 (fun E hE => ?_)
  have hclo : Clo (.ro 1 (l.map enI)) := clo_list (fun n => clo_cons (clo_c _) clo_nil)
  repeat' ((first
    | (refine iAL ?_; first | refine AL.any ?_ | refine AL.U ?_ | refine AL.F ?_ | refine AL.T ?_ | refine AL.W ?_ | refine AL.nil ?_)
    | ((with_reducible show DL ..); first | refine DL.any ?_ | refine DL.nil ?_)
    | ((with_reducible show DLR ..); first | refine DLR.any ?_ | refine DLR.alloc rfl rfl (by first | exact ze2 | exact ze3 | exact ze4 | exact ze5 | exact ze6 | exact ze8 | exact ze9 | exact ze10 | exact ze11 | exact ze12 | exact ze13 | exact ze14 | exact ze15 | exact ze16 | exact ze17 | exact ze18 | exact ze19 | exact ze22 | exact ze23 | exact ze24 | exact ze25 | exact ze26 | exact ze27 | exact ze28 | exact ze31 | exact ze32 | exact ze33 | exact ze34 | exact ze36 | exact ze42 | exact ze56 | exact ze129 | exact ze132) rfl rfl ?_ | refine DLR.box rfl rfl (by rfl) (by rfl) rfl rfl ?_ | refine DLR.store rfl rfl (by rfl) rfl rfl rfl rfl rfl (by rfl) (by rfl) (TT_ok.ld _ _ (by rfl)) (by rfl) (by rfl) rfl ?_ | refine DLR.row rfl (fun Y => RowRun.empty (by rfl) (by rfl) (by first | exact rwk22 | exact rwk23 | exact rwk24 | exact rwk31 | exact rwk32 | exact rwk33 | exact rwk56)) rfl rfl ?_ | refine DLR.row rfl (fun Y => RowRun.literal (by rfl) (by first | exact rwk22 | exact rwk23 | exact rwk24 | exact rwk31 | exact rwk32 | exact rwk33 | exact rwk56) (by rfl) (by rfl) (by rfl) (by rfl) (by rfl) (by rfl)) rfl rfl ?_ | refine DLR.append rfl (by rfl) (by first | exact rwk22 | exact rwk23 | exact rwk24 | exact rwk31 | exact rwk32 | exact rwk33 | exact rwk56) (by rfl) rfl rfl rfl rfl rfl rfl (by rfl) (by first | (simp <;> omega) | omega) (by first | (simp [maxLen] <;> omega) | (simp_all [maxLen] <;> omega)) ?_ | refine DLR.nil ?_)
    | (refine iAW ?_; first | (refine AW.c0 ?_; constructor) | refine AW.drawnR (id := 6) 11 1 [some 0, none, none, none, some 0, none, none, some 0, none, none, none] [some Rsv] rfl (by kernel_rfl) (by kernel_rfl) (by kernel_rfl) (by rfl) ?_ | refine AW.cT ?_ | refine AW.cF ?_ | (refine AW.c2 ?_ ?_ <;> (intro h; try simp only [bT, bF] at h)))
    | ((with_reducible show DLR ..); first | refine DLR.any (h := fun Y => POp.quiet (QOp.cut_h (by rfl) slk56 (by rfl) (by rfl) (by first | decide | omega) (by first | assumption | omega) (by assumption))) ?_ | refine DLR.any (h := fun Y => POp.quiet (QOp.cut_l (by rfl) slk56 (by rfl) (by rfl) (by first | decide | omega) (by first | assumption | omega) (by assumption))) ?_ | refine DLR.any (h := fun Y => POp.lit0 (RowRun.literal (by rfl) rwk56 (by rfl) (by rfl) (by rfl) (by rfl) (by rfl) (by rfl)) (clo_rows_b rfl)) ?_)
    | (refine AW.loopD hE (fun i : Nat => [.ro 1 (l.map enI), I x, .any, .any, .any, I (i : Int), .any, .any, .any, .any, .any, .any, .any, .any, .any, .any, .any, .any, .any, .any, .any, .any, .any, .any, .any, .any, .any, .any, .any, .any, .any, .any, .any, .any, .any, .any, .any, .any, .any, .any, .any, .any, .any, .any, .any, .any, .any]) (fun i => []) (fun i => (posI l x) - i) (fun i => i ≤ posI l x) 0 (Nat.zero_le _) ?_ (by first | rfl | (simp [fil_zero]; done)) ?_
       (focus (exact wkI))
       intro i hi
       by_cases hlt : i < (posI l x)
       case' pos =>
         have hP := True.intro
         obtain ⟨y, hy, hyl⟩ := posI_lt hlt
         have hN := (List.getElem?_eq_some_iff.1 hy).1
         have hg := map_get (f := enI) hy
         have ht := lt_true (f := enI) hN
         have hn := next_ix hN (by omega)
       case' neg =>
         have hQ := True.intro
         have e : i = (posI l x) := by omega
         subst e
         have hle := posI_le l x
         obtain ⟨K, hK⟩ : ∃ K, K = posI l x := ⟨_, rfl⟩
         rw [← hK] at hle ⊢
         have hK1 : ((K : Nat) : Int) ≤ ((l.map enI).length : Int) := by rw [List.length_map]; omega
         have hd0 : (l.map enI).drop ((K : Nat) : Int).toNat = (l.drop K).map enI := by rw [Int.toNat_natCast, List.map_drop]
         have ht0 : (l.map enI).take ((K : Nat) : Int).toNat = (l.take K).map enI := by rw [Int.toNat_natCast, List.map_take]
         have hc1 : Clo (.ro 1 ((l.take K).map enI)) := clo_list (fun n => clo_cons (clo_c _) clo_nil)
         have hc2 : Clo (.ro 1 ((l.drop K).map enI)) := clo_list (fun n => clo_cons (clo_c _) clo_nil)
         have hl1 : (l.take K).length ≤ 1048576 := by rw [List.length_take]; omega
         have hl2 : (l.drop K).length ≤ 1048576 := by rw [List.length_drop]; omega
         have hap : (l.take K ++ [x] ++ l.drop K).map enI = (l.take K).map enI ++ [[I x]] ++ (l.drop K).map enI := by rw [List.map_append, List.map_append]; rfl
         have hdc : DCl ((l.take K).map enI ++ [[I x]] ++ (l.drop K).map enI) := hap ▸ DCl.map (fun _ => rfl)
         rcases Nat.lt_or_ge K l.length with hlt2 | hlt2
         rotate_left 1
         have hpe : putI l x = l.take K ++ [x] ++ l.drop K := by
           have e2 : posI l x = l.length := by omega
           rw [putI_end e2, hK, e2]
         have ht : decide (((K : Nat) : Int) < ((l.map enI).length : Int)) = false := by rw [List.length_map]; simp; omega
         rotate_left 1
         obtain ⟨y, hy⟩ : ∃ y, l[K]? = some y := ⟨_, List.getElem?_eq_getElem hlt2⟩
         have hyl := posI_at (l := l) (x := x) (y := y) (by rw [← hK]; exact hy)
         have hN := (List.getElem?_eq_some_iff.1 hy).1
         have hg := map_get (f := enI) hy
         have ht := lt_true (f := enI) hN
         rcases Bool.eq_false_or_eq_true (y == x) with hyx | hyx
         have hpe : putI l x = l := putI_y (by rw [← hK]; exact hy) hyx
         rotate_left 1
         have hpe : putI l x = l.take K ++ [x] ++ l.drop K := by rw [putI_n (by rw [← hK]; exact hy) hyx, ← hK]
         rotate_left 1)
    | with_reducible refine ifP ?_
    | with_reducible refine ifN ?_) <;> (try dsimp only))
  all_goals first
    | (have _ := hP; (refine ⟨i + 1, _, hlt, by omega, ?_, rfl, ?_, ?_⟩; (focus (exact wkN)); (focus (exact fitsA)); (focus (exact FitsM.nil _))))
    | (have _ := hQ; first | exact Fin.r1 [0] rfl (RV.tmp (by rfl)) ⟨rfl, by rw [hpe, hap] <;> rfl⟩ (hok := ⟨⟨_, rfl, hdc⟩, trivial⟩) | exact Fin.r1 [0] rfl (RV.tmp (by rfl)) ⟨rfl, by rw [hpe] <;> rfl⟩)

theorem put14_s' (l : List Int) (x : Int) (hl : l.length ≤ 1048576) : VCalls Tryz.prog 54 [.ro 1 (l.map enI), I x] (fun r M => r = .ro 1 ((putI l x).map enI) ∧ M = []) := VCalls.frz (put14_s l x hl) vwlT
section
variable {α : Type}
structure STO (lt : α → α → Prop) : Prop where
  irr : ∀ x, ¬ lt x x
  tr : ∀ x y z, lt x y → lt y z → lt x z
  tri : ∀ x y, lt x y ∨ x = y ∨ lt y x
theorem asc_ext {lt : α → α → Prop} (h : STO lt) : ∀ {l m : List α}, l.Pairwise lt → m.Pairwise lt → (∀ x, x ∈ l ↔ x ∈ m) → l = m
  | [], [], _, _, _ => rfl
  | [], b :: m, _, _, he => by have := (he b).2 List.mem_cons_self; simp at this
  | a :: l, [], _, _, he => by have := (he a).1 List.mem_cons_self; simp at this
  | a :: l, b :: m, hl, hm, he => by
    obtain ⟨hl1, hl2⟩ := List.pairwise_cons.1 hl
    obtain ⟨hm1, hm2⟩ := List.pairwise_cons.1 hm
    have e : a = b := by
      rcases List.mem_cons.1 ((he a).1 List.mem_cons_self) with h1 | h1
      · exact h1
      · rcases List.mem_cons.1 ((he b).2 List.mem_cons_self) with h2 | h2
        · exact h2.symm
        · exact absurd (h.tr _ _ _ (hm1 a h1) (hl1 b h2)) (h.irr b)
    subst e
    have hno : ∀ {k : List α}, (∀ y ∈ k, lt a y) → a ∉ k := fun hk ha => h.irr a (hk a ha)
    rw [asc_ext h hl2 hm2 fun x => ⟨fun hx => by
      rcases List.mem_cons.1 ((he x).1 (List.mem_cons_of_mem _ hx)) with rfl | h1
      · exact absurd hx (hno hl1)
      · exact h1, fun hx => by
      rcases List.mem_cons.1 ((he x).2 (List.mem_cons_of_mem _ hx)) with rfl | h1
      · exact absurd hx (hno hm1)
      · exact h1⟩]
variable [DecidableEq α]
def cp (l : List α) : Nat → List α
  | 0 => []
  | m + 1 => cp l m ++ (if m = 0 ∨ l[m]? ≠ l[m - 1]? then l[m]?.toList else [])
theorem cp_len (l : List α) : ∀ m, (cp l m).length ≤ m
  | 0 => Nat.le_refl _
  | m + 1 => by
    have := cp_len l m
    rw [cp, List.length_append]
    split
    · cases l[m]? <;> simp <;> omega
    · simp; omega
theorem cp_same {l : List α} {m : Nat} (h0 : m ≠ 0) (h : l[m]? = l[m - 1]?) : cp l (m + 1) = cp l m := by
  rw [cp, if_neg (by rw [h]; simp [h0]), List.append_nil]
theorem cp_new {l : List α} {m : Nat} {x : α} (hx : l[m]? = some x) (h : m = 0 ∨ l[m]? ≠ l[m - 1]?) : cp l (m + 1) = cp l m ++ [x] := by
  rw [cp, if_pos h, hx]
  rfl
theorem cp_all {l : List α} : ∀ {m : Nat}, m ≤ l.length → (∀ j, 0 < j → j < m → l[j]? ≠ l[j - 1]?) → cp l m = l.take m
  | 0, _, _ => by simp [cp]
  | m + 1, hm, h => by
    have hx := List.getElem?_eq_getElem (l := l) (i := m) (by omega)
    rw [cp_new hx (by rcases Nat.eq_zero_or_pos m with e | e; exact .inl e; exact .inr (h m e (by omega))), cp_all (by omega) fun j h0 hj => h j h0 (by omega)]
    rw [List.take_add_one, hx]
    rfl
theorem cp_asc {lt : α → α → Prop} (h : STO lt) {l : List α} (hl : l.Pairwise fun x y => lt x y ∨ x = y) : ∀ m, m ≤ l.length → (cp l m).Pairwise lt ∧ (∀ x, x ∈ cp l m ↔ x ∈ l.take m)
  | 0, _ => ⟨List.Pairwise.nil, fun x => by simp [cp]⟩
  | m + 1, hm => by
    obtain ⟨ih1, ih2⟩ := cp_asc h hl m (by omega)
    have hx := List.getElem?_eq_getElem (l := l) (i := m) (by omega)
    have ht : l.take (m + 1) = l.take m ++ [l[m]] := by rw [List.take_add_one, hx]; rfl
    have hle : ∀ y ∈ l.take m, lt y l[m] ∨ y = l[m] := fun y hy => by
      obtain ⟨q, hq⟩ := List.getElem?_of_mem hy
      rw [List.getElem?_take] at hq
      split at hq
      · rename_i hlt
        have := List.pairwise_iff_getElem.1 hl q m (by omega) (by omega) hlt
        rw [List.getElem?_eq_getElem (by omega)] at hq
        obtain rfl := Option.some.inj hq
        exact this
      · cases hq
    by_cases hc : m = 0 ∨ l[m]? ≠ l[m - 1]?
    · rw [cp_new hx hc, ht]
      refine ⟨List.pairwise_append.2 ⟨ih1, by simp, fun y hy z hz => ?_⟩, fun x => by rw [List.mem_append, List.mem_append, ih2]⟩
      simp at hz
      subst hz
      rcases hle y ((ih2 y).1 hy) with h1 | h1
      · exact h1
      · rcases hc with rfl | hc
        · simp [cp] at hy
        · have hm0 : 0 < m := by
            rcases Nat.eq_zero_or_pos m with e | e
            · subst e; simp [cp] at hy
            · exact e
          have hp := List.getElem?_eq_getElem (l := l) (i := m - 1) (by omega)
          have hlast := List.pairwise_iff_getElem.1 hl (m - 1) m (by omega) (by omega) (by omega)
          rcases hlast with h2 | h2
          · -- y ≤ l[m-1] < l[m] = y
            obtain ⟨q, hq⟩ := List.getElem?_of_mem ((ih2 y).1 hy)
            rw [List.getElem?_take] at hq
            split at hq
            · rename_i hlt
              rw [List.getElem?_eq_getElem (by omega)] at hq
              obtain rfl := Option.some.inj hq
              rcases Nat.lt_or_ge q (m - 1) with h3 | h3
              · rcases List.pairwise_iff_getElem.1 hl q (m - 1) (by omega) (by omega) h3 with h4 | h4
                · exact h.tr _ _ _ h4 h2
                · rw [h4]; exact h2
              · have : q = m - 1 := by omega
                subst this
                exact h2
            · cases hq
          · exact absurd (by rw [hx, hp, h2]) hc
    · rw [cp_same (by omega) (by simpa using (not_or.1 hc).2), ht]
      refine ⟨ih1, fun x => ?_⟩
      rw [ih2, List.mem_append]
      refine ⟨.inl, fun h1 => h1.elim id fun h1 => ?_⟩
      simp at h1
      subst h1
      have hm0 : 0 < m := by omega
      have hp := List.getElem?_eq_getElem (l := l) (i := m - 1) (by omega)
      have e : l[m] = l[m - 1] := by
        have := (not_or.1 hc).2
        simp only [Decidable.not_not, ne_eq] at this
        rw [hx, hp] at this
        exact Option.some.inj this
      rw [e]
      exact List.mem_of_getElem? (i := m - 1) (by rw [List.getElem?_take, if_pos (by omega), hp])
theorem compact_cp [Inhabited α] (l : List α) : Lib.compact l = cp l l.length := by
  unfold Lib.compact
  have : ∀ m, m ≤ l.length → Lib.compactUpTo l.toArray m = cp l m := fun m => by
    induction m with
    | zero => intro _; rfl
    | succ m ih =>
      intro hm
      have hx := List.getElem?_eq_getElem (l := l) (i := m) (by omega)
      rw [Lib.compactUpTo_succ, ih (by omega), cp]
      congr 1
      have e : l.toArray[m]! = l[m] := by rw [getElem!_pos _ m (by simpa using (by omega : m < l.length))]; rfl
      rcases Nat.eq_zero_or_pos m with h0 | h0
      · subst h0
        simp only [Lib.keeps, true_or, decide_true, if_true, hx, e]
        rfl
      · have e2 : l.toArray[m - 1]! = l[m - 1] := by rw [getElem!_pos _ (m - 1) (by simpa using (by omega : m - 1 < l.length))]; rfl
        have hp := List.getElem?_eq_getElem (l := l) (i := m - 1) (by omega)
        have hm0 : m ≠ 0 := by omega
        simp only [Lib.keeps, e, e2, hx, hp, hm0, false_or, ne_eq, Option.some.injEq]
        by_cases hq : l[m] = l[m - 1] <;> simp [hq]
  exact this _ (Nat.le_refl _)
theorem sorted_cp {lt : α → α → Prop} (h : STO lt) {le : α → α → Bool} (hle : ∀ x y, le x y = true ↔ lt x y ∨ x = y) (l : List α) : (cp (l.mergeSort le) (l.mergeSort le).length).Pairwise lt ∧ ∀ x, x ∈ cp (l.mergeSort le) (l.mergeSort le).length ↔ x ∈ l := by
  have hp : (l.mergeSort le).Pairwise fun x y => lt x y ∨ x = y := (List.pairwise_mergeSort (fun x y z h1 h2 => (hle x z).2 (by
    rcases (hle x y).1 h1 with h1 | rfl
    · rcases (hle y z).1 h2 with h2 | rfl
      · exact .inl (h.tr _ _ _ h1 h2)
      · exact .inl h1
    · exact (hle x z).1 h2)) (fun x y => by
    rcases h.tri x y with h1 | h1 | h1
    · simp [(hle x y).2 (.inl h1)]
    · simp [(hle x y).2 (.inr h1)]
    · simp [(hle y x).2 (.inl h1)]) l).imp fun {x y} hxy => (hle x y).1 hxy
  obtain ⟨h1, h2⟩ := cp_asc h hp _ (Nat.le_refl _)
  refine ⟨h1, fun x => ?_⟩
  rw [h2, List.take_length, List.mem_mergeSort]
end
theorem sto_int : STO (fun x y : Int => x < y) := ⟨fun x => Int.lt_irrefl x, fun x y z => Int.lt_trans, fun x y => by omega⟩
theorem putI_asc {l : List Int} (hl : l.Pairwise (· < ·)) (x : Int) : (putI l x).Pairwise (· < ·) ∧ ∀ y, y ∈ putI l x ↔ y = x ∨ y ∈ l := by
  have hlow : ∀ y ∈ l.take (posI l x), y < x := fun y hy => by
    obtain ⟨q, hq⟩ := List.getElem?_of_mem hy
    rw [List.getElem?_take] at hq
    split at hq
    · rename_i hlt
      obtain ⟨z, hz, hz2⟩ := posI_lt hlt
      rw [hz] at hq
      obtain rfl := Option.some.inj hq
      simpa using hz2
    · cases hq
  have hhigh : ∀ y ∈ l.drop (posI l x), x ≤ y := fun y hy => by
    obtain ⟨q, hq⟩ := List.getElem?_of_mem hy
    rw [List.getElem?_drop] at hq
    have hlt : posI l x < l.length := by have := (List.getElem?_eq_some_iff.1 hq).1; omega
    have h1 := posI_at (List.getElem?_eq_getElem hlt)
    simp at h1
    rcases Nat.eq_zero_or_pos q with e | e
    · subst e
      rw [Nat.add_zero, List.getElem?_eq_getElem hlt] at hq
      obtain rfl := Option.some.inj hq
      exact h1
    · have hq2 := (List.getElem?_eq_some_iff.1 hq).1
      have := List.pairwise_iff_getElem.1 hl (posI l x) (posI l x + q) hlt hq2 (by omega)
      rw [List.getElem?_eq_getElem hq2] at hq
      obtain rfl := Option.some.inj hq
      omega
  have hsplit : ∀ y, y ∈ l ↔ y ∈ l.take (posI l x) ∨ y ∈ l.drop (posI l x) := fun y => by
    rw [← List.mem_append, List.take_append_drop]
  unfold putI
  split
  · rename_i h
    exact ⟨hl, fun y => ⟨.inr, fun hy => hy.elim (fun e => by rw [e]; exact List.mem_of_getElem? h) id⟩⟩
  · rename_i h
    refine ⟨?_, fun y => ?_⟩
    · rw [List.pairwise_append, List.pairwise_append]
      refine ⟨⟨hl.sublist (List.take_sublist _ _), by simp, fun y hy z hz => ?_⟩, hl.sublist (List.drop_sublist _ _), fun y hy z hz => ?_⟩
      · simp at hz; subst hz; exact hlow y hy
      · have hxz : x < z := by
          have h1 := hhigh z hz
          rcases Int.lt_or_le x z with h2 | h2
          · exact h2
          · exfalso
            have e : z = x := by omega
            subst e
            obtain ⟨q, hq⟩ := List.getElem?_of_mem hz
            rw [List.getElem?_drop] at hq
            rcases Nat.eq_zero_or_pos q with e0 | e0
            · subst e0; exact h hq
            · have hlt : posI l z < l.length := by have := (List.getElem?_eq_some_iff.1 hq).1; omega
              have hq2 := (List.getElem?_eq_some_iff.1 hq).1
              have h3 := List.pairwise_iff_getElem.1 hl (posI l z) (posI l z + q) hlt hq2 (by omega)
              rw [List.getElem?_eq_getElem hq2] at hq
              have h4 := hhigh l[posI l z] (List.mem_of_getElem? (i := 0) (by rw [List.getElem?_drop, Nat.add_zero, List.getElem?_eq_getElem hlt]))
              have := Option.some.inj hq
              omega
        rcases List.mem_append.1 hy with hy | hy
        · exact Int.lt_trans (hlow y hy) hxz
        · simp at hy; subst hy; exact hxz
    · rw [List.mem_append, List.mem_append, hsplit y, List.mem_singleton]
      constructor
      · rintro ((h1 | h1) | h1)
        · exact .inr (.inl h1)
        · exact .inl h1
        · exact .inr (.inr h1)
      · rintro (h1 | h1 | h1)
        · exact .inl (.inr h1)
        · exact .inl (.inl h1)
        · exact .inr h1
def putIs (l : List Int) : List Int → List Int
  | [] => l
  | x :: xs => putIs (putI l x) xs
theorem putIs_asc : ∀ {xs l : List Int}, l.Pairwise (· < ·) → (putIs l xs).Pairwise (· < ·) ∧ ∀ y, y ∈ putIs l xs ↔ y ∈ xs ∨ y ∈ l
  | [], l, hl => ⟨hl, fun y => by simp [putIs]⟩
  | x :: xs, l, hl => by
    obtain ⟨h1, h2⟩ := putI_asc hl x
    obtain ⟨h3, h4⟩ := putIs_asc (xs := xs) h1
    refine ⟨h3, fun y => ?_⟩
    rw [putIs, h4, h2, List.mem_cons]
    constructor
    · rintro (h | h | h) <;> simp [h]
    · rintro ((h | h) | h) <;> simp [h]
theorem putIs_sorted (xs : List Int) : putIs [] xs = Lib.compact (xs.mergeSort fun x y => decide (x ≤ y)) := by
  obtain ⟨h1, h2⟩ := putIs_asc (xs := xs) (l := []) List.Pairwise.nil
  obtain ⟨h3, h4⟩ := sorted_cp sto_int (le := fun x y => decide (x ≤ y)) (fun x y => by simp; omega) xs
  rw [compact_cp]
  exact asc_ext sto_int h1 h3 fun y => by rw [h2, h4]; simp
theorem putIs_app : ∀ (xs ys l : List Int), putIs l (xs ++ ys) = putIs (putIs l xs) ys
  | [], _, _ => rfl
  | x :: xs, ys, l => by rw [List.cons_append, putIs, putIs_app xs ys, putIs]

section
variable {α : Type}
def posR (p : α → Bool) (l : List α) : Nat := l.length - (l.reverse.takeWhile p).length
theorem takeWhile_le (p : α → Bool) : ∀ l : List α, (l.takeWhile p).length ≤ l.length
  | [] => Nat.le_refl _
  | a :: l => by
    rw [List.takeWhile_cons]
    split
    · have := takeWhile_le p l; simp only [List.length_cons]; omega
    · simp
theorem takeWhile_lt {p : α → Bool} : ∀ {l : List α} {i : Nat}, i < (l.takeWhile p).length → ∃ y, l[i]? = some y ∧ p y = true
  | [], i, h => by simp at h
  | a :: l, i, h => by
    rw [List.takeWhile_cons] at h
    split at h
    · cases i with
      | zero => exact ⟨a, rfl, by assumption⟩
      | succ i => exact takeWhile_lt (l := l) (by simpa using h)
    · simp at h
theorem takeWhile_at {p : α → Bool} : ∀ {l : List α} {y : α}, l[(l.takeWhile p).length]? = some y → p y = false
  | [], y, h => by simp at h
  | a :: l, y, h => by
    rw [List.takeWhile_cons] at h
    split at h
    · exact takeWhile_at (l := l) (by simpa using h)
    · rename_i hp
      simp only [List.length_nil, List.getElem?_cons_zero, Option.some.injEq] at h
      subst h
      simpa using hp
theorem posR_le (p : α → Bool) (l : List α) : posR p l ≤ l.length := Nat.sub_le _ _
theorem posR_ge {p : α → Bool} {l : List α} {i : Nat} {y : α} (hi : posR p l ≤ i) (hy : l[i]? = some y) : p y = true := by
  have hlt := (List.getElem?_eq_some_iff.1 hy).1
  have h1 := takeWhile_le p l.reverse
  rw [List.length_reverse] at h1
  unfold posR at hi
  obtain ⟨z, hz, hpz⟩ := takeWhile_lt (p := p) (l := l.reverse) (i := l.length - 1 - i) (by omega)
  rw [List.getElem?_reverse (by omega), show l.length - 1 - (l.length - 1 - i) = i by omega, hy] at hz
  obtain rfl := Option.some.inj hz
  exact hpz
theorem posR_lt {p : α → Bool} {l : List α} {y : α} (h0 : 0 < posR p l) (hy : l[posR p l - 1]? = some y) : p y = false := by
  have h1 := takeWhile_le p l.reverse
  rw [List.length_reverse] at h1
  unfold posR at hy h0
  refine takeWhile_at (p := p) (l := l.reverse) ?_
  rw [List.getElem?_reverse (by omega), ← hy]
  congr 1
  omega
def insR (p : α → Bool) (l : List α) (x : α) : List α := l.take (posR p l) ++ [x] ++ l.drop (posR p l)
theorem mem_insR (p : α → Bool) (l : List α) (x y : α) : y ∈ insR p l x ↔ y = x ∨ y ∈ l := by
  have hs : y ∈ l ↔ y ∈ l.take (posR p l) ∨ y ∈ l.drop (posR p l) := by rw [← List.mem_append, List.take_append_drop]
  unfold insR
  rw [List.mem_append, List.mem_append, hs, List.mem_singleton]
  constructor
  · rintro ((h1 | h1) | h1) <;> simp [h1]
  · rintro (h1 | h1 | h1) <;> simp [h1]
theorem insR_len (p : α → Bool) (l : List α) (x : α) : (insR p l x).length = l.length + 1 := by
  have := posR_le p l
  unfold insR
  simp
  omega
theorem insR_asc {lt : α → α → Prop} (h : STO lt) {p : α → Bool} {x : α} (hp : ∀ y, p y = true ↔ lt x y) {l : List α} (hl : l.Pairwise lt) :
    (∀ y ∈ l.drop (posR p l), lt x y) ∧ (∀ y ∈ l.take (posR p l), lt y x ∨ y = x) ∧ ((0 < posR p l → l[posR p l - 1]? ≠ some x) → x ∉ l ∧ (insR p l x).Pairwise lt) := by
  have hhigh : ∀ y ∈ l.drop (posR p l), lt x y := fun y hy => by
    obtain ⟨q, hq⟩ := List.getElem?_of_mem hy
    rw [List.getElem?_drop] at hq
    exact (hp y).1 (posR_ge (Nat.le_add_right _ _) hq)
  have hlow : ∀ i y, i < posR p l → l[i]? = some y → lt y x ∨ (y = x ∧ i = posR p l - 1) := fun i y hi hy => by
    have hle := posR_le p l
    have hlast := List.getElem?_eq_getElem (l := l) (i := posR p l - 1) (by omega)
    have hnl := posR_lt (by omega) hlast
    have hz : lt l[posR p l - 1] x ∨ l[posR p l - 1] = x := by
      rcases h.tri l[posR p l - 1] x with h1 | h1 | h1
      · exact .inl h1
      · exact .inr h1
      · rw [(hp _).2 h1] at hnl; cases hnl
    rcases Nat.lt_or_ge i (posR p l - 1) with h2 | h2
    · have h3 := List.pairwise_iff_getElem.1 hl i (posR p l - 1) (by omega) (by omega) h2
      rw [List.getElem?_eq_getElem (by omega)] at hy
      obtain rfl := Option.some.inj hy
      rcases hz with hz | hz
      · exact .inl (h.tr _ _ _ h3 hz)
      · rw [hz] at h3; exact .inl h3
    · have e : i = posR p l - 1 := by omega
      subst e
      rw [hlast] at hy
      obtain rfl := Option.some.inj hy
      exact hz.imp id fun e => ⟨e, rfl⟩
  have hlow' : ∀ y ∈ l.take (posR p l), ∃ i, i < posR p l ∧ l[i]? = some y := fun y hy => by
    obtain ⟨q, hq⟩ := List.getElem?_of_mem hy
    rw [List.getElem?_take] at hq
    split at hq
    · exact ⟨q, by assumption, hq⟩
    · cases hq
  refine ⟨hhigh, fun y hy => ?_, fun hne => ?_⟩
  · obtain ⟨i, hi, hy⟩ := hlow' y hy
    exact (hlow i y hi hy).imp id And.left
  · have hlt : ∀ y ∈ l.take (posR p l), lt y x := fun y hy => by
      obtain ⟨i, hi, hy⟩ := hlow' y hy
      rcases hlow i y hi hy with h1 | ⟨rfl, rfl⟩
      · exact h1
      · exact absurd hy (hne (by omega))
    refine ⟨fun hx => ?_, ?_⟩
    · rw [← List.take_append_drop (posR p l) l, List.mem_append] at hx
      rcases hx with hx | hx
      · exact h.irr _ (hlt _ hx)
      · exact h.irr _ (hhigh _ hx)
    · unfold insR
      rw [List.pairwise_append, List.pairwise_append]
      refine ⟨⟨hl.sublist (List.take_sublist _ _), by simp, fun y hy z hz => ?_⟩, hl.sublist (List.drop_sublist _ _), fun y hy z hz => ?_⟩
      · simp at hz; subst hz; exact hlt y hy
      · rcases List.mem_append.1 hy with hy | hy
        · exact h.tr _ _ _ (hlt y hy) (hhigh z hz)
        · simp at hy; subst hy; exact hhigh z hz
end

open Go.Sort
instance : DecidableEq TPiece := fun a b => decidable_of_iff (a.id = b.id ∧ a.part = b.part) ⟨fun ⟨h1, h2⟩ => by cases a; cases b; simp_all, fun h => by rw [h]; exact ⟨rfl, rfl⟩⟩
instance : Inhabited TPiece := ⟨⟨0, 0⟩⟩
theorem TPiece.ext' {a b : TPiece} (h1 : a.id = b.id) (h2 : a.part = b.part) : a = b := by cases a; cases b; simp_all
def plt (x y : TPiece) : Prop := x.id < y.id ∨ x.id = y.id ∧ x.part < y.part
theorem sto_plt : STO plt := ⟨fun x h => by rcases h with h | h <;> omega, fun x y z h k => by unfold plt at *; omega, fun x y => by
  unfold plt
  by_cases h1 : x.id = y.id
  · by_cases h2 : x.part = y.part
    · exact .inr (.inl (TPiece.ext' h1 h2))
    · rcases Int.lt_or_gt_of_ne h2 with h | h
      · exact .inl (.inr ⟨h1, h⟩)
      · exact .inr (.inr (.inr ⟨h1.symm, h⟩))
  · rcases Int.lt_or_gt_of_ne h1 with h | h
    · exact .inl (.inl h)
    · exact .inr (.inr (.inl h))⟩
def pgt (x y : TPiece) : Bool := decide (y.id > x.id) || (y.id == x.id && decide (y.part > x.part))
theorem pgt_iff (x y : TPiece) : pgt x y = true ↔ plt x y := by
  unfold pgt plt
  simp only [Bool.or_eq_true, decide_eq_true_eq, Bool.and_eq_true, beq_iff_eq]
  omega
def putP (l : List TPiece) (x : TPiece) : List TPiece := if 0 < posR (pgt x) l ∧ l[posR (pgt x) l - 1]? = some x then l else insR (pgt x) l x
theorem putP_asc {l : List TPiece} (hl : l.Pairwise plt) (x : TPiece) : (putP l x).Pairwise plt ∧ ∀ y, y ∈ putP l x ↔ y = x ∨ y ∈ l := by
  unfold putP
  split
  · rename_i h
    exact ⟨hl, fun y => ⟨.inr, fun hy => hy.elim (fun e => by rw [e]; exact List.mem_of_getElem? h.2) id⟩⟩
  · rename_i h
    obtain ⟨_, _, h3⟩ := insR_asc sto_plt (p := pgt x) (x := x) (pgt_iff x) hl
    exact ⟨(h3 fun h0 e => h ⟨h0, e⟩).2, mem_insR _ _ _⟩
theorem putP_len (l : List TPiece) (x : TPiece) : (putP l x).length ≤ l.length + 1 := by
  unfold putP
  split
  · omega
  · rw [insR_len]; exact Nat.le_refl _
def putPs (l : List TPiece) : List TPiece → List TPiece
  | [] => l
  | x :: xs => putPs (putP l x) xs
theorem putPs_app : ∀ (xs ys l : List TPiece), putPs l (xs ++ ys) = putPs (putPs l xs) ys
  | [], _, _ => rfl
  | x :: xs, ys, l => by rw [List.cons_append, putPs, putPs_app xs ys, putPs]
theorem putPs_len : ∀ (xs l : List TPiece), (putPs l xs).length ≤ l.length + xs.length
  | [], _ => Nat.le_refl _
  | x :: xs, l => by
    have h1 := putPs_len xs (putP l x)
    have h2 := putP_len l x
    rw [putPs, List.length_cons]
    omega
theorem putPs_asc : ∀ {xs l : List TPiece}, l.Pairwise plt → (putPs l xs).Pairwise plt ∧ ∀ y, y ∈ putPs l xs ↔ y ∈ xs ∨ y ∈ l
  | [], l, hl => ⟨hl, fun y => by simp [putPs]⟩
  | x :: xs, l, hl => by
    obtain ⟨h1, h2⟩ := putP_asc hl x
    obtain ⟨h3, h4⟩ := putPs_asc (xs := xs) h1
    refine ⟨h3, fun y => ?_⟩
    rw [putPs, h4, h2, List.mem_cons]
    constructor
    · rintro (h | h | h) <;> simp [h]
    · rintro ((h | h) | h) <;> simp [h]
def cmpZ (x y : Int) : Int := if x < y then -1 else if x > y then 1 else 0
def cmpP (x y : TPiece) : Int := if cmpZ x.id y.id ≠ 0 then cmpZ x.id y.id else cmpZ x.part y.part
theorem cmpP_lt (x y : TPiece) : cmpP x y < 0 ↔ plt x y := by
  unfold cmpP cmpZ plt
  split <;> split <;> (try split) <;> (try split) <;> (try split) <;> simp_all <;> omega
def joinP (ps : List TPiece) : List TPiece := putPs [] ps
def srtP (ps : List TPiece) : List TPiece := ps.mergeSort fun x y => !decide (cmpP y x < 0)
theorem srtP_len (ps : List TPiece) : (srtP ps).length = ps.length := List.length_mergeSort _
theorem joinP_sorted (ps : List TPiece) : cp (srtP ps) (srtP ps).length = joinP ps := by
  obtain ⟨h1, h2⟩ := putPs_asc (xs := ps) (l := []) List.Pairwise.nil
  obtain ⟨h3, h4⟩ := sorted_cp sto_plt (le := fun x y => !decide (cmpP y x < 0)) (fun x y => by
    have := cmpP_lt y x
    have h := sto_plt.tri x y
    simp only [Bool.not_eq_true', decide_eq_false_iff_not]
    constructor
    · intro hn
      rcases h with h | h | h
      · exact .inl h
      · exact .inr h
      · exact absurd (this.2 h) hn
    · rintro (h1 | rfl) h2
      · exact sto_plt.irr _ (sto_plt.tr _ _ _ h1 (this.1 h2))
      · exact sto_plt.irr _ (this.1 h2)) ps
  exact asc_ext sto_plt h3 h1 fun y => (h4 y).trans ((by simp : y ∈ ps ↔ y ∈ ps ∨ y ∈ ([] : List TPiece)).trans (h2 y).symm)

theorem getD_some {α : Type} {l : List α} {i : Nat} (h : i < l.length) : ∃ x, l[i]? = some x := ⟨_, List.getElem?_eq_getElem h⟩
section
variable {α : Type} [DecidableEq α]
def cpM (l : List α) (m : Nat) : List α := cp l m ++ l.drop (cp l m).length
theorem cpM_len {l : List α} {m : Nat} (hm : m ≤ l.length) : (cpM l m).length = l.length := by
  have := cp_len l m
  simp [cpM]
  omega
theorem cpM_get {l : List α} {m j : Nat} (h : (cp l m).length ≤ j) : (cpM l m)[j]? = l[j]? := by
  rw [cpM, List.getElem?_append_right h, List.getElem?_drop]
  congr 1
  omega
theorem cpM_skip {l : List α} {m : Nat} (h0 : m ≠ 0) (h : l[m]? = l[m - 1]?) : cpM l (m + 1) = cpM l m := by rw [cpM, cp_same h0 h, cpM]
theorem cpM_set {l : List α} {m : Nat} {x : α} (hx : l[m]? = some x) (h : l[m]? ≠ l[m - 1]?) : cpM l (m + 1) = (cpM l m).set (cp l m).length x ∧ (cp l (m + 1)).length = (cp l m).length + 1 := by
  have hm := (List.getElem?_eq_some_iff.1 hx).1
  have hl := cp_len l m
  have e := cp_new hx (.inr h)
  have e2 : (cp l (m + 1)).length = (cp l m).length + 1 := by rw [e]; simp
  refine ⟨?_, e2⟩
  rw [cpM, e2, e, cpM, List.append_assoc, List.set_append_right _ _ (Nat.le_refl _), Nat.sub_self]
  congr 1
  rw [List.drop_eq_getElem_cons (show (cp l m).length < l.length by omega)]
  rfl
theorem cpM_start {l : List α} {k : Nat} (hk0 : k ≠ 0) (hk : k < l.length) (hall : ∀ j, 0 < j → j < k → l[j]? ≠ l[j - 1]?) (h : l[k]? = l[k - 1]?) : cpM l (k + 1) = l ∧ (cp l (k + 1)).length = k := by
  have e : cp l (k + 1) = l.take k := by rw [cp_same hk0 h, cp_all (by omega) hall]
  have e2 : (cp l (k + 1)).length = k := by rw [e, List.length_take]; omega
  exact ⟨by rw [cpM, e2, e, List.take_append_drop], e2⟩
theorem cpM_cut {β : Type} {f : α → β} {l : List α} {z : β} {n : Nat} : (((cpM l l.length).map f).take (cp l l.length).length ++ List.replicate n z).take (cp l l.length).length = (cp l l.length).map f := by
  have e : ((cpM l l.length).map f).take (cp l l.length).length = (cp l l.length).map f := by
    rw [cpM, List.map_append]
    exact List.take_left' (List.length_map _)
  rw [e]
  exact List.take_left' (List.length_map _)
end
abbrev pcE (a b : TPiece) : Bool := eqVs [.int .i64 a.id, .int .i64 a.part] [.int .i64 b.id, .int .i64 b.part]
theorem pcE_t {a b : TPiece} (h : pcE a b = true) : a = b := by
  simp [pcE, eqVs, eqV] at h
  exact TPiece.ext' h.1 h.2
theorem pcE_f {a b : TPiece} (h : pcE a b = false) : a ≠ b := fun e => by
  subst e
  simp [pcE, eqVs, eqV] at h
def tchTo (f : TFeature) (i : Nat) : List Int := ((List.range i).filter fun k : Nat => decide ((((pcs f (tileBox (k : Int))).map TPiece.en).length : Int) > 0)).map fun k : Nat => (k : Int)
def tch (f : TFeature) : List Int := if isFeat f = true then tchTo f 441 else []
theorem tch_cases (f : TFeature) (i : Nat) : (decide ((((pcs f (tileBox (i : Int))).map TPiece.en).length : Int) > 0) = true ∧ (tchTo f (i + 1)).map enI = (tchTo f i).map enI ++ [[I (i : Int)]] ∧ (tchTo f (i + 1)).length = (tchTo f i).length + 1) ∨
    (decide ((((pcs f (tileBox (i : Int))).map TPiece.en).length : Int) > 0) = false ∧ (tchTo f (i + 1)).map enI = (tchTo f i).map enI ∧ (tchTo f (i + 1)).length = (tchTo f i).length) := by
  unfold tchTo
  generalize hp : (fun k : Nat => decide ((((pcs f (tileBox (k : Int))).map TPiece.en).length : Int) > 0)) = p
  have hpi : decide ((((pcs f (tileBox (i : Int))).map TPiece.en).length : Int) > 0) = p i := by rw [← hp]
  rw [hpi, List.range_succ, List.filter_append, List.map_append]
  cases h : p i
  · have e : [i].filter p = [] := by simp [h]
    rw [e]
    exact .inr ⟨rfl, by simp, by simp⟩
  · have e : [i].filter p = [i] := by simp [h]
    rw [e]
    exact .inl ⟨rfl, by simp [enI], by simp⟩
theorem tchTo_mem {f : TFeature} {i : Nat} {x : Int} (h : x ∈ tchTo f i) : 0 ≤ x ∧ x < (i : Int) := by
  unfold tchTo at h
  obtain ⟨k, hk, rfl⟩ := List.mem_map.1 h
  have := List.mem_range.1 (List.mem_filter.1 hk).1
  omega
theorem tchTo_len (f : TFeature) (i : Nat) : (tchTo f i).length ≤ i := by
  unfold tchTo
  rw [List.length_map]
  exact Nat.le_trans (List.length_filter_le _ _) (by rw [List.length_range]; exact Nat.le_refl _)
theorem tch_t {f : TFeature} (h : isFeat f = true) : tch f = tchTo f 441 := by unfold tch; rw [if_pos h]
theorem tch_f {f : TFeature} (h : isFeat f = false) : tch f = [] := by unfold tch; rw [if_neg (by rw [h]; decide)]
theorem tch_mem {f : TFeature} {x : Int} (h : x ∈ tch f) : 0 ≤ x ∧ x < 441 := by
  unfold tch at h
  split at h
  · exact tchTo_mem h
  · simp at h
theorem tch_len (f : TFeature) : (tch f).length ≤ 441 := by
  unfold tch
  split
  · exact tchTo_len _ _
  · simp
def tilesTo (l : List TFeature) (i : Nat) : List Int := (l.take i).flatMap tch
theorem tilesTo_succ {l : List TFeature} {i : Nat} {x : TFeature} (h : l[i]? = some x) : tilesTo l (i + 1) = tilesTo l i ++ tch x := by
  unfold tilesTo
  rw [take_succ_of h, List.flatMap_append]
  simp
theorem tilesTo_len (l : List TFeature) : ∀ i, i ≤ l.length → (tilesTo l i).length ≤ 441 * i
  | 0, _ => by simp [tilesTo]
  | i + 1, h => by
    have := tilesTo_len l i (by omega)
    have hx : l[i]? = some l[i] := List.getElem?_eq_getElem (by omega)
    have h2 := tch_len l[i]
    rw [tilesTo_succ hx, List.length_append]
    omega
theorem tilesTo_mem {l : List TFeature} {i : Nat} {x : Int} (h : x ∈ tilesTo l i) : 0 ≤ x ∧ x < 441 := by
  unfold tilesTo at h
  obtain ⟨f, _, hf⟩ := List.mem_flatMap.1 h
  exact tch_mem hf
theorem asc_few : ∀ {l : List Int} {a b : Int}, l.Pairwise (· < ·) → (∀ x ∈ l, a ≤ x ∧ x < b) → (l.length : Int) ≤ max 0 (b - a)
  | [], a, b, _, _ => by simp; omega
  | x :: l, a, b, hl, h => by
    obtain ⟨h1, h2⟩ := List.pairwise_cons.1 hl
    have hx := h x List.mem_cons_self
    have := asc_few (a := x + 1) (b := b) h2 fun y hy => ⟨by have := h1 y hy; omega, (h y (List.mem_cons_of_mem _ hy)).2⟩
    simp only [List.length_cons]
    omega
def tilesOf (l : List TFeature) : List Int := putIs [] (tilesTo l l.length)
theorem putIs_few (xs : List Int) (h : ∀ x ∈ xs, 0 ≤ x ∧ x < 441) : (putIs [] xs).length ≤ 441 := by
  obtain ⟨h1, h2⟩ := putIs_asc (xs := xs) (l := []) List.Pairwise.nil
  have := asc_few (a := 0) (b := 441) h1 fun x hx => h x (by have := (h2 x).1 hx; simpa using this)
  omega
theorem tilesOf_mem {l : List TFeature} {x : Int} (h : x ∈ tilesOf l) : inr x 0 440 = true := by
  obtain ⟨h1, h2⟩ := putIs_asc (xs := tilesTo l l.length) (l := []) List.Pairwise.nil
  have := tilesTo_mem (l := l) (i := l.length) (x := x) (by have := (h2 x).1 h; simpa using this)
  simp [inr]
  omega
theorem tilesOf_len (l : List TFeature) : (tilesOf l).length ≤ 441 := putIs_few _ fun x hx => tilesTo_mem hx
def pcI (l : List TFeature) (t : Int) : List TPiece := if isSource l = true then pcIn l t l.length else []
theorem pcI_t {l : List TFeature} {t : Int} (h : isSource l = true) : pcI l t = pcIn l t l.length := by unfold pcI; rw [if_pos h]
theorem pcI_f {l : List TFeature} {t : Int} (h : isSource l = false) : pcI l t = [] := by unfold pcI; rw [if_neg (by rw [h]; decide)]
theorem pcI_len (l : List TFeature) (t : Int) : (pcI l t).length ≤ 176 := by
  cases h : isSource l
  · rw [pcI_f h]; simp
  · rw [pcI_t h]
    have h1 := pcIn_len l t l.length (Nat.le_refl _)
    have h2 := src_len h
    omega
def psTo (l : List TFeature) (ts : List Int) (i : Nat) : List TPiece := (ts.take i).flatMap (pcI l)
theorem psTo_succ {l : List TFeature} {ts : List Int} {i : Nat} {t : Int} (h : ts[i]? = some t) : psTo l ts (i + 1) = psTo l ts i ++ pcI l t := by
  unfold psTo
  rw [take_succ_of h, List.flatMap_append]
  simp
theorem psTo_len (l : List TFeature) (ts : List Int) : ∀ i, i ≤ ts.length → (psTo l ts i).length ≤ 176 * i
  | 0, _ => by simp [psTo]
  | i + 1, h => by
    have := psTo_len l ts i (by omega)
    have hx : ts[i]? = some ts[i] := List.getElem?_eq_getElem (by omega)
    have h2 := pcI_len l ts[i]
    rw [psTo_succ hx, List.length_append]
    omega
def joinT (l : List TFeature) (ts : List Int) : List TPiece := joinP (psTo l ts ts.length)
theorem joinT_len (l : List TFeature) (ts : List Int) (h : ts.length ≤ 441) : (joinT l ts).length ≤ 1048576 := by
  have h1 := psTo_len l ts ts.length (Nat.le_refl _)
  have h2 := putPs_len (psTo l ts ts.length) []
  unfold joinT joinP
  simp at h2
  omega
theorem tch_s_f (f : TFeature) (hgd : f.gd) (hf : isFeat f = false) : VCalls Tryz.prog 53 [.agg f.en] (fun r M => r = .ro 1 ((tch f).map enI) ∧ M = []) := by
  refine VB Tryz.func53 34 (fun E hE => ?_)
  have hclP : Clo (.ro 2 (f.points.map TPoint.en)) := clo_list TPoint.clo_en
  have hcle : Clo (.agg f.en) := Clo.agg f.clo_en
  repeat' ((first
    | (refine iAL ?_; first | refine AL.any ?_ | refine AL.any (h := POp.k Tryz.func109 (hc := isFeat_s f (by assumption))) ?_ | refine AL.any (h := POp.k Tryz.func110 (hc := parts_s x (by assumption))) ?_ | refine AL.any (h := POp.k Tryz.func111 (hc := tileBox_s _)) ?_ | refine AL.any (h := POp.k Tryz.func112 (hc := pcs_s _ _ (by assumption) (by assumption))) ?_ | refine AL.nil ?_)
    | (refine iAW ?_; first | (refine AW.freezeRet (t := 2) (id := 1) rfl rfl rfl rfl clo_rows_nil ?_; (try simp only [List.take_length]); try dsimp only [dput, List.set, cond_true, cond_false, Nat.zero_add, Nat.add_zero, Nat.reduceAdd, splice, List.take, List.drop, List.length, List.nil_append, List.cons_append, List.append, TPoint.en, TSegment.en, TBox.en, TFeature.en, TMeet.en, TPlace.en, TCover.en, TLabel.en, TPiece.en, TLevel.en, TChart.en, TReason.en, TEdit.en, TEntry.en, TEdition.en, TListing.en, TAtlas.en, TEvent.en, TWindow.en]) | (refine AW.c0 ?_; constructor) | refine AW.cT ?_ | refine AW.cF ?_ | (refine AW.c2 ?_ ?_ <;> (intro h; try simp only [bT, bF] at h)))
    | with_reducible refine ifP ?_
    | with_reducible refine ifN ?_) <;> (try dsimp only))
  all_goals exact Fin.one rfl (RV.tmp (by rfl)) (Clo.ro clo_rows_nil) ⟨by rw [tch_f hf]; rfl, rfl⟩

theorem tch_s_t (f : TFeature) (hgd : f.gd) (hf : isFeat f = true) : VCalls Tryz.prog 53 [.agg f.en] (fun r M => r = .ro 1 ((tch f).map enI) ∧ M = []) := by
  refine VB Tryz.func53 34 (fun E hE => ?_)
  have hclP : Clo (.ro 2 (f.points.map TPoint.en)) := clo_list TPoint.clo_en
  have hcle : Clo (.agg f.en) := Clo.agg f.clo_en
  have hclS : Clo (.ro 4 ((partsOf f).map TSegment.en)) := clo_list TSegment.clo_en
  repeat' ((first
    | (refine iAL ?_; first | refine AL.any ?_ | refine AL.any (h := POp.k Tryz.func109 (hc := isFeat_s f (by assumption))) ?_ | refine AL.any (h := POp.k Tryz.func110 (hc := parts_s f (by assumption))) ?_ | refine AL.any (h := POp.k Tryz.func111 (hc := tileBox_s (i : Int))) ?_ | refine AL.any (h := POp.k Tryz.func112 (hc := pcs_s f (tileBox (i : Int)) (by assumption) (by assumption))) ?_ | refine AL.nil ?_)
    | (refine iAW ?_; first | (refine AW.freezeRet (t := 2) (id := 1) rfl rfl rfl rfl (clo_rows clo_enI) ?_; (try simp only [List.take_length]); try dsimp only [dput, List.set, cond_true, cond_false, Nat.zero_add, Nat.add_zero, Nat.reduceAdd, splice, List.take, List.drop, List.length, List.nil_append, List.cons_append, List.append, TPoint.en, TSegment.en, TBox.en, TFeature.en, TMeet.en, TPlace.en, TCover.en, TLabel.en, TPiece.en, TLevel.en, TChart.en, TReason.en, TEdit.en, TEntry.en, TEdition.en, TListing.en, TAtlas.en, TEvent.en, TWindow.en]) | (refine AW.c0 ?_; constructor) | refine AW.cT ?_ | refine AW.cF ?_ | (refine AW.c2 ?_ ?_ <;> (intro h; try simp only [bT, bF] at h)))
    | (refine AW.loopD hE (fun i : Nat => [.any, .ref 0 0 5 0 0, .any, .own 1 (tchTo f i).length, .ro 4 ((partsOf f).map TSegment.en), I (i : Int), .any, .any, .any, .any, .any, .any, .any, .any, .any, .any, .any, .any, .any, .any, .any, .any, .any, .any, .any, .any, .any, .any, .any, .any, .any, .any, .any, .any, .any]) (fun i => [some ⟨81, 5, 0, true, [f.en]⟩, some ⟨3, 1, (tchTo f i).length, false, (tchTo f i).map enI⟩]) (fun i => 441 - i) (fun i => i ≤ 441) 0 (by omega) ?_ (by first | rfl | (simp [fil_zero]; done)) ?_
       (focus ((repeat' (first | exact Wk.nil | refine Wk.any ?_ | (with_reducible refine Wk.same ?_) | refine Wk.of ?_ ?_)) <;> first | rfl | (rfl)))
       intro i hi
       by_cases hlt : i < 441
       case' pos =>
         have hP := True.intro
         have ht : decide ((i : Int) < 441) = true := by simp; omega
         have hn := next_ix hlt (by omega)
         have hln := tchTo_len f i
         have hclQ : Clo (.ro 2 ((pcs f (tileBox (i : Int))).map TPiece.en)) := clo_list TPiece.clo_en
         rcases tch_cases f i with ⟨hc, hm, hm2⟩ | ⟨hc, hm, hm2⟩
       case' neg =>
         have hQ := True.intro
         have e : i = 441 := by omega
         have ht : decide ((i : Int) < 441) = false := by simp; omega
         subst e)
    | with_reducible refine ifP ?_
    | with_reducible refine ifN ?_) <;> (try dsimp only))
  all_goals first
    | (have _ := hP; (refine ⟨i + 1, _, hlt, by omega, ?_, by rw [hm, hm2] <;> rfl, ?_, ?_⟩; (focus ((repeat' (first | exact Wk.nil | refine Wk.any ?_ | (with_reducible refine Wk.same ?_) | refine Wk.of ?_ ?_)) <;> (first | rfl | (rw [hm2]; done) | simp_all))); (focus (exact fitsA)); (focus (exact fitsM_cons (clo_one f.clo_en) (fitsM_cons (clo_rows clo_enI) (FitsM.nil _))))))
    | (have _ := hQ; exact Fin.one rfl (RV.tmp (by rfl)) (clo_list clo_enI) ⟨by rw [tch_t hf], rfl⟩)

theorem tch_s (f : TFeature) (hgd : f.gd) : VCalls Tryz.prog 53 [.agg f.en] (fun r M => r = .ro 1 ((tch f).map enI) ∧ M = []) := by
  cases hf : isFeat f
  · exact tch_s_f f hgd hf
  · exact tch_s_t f hgd hf
theorem tch_i_f (f : TFeature) (hgd : f.gd) (hf : isFeat f = false) : VCalls Tryz.prog 61 [.agg f.en] (fun r M => r = .ro 1 ((tch f).map enI) ∧ M = []) := by
  refine VB Tryz.func61 30 (fun E hE => ?_)
  have hclP : Clo (.ro 2 (f.points.map TPoint.en)) := clo_list TPoint.clo_en
  have hcle : Clo (.agg f.en) := Clo.agg f.clo_en
  repeat' ((first
    | (refine iAL ?_; first | refine AL.any ?_ | refine AL.any (h := POp.k Tryz.func119 (hc := isFeat_i f (by assumption))) ?_ | refine AL.any (h := POp.k Tryz.func120 (hc := tileBox_i _)) ?_ | refine AL.any (h := POp.k Tryz.func121 (hc := pcs_i _ _ (by assumption) (by assumption))) ?_ | refine AL.nil ?_)
    | (refine iAW ?_; first | (refine AW.freezeRet (t := 2) (id := 1) rfl rfl rfl rfl clo_rows_nil ?_; (try simp only [List.take_length]); try dsimp only [dput, List.set, cond_true, cond_false, Nat.zero_add, Nat.add_zero, Nat.reduceAdd, splice, List.take, List.drop, List.length, List.nil_append, List.cons_append, List.append, TPoint.en, TSegment.en, TBox.en, TFeature.en, TMeet.en, TPlace.en, TCover.en, TLabel.en, TPiece.en, TLevel.en, TChart.en, TReason.en, TEdit.en, TEntry.en, TEdition.en, TListing.en, TAtlas.en, TEvent.en, TWindow.en]) | (refine AW.c0 ?_; constructor) | refine AW.cT ?_ | refine AW.cF ?_ | (refine AW.c2 ?_ ?_ <;> (intro h; try simp only [bT, bF] at h)))
    | with_reducible refine ifP ?_
    | with_reducible refine ifN ?_) <;> (try dsimp only))
  all_goals exact Fin.one rfl (RV.tmp (by rfl)) (Clo.ro clo_rows_nil) ⟨by rw [tch_f hf]; rfl, rfl⟩

theorem tch_i_t (f : TFeature) (hgd : f.gd) (hf : isFeat f = true) : VCalls Tryz.prog 61 [.agg f.en] (fun r M => r = .ro 1 ((tch f).map enI) ∧ M = []) := by
  refine VB Tryz.func61 30 (fun E hE => ?_)
  have hclP : Clo (.ro 2 (f.points.map TPoint.en)) := clo_list TPoint.clo_en
  have hcle : Clo (.agg f.en) := Clo.agg f.clo_en
  have hclS : Clo (.ro 4 ((partsOf f).map TSegment.en)) := clo_list TSegment.clo_en
  repeat' ((first
    | (refine iAL ?_; first | refine AL.any ?_ | refine AL.any (h := POp.k Tryz.func119 (hc := isFeat_i f (by assumption))) ?_ | refine AL.any (h := POp.k Tryz.func120 (hc := tileBox_i (i : Int))) ?_ | refine AL.any (h := POp.k Tryz.func121 (hc := pcs_i f (tileBox (i : Int)) (by assumption) (by assumption))) ?_ | refine AL.nil ?_)
    | (refine iAW ?_; first | (refine AW.freezeRet (t := 2) (id := 1) rfl rfl rfl rfl (clo_rows clo_enI) ?_; (try simp only [List.take_length]); try dsimp only [dput, List.set, cond_true, cond_false, Nat.zero_add, Nat.add_zero, Nat.reduceAdd, splice, List.take, List.drop, List.length, List.nil_append, List.cons_append, List.append, TPoint.en, TSegment.en, TBox.en, TFeature.en, TMeet.en, TPlace.en, TCover.en, TLabel.en, TPiece.en, TLevel.en, TChart.en, TReason.en, TEdit.en, TEntry.en, TEdition.en, TListing.en, TAtlas.en, TEvent.en, TWindow.en]) | (refine AW.c0 ?_; constructor) | refine AW.cT ?_ | refine AW.cF ?_ | (refine AW.c2 ?_ ?_ <;> (intro h; try simp only [bT, bF] at h)))
    | (refine AW.loopD hE (fun i : Nat => [.any, .ref 0 0 5 0 0, .any, .own 1 (tchTo f i).length, .any, .any, .any, .any, .any, .any, .any, .any, I (i : Int), .any, .any, .any, .any, .any, .any, .any, .any, .any, .any, .any, .any, .any, .any, .any, .any, .any, .any]) (fun i => [some ⟨81, 5, 0, true, [f.en]⟩, some ⟨3, 1, (tchTo f i).length, false, (tchTo f i).map enI⟩]) (fun i => 441 - i) (fun i => i ≤ 441) 0 (by omega) ?_ (by first | rfl | (simp [fil_zero]; done)) ?_
       (focus ((repeat' (first | exact Wk.nil | refine Wk.any ?_ | (with_reducible refine Wk.same ?_) | refine Wk.of ?_ ?_)) <;> first | rfl | (rfl)))
       intro i hi
       by_cases hlt : i < 441
       case' pos =>
         have hP := True.intro
         have ht : decide ((i : Int) < 441) = true := by simp; omega
         have hn := next_ix hlt (by omega)
         have hln := tchTo_len f i
         have hclQ : Clo (.ro 2 ((pcs f (tileBox (i : Int))).map TPiece.en)) := clo_list TPiece.clo_en
         rcases tch_cases f i with ⟨hc, hm, hm2⟩ | ⟨hc, hm, hm2⟩
       case' neg =>
         have hQ := True.intro
         have e : i = 441 := by omega
         have ht : decide ((i : Int) < 441) = false := by simp; omega
         subst e)
    | with_reducible refine ifP ?_
    | with_reducible refine ifN ?_) <;> (try dsimp only))
  all_goals first
    | (have _ := hP; (refine ⟨i + 1, _, hlt, by omega, ?_, by rw [hm, hm2] <;> rfl, ?_, ?_⟩; (focus ((repeat' (first | exact Wk.nil | refine Wk.any ?_ | (with_reducible refine Wk.same ?_) | refine Wk.of ?_ ?_)) <;> (first | rfl | (rw [hm2]; done) | simp_all))); (focus (exact fitsA)); (focus (exact fitsM_cons (clo_one f.clo_en) (fitsM_cons (clo_rows clo_enI) (FitsM.nil _))))))
    | (have _ := hQ; exact Fin.one rfl (RV.tmp (by rfl)) (clo_list clo_enI) ⟨by rw [tch_t hf], rfl⟩)

theorem tch_i (f : TFeature) (hgd : f.gd) : VCalls Tryz.prog 61 [.agg f.en] (fun r M => r = .ro 1 ((tch f).map enI) ∧ M = []) := by
  cases hf : isFeat f
  · exact tch_i_f f hgd hf
  · exact tch_i_t f hgd hf
theorem pcI_i_f (l : List TFeature) (hl : l.length ≤ 1048576) (hp : ∀ x ∈ l, x.gd)(t : Int) (htl : inr t 0 440 = true) (hS : isSource l = false) : VCalls Tryz.prog 124 [.ro 5 (l.map TFeature.en), I t] (fun r M => r = .ro 2 ((pcI l t).map TPiece.en) ∧ M = []) := by
  refine VB Tryz.func124 35 (fun E hE => ?_)
  have hclo : Clo (.ro 5 (l.map TFeature.en)) := clo_list TFeature.clo_en
  repeat' ((first
    | (refine iAL ?_; first | refine AL.any ?_ | refine AL.any (h := POp.k Tryz.func120 (hc := tileBox_i t)) ?_ | refine AL.U ?_ | refine AL.F ?_ | refine AL.T ?_ | refine AL.T (h := POp.k Tryz.func80 (hc := isSource_i _ (by assumption) (by assumption))) ?_ | refine AL.W ?_ | refine AL.W (h := fun h => by (try rw [h]); exact POp.k Tryz.func80 (hc := isSource_i _ (by assumption) (by assumption))) ?_ | refine AL.nil ?_)
    | (refine iAW ?_; first | (refine AW.freezeRet (t := 4) (id := 0) rfl rfl rfl rfl clo_rows_nil ?_; (try simp only [List.take_length]); try dsimp only [dput, List.set, cond_true, cond_false, Nat.zero_add, Nat.add_zero, Nat.reduceAdd, splice, List.take, List.drop, List.length, List.nil_append, List.cons_append, List.append, TPoint.en, TSegment.en, TBox.en, TFeature.en, TMeet.en, TPlace.en, TCover.en, TLabel.en, TPiece.en, TLevel.en, TChart.en, TReason.en, TEdit.en, TEntry.en, TEdition.en, TListing.en, TAtlas.en, TEvent.en, TWindow.en]) | (refine AW.c0 ?_; constructor) | refine AW.cT ?_ | refine AW.cF ?_ | (refine AW.c2 ?_ ?_ <;> (intro h; try simp only [bT, bF] at h)))
    | with_reducible refine ifP ?_
    | with_reducible refine ifN ?_) <;> (try dsimp only))
  all_goals exact Fin.one rfl (RV.tmp (by rfl)) (Clo.ro clo_rows_nil) ⟨by rw [pcI_f hS]; rfl, rfl⟩

theorem pcI_i (l : List TFeature) (hl : l.length ≤ 1048576) (hp : ∀ x ∈ l, x.gd) (t : Int) (htl : inr t 0 440 = true) : VCalls Tryz.prog 124 [.ro 5 (l.map TFeature.en), I t] (fun r M => r = .ro 2 ((pcI l t).map TPiece.en) ∧ M = []) := by
  cases hS : isSource l
  · exact pcI_i_f l hl hp t htl hS
  · rw [pcI_t hS]; exact pcIn_i l t hl hp hS htl
theorem pcI_s (l : List TFeature) (hl : l.length ≤ 1048576) (hp : ∀ x ∈ l, x.gd)(t : Int) (htl : inr t 0 440 = true) : VCalls Tryz.prog 113 [.ro 5 (l.map TFeature.en), I t] (fun r M => r = .ro 2 ((pcI l t).map TPiece.en) ∧ M = []) := by
  refine VB Tryz.func113 40 (fun E hE => ?_)
  have hclo : Clo (.ro 5 (l.map TFeature.en)) := clo_list TFeature.clo_en
  repeat' ((first
    | (refine iAL ?_; first | refine AL.any ?_ | refine AL.any (h := POp.k Tryz.func111 (hc := tileBox_s t)) ?_ | refine AL.U ?_ | refine AL.F ?_ | refine AL.T ?_ | refine AL.T (h := POp.k Tryz.func78 (hc := isSource_s _ (by assumption) (by assumption))) ?_ | refine AL.W ?_ | refine AL.W (h := fun h => by (try rw [h]); exact POp.k Tryz.func78 (hc := isSource_s _ (by assumption) (by assumption))) ?_ | refine AL.nil ?_)
    | ((with_reducible show DL ..); first | refine DL.any ?_ | refine DL.any (h := POp.k Tryz.func110 (hc := parts_s x (by assumption))) ?_ | refine DL.any (h := POp.k Tryz.func112 (hc := pcs_s x (tileBox t) (by assumption) (by assumption))) ?_ | refine DL.nil ?_)
    | (refine iAW ?_; first | (refine AW.freezeRet (t := 4) (id := 0) rfl rfl rfl rfl (clo_rows TPiece.clo_en) ?_; (try simp only [List.take_length]); try dsimp only [dput, List.set, cond_true, cond_false, Nat.zero_add, Nat.add_zero, Nat.reduceAdd, splice, List.take, List.drop, List.length, List.nil_append, List.cons_append, List.append, TPoint.en, TSegment.en, TBox.en, TFeature.en, TMeet.en, TPlace.en, TCover.en, TLabel.en, TPiece.en, TLevel.en, TChart.en, TReason.en, TEdit.en, TEntry.en, TEdition.en, TListing.en, TAtlas.en, TEvent.en, TWindow.en]) | (refine AW.c0 ?_; constructor) | refine AW.dr (id := 6) 12 ?_ | refine AW.cT ?_ | refine AW.cF ?_ | (refine AW.c2 ?_ ?_ <;> (intro h; try simp only [bT, bF] at h)))
    | (refine AW.loopD hE (fun i : Nat => [.ro 5 (l.map TFeature.en), I t, .any, .any, .any, .own 0 i, .ref 1 0 4 0 0, B true, I (i : Int), .any, .any, .any, .any, .any, .any, .any, .any, .any, .any, .any, .any, .any, .any, .any, .any, .any, .any, .any, .any, .any, .any, .any, .any, .any, .any, .any, .any, .any, .any, .any, .any, .any]) (fun i => [some ⟨87, 2, i, false, (pcIn l t i).map TPiece.en⟩, some ⟨143, 4, 0, true, [(tileBox t).en]⟩]) (fun i => nSrc l - i) (fun i => i ≤ nSrc l) 0 (by simp) ?_ (by first | rfl | (simp [fil_zero]; done)) ?_
       (focus ((repeat' (first | exact Wk.nil | refine Wk.any ?_ | (with_reducible refine Wk.same ?_) | refine Wk.of ?_ ?_)) <;> first | rfl | (simp_all)))
       intro i hi
       by_cases hlt : i < nSrc l
       case' pos =>
         have hP := True.intro
         obtain ⟨hS, hN⟩ := nSrc_t hlt
         obtain ⟨x, hx⟩ : ∃ x, l[i]? = some x := ⟨_, List.getElem?_eq_getElem (by omega)⟩
         have hg := map_get (f := TFeature.en) hx
         have ht : decide ((i : Int) < ((l.map TFeature.en).length : Int)) = true := by simp; omega
         have hn := next_ix hlt (by omega)
         have hgx := hp x (List.mem_of_getElem? hx)
         have hfx := src_feat hS hx
         have hm := pcIn_map (t := t) hx
         have hln := pcIn_len l t i (by omega)
         have hpl := pcs_len x (tileBox t)
         have hclQ : Clo (.ro 2 ((pcs x (tileBox t)).map TPiece.en)) := clo_list TPiece.clo_en
         have hclP : Clo (.ro 2 (x.points.map TPoint.en)) := clo_list TPoint.clo_en
         have hclS : Clo (.ro 4 ((partsOf x).map TSegment.en)) := clo_list TSegment.clo_en
         have hcle : Clo (.agg x.en) := Clo.agg x.clo_en
       case' neg =>
         have hQ := True.intro
         have e : i = nSrc l := by omega
         have hpe : pcI l t = pcIn l t (nSrc l) := by unfold nSrc pcI; split <;> simp [pcIn]
         subst e
         rcases Bool.eq_false_or_eq_true (isSource l) with hS | hS
         have ht : decide (((nSrc l : Nat) : Int) < ((l.map TFeature.en).length : Int)) = false := by unfold nSrc; rw [if_pos hS]; simp
         rotate_left 1
         rcases Bool.eq_false_or_eq_true (decide (((nSrc l : Nat) : Int) < ((l.map TFeature.en).length : Int))) with ht | ht)
    | with_reducible refine ifP ?_
    | with_reducible refine ifN ?_) <;> (try dsimp only))
  all_goals first
    | (have _ := hP; (refine ⟨i + 1, _, hlt, by omega, ?_, by rw [hm] <;> rfl, ?_, ?_⟩; (focus (exact wkN)); (focus (exact fitsA)); (focus (exact fitsM_cons (clo_rows TPiece.clo_en) (fitsM_cons (clo_one (TBox.clo_en _)) (FitsM.nil _))))))
    | (have _ := hQ; exact Fin.one rfl (RV.tmp (by rfl)) (clo_list TPiece.clo_en) ⟨by rw [hpe], rfl⟩)

theorem ix_dn {k : Nat} (h0 : 0 < k) (hk : k ≤ 1073741824) : 0 ≤ IntKind.i64.wrap ((k : Int) - 1) ∧ IntKind.i64.wrap ((k : Int) - 1) = ((k - 1 : Nat) : Int) ∧ (IntKind.i64.wrap ((k : Int) - 1)).toNat = k - 1 := by
  rw [w64 (by omega) (by omega)]
  omega
theorem pgt_f {x y : TPiece} (h : pgt x y = false) : decide (y.id > x.id) = false ∧ ((y.id == x.id) = true → decide (y.part > x.part) = false) := by
  unfold pgt at h
  simp only [Bool.or_eq_false_iff] at h
  refine ⟨h.1, fun h2 => ?_⟩
  have := h.2
  rw [h2] at this
  simpa using this
theorem pgt_t {x y : TPiece} (h : pgt x y = true) (h1 : decide (y.id > x.id) = false) : (y.id == x.id) = true ∧ decide (y.part > x.part) = true := by
  unfold pgt at h
  rw [h1] at h
  simpa using h
theorem putP_0 {l : List TPiece} {x : TPiece} (h : posR (pgt x) l = 0) : putP l x = l.take 0 ++ [x] ++ l.drop 0 := by
  unfold putP insR
  rw [h, if_neg (by simp)]
theorem putP_y {l : List TPiece} {x y : TPiece} (h0 : 0 < posR (pgt x) l) (hy : l[posR (pgt x) l - 1]? = some y) (h : pcE y x = true) : putP l x = l := by
  unfold putP
  rw [if_pos ⟨h0, by rw [hy, pcE_t h]⟩]
theorem putP_n {l : List TPiece} {x y : TPiece} (hy : l[posR (pgt x) l - 1]? = some y) (h : pcE y x = false) : putP l x = l.take (posR (pgt x) l) ++ [x] ++ l.drop (posR (pgt x) l) := by
  unfold putP insR
  rw [if_neg (fun ⟨_, e⟩ => by rw [hy] at e; exact pcE_f h (Option.some.inj e))]
theorem putP_s (l : List TPiece) (x : TPiece) (hl : l.length ≤ 1048576) : VCalls Tryz.prog 114 [.ro 2 (l.map TPiece.en), .agg x.en] (fun r M => r = .ro 2 ((putP l x).map TPiece.en) ∧ M = []) := by
  refine VB Tryz.func114 67 (fun E hE => ?_)
  have a1 := True.intro
  have hclo : Clo (.ro 2 (l.map TPiece.en)) := clo_list TPiece.clo_en
  have hcle : Clo (.agg x.en) := Clo.agg x.clo_en
  dsimp only [TPiece.en]
  repeat' ((first
    | (refine iAL ?_; first | refine AL.any ?_ | refine AL.U ?_ | refine AL.F ?_ | refine AL.T ?_ | refine AL.W ?_ | refine AL.nil ?_)
    | ((with_reducible show DL ..); first | refine DL.any ?_ | refine DL.U ?_ | refine DL.F ?_ | refine DL.T ?_ | refine DL.W ?_ | refine DL.nil ?_)
    | ((with_reducible show DLR ..); first | refine DLR.any ?_ | refine DLR.alloc rfl rfl (by first | exact ze2 | exact ze3 | exact ze4 | exact ze5 | exact ze6 | exact ze7 | exact ze8 | exact ze9 | exact ze10 | exact ze11 | exact ze12 | exact ze13 | exact ze14 | exact ze15 | exact ze16 | exact ze17 | exact ze18 | exact ze19 | exact ze21 | exact ze22 | exact ze23 | exact ze24 | exact ze25 | exact ze26 | exact ze27 | exact ze28 | exact ze31 | exact ze32 | exact ze33 | exact ze34 | exact ze35 | exact ze36 | exact ze41 | exact ze42 | exact ze45 | exact ze47 | exact ze56 | exact ze63 | exact ze65 | exact ze81 | exact ze83 | exact ze87 | exact ze129 | exact ze132 | exact ze135 | exact ze151) rfl rfl ?_ | refine DLR.box rfl rfl (by rfl) (by rfl) rfl rfl ?_ | refine DLR.store rfl rfl (by rfl) rfl rfl rfl rfl rfl (by rfl) (by rfl) (TT_ok.ld _ _ (by rfl)) (by rfl) (by rfl) rfl ?_ | refine DLR.row rfl (fun Y => RowRun.empty (by rfl) (by rfl) (by first | exact rwk22 | exact rwk23 | exact rwk24 | exact rwk31 | exact rwk32 | exact rwk33 | exact rwk45 | exact rwk56 | exact rwk63 | exact rwk83)) rfl rfl ?_ | refine DLR.row rfl (fun Y => RowRun.literal (by rfl) (by first | exact rwk22 | exact rwk23 | exact rwk24 | exact rwk31 | exact rwk32 | exact rwk33 | exact rwk45 | exact rwk56 | exact rwk63 | exact rwk83) (by rfl) (by rfl) (by rfl) (by rfl) (by rfl) (by rfl)) rfl rfl ?_ | refine DLR.append rfl (by rfl) (by first | exact rwk22 | exact rwk23 | exact rwk24 | exact rwk31 | exact rwk32 | exact rwk33 | exact rwk45 | exact rwk56 | exact rwk63 | exact rwk83) (by rfl) rfl rfl rfl rfl rfl rfl (by rfl) (by first | (simp <;> omega) | omega) (by first | (simp [maxLen] <;> omega) | (simp_all [maxLen] <;> omega)) ?_ | refine DLR.W ?_ | refine DLR.nil ?_)
    | (refine iAW ?_; first | (refine AW.freezeRet (t := 4) (id := 1) rfl rfl rfl rfl hcr ?_; (try simp only [List.take_length]); try dsimp only [dput, List.set, cond_true, cond_false, Nat.zero_add, Nat.add_zero, Nat.reduceAdd, splice, List.take, List.drop, List.length, List.nil_append, List.cons_append, List.append, TPoint.en, TSegment.en, TBox.en, TFeature.en, TMeet.en, TPlace.en, TCover.en, TLabel.en, TPiece.en, TLevel.en, TChart.en, TReason.en, TEdit.en, TEntry.en, TEdition.en, TListing.en, TAtlas.en, TEvent.en, TWindow.en]) | (refine AW.c0 ?_; constructor) | refine AW.dr (id := 2) 31 ?_ | refine AW.dr (id := 4) 9 ?_ | refine AW.drawnR (id := 6) 11 1 [some 0, none, none, none, some 0, none, none, some 0, none, none, none] [some Rsv] rfl (by kernel_rfl) (by kernel_rfl) (by kernel_rfl) (by rfl) ?_ | refine AW.cT ?_ | refine AW.cF ?_ | (refine AW.c2 ?_ ?_ <;> (intro h; try simp only [bT, bF] at h)))
    | ((with_reducible show DLR ..); first | refine DLR.any (h := fun Y => POp.quiet (QOp.cut_h (by rfl) slk83 (by rfl) (by rfl) (by first | decide | omega) (by first | assumption | omega) (by assumption))) ?_ | refine DLR.any (h := fun Y => POp.quiet (QOp.cut_l (by rfl) slk83 (by rfl) (by rfl) (by first | decide | omega) (by first | assumption | omega) (by assumption))) ?_ | refine DLR.any (h := fun Y => POp.lit0 (RowRun.literal (by rfl) rwk83 (by rfl) (by rfl) (by rfl) (by rfl) (by rfl) (by rfl)) (clo_rows_b rfl)) ?_)
    | (have _ := a1
       clear a1
       refine AW.loopD hE (fun s_ : Nat => (.ro 2 (l.map TPiece.en) :: .any :: .any :: .ref 0 0 2 0 0 :: .any :: I (s_ : Int) :: .any :: .any :: .any :: .any :: .any :: .any :: .any :: .any :: .any :: .any :: .any :: .any :: .any :: .any :: .any :: .any :: .any :: .any :: .any :: .any :: .any :: .any :: .any :: .any :: .any :: .any :: .any :: .any :: .any :: .any :: .any :: .any :: .any :: .any :: .any :: .any :: .any :: .any :: .any :: .any :: .any :: .any :: .any :: .any :: .any :: .any :: .any :: .any :: .any :: .any :: .any :: .any :: .any :: .any :: .any :: .any :: .any :: .any :: .any :: .any :: .any :: .any :: .any :: [])) (fun s_ => [some ⟨87, 2, 0, true, [x.en]⟩]) (fun s_ => s_ - posR (pgt x) l) (fun s_ => posR (pgt x) l ≤ s_ ∧ s_ ≤ l.length) l.length ⟨posR_le _ _, Nat.le_refl _⟩ ?_ (by first | rfl | (rfl)) ?_
       (focus ((repeat' (first | exact Wk.nil | refine Wk.any ?_ | (with_reducible refine Wk.same ?_) | refine Wk.of ?_ ?_)) <;> first | rfl | simp))
       rintro k hJ
       try dsimp only at hJ
       try dsimp only
       by_cases hlt : posR (pgt x) l < k
       case' pos =>
         have p1 := True.intro
         obtain ⟨y, hy⟩ := getD_some (l := l) (i := k - 1) (by omega)
         obtain ⟨z1, z2, z3⟩ := ix_dn (k := k) (by omega) (by omega)
         have hgy : (l.map TPiece.en)[(IntKind.i64.wrap ((k : Int) - 1)).toNat]? = some y.en := by rw [z3, List.getElem?_map, hy]; rfl
         have hk : decide ((k : Int) > 0) = true := by simp; omega
         have hpy := posR_ge (p := pgt x) (l := l) (i := k - 1) (by omega) hy
         rcases Bool.eq_false_or_eq_true (decide (y.id > x.id)) with h1 | h1
         case' inr =>
           obtain ⟨h2, h3⟩ := pgt_t hpy h1
           have k1 := True.intro
         case' inl => have k1 := True.intro
       case' neg =>
         have q1 := True.intro
         have ek : posR (pgt x) l = k := by omega
         have hK1 : ((k : Nat) : Int) ≤ ((l.map TPiece.en).length : Int) := by rw [List.length_map]; omega
         have hd0 : (l.map TPiece.en).drop ((k : Nat) : Int).toNat = (l.drop k).map TPiece.en := by rw [Int.toNat_natCast, List.map_drop]
         have ht0 : (l.map TPiece.en).take ((k : Nat) : Int).toNat = (l.take k).map TPiece.en := by rw [Int.toNat_natCast, List.map_take]
         have hc1 : Clo (.ro 2 ((l.take k).map TPiece.en)) := clo_list TPiece.clo_en
         have hc2 : Clo (.ro 2 ((l.drop k).map TPiece.en)) := clo_list TPiece.clo_en
         have hl1 : (l.take k).length ≤ 1048576 := by rw [List.length_take]; omega
         have hl2 : (l.drop k).length ≤ 1048576 := by rw [List.length_drop]; omega
         have hap : (l.take k ++ [x] ++ l.drop k).map TPiece.en = (l.take k).map TPiece.en ++ [[I x.id, I x.part]] ++ (l.drop k).map TPiece.en := by rw [List.map_append, List.map_append]; rfl
         have hcr : ∀ r ∈ (l.take k).map TPiece.en ++ [[I x.id, I x.part]] ++ (l.drop k).map TPiece.en, ∀ y ∈ r, Clo y := hap ▸ clo_rows TPiece.clo_en
         rcases Nat.eq_zero_or_pos k with h0 | h0
         case' inl =>
           subst h0
           have hk : decide (((0 : Nat) : Int) > 0) = false := by decide
           have hpe := putP_0 ek
         case' inr =>
           obtain ⟨y, hy⟩ := getD_some (l := l) (i := k - 1) (by omega)
           obtain ⟨z1, z2, z3⟩ := ix_dn (k := k) (by omega) (by omega)
           have hgy : (l.map TPiece.en)[(IntKind.i64.wrap ((k : Int) - 1)).toNat]? = some y.en := by rw [z3, List.getElem?_map, hy]; rfl
           have hk : decide ((k : Int) > 0) = true := by simp; omega
           have hpy := posR_lt (p := pgt x) (l := l) (y := y) (by omega) (by rw [ek]; exact hy)
           obtain ⟨h1, h3'⟩ := pgt_f hpy
           rw [← ek] at hy
           rcases Bool.eq_false_or_eq_true (pcE y x) with h4 | h4
           case' inl => have hpe := putP_y (by omega) hy h4
           case' inr => have hpe := ek ▸ putP_n hy h4
           all_goals rcases Bool.eq_false_or_eq_true (y.id == x.id) with h2 | h2
           all_goals try have h3 := h3' h2)
    | with_reducible refine ifP ?_
    | with_reducible refine ifN ?_) <;> (try dsimp only))
  all_goals first
    | (have _ := k1; refine ⟨k - 1, _, ⟨by omega, by omega⟩, by omega, ?_, rfl, ?_, ?_⟩; (focus ((repeat' (first | exact Wk.nil | refine Wk.any ?_ | (with_reducible refine Wk.same ?_) | refine Wk.of ?_ ?_)) <;> first | rfl | (rw [z2]; done))); (focus (exact fitsA)); (focus (exact fitsM_cons (clo_one x.clo_en) (FitsM.nil _))))
    | (exact Fin.one rfl (RV.tmp (by rfl)) (clo_list TPiece.clo_en) ⟨by rw [hpe] <;> rfl, rfl⟩)
    | (exact Fin.one rfl (RV.tmp (by rfl)) (Clo.ro hcr) ⟨by rw [hpe, hap] <;> rfl, rfl⟩)

end Go.Proofs.YtpffahmmklpifaaGreat.Abs
