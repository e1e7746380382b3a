/- The walks of the laws' converters. -/
import Derived.Test.YtpffahmmklpifaaGreatWkStep
import Derived.Test.YtpffahmmklpifaaGreatWkSz
namespace Go.Proofs.YtpffahmmklpifaaGreat.Abs
open Go.Proofs Go.RowKit
set_option linter.unusedVariables false
set_option linter.unusedSimpArgs false
set_option maxRecDepth 100000
set_option maxHeartbeats 2000000
attribute [local irreducible] OpA AL AW DL DLM DLR DLS QOp POp VCalls VCallsI
theorem toPoint (x : TPoint) : VCalls Tryz.prog 207 [.agg x.en] (fun r M => r = .agg x.en ∧ M = []) := by
  refine VB Tryz.func207 10 (fun E hE => ?_)
  dsimp only [TPoint.en]
  repeat' ((first
    | (refine iAL ?_; first | refine AL.any ?_ | refine AL.nil ?_)
    | (refine iAW ?_; first | (refine AW.c0 ?_; constructor))) <;> (try dsimp only))
  all_goals exact Fin.one rfl (RV.cell (QOp.quietA TT_ok (by rfl))) (Clo.agg x.clo_en) ⟨by rfl, rfl⟩

theorem toPointS (l : List TPoint) (hl : l.length ≤ 1048576) : VCalls Tryz.prog 138 [.ro 2 (l.map TPoint.en)] (fun r M => r = .ro 2 (l.map TPoint.en) ∧ M = []) := by
  refine VB Tryz.func138 22 (fun E hE => ?_)
  repeat' ((first
    | (refine iAL ?_; first | refine AL.any ?_ | refine AL.any (h := POp.k Tryz.func207 (hc := toPoint x)) ?_ | refine AL.nil ?_)
    | (refine iAW ?_; first | (refine AW.freezeRet (t := 2) (id := 0) rfl rfl rfl rfl (fil_clo (clo_all (by rfl)) TPoint.clo_en) ?_; simp only [fil_all]; try dsimp only [dput, List.set, cond_true, cond_false, Nat.zero_add, Nat.add_zero, Nat.reduceAdd, splice, List.take, List.drop, List.length, List.nil_append, List.cons_append, List.append, TPoint.en, TSegment.en, TBox.en, TFeature.en, TMeet.en, TPlace.en, TCover.en, TLabel.en, TPiece.en, TLevel.en, TChart.en, TReason.en, TEdit.en, TEntry.en, TEdition.en, TListing.en, TAtlas.en, TEvent.en, TWindow.en]) | (refine AW.c0 ?_; constructor) | refine AW.cT ?_ | refine AW.cF ?_ | (refine AW.c2 ?_ ?_ <;> (intro h; try simp only [bT, bF] at h)))
    | (refine AW.loopD hE (fun i : Nat => [.ro 2 (l.map TPoint.en), .any, .any, .own 0 0, I i, .any, .any, .any, .any, .any, .any, .any, .any, .any, .any, .any, .any, .any, .any, .any, .any, .any, .any]) (fun i => [some ⟨141, 2, 0, false, fil TPoint.en [I 0, I 0] l i⟩]) (fun i => l.length - i) (fun i => i ≤ l.length) 0 (by simp) ?_ (by first | rfl | (simp [fil_zero]; done)) ?_
       (focus (exact wkI))
       intro i hi
       have hclo : Clo (.ro 2 (l.map TPoint.en)) := clo_list TPoint.clo_en
       by_cases hlt : i < l.length
       case' pos =>
         have hP := True.intro
         obtain ⟨x, hx⟩ : ∃ x, l[i]? = some x := ⟨_, List.getElem?_eq_getElem hlt⟩
         have hg := map_get (f := TPoint.en) hx
         have ht := lt_true (f := TPoint.en) hlt
         have hn := next_ix hlt (by omega)
         have hz := fil_get (en := TPoint.en) (z := [I 0, I 0]) hlt
         have ha := fil_at (en := TPoint.en) (z := [I 0, I 0]) hlt
         have hs := fil_set (en := TPoint.en) (z := [I 0, I 0]) hx
       case' neg =>
         have hQ := True.intro
         have ht := lt_false (f := TPoint.en) hlt
         have e : i = l.length := by omega
         subst e
         try rw [List.take_length])
    | with_reducible refine ifP ?_
    | with_reducible refine ifN ?_) <;> (try dsimp only))
  all_goals first
    | (have _ := hP; (refine ⟨i + 1, [], hlt, by omega, ?_, by rw [← hs] <;> rfl, ?_, ?_⟩; (focus (exact wkN)); (focus (exact fitsA)); (focus (exact fits_row (fil_clo (clo_all (by rfl)) TPoint.clo_en)))))
    | (have _ := hQ; exact Fin.one rfl (RV.tmp (by rfl)) hclo ⟨rfl, rfl⟩)

theorem toFeature (x : TFeature) (hs : x.sm) : VCalls Tryz.prog 73 [.agg x.en] (fun r M => r = .agg x.en ∧ M = []) := by
  refine VB Tryz.func73 20 (fun E hE => ?_)
  have hclo0 : Clo (.ro 2 (x.points.map TPoint.en)) := clo_list TPoint.clo_en
  have hcle : Clo (.agg x.en) := Clo.agg x.clo_en
  have hs' := hs
  obtain hs4 := hs
  dsimp only [TFeature.en]
  repeat' ((first
    | (refine iAL ?_; first | refine AL.any ?_ | refine AL.any (h := POp.k Tryz.func138 (hc := toPointS _ (by assumption))) ?_ | refine AL.nil ?_)
    | (refine iAW ?_; first | (refine AW.c0 ?_; constructor))) <;> (try dsimp only))
  all_goals exact Fin.one rfl (RV.cell (QOp.quietA TT_ok (by rfl))) (Clo.agg x.clo_en) ⟨by rfl, rfl⟩

theorem toFeatureS (l : List TFeature) (hl : l.length ≤ 1048576) (hp : ∀ x ∈ l, x.sm) : VCalls Tryz.prog 19 [.ro 5 (l.map TFeature.en)] (fun r M => r = .ro 5 (l.map TFeature.en) ∧ M = []) := by
  refine VB Tryz.func19 22 (fun E hE => ?_)
  repeat' ((first
    | (refine iAL ?_; first | refine AL.any ?_ | refine AL.any (h := POp.k Tryz.func73 (hc := toFeature x (by assumption))) ?_ | refine AL.nil ?_)
    | (refine iAW ?_; first | (refine AW.freezeRet (t := 2) (id := 0) rfl rfl rfl rfl (fil_clo (clo_all (by rfl)) TFeature.clo_en) ?_; simp only [fil_all]; try dsimp only [dput, List.set, cond_true, cond_false, Nat.zero_add, Nat.add_zero, Nat.reduceAdd, splice, List.take, List.drop, List.length, List.nil_append, List.cons_append, List.append, TPoint.en, TSegment.en, TBox.en, TFeature.en, TMeet.en, TPlace.en, TCover.en, TLabel.en, TPiece.en, TLevel.en, TChart.en, TReason.en, TEdit.en, TEntry.en, TEdition.en, TListing.en, TAtlas.en, TEvent.en, TWindow.en]) | (refine AW.c0 ?_; constructor) | refine AW.cT ?_ | refine AW.cF ?_ | (refine AW.c2 ?_ ?_ <;> (intro h; try simp only [bT, bF] at h)))
    | (refine AW.loopD hE (fun i : Nat => [.ro 5 (l.map TFeature.en), .any, .any, .own 0 0, I i, .any, .any, .any, .any, .any, .any, .any, .any, .any, .any, .any, .any, .any, .any, .any, .any, .any, .any]) (fun i => [some ⟨81, 5, 0, false, fil TFeature.en [I 0, I 0, I 0, S ⟨#[]⟩, .c (.slice none 0 0)] l i⟩]) (fun i => l.length - i) (fun i => i ≤ l.length) 0 (by simp) ?_ (by first | rfl | (simp [fil_zero]; done)) ?_
       (focus (exact wkI))
       intro i hi
       have hclo : Clo (.ro 5 (l.map TFeature.en)) := clo_list TFeature.clo_en
       by_cases hlt : i < l.length
       case' pos =>
         have hP := True.intro
         obtain ⟨x, hx⟩ : ∃ x, l[i]? = some x := ⟨_, List.getElem?_eq_getElem hlt⟩
         have hg := map_get (f := TFeature.en) hx
         have ht := lt_true (f := TFeature.en) hlt
         have hn := next_ix hlt (by omega)
         have hz := fil_get (en := TFeature.en) (z := [I 0, I 0, I 0, S ⟨#[]⟩, .c (.slice none 0 0)]) hlt
         have ha := fil_at (en := TFeature.en) (z := [I 0, I 0, I 0, S ⟨#[]⟩, .c (.slice none 0 0)]) hlt
         have hs := fil_set (en := TFeature.en) (z := [I 0, I 0, I 0, S ⟨#[]⟩, .c (.slice none 0 0)]) hx
         have hpx := hp x (List.mem_of_getElem? hx)
         have hclo0 : Clo (.ro 2 (x.points.map TPoint.en)) := clo_list TPoint.clo_en
         have hcle : Clo (.agg x.en) := Clo.agg x.clo_en
       case' neg =>
         have hQ := True.intro
         have ht := lt_false (f := TFeature.en) hlt
         have e : i = l.length := by omega
         subst e
         try rw [List.take_length])
    | with_reducible refine ifP ?_
    | with_reducible refine ifN ?_) <;> (try dsimp only))
  all_goals first
    | (have _ := hP; (refine ⟨i + 1, [], hlt, by omega, ?_, by rw [← hs] <;> rfl, ?_, ?_⟩; (focus (exact wkN)); (focus (exact fitsA)); (focus (exact fits_row (fil_clo (clo_all (by rfl)) TFeature.clo_en)))))
    | (have _ := hQ; exact Fin.one rfl (RV.tmp (by rfl)) hclo ⟨rfl, rfl⟩)

theorem toLevel (x : TLevel) : VCalls Tryz.prog 20 [.agg x.en] (fun r M => r = .agg x.en ∧ M = []) := by
  refine VB Tryz.func20 13 (fun E hE => ?_)
  dsimp only [TLevel.en]
  repeat' ((first
    | (refine iAL ?_; first | refine AL.any ?_ | refine AL.nil ?_)
    | (refine iAW ?_; first | (refine AW.c0 ?_; constructor))) <;> (try dsimp only))
  all_goals exact Fin.one rfl (RV.cell (QOp.quietA TT_ok (by rfl))) (Clo.agg x.clo_en) ⟨by rfl, rfl⟩

end Go.Proofs.YtpffahmmklpifaaGreat.Abs
