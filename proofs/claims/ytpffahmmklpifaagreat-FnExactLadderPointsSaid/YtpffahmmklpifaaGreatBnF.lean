/- Part F of the walk over abstract states and of the functions' walks. -/
import Derived.Test.YtpffahmmklpifaaGreatWkStep
import Derived.Test.YtpffahmmklpifaaGreatBnD
import Derived.Test.YtpffahmmklpifaaGreatBnA
import Derived.Test.YtpffahmmklpifaaGreatBnE
/- The walks of CountPoints, RingMiddle and AnchorsOf. -/
namespace Go.Proofs.YtpffahmmklpifaaGreat.Abs
open Go.Proofs Go.RowKit
set_option linter.unusedVariables false
set_option linter.unusedSimpArgs false
set_option maxRecDepth 100000
set_option maxHeartbeats 2000000
attribute [local irreducible] OpA AL AW DL DLM DLR DLS QOp POp VCalls VCallsI
theorem cnt_s (l : List TFeature) (hl : l.length ≤ 1048576) (hp : ∀ x ∈ l, x.points.length ≤ 1048576) : VCalls Tryz.prog 72 [.ro 5 (l.map TFeature.en)] (fun r M => r = I (cntP l : Int) ∧ M = []) := by
  refine VB Tryz.func72 19 (fun E hE => ?_)
  have hclo : Clo (.ro 5 (l.map TFeature.en)) := clo_list TFeature.clo_en
  repeat' ((first
    | (refine iAL ?_; first | refine AL.any ?_ | refine AL.nil ?_)
    | (refine iAW ?_; first | (refine AW.c0 ?_; constructor) | refine AW.cT ?_ | refine AW.cF ?_)
    | (
  refine AW.loopD hE (fun i : Nat => [.ro 5 (l.map TFeature.en), .any, .any, I (cntTo l i : Int), I (i : Int), .any, .any, .any, .any, .any, .any, .any, .any, .any, .any, .any, .any, .any, .any, .any]) (fun i => []) (fun i => l.length - i) (fun i => i ≤ l.length) 0 (by simp) ?_ (by first | rfl | (simp [fil_zero]; done)) ?_
  (focus (exact wkI))
  intro i hi
  by_cases hlt : i < l.length
  case' pos =>
    have hP := True.intro
    obtain ⟨x, hx⟩ : ∃ x, l[i]? = some x := ⟨_, List.getElem?_eq_getElem hlt⟩
    have hg := map_get (f := TFeature.en) hx
    have ht := lt_true (f := TFeature.en) hlt
    have hn := next_ix hlt (by omega)
    have hcle : Clo (.agg x.en) := Clo.agg x.clo_en
    have hclP : Clo (.ro 2 (x.points.map TPoint.en)) := clo_list TPoint.clo_en
    have hpx := hp x (List.mem_of_getElem? hx)
    have hss := cntTo_succ hx
    have hle := cntTo_le hp i hl
    have hsm : IntKind.i64.wrap (((cntTo l i : Nat) : Int) + ((x.points.map TPoint.en).length : Int)) = ((cntTo l (i + 1) : Nat) : Int) := by rw [List.length_map, w64 (by omega) (by omega), hss]; omega
  case' neg =>
    have hQ := True.intro
    have ht := lt_false (f := TFeature.en) hlt
    have e : i = l.length := by omega
    subst e
    try rw [List.take_length])) <;> (try dsimp only))
  all_goals first
    | (have _ := hP; (refine ⟨i + 1, _, hlt, by omega, ?_, rfl, ?_, ?_⟩; (focus ((refine wkj ?_; repeat' with_reducible constructor) <;> (first | rfl | (rw [hn]; done) | (rw [hsm]; done)))); (focus (exact fitsA)); (focus (exact FitsM.nil _))))
    | (have _ := hQ; exact Fin.one rfl (RV.tmp (by rfl)) (clo_c _) ⟨by rw [cntTo_all], rfl⟩)

theorem cnt_i (l : List TFeature) (hl : l.length ≤ 1048576) (hp : ∀ x ∈ l, x.points.length ≤ 1048576) : VCalls Tryz.prog 75 [.ro 5 (l.map TFeature.en)] (fun r M => r = I (cntP l : Int) ∧ M = []) := by
  refine VB Tryz.func75 18 (fun E hE => ?_)
  have hclo : Clo (.ro 5 (l.map TFeature.en)) := clo_list TFeature.clo_en
  repeat' ((first
    | (refine iAL ?_; first | refine AL.any ?_ | refine AL.nil ?_)
    | (refine iAW ?_; first | (refine AW.c0 ?_; constructor) | refine AW.cT ?_ | refine AW.cF ?_)
    | (
  refine AW.loopD hE (fun i : Nat => [.any, .any, .any, I (cntTo l i : Int), .any, .any, .ro 5 (l.map TFeature.en), I ((l.map TFeature.en).length : Int), I (i : Int), .any, .any, .any, .any, .any, .any, .any, .any, .any, .any]) (fun i => []) (fun i => l.length - i) (fun i => i ≤ l.length) 0 (by simp) ?_ (by first | rfl | (simp [fil_zero]; done)) ?_
  (focus (exact wkI))
  intro i hi
  by_cases hlt : i < l.length
  case' pos =>
    have hP := True.intro
    obtain ⟨x, hx⟩ : ∃ x, l[i]? = some x := ⟨_, List.getElem?_eq_getElem hlt⟩
    have hg := map_get (f := TFeature.en) hx
    have ht := lt_true (f := TFeature.en) hlt
    have hn := next_ix hlt (by omega)
    have hcle : Clo (.agg x.en) := Clo.agg x.clo_en
    have hclP : Clo (.ro 2 (x.points.map TPoint.en)) := clo_list TPoint.clo_en
    have hpx := hp x (List.mem_of_getElem? hx)
    have hss := cntTo_succ hx
    have hle := cntTo_le hp i hl
    have hsm : IntKind.i64.wrap (((cntTo l i : Nat) : Int) + ((x.points.map TPoint.en).length : Int)) = ((cntTo l (i + 1) : Nat) : Int) := by rw [List.length_map, w64 (by omega) (by omega), hss]; omega
  case' neg =>
    have hQ := True.intro
    have ht := lt_false (f := TFeature.en) hlt
    have e : i = l.length := by omega
    subst e
    try rw [List.take_length])) <;> (try dsimp only))
  all_goals first
    | (have _ := hP; (refine ⟨i + 1, _, hlt, by omega, ?_, rfl, ?_, ?_⟩; (focus ((refine wkj ?_; repeat' with_reducible constructor) <;> (first | rfl | (rw [hn]; done) | (rw [hsm]; done)))); (focus (exact fitsA)); (focus (exact FitsM.nil _))))
    | (have _ := hQ; exact Fin.one rfl (RV.tmp (by rfl)) (clo_c _) ⟨by rw [cntTo_all], rfl⟩)

theorem mid_s (l : List TPoint) (hl : l.length ≤ 1048576) (hr : isRing l = true) : VCalls Tryz.prog 272 [.ro 2 (l.map TPoint.en)] (fun r M => r = .tup [.agg (rmid l).en, B true] ∧ M = []) := by
  refine VB Tryz.func272 45 (fun E hE => ?_)
  have hclo : Clo (.ro 2 (l.map TPoint.en)) := clo_list TPoint.clo_en
  have hrl := isRing_len hr
  have hnz : ((l.map TPoint.en).length : Int) ≠ 0 := by rw [List.length_map]; omega
  repeat' ((first
    | (refine iAL ?_; first | refine AL.any ?_ | refine AL.any (h := POp.k Tryz.func172 (hc := isRing_s l hl)) ?_ | refine AL.nil ?_)
    | ((with_reducible show DL ..); first | refine DL.any ?_ | refine DL.nil ?_)
    | (refine iAW ?_; first | (refine AW.c0 ?_; constructor) | refine AW.dr (id := 7) 7 ?_ | refine AW.dr (id := 8) 7 ?_ | refine AW.dr (id := 9) 10 ?_ | refine AW.cT ?_ | refine AW.cF ?_)
    | (
  refine AW.loopD hE (fun i : Nat => [.ro 2 (l.map TPoint.en), .any, .ref 0 0 2 0 0, .any, .ref 1 0 2 0 0, I (i : Int), .any, .any, .any, .any, .any, .any, .any, .any, .any, .any, .any, .any, .any, .any, .any, .any, .any, .any, .any, .any, .any, .any, .any, .any, .any, .any, .any, .any, .any, .any, .any, .any, .any, .any, .any, .any, .any, .any, .any, .any]) (fun i => [some ⟨141, 2, 0, true, [[I 0, I 0]]⟩, some ⟨141, 2, 0, true, [[I (smX l i), I (smY l i)]]⟩]) (fun i => l.length - i) (fun i => i ≤ l.length) 0 (by simp) ?_ (by first | rfl | (simp [fil_zero]; done)) ?_
  (focus (exact wkI))
  intro i hi
  by_cases hlt : i < l.length
  case' pos =>
    have hP := True.intro
    obtain ⟨x, hx⟩ : ∃ x, l[i]? = some x := ⟨_, List.getElem?_eq_getElem hlt⟩
    have hg := map_get (f := TPoint.en) hx
    have ht := lt_true (f := TPoint.en) hlt
    have hn := next_ix hlt (by omega)
    have hcle : Clo (.agg x.en) := Clo.agg x.clo_en
    have hX := smX_succ hx
    have hY := smY_succ hx
  case' neg =>
    have hQ := True.intro
    have ht := lt_false (f := TPoint.en) hlt
    have e : i = l.length := by omega
    subst e
    try rw [List.take_length])) <;> (try dsimp only))
  all_goals first
    | (have _ := hP; (refine ⟨i + 1, _, hlt, by omega, ?_, by rw [hX, hY] <;> rfl, ?_, ?_⟩; (focus (exact wkH)); (focus (exact fitsA)); (focus (exact fitsM_cons (clo_rows_b rfl) (fitsM_cons (clo_rows_b rfl) (FitsM.nil _))))))
    | (have _ := hQ; exact Fin.two rfl (RV.cell (QOp.quietA TT_ok (by rfl))) (RV.tmp (by rfl)) (clo_of (by rfl)) ⟨by (simp only [rmid, TPoint.en, List.length_map]) <;> rfl, rfl⟩)

theorem mid_i (l : List TPoint) (hl : l.length ≤ 1048576) (hr : isRing l = true) : VCalls Tryz.prog 281 [.ro 2 (l.map TPoint.en)] (fun r M => r = .tup [.agg (rmid l).en, B true] ∧ M = []) := by
  refine VB Tryz.func281 41 (fun E hE => ?_)
  have hclo : Clo (.ro 2 (l.map TPoint.en)) := clo_list TPoint.clo_en
  have hrl := isRing_len hr
  have hnz : ((l.map TPoint.en).length : Int) ≠ 0 := by rw [List.length_map]; omega
  repeat' ((first
    | (refine iAL ?_; first | refine AL.any ?_ | refine AL.any (h := POp.k Tryz.func182 (hc := isRing_i l hl)) ?_ | refine AL.nil ?_)
    | ((with_reducible show DL ..); first | refine DL.any ?_ | refine DL.nil ?_)
    | (refine iAW ?_; first | (refine AW.c0 ?_; constructor) | refine AW.dr (id := 10) 10 ?_ | refine AW.cT ?_ | refine AW.cF ?_)
    | (
  refine AW.loopD hE (fun i : Nat => [.ro 2 (l.map TPoint.en), .any, .ref 0 0 2 0 0, .any, .ref 1 0 2 0 0, .any, .any, .any, .any, .any, .any, .any, .ro 2 (l.map TPoint.en), I ((l.map TPoint.en).length : Int), I (i : Int), .any, .any, .any, .any, .any, .any, .any, .any, .any, .any, .any, .any, .any, .any, .any, .any, .any, .any, .any, .any, .any, .any, .any, .any, .any, .any, .any]) (fun i => [some ⟨141, 2, 0, true, [[I 0, I 0]]⟩, some ⟨141, 2, 0, true, [[I (smX l i), I (smY l i)]]⟩]) (fun i => l.length - i) (fun i => i ≤ l.length) 0 (by simp) ?_ (by first | rfl | (simp [fil_zero]; done)) ?_
  (focus (exact wkI))
  intro i hi
  by_cases hlt : i < l.length
  case' pos =>
    have hP := True.intro
    obtain ⟨x, hx⟩ : ∃ x, l[i]? = some x := ⟨_, List.getElem?_eq_getElem hlt⟩
    have hg := map_get (f := TPoint.en) hx
    have ht := lt_true (f := TPoint.en) hlt
    have hn := next_ix hlt (by omega)
    have hcle : Clo (.agg x.en) := Clo.agg x.clo_en
    have hX := smX_succ hx
    have hY := smY_succ hx
  case' neg =>
    have hQ := True.intro
    have ht := lt_false (f := TPoint.en) hlt
    have e : i = l.length := by omega
    subst e
    try rw [List.take_length])) <;> (try dsimp only))
  all_goals first
    | (have _ := hP; (refine ⟨i + 1, _, hlt, by omega, ?_, by rw [hX, hY] <;> rfl, ?_, ?_⟩; (focus (exact wkH)); (focus (exact fitsA)); (focus (exact fitsM_cons (clo_rows_b rfl) (fitsM_cons (clo_rows_b rfl) (FitsM.nil _))))))
    | (have _ := hQ; exact Fin.two rfl (RV.cell (QOp.quietA TT_ok (by rfl))) (RV.tmp (by rfl)) (clo_of (by rfl)) ⟨by (simp only [rmid, TPoint.en, List.length_map]) <;> rfl, rfl⟩)

theorem anc_s (l : List TFeature) (hS : isSource l = true) (hg0 : ∀ x ∈ l, x.gd) : VCalls Tryz.prog 204 [.ro 5 (l.map TFeature.en)] (fun r M => r = .ro 4 ((ancs l).map TPlace.en) ∧ M = []) := by
  refine VB Tryz.func204 51 (fun E hE => ?_)
  have hclo : Clo (.ro 5 (l.map TFeature.en)) := clo_list TFeature.clo_en
  have hsl := src_len hS
  repeat' ((first
    | (refine iAL ?_; first | refine AL.any ?_ | refine AL.any (h := POp.k Tryz.func272 (hc := mid_s x.points hlx hr)) ?_ | refine AL.F ?_ | refine AL.T ?_ | refine AL.T (h := POp.k Tryz.func78 (hc := isSrcT_s l (by omega) hg0 hS)) ?_ | refine AL.nil ?_)
    | (refine iAW ?_; first | (refine AW.freezeRet (t := 2) (id := 0) rfl rfl rfl rfl (clo_rows TPlace.clo_en) ?_; (try simp only [List.take_length]); try dsimp only [dput, List.set, cond_true, cond_false, Nat.zero_add, Nat.add_zero, Nat.reduceAdd, splice, List.take, List.drop, List.length, List.nil_append, List.cons_append, List.append, TPoint.en, TSegment.en, TBox.en, TFeature.en, TMeet.en, TPlace.en, TCover.en, TLabel.en, TPiece.en, TLevel.en, TChart.en, TReason.en, TEdit.en, TEntry.en, TEdition.en, TListing.en, TAtlas.en, TEvent.en, TWindow.en]) | (refine AW.c0 ?_; constructor) | refine AW.cT ?_ | refine AW.cF ?_)
    | (
  refine AW.loopD hE (fun i : Nat => [.ro 5 (l.map TFeature.en), .any, .any, .own 0 (ancTo l i).length, I (i : Int), .any, .any, .any, .any, .any, .any, .any, .any, .any, .any, .any, .any, .any, .any, .any, .any, .any, .any, .any, .any, .any, .any, .any, .any, .any, .any, .any, .any, .any, .any, .any, .any, .any, .any, .any, .any, .any, .any, .any, .any, .any, .any, .any, .any, .any, .any, .any]) (fun i => [some ⟨187, 4, (ancTo l i).length, false, (ancTo l i).map TPlace.en⟩]) (fun i => l.length - i) (fun i => i ≤ l.length) 0 (by simp) ?_ (by first | rfl | (simp [fil_zero]; done)) ?_
  (focus (exact wkI))
  intro i hi
  by_cases hlt : i < l.length
  case' pos =>
    have hP := True.intro
    obtain ⟨x, hx⟩ : ∃ x, l[i]? = some x := ⟨_, List.getElem?_eq_getElem hlt⟩
    have hg := map_get (f := TFeature.en) hx
    have ht := lt_true (f := TFeature.en) hlt
    have hn := next_ix hlt (by omega)
    have hgx := hg0 x (List.mem_of_getElem? hx)
    have hfx := src_feat hS hx
    have hcle : Clo (.agg x.en) := Clo.agg x.clo_en
    have hclP : Clo (.ro 2 (x.points.map TPoint.en)) := clo_list TPoint.clo_en
    have hln := ancTo_len l i
    have hlx := hgx.1
    obtain ⟨hm0, hmg, _⟩ := mid_get hfx hlx
    rcases Bool.eq_false_or_eq_true (noName x.name) with hk | hk
    case' inl => obtain ⟨hm, hm2⟩ := ancTo_n hx hk
    case' inr =>
      obtain ⟨hm, hm2⟩ := ancTo_y hx hk
      rcases an_cases hfx with ⟨k1, k2, k3, ka, kg⟩ | ⟨k1, k2, k3, ka⟩ | ⟨k1, k2, k3, ka, hr⟩
    all_goals try (unfold ancOf at hm; rw [ka] at hm; dsimp only [TPlace.en, TPoint.en, List.append_eq, List.cons_append, List.nil_append] at hm)
  case' neg =>
    have hQ := True.intro
    have ht := lt_false (f := TFeature.en) hlt
    have e : i = l.length := by omega
    subst e
    try rw [List.take_length]
    rw [ancTo_all])) <;> (try dsimp only))
  all_goals first
    | (have _ := hP; (refine ⟨i + 1, _, hlt, by omega, ?_, by rw [hm, hm2] <;> rfl, ?_, ?_⟩; (focus (exact wkH)); (focus (exact fitsA)); (focus (exact fits_row (clo_rows TPlace.clo_en)))))
    | (have _ := hQ; exact Fin.one rfl (RV.tmp (by rfl)) (clo_list TPlace.clo_en) ⟨rfl, rfl⟩)

theorem anc_i (l : List TFeature) (hS : isSource l = true) (hg0 : ∀ x ∈ l, x.gd) : VCalls Tryz.prog 212 [.ro 5 (l.map TFeature.en)] (fun r M => r = .ro 4 ((ancs l).map TPlace.en) ∧ M = []) := by
  refine VB Tryz.func212 60 (fun E hE => ?_)
  have hclo : Clo (.ro 5 (l.map TFeature.en)) := clo_list TFeature.clo_en
  have hsl := src_len hS
  repeat' ((first
    | (refine iAL ?_; first | refine AL.any ?_ | refine AL.any (h := POp.k Tryz.func80 (hc := isSrcT_i l (by omega) hg0 hS)) ?_ | refine AL.any (h := POp.k Tryz.func281 (hc := mid_i x.points hlx hr)) ?_ | refine AL.nil ?_)
    | (refine iAW ?_; first | (refine AW.freezeRet (t := 2) (id := 0) rfl rfl rfl rfl (clo_rows TPlace.clo_en) ?_; (try simp only [List.take_length]); try dsimp only [dput, List.set, cond_true, cond_false, Nat.zero_add, Nat.add_zero, Nat.reduceAdd, splice, List.take, List.drop, List.length, List.nil_append, List.cons_append, List.append, TPoint.en, TSegment.en, TBox.en, TFeature.en, TMeet.en, TPlace.en, TCover.en, TLabel.en, TPiece.en, TLevel.en, TChart.en, TReason.en, TEdit.en, TEntry.en, TEdition.en, TListing.en, TAtlas.en, TEvent.en, TWindow.en]) | (refine AW.c0 ?_; constructor) | refine AW.cT ?_ | refine AW.cF ?_)
    | (
  refine AW.loopD hE (fun i : Nat => [.any, .any, .any, .own 0 (ancTo l i).length, .any, .any, .any, .any, .any, .any, .any, .any, .ro 5 (l.map TFeature.en), I ((l.map TFeature.en).length : Int), I (i : Int), .any, .any, .any, .any, .any, .any, .any, .any, .any, .any, .any, .any, .any, .any, .any, .any, .any, .any, .any, .any, .any, .any, .any, .any, .any, .any, .any, .any, .any, .any, .any, .any, .any, .any, .any, .any, .any, .any, .any, .any, .any, .any, .any, .any, .any, .any]) (fun i => [some ⟨187, 4, (ancTo l i).length, false, (ancTo l i).map TPlace.en⟩]) (fun i => l.length - i) (fun i => i ≤ l.length) 0 (by simp) ?_ (by first | rfl | (simp [fil_zero]; done)) ?_
  (focus (exact wkI))
  intro i hi
  by_cases hlt : i < l.length
  case' pos =>
    have hP := True.intro
    obtain ⟨x, hx⟩ : ∃ x, l[i]? = some x := ⟨_, List.getElem?_eq_getElem hlt⟩
    have hg := map_get (f := TFeature.en) hx
    have ht := lt_true (f := TFeature.en) hlt
    have hn := next_ix hlt (by omega)
    have hgx := hg0 x (List.mem_of_getElem? hx)
    have hfx := src_feat hS hx
    have hcle : Clo (.agg x.en) := Clo.agg x.clo_en
    have hclP : Clo (.ro 2 (x.points.map TPoint.en)) := clo_list TPoint.clo_en
    have hln := ancTo_len l i
    have hlx := hgx.1
    obtain ⟨hm0, hmg, _⟩ := mid_get hfx hlx
    rcases Bool.eq_false_or_eq_true (noName x.name) with hk | hk
    case' inl => obtain ⟨hm, hm2⟩ := ancTo_n hx hk
    case' inr =>
      obtain ⟨hm, hm2⟩ := ancTo_y hx hk
      rcases an_cases hfx with ⟨k1, k2, k3, ka, kg⟩ | ⟨k1, k2, k3, ka⟩ | ⟨k1, k2, k3, ka, hr⟩
    all_goals try (unfold ancOf at hm; rw [ka] at hm; dsimp only [TPlace.en, TPoint.en, List.append_eq, List.cons_append, List.nil_append] at hm)
  case' neg =>
    have hQ := True.intro
    have ht := lt_false (f := TFeature.en) hlt
    have e : i = l.length := by omega
    subst e
    try rw [List.take_length]
    rw [ancTo_all])) <;> (try dsimp only))
  all_goals first
    | (have _ := hP; (refine ⟨i + 1, _, hlt, by omega, ?_, by rw [hm, hm2] <;> rfl, ?_, ?_⟩; (focus (exact wkH)); (focus (exact fitsA)); (focus (exact fits_row (clo_rows TPlace.clo_en)))))
    | (have _ := hQ; exact Fin.one rfl (RV.tmp (by rfl)) (clo_list TPlace.clo_en) ⟨rfl, rfl⟩)

end Go.Proofs.YtpffahmmklpifaaGreat.Abs

/- The walk of PlaceNames (program). -/
namespace Go.Proofs.YtpffahmmklpifaaGreat.Abs
open Go.Proofs Go.RowKit
set_option linter.unusedVariables false
set_option linter.unusedSimpArgs false
set_option maxRecDepth 100000
set_option maxHeartbeats 2000000
attribute [local irreducible] OpA AL AW DL DLM DLR DLS QOp POp VCalls VCallsI
attribute [local irreducible] frC labB lbOk pnTo fnd srtA ancs
theorem pln_i (l : List TFeature) (hS : isSource l = true) (hg0 : ∀ x ∈ l, x.gd) : VCalls Tryz.prog 143 [.ro 5 (l.map TFeature.en)] (fun r M => r = .own 0 0 ∧ M = [some ⟨174, 6, 0, false, (plN l).map TLabel.en⟩]) := by
  refine VB Tryz.func143 59 (fun E hE => ?_)
  have hclo : Clo (.ro 5 (l.map TFeature.en)) := clo_list TFeature.clo_en
  have hsl := src_len hS
  have hl1 : l.length ≤ 1048576 := by omega
  have hok := ancs_ok hS hg0
  have hSl : (srtA (ancs l)).length ≤ 16 := by rw [srtA_len]; exact hok.len
  have hclA : Clo (.ro 4 ((ancs l).map TPlace.en)) := clo_list TPlace.clo_en
  have hclS : Clo (.ro 4 ((srtA (ancs l)).map TPlace.en)) := clo_list TPlace.clo_en
  repeat' ((first
    | (refine iAL ?_; first | refine AL.any ?_ | refine AL.any (h := POp.k Tryz.func149 (hc := find_i l x.id hl1)) ?_ | refine AL.any (h := POp.k Tryz.func211 (hc := frAb' (ancs l) hok)) ?_ | refine AL.any (h := POp.k Tryz.func212 (hc := anc_i l hS hg0)) ?_ | refine AL.any (h := POp.kv Tryz.func213 (hc := fc_i x.at_ f.name hisp hisn ((pnTo l (srtA (ancs l)) i).map (·.box)) hTK)) ?_ | refine AL.any (h := POp.k Tryz.func214 (hc := lab_i x.at_ f.name (frC x.at_ f.name ((pnTo l (srtA (ancs l)) i).map (·.box))) hisp hisn hk3)) ?_ | refine AL.any (h := POp.H [0] Tryz.func215 (hc := sortL (pnA l) (pnA_nodup hS hg0) (by have := pnA_len hS hg0; omega))) ?_ | refine AL.nil ?_)
    | (refine iAW ?_; first | (refine AW.c0 ?_; constructor) | refine AW.cT ?_ | refine AW.cF ?_)
    | (
  refine AW.loopD hE (fun i : Nat => [.ro 5 (l.map TFeature.en), .any, .any, .own 0 (pnTo l (srtA (ancs l)) i).length, .own 1 (pnTo l (srtA (ancs l)) i).length, .any, .any, .any, .any, .any, .any, .any, .any, .any, .any, .ro 4 ((srtA (ancs l)).map TPlace.en), I (((srtA (ancs l)).map TPlace.en).length : Int), I (i : Int), .any, .any, .any, .any, .any, .any, .any, .any, .any, .any, .any, .any, .any, .any, .any, .any, .any, .any, .any, .any, .any, .any, .any, .any, .any, .any, .any, .any, .any, .any, .any, .any, .any, .any, .any, .any, .any, .any, .any, .any, .any, .any]) (fun i => [some ⟨174, 6, (pnTo l (srtA (ancs l)) i).length, false, (pnTo l (srtA (ancs l)) i).map TLabel.en⟩, some ⟨143, 4, (pnTo l (srtA (ancs l)) i).length, false, ((pnTo l (srtA (ancs l)) i).map (·.box)).map TBox.en⟩]) (fun i => (srtA (ancs l)).length - i) (fun i => i ≤ (srtA (ancs l)).length) 0 (by simp) ?_ (by first | rfl | ((simp [pnTo]))) ?_
  (focus ((refine wkj ?_; repeat' with_reducible constructor) <;> first | rfl | (first | rfl | (simp [pnTo]))))
  intro i hi
  by_cases hlt : i < (srtA (ancs l)).length
  case' pos =>
    have hP := True.intro
    obtain ⟨x, hx⟩ : ∃ x, (srtA (ancs l))[i]? = some x := ⟨_, List.getElem?_eq_getElem hlt⟩
    have hg := map_get (f := TPlace.en) hx
    have ht := lt_true (f := TPlace.en) hlt
    have hn := next_ix hlt (by omega)
    have hcle : Clo (.agg x.en) := Clo.agg x.clo_en
    obtain ⟨j, f, hj, hfd, hnm, hisn, hisp⟩ := anc_feat hS hg0 (List.mem_of_getElem? hx)
    have hgj : (l.map TFeature.en)[(fnd l x.id).toNat]? = some f.en := by rw [hfd, Int.toNat_natCast, List.getElem?_map, hj]; rfl
    have h0j : 0 ≤ fnd l x.id := by omega
    have hpl := pnTo_len l (srtA (ancs l)) i
    have hTK : ((pnTo l (srtA (ancs l)) i).map (·.box)).length ≤ 1048576 := by rw [List.length_map]; omega
    have hclT : Clo (.ro 4 (((pnTo l (srtA (ancs l)) i).map (·.box)).map TBox.en)) := clo_list TBox.clo_en
    have hcrT : ∀ r ∈ ((pnTo l (srtA (ancs l)) i).map (·.box)).map TBox.en, ∀ y ∈ r, Clo y := clo_rows TBox.clo_en
    have hclB : Clo (.agg (labB x.at_ f.name (frC x.at_ f.name ((pnTo l (srtA (ancs l)) i).map (·.box)))).en) := Clo.agg (TBox.clo_en _)
    have hclU : Clo (.tup [.agg (labB x.at_ f.name (frC x.at_ f.name ((pnTo l (srtA (ancs l)) i).map (·.box)))).en, B (lbOk x.at_ f.name (frC x.at_ f.name ((pnTo l (srtA (ancs l)) i).map (·.box))))]) := Clo.tup (clo_cons hclB (clo_cons (clo_c _) clo_nil))
    rcases Bool.eq_false_or_eq_true (decide ((frC x.at_ f.name ((pnTo l (srtA (ancs l)) i).map (·.box))) < 0)) with hk | hk
    case' inl =>
      have hkg : decide ((frC x.at_ f.name ((pnTo l (srtA (ancs l)) i).map (·.box))) ≥ 0) = false := by simp at hk ⊢; omega
      have hm := pnTo_n hx (by rw [pnC, hnm]; exact hk)
    case' inr =>
      have hkg : decide ((frC x.at_ f.name ((pnTo l (srtA (ancs l)) i).map (·.box))) ≥ 0) = true := by simp at hk ⊢; omega
      have hk3 : inr (frC x.at_ f.name ((pnTo l (srtA (ancs l)) i).map (·.box))) 0 3 = true := by rcases frC_ge (p := x.at_) (s := f.name) (tk := ((pnTo l (srtA (ancs l)) i).map (·.box))) with he | he; (rw [he] at hkg; cases hkg); exact he.1
      have hm0 := pnTo_y hx (by rw [pnC, hnm]; exact hk)
      have hm1 : (pnTo l (srtA (ancs l)) (i + 1)).map TLabel.en = (pnTo l (srtA (ancs l)) i).map TLabel.en ++ [[I x.id, S f.name, I (labB x.at_ f.name (frC x.at_ f.name ((pnTo l (srtA (ancs l)) i).map (·.box)))).low.x, I (labB x.at_ f.name (frC x.at_ f.name ((pnTo l (srtA (ancs l)) i).map (·.box)))).low.y, I (labB x.at_ f.name (frC x.at_ f.name ((pnTo l (srtA (ancs l)) i).map (·.box)))).high.x, I (labB x.at_ f.name (frC x.at_ f.name ((pnTo l (srtA (ancs l)) i).map (·.box)))).high.y]] := by rw [hm0, List.map_append, pnL, hnm]; rfl
      have hm2 : ((pnTo l (srtA (ancs l)) (i + 1)).map (·.box)).map TBox.en = ((pnTo l (srtA (ancs l)) i).map (·.box)).map TBox.en ++ [[I (labB x.at_ f.name (frC x.at_ f.name ((pnTo l (srtA (ancs l)) i).map (·.box)))).low.x, I (labB x.at_ f.name (frC x.at_ f.name ((pnTo l (srtA (ancs l)) i).map (·.box)))).low.y, I (labB x.at_ f.name (frC x.at_ f.name ((pnTo l (srtA (ancs l)) i).map (·.box)))).high.x, I (labB x.at_ f.name (frC x.at_ f.name ((pnTo l (srtA (ancs l)) i).map (·.box)))).high.y]] := by rw [hm0, List.map_append, List.map_append, pnL, hnm]; rfl
      have hm3 : (pnTo l (srtA (ancs l)) (i + 1)).length = (pnTo l (srtA (ancs l)) i).length + 1 := by rw [hm0]; simp
  case' neg =>
    have hQ := True.intro
    have ht := lt_false (f := TPlace.en) hlt
    have e : i = (srtA (ancs l)).length := by omega
    subst e
    try rw [List.take_length]
    rw [pnTo_all])) <;> (try dsimp only))
  all_goals first
    | (have _ := hP; (refine ⟨i + 1, _, hlt, by omega, ?_, by first | (rw [hm1, hm2, hm3] <;> rfl) | (rw [hm] <;> rfl), ?_, ?_⟩; (focus ((refine wkj ?_; repeat' with_reducible constructor) <;> (first | rfl | (rw [hn]; done) | (rw [hm3]; done) | (rw [hm]; done)))); (focus (exact fitsA)); (focus (exact fitsM_cons (clo_rows TLabel.clo_en) (fitsM_cons (clo_rows TBox.clo_en) (FitsM.nil _))))))
    | (have _ := hQ; exact Fin.r1 [0] rfl (RV.tmp (by rfl)) ⟨rfl, rfl⟩)

theorem pln_i' (l : List TFeature) (hS : isSource l = true) (hg0 : ∀ x ∈ l, x.gd) : VCalls Tryz.prog 143 [.ro 5 (l.map TFeature.en)] (fun r M => r = .ro 6 ((plN l).map TLabel.en) ∧ M = []) := VCalls.frz (pln_i l hS hg0) vwlT
end Go.Proofs.YtpffahmmklpifaaGreat.Abs

/- The walk of PlaceNames (reference). -/
namespace Go.Proofs.YtpffahmmklpifaaGreat.Abs
open Go.Proofs Go.RowKit
set_option linter.unusedVariables false
set_option linter.unusedSimpArgs false
set_option maxRecDepth 100000
set_option maxHeartbeats 2000000
attribute [local irreducible] OpA AL AW DL DLM DLR DLS QOp POp VCalls VCallsI
attribute [local irreducible] frC labB lbOk pnTo fnd srtA ancs slTo
theorem pln_s (l : List TFeature) (hS : isSource l = true) (hg0 : ∀ x ∈ l, x.gd) : VCalls Tryz.prog 137 [.ro 5 (l.map TFeature.en)] (fun r M => r = .ro 6 ((plN l).map TLabel.en) ∧ M = []) := by
  refine VB Tryz.func137 98 (fun E hE => ?_)
  have a1 := True.intro
  have hclo : Clo (.ro 5 (l.map TFeature.en)) := clo_list TFeature.clo_en
  have hsl := src_len hS
  have hl1 : l.length ≤ 1048576 := by omega
  have hok := ancs_ok hS hg0
  have hSl : (srtA (ancs l)).length ≤ 16 := by rw [srtA_len]; exact hok.len
  have hclA : Clo (.ro 4 ((ancs l).map TPlace.en)) := clo_list TPlace.clo_en
  have hclS : Clo (.ro 4 ((srtA (ancs l)).map TPlace.en)) := clo_list TPlace.clo_en
  have hclK : Clo (.ro 4 ((kept (srtA (ancs l)) 0).map TPlace.en)) := clo_list TPlace.clo_en
  repeat' ((first
    | (refine iAL ?_; first | refine AL.any ?_ | refine AL.any (h := POp.k Tryz.func146 (hc := find_s l x.id hl1)) ?_ | refine AL.any (h := POp.k Tryz.func203 (hc := kept_s (ancs l) 0 hok rfl)) ?_ | refine AL.any (h := POp.k Tryz.func204 (hc := anc_s l hS hg0)) ?_ | refine AL.any (h := POp.kv Tryz.func205 (hc := fc_s x.at_ f.name hisp hisn ((pnTo l (srtA (ancs l)) i).map (·.box)) hTK)) ?_ | refine AL.any (h := POp.k Tryz.func206 (hc := lab_s x.at_ f.name (frC x.at_ f.name ((pnTo l (srtA (ancs l)) i).map (·.box))) hisp hisn hk3)) ?_ | refine AL.F ?_ | refine AL.T ?_ | refine AL.nil ?_)
    | ((with_reducible show DL ..); first | refine DL.any ?_ | refine DL.F ?_ | refine DL.T ?_ | refine DL.nil ?_)
    | ((with_reducible show DLR ..); first | refine DLR.any ?_ | refine DLR.row rfl (fun Y => RowRun.empty (by rfl) (by rfl) (by first | exact rwk22 | exact rwk23 | exact rwk24 | exact rwk31 | exact rwk32 | exact rwk33 | exact rwk45 | exact rwk63 | exact rwk79 | exact rwk98 | exact rwk183 | exact rwk220)) rfl rfl ?_ | refine DLR.append rfl (by rfl) (by first | exact rwk22 | exact rwk23 | exact rwk24 | exact rwk31 | exact rwk32 | exact rwk33 | exact rwk45 | exact rwk63 | exact rwk79 | exact rwk98 | exact rwk183 | exact rwk220) (by rfl) rfl rfl rfl rfl rfl rfl (by rfl) (by first | (simp <;> omega) | omega) (by first | (simp [maxLen] <;> omega) | (simp_all [maxLen] <;> omega)) ?_ | refine DLR.nil ?_)
    | (refine iAW ?_; first | (refine AW.freeze /-Ret-/ (t := 3) (id := 0) rfl rfl rfl rfl clo_rows_nil ?_; try dsimp only [dput, List.set, cond_true, cond_false, Nat.zero_add, Nat.add_zero, Nat.reduceAdd, splice, List.take, List.drop, List.length, List.nil_append, List.cons_append, List.append, TPoint.en, TSegment.en, TBox.en, TFeature.en, TMeet.en, TPlace.en, TCover.en, TLabel.en, TPiece.en, TLevel.en, TChart.en, TReason.en, TEdit.en, TEntry.en, TEdition.en, TListing.en, TAtlas.en, TEvent.en, TWindow.en]) | (refine AW.freeze /-Ret-/ (t := 3) (id := 4) rfl rfl rfl rfl hcr ?_; try dsimp only [dput, List.set, cond_true, cond_false, Nat.zero_add, Nat.add_zero, Nat.reduceAdd, splice, List.take, List.drop, List.length, List.nil_append, List.cons_append, List.append, TPoint.en, TSegment.en, TBox.en, TFeature.en, TMeet.en, TPlace.en, TCover.en, TLabel.en, TPiece.en, TLevel.en, TChart.en, TReason.en, TEdit.en, TEntry.en, TEdition.en, TListing.en, TAtlas.en, TEvent.en, TWindow.en]) | (refine AW.c0 ?_; constructor) | refine AW.dr (id := 13) 14 ?_ | refine AW.drawnR (id := 15) 18 1 [some 0, none, none, none, some 0, none, none, none, none, none, none, none, none, none, some 0, none, none, none] [some Rsv] rfl (by kernel_rfl) (by kernel_rfl) (by kernel_rfl) (by rfl) ?_ | refine AW.cT ?_ | refine AW.cF ?_)
    | ((with_reducible show DLR ..); first | refine DLR.any (h := fun Y => POp.quiet (QOp.cut_h (by rfl) slk63 (by rfl) (by rfl) (by first | decide | omega) (by first | assumption | omega) (by assumption))) ?_ | refine DLR.any (h := fun Y => POp.quiet (QOp.cut_l (by rfl) slk63 (by rfl) (by rfl) (by first | decide | omega) (by first | assumption | omega) (by assumption))) ?_ | refine DLR.any (h := fun Y => POp.lit0 (RowRun.literal (by rfl) rwk63 (by rfl) (by rfl) (by rfl) (by rfl) (by rfl) (by rfl)) (clo_rows_b rfl)) ?_)
    | (
  have _ := a1
  clear a1
  refine AW.loopD hE (fun s_ : Nat => (.ro 5 (l.map TFeature.en) :: .any :: .any :: .ro 6 ((slTo l (srtA (ancs l)) s_).map TLabel.en) :: .ro 4 ((srtA (ancs l)).map TPlace.en) :: .own 1 (pnTo l (srtA (ancs l)) s_).length :: I (s_ : Int) :: .any :: .any :: .any :: .any :: .any :: .any :: .any :: .any :: .any :: .any :: .any :: .any :: .any :: .any :: .any :: .any :: .any :: .any :: .any :: .any :: .any :: .any :: .any :: .any :: .any :: .any :: .any :: .any :: .any :: .any :: .any :: .any :: .any :: .any :: .any :: .any :: .any :: .any :: .any :: .any :: .any :: .any :: .any :: .any :: .any :: .any :: .any :: .any :: .any :: .any :: .any :: .any :: .any :: .any :: .any :: .any :: .any :: .any :: .any :: .any :: .any :: .any :: .any :: .any :: .any :: .any :: .any :: .any :: .any :: .any :: .any :: .any :: .any :: .any :: .any :: .any :: .any :: .any :: .any :: .any :: .any :: .any :: .any :: .any :: .any :: .any :: .any :: .any :: .any :: .any :: .any :: .any :: [])) (fun s_ => [none, some ⟨143, 4, (pnTo l (srtA (ancs l)) s_).length, false, ((pnTo l (srtA (ancs l)) s_).map (·.box)).map TBox.en⟩]) (fun s_ => (srtA (ancs l)).length - s_) (fun s_ => s_ ≤ (srtA (ancs l)).length) 0 (Nat.zero_le _) ?_ (by first | rfl | ((simp [pnTo]))) ?_
  (focus ((refine wkj ?_; repeat' with_reducible constructor) <;> first | rfl | (simp [pnTo, slTo, srtL]; done) | (rw [kept0])))
  rintro i hJ
  try dsimp only at hJ
  try dsimp only
  by_cases hlt : i < (srtA (ancs l)).length
  case' pos =>
    have a2 := True.intro
    obtain ⟨x, hx⟩ := getD_some (l := (srtA (ancs l))) (i := i) hlt
    have hg := map_get (f := TPlace.en) hx
    have ht := lt_true (f := TPlace.en) hlt
    have hn := next_ix hlt (by omega)
    have hsl2 := slTo_len l (srtA (ancs l)) i
    have hclS2 : Clo (.ro 6 ((slTo l (srtA (ancs l)) i).map TLabel.en)) := clo_list TLabel.clo_en
    have hclS3 : Clo (.ro 6 ((slTo l (srtA (ancs l)) (i + 1)).map TLabel.en)) := clo_list TLabel.clo_en
    have hcle : Clo (.agg x.en) := Clo.agg x.clo_en
    obtain ⟨j, f, hj, hfd, hnm, hisn, hisp⟩ := anc_feat hS hg0 (List.mem_of_getElem? hx)
    have hgj : (l.map TFeature.en)[(fnd l x.id).toNat]? = some f.en := by rw [hfd, Int.toNat_natCast, List.getElem?_map, hj]; rfl
    have h0j : 0 ≤ fnd l x.id := by omega
    have hpl := pnTo_len l (srtA (ancs l)) i
    have hTK : ((pnTo l (srtA (ancs l)) i).map (·.box)).length ≤ 1048576 := by rw [List.length_map]; omega
    have hclT : Clo (.ro 4 (((pnTo l (srtA (ancs l)) i).map (·.box)).map TBox.en)) := clo_list TBox.clo_en
    have hcrT : ∀ r ∈ ((pnTo l (srtA (ancs l)) i).map (·.box)).map TBox.en, ∀ y ∈ r, Clo y := clo_rows TBox.clo_en
    have hclB : Clo (.agg (labB x.at_ f.name (frC x.at_ f.name ((pnTo l (srtA (ancs l)) i).map (·.box)))).en) := Clo.agg (TBox.clo_en _)
    have hclU : Clo (.tup [.agg (labB x.at_ f.name (frC x.at_ f.name ((pnTo l (srtA (ancs l)) i).map (·.box)))).en, B (lbOk x.at_ f.name (frC x.at_ f.name ((pnTo l (srtA (ancs l)) i).map (·.box))))]) := Clo.tup (clo_cons hclB (clo_cons (clo_c _) clo_nil))
    rcases Bool.eq_false_or_eq_true (decide ((frC x.at_ f.name ((pnTo l (srtA (ancs l)) i).map (·.box))) < 0)) with hk | hk
    case' inl =>
      have hkg : decide ((frC x.at_ f.name ((pnTo l (srtA (ancs l)) i).map (·.box))) ≥ 0) = false := by simp at hk ⊢; omega
      have hsn := slTo_n hx (by rw [pnC, hnm]; exact hk)
      have hm := pnTo_n hx (by rw [pnC, hnm]; exact hk)
    case' inr =>
      have hkg : decide ((frC x.at_ f.name ((pnTo l (srtA (ancs l)) i).map (·.box))) ≥ 0) = true := by simp at hk ⊢; omega
      have hk3 : inr (frC x.at_ f.name ((pnTo l (srtA (ancs l)) i).map (·.box))) 0 3 = true := by rcases frC_ge (p := x.at_) (s := f.name) (tk := ((pnTo l (srtA (ancs l)) i).map (·.box))) with he | he; (rw [he] at hkg; cases hkg); exact he.1
      have hso := slTo_y hx (by rw [pnC, hnm]; exact hk)
      have hm0 := pnTo_y hx (by rw [pnC, hnm]; exact hk)
      have hm1 : (pnTo l (srtA (ancs l)) (i + 1)).map TLabel.en = (pnTo l (srtA (ancs l)) i).map TLabel.en ++ [[I x.id, S f.name, I (labB x.at_ f.name (frC x.at_ f.name ((pnTo l (srtA (ancs l)) i).map (·.box)))).low.x, I (labB x.at_ f.name (frC x.at_ f.name ((pnTo l (srtA (ancs l)) i).map (·.box)))).low.y, I (labB x.at_ f.name (frC x.at_ f.name ((pnTo l (srtA (ancs l)) i).map (·.box)))).high.x, I (labB x.at_ f.name (frC x.at_ f.name ((pnTo l (srtA (ancs l)) i).map (·.box)))).high.y]] := by rw [hm0, List.map_append, pnL, hnm]; rfl
      have hm2 : ((pnTo l (srtA (ancs l)) (i + 1)).map (·.box)).map TBox.en = ((pnTo l (srtA (ancs l)) i).map (·.box)).map TBox.en ++ [[I (labB x.at_ f.name (frC x.at_ f.name ((pnTo l (srtA (ancs l)) i).map (·.box)))).low.x, I (labB x.at_ f.name (frC x.at_ f.name ((pnTo l (srtA (ancs l)) i).map (·.box)))).low.y, I (labB x.at_ f.name (frC x.at_ f.name ((pnTo l (srtA (ancs l)) i).map (·.box)))).high.x, I (labB x.at_ f.name (frC x.at_ f.name ((pnTo l (srtA (ancs l)) i).map (·.box)))).high.y]] := by rw [hm0, List.map_append, List.map_append, pnL, hnm]; rfl
      have hm3 : (pnTo l (srtA (ancs l)) (i + 1)).length = (pnTo l (srtA (ancs l)) i).length + 1 := by rw [hm0]; simp
  case' neg =>
    have q1 := True.intro
    have ht := lt_false (f := TPlace.en) hlt
    obtain rfl : i = (srtA (ancs l)).length := by omega
    rw [slTo_all])
    | (
  have _ := a2
  clear a2
  refine AW.loopD hE (fun s_ : Nat => (.ro 5 (l.map TFeature.en) :: .any :: .any :: .ro 6 ((slTo l (srtA (ancs l)) i).map TLabel.en) :: .ro 4 ((srtA (ancs l)).map TPlace.en) :: .own 1 ((pnTo l (srtA (ancs l)) i).length + 1) :: I (i : Int) :: S f.name :: .any :: .ref 2 0 4 0 0 :: .any :: I (s_ : Int) :: .any :: .any :: .any :: .any :: .any :: .any :: .any :: .any :: .any :: .any :: .any :: .any :: .any :: .any :: .any :: .any :: .any :: .any :: .any :: .any :: .any :: .any :: .any :: .any :: .any :: .any :: .any :: .any :: .any :: .any :: .any :: .any :: .any :: .any :: .any :: .any :: .any :: .any :: .any :: .any :: .any :: .any :: .any :: .any :: .any :: .any :: .any :: .any :: .any :: .any :: .any :: .any :: .any :: .any :: .any :: .any :: .any :: .any :: .any :: .any :: .any :: .any :: .any :: .any :: .any :: .any :: .any :: .any :: .any :: .any :: .any :: .any :: .any :: .any :: .any :: .any :: .any :: .any :: .any :: .any :: .any :: .any :: .any :: .any :: .any :: .any :: .any :: [])) (fun s_ => [none, some ⟨143, 4, ((pnTo l (srtA (ancs l)) i).length + 1), false, ((pnTo l (srtA (ancs l)) (i + 1)).map (·.box)).map TBox.en⟩, some ⟨143, 4, 0, true, [(labB x.at_ f.name (frC x.at_ f.name ((pnTo l (srtA (ancs l)) i).map (·.box)))).en]⟩, some ⟨143, 4, 0, false, [(labB x.at_ f.name (frC x.at_ f.name ((pnTo l (srtA (ancs l)) i).map (·.box)))).en]⟩]) (fun s_ => s_ - posR (lbGt (pnL l (pnTo l (srtA (ancs l)) i) x)) (slTo l (srtA (ancs l)) i)) (fun s_ => posR (lbGt (pnL l (pnTo l (srtA (ancs l)) i) x)) (slTo l (srtA (ancs l)) i) ≤ s_ ∧ s_ ≤ (slTo l (srtA (ancs l)) i).length) (slTo l (srtA (ancs l)) i).length ⟨posR_le _ _, Nat.le_refl _⟩ ?_ (by first | rfl | ((rw [hm2] <;> rfl))) ?_
  (focus (exact wkI))
  rintro k hJ2
  try dsimp only at hJ2
  try dsimp only
  by_cases hlt : posR (lbGt (pnL l (pnTo l (srtA (ancs l)) i) x)) (slTo l (srtA (ancs l)) i) < k
  case' pos =>
    have p2 := True.intro
    obtain ⟨y, hy⟩ := getD_some (l := (slTo l (srtA (ancs l)) i)) (i := k - 1) (by omega)
    obtain ⟨z1, z2, z3⟩ := ix_dn (k := k) (by omega) (by omega)
    have hgy : ((slTo l (srtA (ancs l)) i).map TLabel.en)[(IntKind.i64.wrap ((k : Int) - 1)).toNat]? = some y.en := by rw [z3, List.getElem?_map, hy]; rfl
    have hkp : decide ((k : Int) > 0) = true := by simp; omega
    have hpy : decide (y.id > x.id) = true := posR_ge (p := lbGt (pnL l (pnTo l (srtA (ancs l)) i) x)) (l := (slTo l (srtA (ancs l)) i)) (i := k - 1) (by omega) hy
  case' neg =>
    have q2 := True.intro
    have ek : posR (lbGt (pnL l (pnTo l (srtA (ancs l)) i) x)) (slTo l (srtA (ancs l)) i) = k := by omega
    have hK1 : ((k : Nat) : Int) ≤ (((slTo l (srtA (ancs l)) i).map TLabel.en).length : Int) := by rw [List.length_map]; omega
    have hd0 : ((slTo l (srtA (ancs l)) i).map TLabel.en).drop ((k : Nat) : Int).toNat = ((slTo l (srtA (ancs l)) i).drop k).map TLabel.en := by rw [Int.toNat_natCast, List.map_drop]
    have ht0 : ((slTo l (srtA (ancs l)) i).map TLabel.en).take ((k : Nat) : Int).toNat = ((slTo l (srtA (ancs l)) i).take k).map TLabel.en := by rw [Int.toNat_natCast, List.map_take]
    have hc1 : Clo (.ro 6 (((slTo l (srtA (ancs l)) i).take k).map TLabel.en)) := clo_list TLabel.clo_en
    have hc2 : Clo (.ro 6 (((slTo l (srtA (ancs l)) i).drop k).map TLabel.en)) := clo_list TLabel.clo_en
    have hl1 : ((slTo l (srtA (ancs l)) i).take k).length ≤ 1048576 := by rw [List.length_take]; omega
    have hl2 : ((slTo l (srtA (ancs l)) i).drop k).length ≤ 1048576 := by rw [List.length_drop]; omega
    have hap : (slTo l (srtA (ancs l)) (i + 1)).map TLabel.en = ((slTo l (srtA (ancs l)) i).take k).map TLabel.en ++ [[I x.id, S f.name, I (labB x.at_ f.name (frC x.at_ f.name ((pnTo l (srtA (ancs l)) i).map (·.box)))).low.x, I (labB x.at_ f.name (frC x.at_ f.name ((pnTo l (srtA (ancs l)) i).map (·.box)))).low.y, I (labB x.at_ f.name (frC x.at_ f.name ((pnTo l (srtA (ancs l)) i).map (·.box)))).high.x, I (labB x.at_ f.name (frC x.at_ f.name ((pnTo l (srtA (ancs l)) i).map (·.box)))).high.y]] ++ ((slTo l (srtA (ancs l)) i).drop k).map TLabel.en := by rw [hso, insL_map, ek, pnL, hnm]; rfl
    have hclT2 : Clo (.ro 6 ((slTo l (srtA (ancs l)) (i + 1)).map TLabel.en)) := clo_list TLabel.clo_en
    have hcr : ∀ r ∈ ((slTo l (srtA (ancs l)) i).take k).map TLabel.en ++ [[I x.id, S f.name, I (labB x.at_ f.name (frC x.at_ f.name ((pnTo l (srtA (ancs l)) i).map (·.box)))).low.x, I (labB x.at_ f.name (frC x.at_ f.name ((pnTo l (srtA (ancs l)) i).map (·.box)))).low.y, I (labB x.at_ f.name (frC x.at_ f.name ((pnTo l (srtA (ancs l)) i).map (·.box)))).high.x, I (labB x.at_ f.name (frC x.at_ f.name ((pnTo l (srtA (ancs l)) i).map (·.box)))).high.y]] ++ ((slTo l (srtA (ancs l)) i).drop k).map TLabel.en, ∀ y ∈ r, Clo y := hap ▸ clo_rows TLabel.clo_en
    rcases Nat.eq_zero_or_pos k with h0 | h0
    case' inl =>
      subst h0
      have hkp : decide (((0 : Nat) : Int) > 0) = false := by decide
    case' inr =>
      obtain ⟨y, hy⟩ := getD_some (l := (slTo l (srtA (ancs l)) i)) (i := k - 1) (by omega)
      obtain ⟨z1, z2, z3⟩ := ix_dn (k := k) (by omega) (by omega)
      have hgy : ((slTo l (srtA (ancs l)) i).map TLabel.en)[(IntKind.i64.wrap ((k : Int) - 1)).toNat]? = some y.en := by rw [z3, List.getElem?_map, hy]; rfl
      have hkp : decide ((k : Int) > 0) = true := by simp; omega
      have hpy : decide (y.id > x.id) = false := posR_lt (p := lbGt (pnL l (pnTo l (srtA (ancs l)) i) x)) (l := (slTo l (srtA (ancs l)) i)) (y := y) (by omega) (by rw [ek]; exact hy))) <;> (try dsimp only))
  all_goals first
    | (have _ := p2; refine ⟨k - 1, _, ⟨by omega, by omega⟩, by omega, ?_, rfl, ?_, ?_⟩; (focus ((refine wkj ?_; repeat' with_reducible constructor) <;> first | rfl | (rw [z2]; done))); (focus (exact fitsA)); (focus (exact fitsM_none (fitsM_cons (clo_rows TBox.clo_en) (fitsM_cons (clo_one (TBox.clo_en _)) (fitsM_cons (clo_one (TBox.clo_en _)) (FitsM.nil _)))))))
    | (have _ := q2; refine ⟨i + 1, _, (by assumption), by omega, ?_, by rw [hm3] <;> rfl, ?_, ?_⟩; (focus ((refine wkj ?_; repeat' with_reducible constructor) <;> first | rfl | (rw [hap] <;> rfl) | (rw [hn]; done) | (rw [hm3]; done))); (focus (exact fitsA)); (focus (exact fitsM_none (fitsM_cons (clo_rows TBox.clo_en) (FitsM.nil _)))))
    | (have _ := a2; refine ⟨i + 1, _, hlt, by omega, ?_, by rw [hm] <;> rfl, ?_, ?_⟩; (focus ((refine wkj ?_; repeat' with_reducible constructor) <;> first | rfl | (rw [hsn] <;> rfl) | (rw [hn]; done) | (rw [hm]; done))); (focus (exact fitsA)); (focus (exact fitsM_none (fitsM_cons (clo_rows TBox.clo_en) (FitsM.nil _)))))
    | (have _ := q1; exact Fin.one rfl (RV.tmp (by rfl)) (clo_list TLabel.clo_en) ⟨rfl, rfl⟩)

end Go.Proofs.YtpffahmmklpifaaGreat.Abs

/- The walks of ChartOf. -/
namespace Go.Proofs.YtpffahmmklpifaaGreat.Abs
open Go.Proofs Go.RowKit
set_option linter.unusedVariables false
set_option linter.unusedSimpArgs false
set_option maxRecDepth 100000
set_option maxHeartbeats 2000000
attribute [local irreducible] OpA AL AW DL DLM DLR DLS QOp POp VCalls VCallsI
attribute [local irreducible] shown chs plN shAll chsTo has
theorem chart_s (l : List TFeature) (v : TLevel) (hS : isSource l = true) (hg0 : ∀ x ∈ l, x.gd) (hV : isLevel v = true) : VCalls Tryz.prog 71 [.ro 5 (l.map TFeature.en), .agg v.en] (fun r M => r = .tup [.agg (chart l v).en, B true] ∧ M = []) := by
  refine VB Tryz.func71 50 (fun E hE => ?_)
  have hclo : Clo (.ro 5 (l.map TFeature.en)) := clo_list TFeature.clo_en
  have hsl := src_len hS
  have hl1 : l.length ≤ 1048576 := by omega
  have hsh := shown_le hS v
  have hclI : Clo (.ro 1 ((shown l v).map enI)) := clo_list clo_enI
  have hclL : Clo (.agg v.en) := Clo.agg v.clo_en
  have hS2 := chs_src hS v
  have hg2 := chs_gd hg0 v
  have hS3 := chF_src hS v
  have hg3 := chF_gd hg0 v
  have hcl2 : Clo (.ro 5 ((chs l v).map TFeature.en)) := clo_list TFeature.clo_en
  have hcl3 : Clo (.ro 5 ((chF l v).map TFeature.en)) := clo_list TFeature.clo_en
  have hcl4 : Clo (.ro 6 ((plN (chF l v)).map TLabel.en)) := clo_list TLabel.clo_en
  have hc2l : (chs l v).length ≤ 1048576 := by have := src_len hS2; omega
  dsimp only [TLevel.en]
  repeat' ((first
    | (refine iAL ?_; first | refine AL.any ?_ | refine AL.any (h := POp.k Tryz.func78 (hc := isSrcT_s l (by omega) hg0 hS)) ?_ | refine AL.any (h := POp.k Tryz.func108 (hc := cloneF_s' x hsx)) ?_ | refine AL.any (h := POp.k Tryz.func134 (hc := shown_s l v hS hg0 hV)) ?_ | refine AL.any (h := POp.k Tryz.func135 (hc := has_s (shown l v) x.id (by omega))) ?_ | refine AL.any (h := POp.k Tryz.func136 (hc := shAll_s (chs l v) v.least hc2l hg2)) ?_ | refine AL.any (h := POp.k Tryz.func137 (hc := pln_s (chF l v) hS3 hg3)) ?_ | refine AL.T ?_ | refine AL.T (h := POp.k Tryz.func133 (hc := isLevT_s v hV)) ?_ | refine AL.nil ?_)
    | (refine iAW ?_; first | (refine AW.freeze /-Ret-/ (t := 7) (id := 2) (b := ⟨81, 5, (chs l v).length, false, (chs l v).map TFeature.en⟩) rfl rfl rfl rfl (clo_rows TFeature.clo_en) ?_; try dsimp only [dput, List.set, cond_true, cond_false, Nat.zero_add, Nat.add_zero, Nat.reduceAdd, splice, List.take, List.drop, List.length, List.nil_append, List.cons_append, List.append, TPoint.en, TSegment.en, TBox.en, TFeature.en, TMeet.en, TPlace.en, TCover.en, TLabel.en, TPiece.en, TLevel.en, TChart.en, TReason.en, TEdit.en, TEntry.en, TEdition.en, TListing.en, TAtlas.en, TEvent.en, TWindow.en]) | (refine AW.c0 ?_; constructor) | refine AW.cT ?_ | refine AW.cF ?_)
    | (
  refine AW.loopD hE (fun i : Nat => [.ro 5 (l.map TFeature.en), .any, .any, .ref 0 0 3 0 0, .ref 1 0 2 0 0, .any, .ro 1 ((shown l v).map enI), .own 2 (chsTo l v i).length, I (i : Int), .any, .any, .any, .any, .any, .any, .any, .any, .any, .any, .any, .any, .any, .any, .any, .any, .any, .any, .any, .any, .any, .any, .any, .any, .any, .any, .any, .any, .any, .any, .any, .any, .any, .any, .any, .any, .any, .any, .any, .any, .any, .any, .any]) (fun i => [some ⟨47, 3, 0, true, [v.en]⟩, some ⟨65, 2, 0, true, [[.c (.slice none 0 0), .c (.slice none 0 0)]]⟩, some ⟨81, 5, (chsTo l v i).length, false, (chsTo l v i).map TFeature.en⟩]) (fun i => l.length - i) (fun i => i ≤ l.length) 0 (by simp) ?_ (by first | rfl | ((simp [chsTo, TLevel.en]))) ?_
  (focus ((refine wkj ?_; repeat' with_reducible constructor) <;> first | rfl | (first | rfl | (simp [chsTo]))))
  intro i hi
  by_cases hlt : i < l.length
  case' pos =>
    have hP := True.intro
    obtain ⟨x, hx⟩ : ∃ x, l[i]? = some x := ⟨_, List.getElem?_eq_getElem hlt⟩
    have hg := map_get (f := TFeature.en) hx
    have ht := lt_true (f := TFeature.en) hlt
    have hn := next_ix hlt (by omega)
    have hgx := hg0 x (List.mem_of_getElem? hx)
    have hsx : x.sm := hgx.1
    have hcle : Clo (.agg x.en) := Clo.agg x.clo_en
    have hclP : Clo (.ro 2 (x.points.map TPoint.en)) := clo_list TPoint.clo_en
    have hln := chsTo_len l v i
    rcases Bool.eq_false_or_eq_true (has (shown l v) x.id) with hk | hk
    case' inl => obtain ⟨hm, hm2⟩ := chsTo_y hx hk
    case' inr => obtain ⟨hm, hm2⟩ := chsTo_n hx hk
  case' neg =>
    have hQ := True.intro
    have ht := lt_false (f := TFeature.en) hlt
    have e : i = l.length := by omega
    subst e
    try rw [List.take_length]
    rw [chsTo_all])) <;> (try dsimp only))
  all_goals first
    | (have _ := hP; (refine ⟨i + 1, _, hlt, by omega, ?_, by rw [hm, hm2] <;> rfl, ?_, ?_⟩; (focus (exact wkH)); (focus (exact fitsA)); (focus (exact fitsM_cons (clo_one v.clo_en) (fitsM_cons (clo_rows_b rfl) (fitsM_cons (clo_rows TFeature.clo_en) (FitsM.nil _)))))))
    | (have _ := hQ; exact Fin.two rfl (RV.cell (QOp.quietA TT_ok (by rfl))) (RV.tmp (by rfl)) (Clo.tup (clo_cons (Clo.agg (TChart.clo_en _)) (clo_cons (clo_c _) clo_nil))) ⟨rfl, rfl⟩)

theorem chart0_s (l : List TFeature) (v : TLevel) (hl : l.length ≤ 1048576) (hg0 : ∀ x ∈ l, x.gd) (hK : chtOk l v = false) : VCalls Tryz.prog 71 [.ro 5 (l.map TFeature.en), .agg v.en] (fun r M => r = .tup [.agg [.c (.slice none 0 0), .c (.slice none 0 0)], B false] ∧ M = []) := by
  refine VB Tryz.func71 50 (fun E hE => ?_)
  have hclo : Clo (.ro 5 (l.map TFeature.en)) := clo_list TFeature.clo_en
  have hclL : Clo (.agg v.en) := Clo.agg v.clo_en
  dsimp only [TLevel.en]
  rcases Bool.eq_false_or_eq_true (isSource l) with hS | hS
  case' inl => have hV : isLevel v = false := by rw [chtOk, hS] at hK; exact hK
  repeat' ((first
    | (refine iAL ?_; first | refine AL.any ?_ | refine AL.any (h := POp.k Tryz.func78 (hc := isSource_s l hl hg0)) ?_ | refine AL.F ?_ | refine AL.T ?_ | refine AL.T (h := POp.k Tryz.func133 (hc := isLevel_s v)) ?_ | refine AL.nil ?_)
    | (refine iAW ?_; first | (refine AW.c0 ?_; constructor) | refine AW.cT ?_)) <;> (try dsimp only))
  all_goals exact Fin.two rfl (RV.cell (QOp.quietA TT_ok (by rfl))) (RV.tmp (by rfl)) (clo_of (by rfl)) ⟨rfl, rfl⟩

theorem chart_i (l : List TFeature) (v : TLevel) (hS : isSource l = true) (hg0 : ∀ x ∈ l, x.gd) (hV : isLevel v = true) : VCalls Tryz.prog 74 [.ro 5 (l.map TFeature.en), .agg v.en] (fun r M => r = .tup [.agg (chart l v).en, B true] ∧ M = []) := by
  refine VB Tryz.func74 44 (fun E hE => ?_)
  have hclo : Clo (.ro 5 (l.map TFeature.en)) := clo_list TFeature.clo_en
  have hsl := src_len hS
  have hl1 : l.length ≤ 1048576 := by omega
  have hsh := shown_le hS v
  have hclI : Clo (.ro 1 ((shown l v).map enI)) := clo_list clo_enI
  have hclL : Clo (.agg v.en) := Clo.agg v.clo_en
  have hS2 := chs_src hS v
  have hg2 := chs_gd hg0 v
  have hS3 := chF_src hS v
  have hg3 := chF_gd hg0 v
  have hcl2 : Clo (.ro 5 ((chs l v).map TFeature.en)) := clo_list TFeature.clo_en
  have hcl3 : Clo (.ro 5 ((chF l v).map TFeature.en)) := clo_list TFeature.clo_en
  have hcl4 : Clo (.ro 6 ((plN (chF l v)).map TLabel.en)) := clo_list TLabel.clo_en
  have hc2l : (chs l v).length ≤ 1048576 := by have := src_len hS2; omega
  dsimp only [TLevel.en]
  repeat' ((first
    | (refine iAL ?_; first | refine AL.any ?_ | refine AL.any (h := POp.k Tryz.func80 (hc := isSrcT_i l (by omega) hg0 hS)) ?_ | refine AL.any (h := POp.k Tryz.func140 (hc := shown_i' l v hS hg0 hV)) ?_ | refine AL.any (h := POp.k Tryz.func141 (hc := has_i (shown l v) x.id (by omega))) ?_ | refine AL.any (h := POp.k Tryz.func142 (hc := shAll_i (chs l v) v.least hc2l hg2)) ?_ | refine AL.any (h := POp.k Tryz.func143 (hc := pln_i' (chF l v) hS3 hg3)) ?_ | refine AL.T ?_ | refine AL.T (h := POp.k Tryz.func139 (hc := isLevT_i v hV)) ?_ | refine AL.nil ?_)
    | (refine iAW ?_; first | (refine AW.freeze /-Ret-/ (t := 7) (id := 2) (b := ⟨81, 5, (chs l v).length, false, (chs l v).map TFeature.en⟩) rfl rfl rfl rfl (clo_rows TFeature.clo_en) ?_; try dsimp only [dput, List.set, cond_true, cond_false, Nat.zero_add, Nat.add_zero, Nat.reduceAdd, splice, List.take, List.drop, List.length, List.nil_append, List.cons_append, List.append, TPoint.en, TSegment.en, TBox.en, TFeature.en, TMeet.en, TPlace.en, TCover.en, TLabel.en, TPiece.en, TLevel.en, TChart.en, TReason.en, TEdit.en, TEntry.en, TEdition.en, TListing.en, TAtlas.en, TEvent.en, TWindow.en]) | (refine AW.c0 ?_; constructor) | refine AW.cT ?_ | refine AW.cF ?_)
    | (
  refine AW.loopD hE (fun i : Nat => [.any, .any, .any, .ref 0 0 3 0 0, .ref 1 0 2 0 0, .any, .ro 1 ((shown l v).map enI), .own 2 (chsTo l v i).length, .any, .any, .any, .any, .any, .any, .any, .any, .any, .any, .any, .any, .any, .any, .any, .ro 5 (l.map TFeature.en), I ((l.map TFeature.en).length : Int), I (i : Int), .any, .any, .any, .any, .any, .any, .any, .any, .any, .any, .any, .any, .any, .any, .any, .any, .any, .any, .any, .any]) (fun i => [some ⟨47, 3, 0, true, [v.en]⟩, some ⟨65, 2, 0, true, [[.c (.slice none 0 0), .c (.slice none 0 0)]]⟩, some ⟨81, 5, (chsTo l v i).length, false, (chsTo l v i).map TFeature.en⟩]) (fun i => l.length - i) (fun i => i ≤ l.length) 0 (by simp) ?_ (by first | rfl | ((simp [chsTo, TLevel.en]))) ?_
  (focus ((refine wkj ?_; repeat' with_reducible constructor) <;> first | rfl | (first | rfl | (simp [chsTo]))))
  intro i hi
  by_cases hlt : i < l.length
  case' pos =>
    have hP := True.intro
    obtain ⟨x, hx⟩ : ∃ x, l[i]? = some x := ⟨_, List.getElem?_eq_getElem hlt⟩
    have hg := map_get (f := TFeature.en) hx
    have ht := lt_true (f := TFeature.en) hlt
    have hn := next_ix hlt (by omega)
    have hgx := hg0 x (List.mem_of_getElem? hx)
    have hsx : x.sm := hgx.1
    have hcle : Clo (.agg x.en) := Clo.agg x.clo_en
    have hclP : Clo (.ro 2 (x.points.map TPoint.en)) := clo_list TPoint.clo_en
    have hln := chsTo_len l v i
    rcases Bool.eq_false_or_eq_true (has (shown l v) x.id) with hk | hk
    case' inl => obtain ⟨hm, hm2⟩ := chsTo_y hx hk
    case' inr => obtain ⟨hm, hm2⟩ := chsTo_n hx hk
  case' neg =>
    have hQ := True.intro
    have ht := lt_false (f := TFeature.en) hlt
    have e : i = l.length := by omega
    subst e
    try rw [List.take_length]
    rw [chsTo_all])) <;> (try dsimp only))
  all_goals first
    | (have _ := hP; (refine ⟨i + 1, _, hlt, by omega, ?_, by rw [hm, hm2] <;> rfl, ?_, ?_⟩; (focus (exact wkH)); (focus (exact fitsA)); (focus (exact fitsM_cons (clo_one v.clo_en) (fitsM_cons (clo_rows_b rfl) (fitsM_cons (clo_rows TFeature.clo_en) (FitsM.nil _)))))))
    | (have _ := hQ; exact Fin.two rfl (RV.cell (QOp.quietA TT_ok (by rfl))) (RV.tmp (by rfl)) (Clo.tup (clo_cons (Clo.agg (TChart.clo_en _)) (clo_cons (clo_c _) clo_nil))) ⟨rfl, rfl⟩)

theorem chart0_i (l : List TFeature) (v : TLevel) (hl : l.length ≤ 1048576) (hg0 : ∀ x ∈ l, x.gd) (hK : chtOk l v = false) : VCalls Tryz.prog 74 [.ro 5 (l.map TFeature.en), .agg v.en] (fun r M => r = .tup [.agg [.c (.slice none 0 0), .c (.slice none 0 0)], B false] ∧ M = []) := by
  refine VB Tryz.func74 44 (fun E hE => ?_)
  have hclo : Clo (.ro 5 (l.map TFeature.en)) := clo_list TFeature.clo_en
  have hclL : Clo (.agg v.en) := Clo.agg v.clo_en
  dsimp only [TLevel.en]
  rcases Bool.eq_false_or_eq_true (isSource l) with hS | hS
  case' inl => have hV : isLevel v = false := by rw [chtOk, hS] at hK; exact hK
  repeat' ((first
    | (refine iAL ?_; first | refine AL.any ?_ | refine AL.any (h := POp.k Tryz.func80 (hc := isSource_i l hl hg0)) ?_ | refine AL.F ?_ | refine AL.T ?_ | refine AL.T (h := POp.k Tryz.func139 (hc := isLevel_i v)) ?_ | refine AL.nil ?_)
    | (refine iAW ?_; first | (refine AW.c0 ?_; constructor) | refine AW.cT ?_)) <;> (try dsimp only))
  all_goals exact Fin.two rfl (RV.cell (QOp.quietA TT_ok (by rfl))) (RV.tmp (by rfl)) (clo_of (by rfl)) ⟨rfl, rfl⟩

end Go.Proofs.YtpffahmmklpifaaGreat.Abs

/- The walks of LeftOut. -/
namespace Go.Proofs.YtpffahmmklpifaaGreat.Abs
open Go.Proofs Go.RowKit
set_option linter.unusedVariables false
set_option linter.unusedSimpArgs false
set_option maxRecDepth 100000
set_option maxHeartbeats 2000000
attribute [local irreducible] OpA AL AW DL DLM DLR DLS QOp POp VCalls VCallsI
attribute [local irreducible] chF plN
theorem chtOk_t {l : List TFeature} {v : TLevel} (h : chtOk l v = true) : isSource l = true ∧ isLevel v = true := by unfold chtOk at h; simpa using h
theorem gd_pts {l : List TFeature} (hg : ∀ x ∈ l, x.gd) : ∀ x ∈ l, x.points.length ≤ 1048576 := fun x hx => (hg x hx).1
theorem cht_clo (l : List TFeature) (v : TLevel) (b : Bool) : Clo (.tup [.agg (chart l v).en, B b]) := Clo.tup (clo_cons (Clo.agg (TChart.clo_en _)) (clo_cons (clo_c _) clo_nil))
end Go.Proofs.YtpffahmmklpifaaGreat.Abs
