/- Part G of the walk over abstract states and of the functions' walks. -/
import Derived.Test.YtpffahmmklpifaaGreatWkStep
import Derived.Test.YtpffahmmklpifaaGreatBnF
import Derived.Test.YtpffahmmklpifaaGreatBnD
/- The walks of LadderPoints and LevelFor. -/
namespace Go.Proofs.YtpffahmmklpifaaGreat.Abs
open Go.Proofs Go.RowKit
set_option linter.unusedVariables false
set_option linter.unusedSimpArgs false
set_option maxRecDepth 100000
set_option maxHeartbeats 2000000
attribute [local irreducible] OpA AL AW DL DLM DLR DLS QOp POp VCalls VCallsI
def lpTo (l : List TFeature) (vs : List TLevel) (i : Nat) : List Int := (vs.take i).map fun v => ((cntP (chF l v) : Nat) : Int)
def lpOk (l : List TFeature) (vs : List TLevel) : Bool := isLadder vs && isSource l
def nLp (l : List TFeature) (vs : List TLevel) : Nat := if lpOk l vs = true then vs.length else 0
def lpV (l : List TFeature) (vs : List TLevel) : List Int := lpTo l vs (nLp l vs)
theorem lpOk_t {l : List TFeature} {vs : List TLevel} (h : lpOk l vs = true) : isLadder vs = true ∧ isSource l = true := by unfold lpOk at h; simpa using h
theorem lpV_f {l : List TFeature} {vs : List TLevel} (h : lpOk l vs = false) : lpV l vs = [] := by rw [lpV, nLp, h]; rfl
theorem lpV_t {l : List TFeature} {vs : List TLevel} (h : lpOk l vs = true) : lpV l vs = lpTo l vs vs.length := by rw [lpV, nLp, if_pos h]
theorem nLp_le (l : List TFeature) (vs : List TLevel) : nLp l vs ≤ vs.length := by unfold nLp; split <;> omega
theorem nLp_t {l : List TFeature} {vs : List TLevel} {i : Nat} (h : i < nLp l vs) : isLadder vs = true ∧ isSource l = true ∧ nLp l vs = vs.length := by
  unfold nLp at h ⊢
  split at h
  · rename_i e
    obtain ⟨a, b⟩ := lpOk_t e
    rw [if_pos e]
    exact ⟨a, b, rfl⟩
  · omega
theorem nLp_end {l : List TFeature} {vs : List TLevel} : (decide (((nLp l vs : Nat) : Int) < ((vs.map TLevel.en).length : Int)) && isLadder vs && isSource l) = false := by
  unfold nLp lpOk
  cases isLadder vs <;> cases isSource l <;> simp
theorem lpTo_succ {l : List TFeature} {vs : List TLevel} {i : Nat} {v : TLevel} (h : vs[i]? = some v) : (lpTo l vs (i + 1)).map enI = (lpTo l vs i).map enI ++ [[I ((cntP (chF l v) : Nat) : Int)]] := by
  unfold lpTo
  rw [take_succ_of h, List.map_append, List.map_append]
  rfl
theorem lpTo_len {l : List TFeature} {vs : List TLevel} {i : Nat} (h : i ≤ vs.length) : (lpTo l vs i).length = i := by
  unfold lpTo
  rw [List.length_map, List.length_take]
  omega
theorem lpV_len (l : List TFeature) (vs : List TLevel) : (lpV l vs).length = nLp l vs := lpTo_len (nLp_le l vs)
theorem lad_lv {vs : List TLevel} {i : Nat} {v : TLevel} (h : isLadder vs = true) (hx : vs[i]? = some v) : isLevel v = true := by
  unfold isLadder at h
  simp only [Bool.and_eq_true, chOk, List.all_eq_true, List.mem_range] at h
  have h1 := h.1 i (List.getElem?_eq_some_iff.1 hx).1
  unfold chAt at h1
  rw [hx] at h1
  simp only [Bool.and_eq_true] at h1
  exact h1.1
def lvP (most : Int) (n : Int) : Bool := decide (n ≤ most)
def lvFor (l : List TFeature) (vs : List TLevel) (most : Int) : Int := if lpOk l vs = true then (((lpV l vs).findIdx (lvP most) : Nat) : Int) else -1
theorem findIdx_n {α : Type} {p : α → Bool} : ∀ {l : List α}, (l.take l.length).any p = false → l.findIdx p = l.length
  | [], _ => rfl
  | a :: l, h => by
    rw [List.take_length, List.any_cons, Bool.or_eq_false_iff] at h
    rw [List.findIdx_cons, h.1, List.length_cons]
    show l.findIdx p + 1 = _
    rw [findIdx_n (by rw [List.take_length]; exact h.2)]

attribute [local irreducible] chF plN
theorem lad_i_f (l : List TFeature) (vs : List TLevel) (hl : l.length ≤ 1048576) (hg0 : ∀ x ∈ l, x.gd) (hv : vs.length ≤ 1048576) (hK : lpOk l vs = false) : VCalls Tryz.prog 29 [.ro 5 (l.map TFeature.en), .ro 3 (vs.map TLevel.en)] (fun r M => r = .own 0 0 ∧ M = [some ⟨3, 1, 0, false, (lpV l vs).map enI⟩]) := by
  refine VB Tryz.func29 38 (fun E hE => ?_)
  have hclo : Clo (.ro 5 (l.map TFeature.en)) := clo_list TFeature.clo_en
  have hclV : Clo (.ro 3 (vs.map TLevel.en)) := clo_list TLevel.clo_en
  rcases Bool.eq_false_or_eq_true (isLadder vs) with hL | hL
  case' inl => have hS : isSource l = false := by rw [lpOk, hL] at hK; exact hK
  repeat' ((first
    | (refine iAL ?_; first | refine AL.any ?_ | refine AL.any (h := POp.k Tryz.func79 (hc := isLadder_i vs hv)) ?_ | refine AL.F ?_ | refine AL.T ?_ | refine AL.T (h := POp.k Tryz.func80 (hc := isSource_i l hl hg0)) ?_ | refine AL.nil ?_)
    | (refine iAW ?_; first | (refine AW.c0 ?_; constructor) | refine AW.cT ?_)) <;> (try dsimp only))
  all_goals exact Fin.r1 [0] rfl (RV.tmp (by rfl)) ⟨rfl, by rw [lpV_f hK] <;> rfl⟩

theorem lad_i_t (l : List TFeature) (vs : List TLevel) (hl : l.length ≤ 1048576) (hg0 : ∀ x ∈ l, x.gd) (hv : vs.length ≤ 1048576) (hL : isLadder vs = true) (hS : isSource l = true) : VCalls Tryz.prog 29 [.ro 5 (l.map TFeature.en), .ro 3 (vs.map TLevel.en)] (fun r M => r = .own 0 0 ∧ M = [some ⟨3, 1, 0, false, (lpV l vs).map enI⟩]) := by
  refine VB Tryz.func29 38 (fun E hE => ?_)
  have hclo : Clo (.ro 5 (l.map TFeature.en)) := clo_list TFeature.clo_en
  have hclV : Clo (.ro 3 (vs.map TLevel.en)) := clo_list TLevel.clo_en
  repeat' ((first
    | (refine iAL ?_; first | refine AL.any ?_ | refine AL.any (h := POp.k Tryz.func74 (hc := chart_i l x hS hg0 hV)) ?_ | refine AL.any (h := POp.k Tryz.func75 (hc := cnt_i (chF l x) hl3 hp3)) ?_ | refine AL.any (h := POp.k Tryz.func79 (hc := isLadder_i vs hv)) ?_ | refine AL.T ?_ | refine AL.T (h := POp.k Tryz.func80 (hc := isSource_i l hl hg0)) ?_ | refine AL.nil ?_)
    | (refine iAW ?_; first | (refine AW.c0 ?_; constructor) | refine AW.cT ?_ | refine AW.cF ?_)
    | (
  refine AW.loopD hE (fun i : Nat => [.ro 5 (l.map TFeature.en), .any, .any, .any, .any, .own 0 i, .any, .any, .any, .any, .any, .any, .any, .any, .any, .any, .any, .any, .any, .any, .ro 3 (vs.map TLevel.en), I ((vs.map TLevel.en).length : Int), I (i : Int), .any, .any, .any, .any, .any, .any, .any, .any, .any, .any, .any, .any, .any, .any, .any, .any, .any]) (fun i => [some ⟨3, 1, i, false, (lpTo l vs i).map enI⟩]) (fun i => vs.length - i) (fun i => i ≤ vs.length) 0 (by simp) ?_ (by first | rfl | (simp [fil_zero]; done)) ?_
  (focus (exact wkI))
  intro i hi
  by_cases hlt : i < vs.length
  case' pos =>
    have hP := True.intro
    obtain ⟨x, hx⟩ : ∃ x, vs[i]? = some x := ⟨_, List.getElem?_eq_getElem hlt⟩
    have hg := map_get (f := TLevel.en) hx
    have ht := lt_true (f := TLevel.en) hlt
    have hn := next_ix hlt (by omega)
    have hV := lad_lv hL hx
    have hm := lpTo_succ (l := l) hx
    have hln : (lpTo l vs i).length = i := lpTo_len (Nat.le_of_lt (List.getElem?_eq_some_iff.1 hx).1)
    have hclL : Clo (.agg x.en) := Clo.agg x.clo_en
    have hct := cht_clo l x true
    have hcl3 : Clo (.ro 5 ((chF l x).map TFeature.en)) := clo_list TFeature.clo_en
    have hl3 : (chF l x).length ≤ 1048576 := by have := chF_len hS x; omega
    have hp3 := gd_pts (chF_gd hg0 x)
  case' neg =>
    have hQ := True.intro
    have ht := lt_false (f := TLevel.en) hlt
    have e : i = vs.length := by omega
    subst e
    try rw [List.take_length])) <;> (try dsimp only))
  all_goals first
    | (have _ := hP; (refine ⟨i + 1, _, hlt, by omega, ?_, by rw [hm] <;> rfl, ?_, ?_⟩; (focus (exact wkH)); (focus (exact fitsA)); (focus (exact fits_row (clo_rows clo_enI)))))
    | (have _ := hQ; exact Fin.r1 [0] rfl (RV.tmp (by rfl)) ⟨rfl, by rw [lpV_t (by rw [lpOk, hL, hS]; rfl)] <;> rfl⟩)

theorem lad_i (l : List TFeature) (vs : List TLevel) (hl : l.length ≤ 1048576) (hg0 : ∀ x ∈ l, x.gd) (hv : vs.length ≤ 1048576) : VCalls Tryz.prog 29 [.ro 5 (l.map TFeature.en), .ro 3 (vs.map TLevel.en)] (fun r M => r = .own 0 0 ∧ M = [some ⟨3, 1, 0, false, (lpV l vs).map enI⟩]) := by
  cases hK : lpOk l vs
  · exact lad_i_f l vs hl hg0 hv hK
  · exact lad_i_t l vs hl hg0 hv (lpOk_t hK).1 (lpOk_t hK).2
theorem lad_i' (l : List TFeature) (vs : List TLevel) (hl : l.length ≤ 1048576) (hg0 : ∀ x ∈ l, x.gd) (hv : vs.length ≤ 1048576) : VCalls Tryz.prog 29 [.ro 5 (l.map TFeature.en), .ro 3 (vs.map TLevel.en)] (fun r M => r = .ro 1 ((lpV l vs).map enI) ∧ M = []) := VCalls.frz (lad_i l vs hl hg0 hv) vwlT
theorem lad_s (l : List TFeature) (vs : List TLevel) (hl : l.length ≤ 1048576) (hg0 : ∀ x ∈ l, x.gd) (hv : vs.length ≤ 1048576) : VCalls Tryz.prog 28 [.ro 5 (l.map TFeature.en), .ro 3 (vs.map TLevel.en)] (fun r M => r = .ro 1 ((lpV l vs).map enI) ∧ M = []) := by
  refine VB Tryz.func28 38 (fun E hE => ?_)
  have hclo : Clo (.ro 5 (l.map TFeature.en)) := clo_list TFeature.clo_en
  have hclV : Clo (.ro 3 (vs.map TLevel.en)) := clo_list TLevel.clo_en
  repeat' ((first
    | (refine iAL ?_; first | refine AL.any ?_ | refine AL.any (h := POp.k Tryz.func71 (hc := chart_s l x hS hg0 hV)) ?_ | refine AL.any (h := POp.k Tryz.func72 (hc := cnt_s (chF l x) hl3 hp3)) ?_ | refine AL.W ?_ | refine AL.W (h := fun h => by (try rw [h]); exact POp.k Tryz.func77 (hc := isLadder_s vs hv)) ?_ | refine AL.W (h := fun h => by (try rw [h]); exact POp.k Tryz.func78 (hc := isSource_s l hl hg0)) ?_ | refine AL.nil ?_)
    | (refine iAW ?_; first | (refine AW.freezeRet (t := 4) (id := 0) rfl rfl rfl rfl (clo_rows clo_enI) ?_; (try simp only [List.take_length]); try dsimp only [dput, List.set, cond_true, cond_false, Nat.zero_add, Nat.add_zero, Nat.reduceAdd, splice, List.take, List.drop, List.length, List.nil_append, List.cons_append, List.append, TPoint.en, TSegment.en, TBox.en, TFeature.en, TMeet.en, TPlace.en, TCover.en, TLabel.en, TPiece.en, TLevel.en, TChart.en, TReason.en, TEdit.en, TEntry.en, TEdition.en, TListing.en, TAtlas.en, TEvent.en, TWindow.en]) | (refine AW.c0 ?_; constructor) | refine AW.cT ?_ | refine AW.cF ?_)
    | (
  refine AW.loopD hE (fun i : Nat => [.ro 5 (l.map TFeature.en), .ro 3 (vs.map TLevel.en), .any, .any, .any, .own 0 i, I (i : Int), .any, .any, .any, .any, .any, .any, .any, .any, .any, .any, .any, .any, .any, .any, .any, .any, .any, .any, .any, .any, .any, .any, .any, .any, .any, .any, .any, .any, .any, .any, .any, .any, .any]) (fun i => [some ⟨3, 1, i, false, (lpTo l vs i).map enI⟩]) (fun i => (nLp l vs) - i) (fun i => i ≤ nLp l vs) 0 (Nat.zero_le _) ?_ (by first | rfl | (simp [fil_zero]; done)) ?_
  (focus (exact wkI))
  intro i hi
  have hnl := nLp_le l vs
  by_cases hlt : i < (nLp l vs)
  case' pos =>
    have hP := True.intro
    obtain ⟨hL, hS, hN⟩ := nLp_t hlt
    obtain ⟨x, hx⟩ : ∃ x, vs[i]? = some x := ⟨_, List.getElem?_eq_getElem (by omega)⟩
    have hg := map_get (f := TLevel.en) hx
    have ht : (decide ((i : Int) < ((vs.map TLevel.en).length : Int)) && isLadder vs && isSource l) = true := by rw [hL, hS]; simp; omega
    have hn := next_ix hlt (by omega)
    have hV := lad_lv hL hx
    have hm := lpTo_succ (l := l) hx
    have hln : (lpTo l vs i).length = i := lpTo_len (Nat.le_of_lt (List.getElem?_eq_some_iff.1 hx).1)
    have hclL : Clo (.agg x.en) := Clo.agg x.clo_en
    have hct := cht_clo l x true
    have hcl3 : Clo (.ro 5 ((chF l x).map TFeature.en)) := clo_list TFeature.clo_en
    have hl3 : (chF l x).length ≤ 1048576 := by have := chF_len hS x; omega
    have hp3 := gd_pts (chF_gd hg0 x)
  case' neg =>
    have hQ := True.intro
    have e : i = (nLp l vs) := by omega
    have ht : (decide ((i : Int) < ((vs.map TLevel.en).length : Int)) && isLadder vs && isSource l) = false := by rw [e]; exact nLp_end
    subst e)) <;> (try dsimp only))
  all_goals first
    | (have _ := hP; (refine ⟨i + 1, _, hlt, by omega, ?_, by rw [hm] <;> rfl, ?_, ?_⟩; (focus (exact wkH)); (focus (exact fitsA)); (focus (exact fits_row (clo_rows clo_enI)))))
    | (have _ := hQ; exact Fin.one rfl (RV.tmp (by rfl)) (clo_list clo_enI) ⟨rfl, rfl⟩)

theorem lvf_s_f (l : List TFeature) (vs : List TLevel) (most : Int) (hl : l.length ≤ 1048576) (hg0 : ∀ x ∈ l, x.gd) (hv : vs.length ≤ 1048576) (hK : lpOk l vs = false) : VCalls Tryz.prog 24 [.ro 5 (l.map TFeature.en), .ro 3 (vs.map TLevel.en), I most] (fun r M => r = I (lvFor l vs most) ∧ M = []) := by
  refine VB Tryz.func24 32 (fun E hE => ?_)
  have hclo : Clo (.ro 5 (l.map TFeature.en)) := clo_list TFeature.clo_en
  have hclV : Clo (.ro 3 (vs.map TLevel.en)) := clo_list TLevel.clo_en
  rcases Bool.eq_false_or_eq_true (isLadder vs) with hL | hL
  case' inl => have hS : isSource l = false := by rw [lpOk, hL] at hK; exact hK
  repeat' ((first
    | (refine iAL ?_; first | refine AL.any ?_ | refine AL.any (h := POp.k Tryz.func77 (hc := isLadder_s vs hv)) ?_ | refine AL.F ?_ | refine AL.T ?_ | refine AL.T (h := POp.k Tryz.func78 (hc := isSource_s l hl hg0)) ?_ | refine AL.nil ?_)
    | (refine iAW ?_; first | (refine AW.c0 ?_; constructor) | refine AW.cT ?_)) <;> (try dsimp only))
  all_goals exact Fin.one rfl (RV.tmp (by rfl)) (clo_c _) ⟨by rw [lvFor, if_neg (by rw [hK]; decide)], rfl⟩

theorem lvf_s_t (l : List TFeature) (vs : List TLevel) (most : Int) (hl : l.length ≤ 1048576) (hg0 : ∀ x ∈ l, x.gd) (hv : vs.length ≤ 1048576) (hL : isLadder vs = true) (hS : isSource l = true) : VCalls Tryz.prog 24 [.ro 5 (l.map TFeature.en), .ro 3 (vs.map TLevel.en), I most] (fun r M => r = I (lvFor l vs most) ∧ M = []) := by
  refine VB Tryz.func24 32 (fun E hE => ?_)
  have hclo : Clo (.ro 5 (l.map TFeature.en)) := clo_list TFeature.clo_en
  have hclV : Clo (.ro 3 (vs.map TLevel.en)) := clo_list TLevel.clo_en
  have hclP : Clo (.ro 1 ((lpV l vs).map enI)) := clo_list clo_enI
  have hpl := lpV_len l vs
  have hnl := nLp_le l vs
  have hK : lpOk l vs = true := by rw [lpOk, hL, hS]; rfl
  have hnp : nLp l vs = vs.length := by rw [nLp, if_pos hK]
  have hvl : ((vs.map TLevel.en).length : Int) = (((lpV l vs).length : Nat) : Int) := by rw [List.length_map, hpl, hnp]
  have hpl2 : (((lpV l vs).map enI).length : Int) = (((lpV l vs).length : Nat) : Int) := by rw [List.length_map]
  repeat' ((first
    | (refine iAL ?_; first | refine AL.any ?_ | refine AL.any (h := POp.k Tryz.func28 (hc := lad_s l vs hl hg0 hv)) ?_ | refine AL.any (h := POp.k Tryz.func77 (hc := isLadder_s vs hv)) ?_ | refine AL.T ?_ | refine AL.T (h := POp.k Tryz.func78 (hc := isSource_s l hl hg0)) ?_ | refine AL.nil ?_)
    | (refine iAW ?_; first | (refine AW.c0 ?_; constructor) | refine AW.cT ?_ | refine AW.cF ?_)
    | (
  refine AW.loopD hE (fun i : Nat => [.any, .any, I most, .any, .any, .any, .any, .ro 1 ((lpV l vs).map enI), I (i : Int), .any, .any, .any, .any, .any, .any, .any, .any, .any, .any, .any, .any, .any, .any, .any, .any, .any, .any, .any, .any, .any, .any, .any, .any, .any, .any]) (fun i => []) (fun i => (lpV l vs).length - i) (fun i => i ≤ (lpV l vs).length ∧ ((lpV l vs).take i).any (lvP most) = false) 0 ⟨Nat.zero_le _, rfl⟩ ?_ (by first | rfl | (simp [fil_zero]; done)) ?_
  (focus (exact wkI))
  intro i hi
  by_cases hlt : i < (lpV l vs).length
  case' pos =>
    have hP := True.intro
    obtain ⟨x, hx⟩ : ∃ x, (lpV l vs)[i]? = some x := ⟨_, List.getElem?_eq_getElem hlt⟩
    have hg := map_get (f := enI) hx
    have ht := lt_true (f := enI) hlt
    have hn := next_ix hlt (by omega)
    rcases Bool.eq_false_or_eq_true (decide (x ≤ most)) with hxm | hxm
    case' inl => have hres : lvFor l vs most = (i : Int) := by rw [lvFor, if_pos hK, findIdx_at hx hxm hi.2]
    case' inr => have hjn := any_take_n hx hi.2 hxm
  case' neg =>
    have hQ := True.intro
    have ht := lt_false (f := enI) hlt
    have e : i = (lpV l vs).length := by omega
    subst e
    try rw [List.take_length])) <;> (try dsimp only))
  all_goals first
    | (have _ := hP; (refine ⟨i + 1, _, ⟨hlt, hjn⟩, by omega, ?_, rfl, ?_, ?_⟩; (focus (exact wkH)); (focus (exact fitsA)); (focus (exact FitsM.nil _))))
    | (have _ := hP; exact Fin.one rfl (RV.tmp (by rfl)) (clo_c _) ⟨by rw [hres], rfl⟩)
    | (have _ := hQ; exact Fin.one rfl (RV.tmp (by rfl)) (clo_c _) ⟨by (rw [lvFor, if_pos hK, findIdx_n hi.2]; first | rfl | rw [hvl] | rw [hpl2]), rfl⟩)

theorem lvf_s (l : List TFeature) (vs : List TLevel) (most : Int) (hl : l.length ≤ 1048576) (hg0 : ∀ x ∈ l, x.gd) (hv : vs.length ≤ 1048576) : VCalls Tryz.prog 24 [.ro 5 (l.map TFeature.en), .ro 3 (vs.map TLevel.en), I most] (fun r M => r = I (lvFor l vs most) ∧ M = []) := by
  cases hK : lpOk l vs
  · exact lvf_s_f l vs most hl hg0 hv hK
  · exact lvf_s_t l vs most hl hg0 hv (lpOk_t hK).1 (lpOk_t hK).2
theorem lvf_i_f (l : List TFeature) (vs : List TLevel) (most : Int) (hl : l.length ≤ 1048576) (hg0 : ∀ x ∈ l, x.gd) (hv : vs.length ≤ 1048576) (hK : lpOk l vs = false) : VCalls Tryz.prog 26 [.ro 5 (l.map TFeature.en), .ro 3 (vs.map TLevel.en), I most] (fun r M => r = I (lvFor l vs most) ∧ M = []) := by
  refine VB Tryz.func26 30 (fun E hE => ?_)
  have hclo : Clo (.ro 5 (l.map TFeature.en)) := clo_list TFeature.clo_en
  have hclV : Clo (.ro 3 (vs.map TLevel.en)) := clo_list TLevel.clo_en
  rcases Bool.eq_false_or_eq_true (isLadder vs) with hL | hL
  case' inl => have hS : isSource l = false := by rw [lpOk, hL] at hK; exact hK
  repeat' ((first
    | (refine iAL ?_; first | refine AL.any ?_ | refine AL.any (h := POp.k Tryz.func79 (hc := isLadder_i vs hv)) ?_ | refine AL.F ?_ | refine AL.T ?_ | refine AL.T (h := POp.k Tryz.func80 (hc := isSource_i l hl hg0)) ?_ | refine AL.nil ?_)
    | (refine iAW ?_; first | (refine AW.c0 ?_; constructor) | refine AW.cT ?_)) <;> (try dsimp only))
  all_goals exact Fin.one rfl (RV.tmp (by rfl)) (clo_c _) ⟨by rw [lvFor, if_neg (by rw [hK]; decide)], rfl⟩

theorem lvf_i_t (l : List TFeature) (vs : List TLevel) (most : Int) (hl : l.length ≤ 1048576) (hg0 : ∀ x ∈ l, x.gd) (hv : vs.length ≤ 1048576) (hL : isLadder vs = true) (hS : isSource l = true) : VCalls Tryz.prog 26 [.ro 5 (l.map TFeature.en), .ro 3 (vs.map TLevel.en), I most] (fun r M => r = I (lvFor l vs most) ∧ M = []) := by
  refine VB Tryz.func26 30 (fun E hE => ?_)
  have hclo : Clo (.ro 5 (l.map TFeature.en)) := clo_list TFeature.clo_en
  have hclV : Clo (.ro 3 (vs.map TLevel.en)) := clo_list TLevel.clo_en
  have hclP : Clo (.ro 1 ((lpV l vs).map enI)) := clo_list clo_enI
  have hpl := lpV_len l vs
  have hnl := nLp_le l vs
  have hK : lpOk l vs = true := by rw [lpOk, hL, hS]; rfl
  have hnp : nLp l vs = vs.length := by rw [nLp, if_pos hK]
  have hvl : ((vs.map TLevel.en).length : Int) = (((lpV l vs).length : Nat) : Int) := by rw [List.length_map, hpl, hnp]
  have hpl2 : (((lpV l vs).map enI).length : Int) = (((lpV l vs).length : Nat) : Int) := by rw [List.length_map]
  repeat' ((first
    | (refine iAL ?_; first | refine AL.any ?_ | refine AL.any (h := POp.k Tryz.func29 (hc := lad_i' l vs hl hg0 hv)) ?_ | refine AL.any (h := POp.k Tryz.func79 (hc := isLadder_i vs hv)) ?_ | refine AL.T ?_ | refine AL.T (h := POp.k Tryz.func80 (hc := isSource_i l hl hg0)) ?_ | refine AL.nil ?_)
    | (refine iAW ?_; first | (refine AW.c0 ?_; constructor) | refine AW.cT ?_ | refine AW.cF ?_)
    | (
  refine AW.loopD hE (fun i : Nat => [.any, .ro 3 (vs.map TLevel.en), I most, .any, .any, .any, .any, .any, .any, .any, .any, .any, .any, .any, .any, .any, .any, .any, .any, .ro 1 ((lpV l vs).map enI), I (((lpV l vs).map enI).length : Int), I (i : Int), .any, .any, .any, .any, .any, .any, .any, .any, .any, .any, .any]) (fun i => []) (fun i => (lpV l vs).length - i) (fun i => i ≤ (lpV l vs).length ∧ ((lpV l vs).take i).any (lvP most) = false) 0 ⟨Nat.zero_le _, rfl⟩ ?_ (by first | rfl | (simp [fil_zero]; done)) ?_
  (focus (exact wkI))
  intro i hi
  by_cases hlt : i < (lpV l vs).length
  case' pos =>
    have hP := True.intro
    obtain ⟨x, hx⟩ : ∃ x, (lpV l vs)[i]? = some x := ⟨_, List.getElem?_eq_getElem hlt⟩
    have hg := map_get (f := enI) hx
    have ht := lt_true (f := enI) hlt
    have hn := next_ix hlt (by omega)
    rcases Bool.eq_false_or_eq_true (decide (x ≤ most)) with hxm | hxm
    case' inl => have hres : lvFor l vs most = (i : Int) := by rw [lvFor, if_pos hK, findIdx_at hx hxm hi.2]
    case' inr => have hjn := any_take_n hx hi.2 hxm
  case' neg =>
    have hQ := True.intro
    have ht := lt_false (f := enI) hlt
    have e : i = (lpV l vs).length := by omega
    subst e
    try rw [List.take_length])) <;> (try dsimp only))
  all_goals first
    | (have _ := hP; (refine ⟨i + 1, _, ⟨hlt, hjn⟩, by omega, ?_, rfl, ?_, ?_⟩; (focus (exact wkH)); (focus (exact fitsA)); (focus (exact FitsM.nil _))))
    | (have _ := hP; exact Fin.one rfl (RV.tmp (by rfl)) (clo_c _) ⟨by rw [hres], rfl⟩)
    | (have _ := hQ; exact Fin.one rfl (RV.tmp (by rfl)) (clo_c _) ⟨by (rw [lvFor, if_pos hK, findIdx_n hi.2]; first | rfl | rw [hvl] | rw [hpl2]), rfl⟩)

theorem lvf_i (l : List TFeature) (vs : List TLevel) (most : Int) (hl : l.length ≤ 1048576) (hg0 : ∀ x ∈ l, x.gd) (hv : vs.length ≤ 1048576) : VCalls Tryz.prog 26 [.ro 5 (l.map TFeature.en), .ro 3 (vs.map TLevel.en), I most] (fun r M => r = I (lvFor l vs most) ∧ M = []) := by
  cases hK : lpOk l vs
  · exact lvf_i_f l vs most hl hg0 hv hK
  · exact lvf_i_t l vs most hl hg0 hv (lpOk_t hK).1 (lpOk_t hK).2
end Go.Proofs.YtpffahmmklpifaaGreat.Abs
