/- Part H of the walk over abstract states and of the functions' walks. -/
import Derived.Test.YtpffahmmklpifaaGreatWkStep
import Derived.Test.YtpffahmmklpifaaGreatBnE
import Derived.Test.YtpffahmmklpifaaGreatBnD
import Derived.Test.YtpffahmmklpifaaGreatBnF
import Derived.Test.YtpffahmmklpifaaGreatBnA
/- The walks of SourceOf. -/
namespace Go.Proofs.YtpffahmmklpifaaGreat.Abs
open Go.Proofs Go.RowKit
set_option linter.unusedVariables false
set_option linter.unusedSimpArgs false
set_option maxRecDepth 100000
set_option maxHeartbeats 2000000
attribute [local irreducible] OpA AL AW DL DLM DLR DLS QOp POp VCalls VCallsI
def srcTo (l : List TEntry) (i : Nat) : List TFeature := ((l.take i).filter fun e => !e.gone).map TEntry.feature
def srcOf (l : List TEntry) : List TFeature := if isLog l = true then srcTo l l.length else []
theorem srcOf_t {l : List TEntry} (h : isLog l = true) : srcOf l = srcTo l l.length := if_pos h
theorem srcOf_f {l : List TEntry} (h : isLog l = false) : srcOf l = [] := if_neg (by rw [h]; decide)
theorem srcOf_cases {l : List TEntry} {i : Nat} {x : TEntry} (h : l[i]? = some x) : (x.gone = true ∧ srcTo l (i + 1) = srcTo l i) ∨ (x.gone = false ∧ srcTo l (i + 1) = srcTo l i ++ [x.feature]) := by
  unfold srcTo
  rw [take_succ_of h, List.filter_append, List.map_append]
  cases hgo : x.gone <;> simp [hgo]
theorem srcTo_len (l : List TEntry) (i : Nat) : (srcTo l i).length ≤ i := by
  unfold srcTo
  rw [List.length_map]
  exact Nat.le_trans (List.length_filter_le _ _) (by rw [List.length_take]; omega)
theorem srcTo_mem {l : List TEntry} {i : Nat} {p : TFeature → Prop} (hp : ∀ e ∈ l, p e.feature) : ∀ y ∈ srcTo l i, p y := fun y hy => by
  unfold srcTo at hy
  obtain ⟨e, he, rfl⟩ := List.mem_map.1 hy
  exact hp e (List.mem_of_mem_take (List.mem_filter.1 he).1)
theorem srcOf_len {l : List TEntry} (hl : l.length ≤ 1048576) : (srcOf l).length ≤ 1048576 := by
  unfold srcOf
  split
  · exact Nat.le_trans (srcTo_len l _) hl
  · exact Nat.zero_le _
theorem srcOf_mem {l : List TEntry} {p : TFeature → Prop} (hp : ∀ e ∈ l, p e.feature) : ∀ y ∈ srcOf l, p y := by
  unfold srcOf
  split
  · exact srcTo_mem hp
  · intro y hy; simp at hy
def nLog (l : List TEntry) : Nat := if isLog l = true then l.length else 0
theorem nLog_t {l : List TEntry} {i : Nat} (h : i < nLog l) : isLog l = true ∧ i < l.length := by
  unfold nLog at h
  split at h
  · exact ⟨by assumption, h⟩
  · omega
theorem srcOf_n (l : List TEntry) : srcTo l (nLog l) = srcOf l := by
  unfold nLog srcOf
  split
  · rfl
  · simp [srcTo]

theorem src_i (l : List TEntry) (hl : l.length ≤ 1048576) (hp : ∀ e ∈ l, e.feature.gd) : VCalls Tryz.prog 60 [.ro 8 (l.map TEntry.en)] (fun r M => r = .own 0 0 ∧ M = [some ⟨81, 5, 0, false, (srcOf l).map TFeature.ed⟩]) := by
  refine VB Tryz.func60 27 (fun E hE => ?_)
  have hclo : Clo (.ro 8 (l.map TEntry.en)) := clo_list TEntry.clo_en
  repeat' ((first
    | (refine iAL ?_; first | refine AL.any (h := POp.gh POp.mk (Gh.absorbA (q := 0) (id := 2) (j := 4) rfl rfl rfl rfl rfl rfl (DCl.map (fun _ => rfl)) TPoint.und)) ?_ | refine AL.any ?_ | refine AL.any (h := POp.k Tryz.func117 (hc := isLog_i _ (by assumption) (by assumption))) ?_ | refine AL.any (h := POp.O Tryz.func118 (hc := cloneF x.feature (by assumption))) ?_ | refine AL.nil ?_)
    | (refine iAW ?_; first | (refine AW.c0 ?_; constructor) | refine AW.cT ?_ | refine AW.cF ?_ | (refine AW.c2 ?_ ?_ <;> (intro h; try simp only [bT, bF] at h)))
    | (
  refine AW.loopD hE (fun i : Nat => [.any, .any, .any, .own 0 (srcTo l i).length, .any, .any, .any, .any, .any, .any, .any, .ro 8 (l.map TEntry.en), I ((l.map TEntry.en).length : Int), I (i : Int), .any, .any, .any, .any, .any, .any, .any, .any, .any, .any, .any, .any, .any, .any]) (fun i => [some ⟨81, 5, (srcTo l i).length, false, (srcTo l i).map TFeature.ed⟩]) (fun i => l.length - i) (fun i => i ≤ l.length) 0 (by simp) ?_ (by first | rfl | (simp [fil_zero]; done)) ?_
  (focus (exact wkI))
  intro i hi
  by_cases hlt : i < l.length
  case' pos =>
    have hP := True.intro
    obtain ⟨x, hx⟩ : ∃ x, l[i]? = some x := ⟨_, List.getElem?_eq_getElem hlt⟩
    have hg := map_get (f := TEntry.en) hx
    have ht := lt_true (f := TEntry.en) hlt
    have hn := next_ix hlt (by omega)
    have hgx := hp x (List.mem_of_getElem? hx)
    have hgs := hgx.1
    have hln := srcTo_len l i
    have hclP : Clo (.ro 2 (x.feature.points.map TPoint.en)) := clo_list TPoint.clo_en
    have hclF : Clo (.agg x.feature.en) := Clo.agg x.feature.clo_en
    have hcle : Clo (.agg x.en) := Clo.agg x.clo_en
    rcases srcOf_cases hx with ⟨hgo, hsr⟩ | ⟨hgo, hsr⟩
    rotate_left 1
    have hm : (srcTo l (i + 1)).map TFeature.ed = (srcTo l i).map TFeature.ed ++ [x.feature.ed] := by rw [hsr, List.map_append]; rfl
    have hlen : (srcTo l (i + 1)).length = (srcTo l i).length + 1 := by rw [hsr, List.length_append]; rfl
    rotate_left 1
  case' neg =>
    have hQ := True.intro
    have ht := lt_false (f := TEntry.en) hlt
    have e : i = l.length := by omega
    subst e
    try rw [List.take_length])) <;> (try dsimp only))
  all_goals first
    | (have _ := hP; (refine ⟨i + 1, _, hlt, by omega, ?_, by first | (rw [hm, hlen] <;> rfl) | (rw [hsr] <;> rfl), ?_, ?_⟩; (focus ((refine wkj ?_; repeat' with_reducible constructor) <;> (first | rfl | (rw [hlen]; done) | (rw [hsr]; done) | simp_all))); (focus (exact fitsA)); (focus (exact fits_dcl (DCl.map (fun _ => rfl))))))
    | (have _ := hQ; (rw [srcOf_t (by assumption)]); exact Fin.r1 [0] rfl (RV.tmp (by rfl)) ⟨rfl, rfl⟩)
    | (rw [srcOf_f (by assumption)]); exact Fin.r1 [0] rfl (RV.tmp (by rfl)) ⟨rfl, rfl⟩

theorem src_s (l : List TEntry) (hl : l.length ≤ 1048576) (hp : ∀ e ∈ l, e.feature.gd) : VCalls Tryz.prog 52 [.ro 8 (l.map TEntry.en)] (fun r M => r = .own 0 0 ∧ M = [some ⟨81, 5, 0, false, (srcOf l).map TFeature.ed⟩]) := by
  refine VB Tryz.func52 31 (fun E hE => ?_)
  have hclo : Clo (.ro 8 (l.map TEntry.en)) := clo_list TEntry.clo_en
  repeat' ((first
    | (refine iAL ?_; first | refine AL.any (h := POp.gh POp.mk (Gh.absorbA (q := 0) (id := 1) (j := 4) rfl rfl rfl rfl rfl rfl (DCl.map (fun _ => rfl)) TPoint.und)) ?_ | refine AL.any ?_ | refine AL.any (h := POp.O Tryz.func108 (hc := cloneF_s x.feature (by assumption))) ?_ | refine AL.W ?_ | refine AL.W (h := fun h => by (try rw [h]); exact POp.k Tryz.func107 (hc := isLog_s _ (by assumption) (by assumption))) ?_ | refine AL.nil ?_)
    | (refine iAW ?_; first | (refine AW.c0 ?_; constructor) | refine AW.cT ?_ | refine AW.cF ?_)
    | (
  refine AW.loopD hE (fun i : Nat => [.ro 8 (l.map TEntry.en), .any, .any, .own 0 (srcTo l i).length, I (i : Int), .any, .any, .any, .any, .any, .any, .any, .any, .any, .any, .any, .any, .any, .any, .any, .any, .any, .any, .any, .any, .any, .any, .any, .any, .any, .any, .any]) (fun i => [some ⟨81, 5, (srcTo l i).length, false, (srcTo l i).map TFeature.ed⟩]) (fun i => nLog l - i) (fun i => i ≤ nLog l) 0 (by simp) ?_ (by first | rfl | (simp [fil_zero]; done)) ?_
  (focus (exact wkI))
  intro i hi
  by_cases hlt : i < nLog l
  case' pos =>
    have hP := True.intro
    obtain ⟨hIL, hN⟩ := nLog_t hlt
    obtain ⟨x, hx⟩ : ∃ x, l[i]? = some x := ⟨_, List.getElem?_eq_getElem hN⟩
    have hg := map_get (f := TEntry.en) hx
    have ht : (decide ((i : Int) < ((l.map TEntry.en).length : Int)) && isLog l) = true := by rw [hIL]; simp; omega
    have hn := next_ix hN (by omega)
    have hgx := hp x (List.mem_of_getElem? hx)
    have hgs := hgx.1
    have hln := srcTo_len l i
    have hclP : Clo (.ro 2 (x.feature.points.map TPoint.en)) := clo_list TPoint.clo_en
    have hclF : Clo (.agg x.feature.en) := Clo.agg x.feature.clo_en
    have hcle : Clo (.agg x.en) := Clo.agg x.clo_en
    rcases srcOf_cases hx with ⟨hgo, hsr⟩ | ⟨hgo, hsr⟩
    rotate_left 1
    have hm : (srcTo l (i + 1)).map TFeature.ed = (srcTo l i).map TFeature.ed ++ [x.feature.ed] := by rw [hsr, List.map_append]; rfl
    have hlen : (srcTo l (i + 1)).length = (srcTo l i).length + 1 := by rw [hsr, List.length_append]; rfl
    rotate_left 1
  case' neg =>
    have hQ := True.intro
    have e : i = nLog l := by omega
    have ht : (decide ((i : Int) < ((l.map TEntry.en).length : Int)) && isLog l) = false := by
      rw [e]
      unfold nLog
      split
      · simp
      · simp_all
    subst e)) <;> (try dsimp only))
  all_goals first
    | (have _ := hP; (refine ⟨i + 1, _, hlt, by omega, ?_, by first | (rw [hm, hlen] <;> rfl) | (rw [hsr] <;> rfl), ?_, ?_⟩; (focus ((refine wkj ?_; repeat' with_reducible constructor) <;> (first | rfl | (rw [hlen]; done) | (rw [hsr]; done) | simp_all))); (focus (exact fitsA)); (focus (exact fits_dcl (DCl.map (fun _ => rfl))))))
    | (have _ := hQ; (simp only [srcOf_n]); exact Fin.r1 [0] rfl (RV.tmp (by rfl)) ⟨rfl, rfl⟩)

theorem src_i' (l : List TEntry) (hl : l.length ≤ 1048576) (hp : ∀ e ∈ l, e.feature.gd) : VCalls Tryz.prog 60 [.ro 8 (l.map TEntry.en)] (fun r M => r = .ro 5 ((srcOf l).map TFeature.en) ∧ M = []) := VCalls.frz (src_i l hl hp) (by repeat' (first | exact VwL.nil | refine VwL.cons ?_ ?_ | (refine View.own (by rfl) (by rfl) (by rfl) (by rfl) ?_ ?_ <;> first | exact DCl.b rfl | exact DCl.map (fun _ => rfl) | assumption | rfl | exact TPoint.und | exact TSegment.und | exact TBox.und | exact TFeature.und | exact TMeet.und | exact TPlace.und | exact TCover.und | exact TLabel.und | exact TPiece.und | exact TLevel.und | exact TChart.und | exact TReason.und | exact TEdit.und | exact TEntry.und | exact TEdition.und | exact TListing.und | exact TAtlas.und | exact TEvent.und | exact TWindow.und | exact und_nil | exact und_I | assumption) | refine View.agg' ?_ | exact View.same (by first | exact clo_of (by rfl) | assumption | exact clo_fn _) | exact View.nil))
theorem src_s' (l : List TEntry) (hl : l.length ≤ 1048576) (hp : ∀ e ∈ l, e.feature.gd) : VCalls Tryz.prog 52 [.ro 8 (l.map TEntry.en)] (fun r M => r = .ro 5 ((srcOf l).map TFeature.en) ∧ M = []) := VCalls.frz (src_s l hl hp) (by repeat' (first | exact VwL.nil | refine VwL.cons ?_ ?_ | (refine View.own (by rfl) (by rfl) (by rfl) (by rfl) ?_ ?_ <;> first | exact DCl.b rfl | exact DCl.map (fun _ => rfl) | assumption | rfl | exact TPoint.und | exact TSegment.und | exact TBox.und | exact TFeature.und | exact TMeet.und | exact TPlace.und | exact TCover.und | exact TLabel.und | exact TPiece.und | exact TLevel.und | exact TChart.und | exact TReason.und | exact TEdit.und | exact TEntry.und | exact TEdition.und | exact TListing.und | exact TAtlas.und | exact TEvent.und | exact TWindow.und | exact und_nil | exact und_I | assumption) | refine View.agg' ?_ | exact View.same (by first | exact clo_of (by rfl) | assumption | exact clo_fn _) | exact View.nil))
theorem wmaxc (a b : Int) : wmax a b = wmax b a := by unfold wmax; split <;> split <;> omega
theorem wminc (a b : Int) : wmin a b = wmin b a := by unfold wmin; split <;> split <;> omega
theorem ovB_comm (a b : TBox) : ovB a b = ovB b a := by
  unfold ovB
  rw [wmaxc a.low.x, wmaxc a.low.y, wminc a.high.x, wminc a.high.y, Bool.and_comm (isBoxB a)]
def aptR (x y : TLabel) : Prop := ovB x.box y.box = false
theorem aptR_symm {x y : TLabel} (h : aptR x y) : aptR y x := by unfold aptR at *; rw [ovB_comm]; exact h
theorem frC_free {p : TPoint} {s : ByteArray} {tk : List TBox} (h : decide (frC p s tk < 0) = false) : freeB (labB p s (frC p s tk)) tk = true := by
  unfold frC at h ⊢
  cases hf : (cors p s).find? (frK p s tk) with
  | none => rw [hf] at h; cases h
  | some k => exact List.find?_some (p := frK p s tk) hf
theorem pn_fold_apt (l : List TFeature) : ∀ (s : List TPlace) (out : List TLabel), out.Pairwise aptR → (s.foldl (pnS l) out).Pairwise aptR
  | [], out, h => h
  | x :: s, out, h => by
    rw [List.foldl_cons]
    refine pn_fold_apt l s _ ?_
    unfold pnS
    split
    · exact h
    · rename_i hc
      refine List.pairwise_append.2 ⟨h, List.pairwise_singleton _ _, fun a ha b hb => ?_⟩
      obtain rfl := List.mem_singleton.1 hb
      have h1 := frC_free (p := x.at_) (s := nmOf l x.id) (tk := out.map (·.box)) (by simpa [pnC] using hc)
      unfold freeB at h1
      rw [List.all_eq_true] at h1
      have h2 := h1 a.box (List.mem_map.2 ⟨a, ha, rfl⟩)
      unfold noOv at h2
      refine aptR_symm ?_
      unfold aptR pnL
      simpa using h2
theorem plN_apt (l : List TFeature) : (plN l).Pairwise aptR := by
  have h := pn_fold_apt l (srtA (ancs l)) [] List.Pairwise.nil
  exact ((srtL_perm (pnA l)).pairwise_iff fun h => aptR_symm h).2 h
theorem pn_fold_nm {l : List TFeature} : ∀ (s : List TPlace) (out : List TLabel), (∀ y ∈ out, ∃ x ∈ srtA (ancs l), y.id = x.id ∧ y.name = nmOf l x.id) → (∀ x ∈ s, x ∈ srtA (ancs l)) → ∀ y ∈ s.foldl (pnS l) out, ∃ x ∈ srtA (ancs l), y.id = x.id ∧ y.name = nmOf l x.id
  | [], out, h, _ => h
  | x :: s, out, h, hs => by
    rw [List.foldl_cons]
    refine pn_fold_nm s _ (fun y hy => ?_) fun z hz => hs z (List.mem_cons_of_mem _ hz)
    unfold pnS at hy
    split at hy
    · exact h y hy
    · rcases List.mem_append.1 hy with hy | hy
      · exact h y hy
      · obtain rfl := List.mem_singleton.1 hy
        exact ⟨x, hs x List.mem_cons_self, rfl, rfl⟩
structure ChOk (c : TChart) : Prop where
  src : isSource c.features = true
  gd : ∀ x ∈ c.features, x.gd
  len : c.labels.length ≤ 1048576
  apt : c.labels.Pairwise aptR
  nm : ∀ y ∈ c.labels, ∃ (j : Nat) (f : TFeature), c.features[j]? = some f ∧ fnd c.features y.id = (j : Int) ∧ f.name = y.name
theorem plN_len {l : List TFeature} (hS : isSource l = true) (hg : ∀ x ∈ l, x.gd) : (plN l).length ≤ 16 := by
  unfold plN
  rw [srtL_len]
  exact pnA_len hS hg
theorem plN_nm {l : List TFeature} (hS : isSource l = true) (hg : ∀ x ∈ l, x.gd) : ∀ y ∈ plN l, ∃ (j : Nat) (f : TFeature), l[j]? = some f ∧ fnd l y.id = (j : Int) ∧ f.name = y.name := fun y hy => by
  have h1 := pn_fold_nm (l := l) (srtA (ancs l)) [] (fun y hy => by simp at hy) (fun x hx => hx) y ((srtL_perm (pnA l)).mem_iff.1 hy)
  obtain ⟨x, hx, h2, h3⟩ := h1
  obtain ⟨j, f, hj, hfd, hnm, _, _⟩ := anc_feat hS hg hx
  exact ⟨j, f, hj, by rw [h2]; exact hfd, by rw [h3, hnm]⟩
theorem chart_ok {l : List TFeature} {v : TLevel} (hS : isSource l = true) (hg : ∀ x ∈ l, x.gd) : ChOk (chart l v) :=
  ⟨chF_src hS v, chF_gd hg v, by have := plN_len (chF_src hS v) (chF_gd hg v); show (plN (chF l v)).length ≤ _; omega, plN_apt _, plN_nm (chF_src hS v) (chF_gd hg v)⟩
def chart0 : TChart := ⟨[], []⟩
theorem chart0_ok : ChOk chart0 := ⟨rfl, fun x hx => by simp [chart0] at hx, by decide, List.Pairwise.nil, fun y hy => by simp [chart0] at hy⟩
theorem apt_at {L : List TLabel} (h : L.Pairwise aptR) {i k : Nat} {x y : TLabel} (hx : L[i]? = some x) (hy : L[k]? = some y) (hik : i ≠ k) : ovB x.box y.box = false := by
  have hil := List.getElem?_eq_some_iff.1 hx
  have hkl := List.getElem?_eq_some_iff.1 hy
  obtain ⟨hi, rfl⟩ := hil
  obtain ⟨hk, rfl⟩ := hkl
  rcases Nat.lt_or_ge i k with h1 | h1
  · exact List.pairwise_iff_getElem.1 h i k hi hk h1
  · have := List.pairwise_iff_getElem.1 h k i hk hi (by omega)
    exact aptR_symm this

end Go.Proofs.YtpffahmmklpifaaGreat.Abs

/- The walks of AreApart, IsChart, ChartAt and AreNamesApart. -/
namespace Go.Proofs.YtpffahmmklpifaaGreat.Abs
open Go.Proofs Go.RowKit
set_option linter.unusedVariables false
set_option linter.unusedSimpArgs false
set_option maxRecDepth 100000
set_option maxHeartbeats 2000000
attribute [local irreducible] OpA AL AW DL DLM DLR DLS QOp POp VCalls VCallsI
attribute [local irreducible] chF plN fnd ovB
theorem apart_s (L : List TLabel) (hl : L.length ≤ 1048576) (hap : L.Pairwise aptR) : VCalls Tryz.prog 147 [.ro 6 (L.map TLabel.en)] (fun r M => r = B true ∧ M = []) := by
  refine VB Tryz.func147 26 (fun E hE => ?_)
  have a1 := True.intro
  have hclo : Clo (.ro 6 (L.map TLabel.en)) := clo_list TLabel.clo_en
  repeat' ((first
    | (refine iAL ?_; first | refine AL.any ?_ | refine AL.any (h := POp.k Tryz.func218 (hc := ov_s x.box y.box)) ?_ | refine AL.nil ?_)
    | ((with_reducible show DL ..); first | refine DL.any ?_ | refine DL.nil ?_)
    | (refine iAW ?_; first | (refine AW.c0 ?_; constructor) | refine AW.dr (id := 7) 10 ?_ | refine AW.cT ?_ | refine AW.cF ?_)
    | (
  have _ := a1
  clear a1
  refine AW.loopD hE (fun s_ : Nat => [.ro 6 (L.map TLabel.en), .any, .any, I (s_ : Int), .any, .any, .any, .any, .any, .any, .any, .any, .any, .any, .any, .any, .any, .any, .any, .any, .any, .any, .any, .any, .any, .any, .any]) (fun s_ => []) (fun s_ => L.length - s_) (fun s_ => s_ ≤ L.length) 0 (Nat.zero_le _) ?_ (by first | rfl | (rfl)) ?_
  (focus (exact wkI))
  rintro i hJ
  try dsimp only at hJ
  try dsimp only
  by_cases hlt : i < L.length
  case' pos =>
    have a2 := True.intro
    obtain ⟨x, hx⟩ := getD_some (l := L) (i := i) hlt
    have hg := map_get (f := TLabel.en) hx
    have ht := lt_true (f := TLabel.en) hlt
    have hn := next_ix hlt (by omega)
    have hil := hlt
  case' neg =>
    have q1 := True.intro
    have ht := lt_false (f := TLabel.en) hlt)
    | (
  have _ := a2
  clear a2
  refine AW.loopD hE (fun s_ : Nat => [.ro 6 (L.map TLabel.en), .any, .any, I (i : Int), I (s_ : Int), .any, .any, .any, .any, .any, .any, .any, .any, .any, .any, .any, .any, .any, .any, .any, .any, .any, .any, .any, .any, .any, .any]) (fun s_ => []) (fun s_ => i - s_) (fun s_ => s_ ≤ i) 0 (Nat.zero_le _) ?_ (by first | rfl | (rfl)) ?_
  (focus (exact wkI))
  rintro k hJ2
  try dsimp only at hJ2
  try dsimp only
  by_cases hlt : k < i
  case' pos =>
    have p2 := True.intro
    obtain ⟨y, hy⟩ := getD_some (l := L) (i := k) (by omega)
    have hgy := map_get (f := TLabel.en) hy
    have hty : decide ((k : Int) < (i : Int)) = true := decide_eq_true (by omega)
    have hny : IntKind.i64.wrap ((k : Int) + 1) = ((k + 1 : Nat) : Int) := by rw [w64 (by omega) (by omega)]; rfl
    have hov : ovB x.box y.box = false := apt_at hap hx hy (by omega)
  case' neg =>
    have q2 := True.intro
    have hty : decide ((k : Int) < (i : Int)) = false := decide_eq_false (by omega))) <;> (try dsimp only))
  all_goals first
    | (have _ := p2; refine ⟨k + 1, _, hlt, by omega, ?_, rfl, ?_, ?_⟩; (focus (exact wkH)); (focus (exact fitsA)); (focus (exact FitsM.nil _)))
    | (have _ := q2; refine ⟨i + 1, _, hil, by omega, ?_, rfl, ?_, ?_⟩; (focus (exact wkH)); (focus (exact fitsA)); (focus (exact FitsM.nil _)))
    | (have _ := q1; exact Fin.one rfl (RV.tmp (by rfl)) (clo_c _) ⟨by rfl, rfl⟩)

theorem apart_i (L : List TLabel) (hl : L.length ≤ 1048576) (hap : L.Pairwise aptR) : VCalls Tryz.prog 148 [.ro 6 (L.map TLabel.en)] (fun r M => r = B true ∧ M = []) := by
  refine VB Tryz.func148 29 (fun E hE => ?_)
  have a1 := True.intro
  have hclo : Clo (.ro 6 (L.map TLabel.en)) := clo_list TLabel.clo_en
  repeat' ((first
    | (refine iAL ?_; first | refine AL.any ?_ | refine AL.any (h := POp.k Tryz.func219 (hc := ov_i x.box y.box)) ?_ | refine AL.nil ?_)
    | (refine iAW ?_; first | (refine AW.c0 ?_; constructor) | refine AW.cT ?_ | refine AW.cF ?_)
    | (refine AL.any (h := POp.quiet (QOp.cut_l (by rfl) slk63 (by rfl) (by rfl) (by assumption) (by assumption) (by assumption))) ?_)
    | (
  have _ := a1
  clear a1
  refine AW.loopD hE (fun s_ : Nat => [.ro 6 (L.map TLabel.en), .any, .any, .any, .any, .any, .any, .ro 6 (L.map TLabel.en), I ((L.map TLabel.en).length : Int), I (s_ : Int), .any, .any, .any, .any, .any, .any, .any, .any, .any, .any, .any, .any, .any, .any, .any, .any, .any, .any, .any, .any]) (fun s_ => []) (fun s_ => L.length - s_) (fun s_ => s_ ≤ L.length) 0 (Nat.zero_le _) ?_ (by first | rfl | (rfl)) ?_
  (focus (exact wkI))
  rintro i hJ
  try dsimp only at hJ
  try dsimp only
  by_cases hlt : i < L.length
  case' pos =>
    have a2 := True.intro
    obtain ⟨x, hx⟩ := getD_some (l := L) (i := i) hlt
    have hg := map_get (f := TLabel.en) hx
    have ht := lt_true (f := TLabel.en) hlt
    have hn := next_ix hlt (by omega)
    have hil := hlt
    have hcle : Clo (.agg x.en) := Clo.agg x.clo_en
    have hclD : Clo (.ro 6 ((L.drop (i + 1)).map TLabel.en)) := clo_list TLabel.clo_en
    have hK1 : IntKind.i64.wrap ((i : Int) + 1) ≤ ((L.map TLabel.en).length : Int) := by rw [hn, List.length_map]; omega
    have hK0 : 0 ≤ IntKind.i64.wrap ((i : Int) + 1) := by rw [hn]; omega
    have hd0 : (L.map TLabel.en).drop (IntKind.i64.wrap ((i : Int) + 1)).toNat = (L.drop (i + 1)).map TLabel.en := by rw [hn, Int.toNat_natCast, List.map_drop]
  case' neg =>
    have q1 := True.intro
    have ht := lt_false (f := TLabel.en) hlt)
    | (
  have _ := a2
  clear a2
  refine AW.loopD hE (fun s_ : Nat => [.ro 6 (L.map TLabel.en), .any, .any, .any, .ref 0 0 6 0 0, .any, .any, .ro 6 (L.map TLabel.en), I ((L.map TLabel.en).length : Int), I (i : Int), .any, .any, .any, .any, .any, .any, .any, .ro 6 ((L.drop (i + 1)).map TLabel.en), I (((L.drop (i + 1)).map TLabel.en).length : Int), I (s_ : Int), .any, .any, .any, .any, .any, .any, .any, .any, .any, .any]) (fun s_ => [some ⟨174, 6, 0, true, [x.en]⟩]) (fun s_ => L.length - (i + 1 + s_)) (fun s_ => i + 1 + s_ ≤ L.length) 0 (by omega) ?_ (by first | rfl | (rfl)) ?_
  (focus (exact wkI))
  rintro k hJ2
  try dsimp only at hJ2
  try dsimp only
  by_cases hlt : i + 1 + k < L.length
  case' pos =>
    have p2 := True.intro
    obtain ⟨y, hy⟩ := getD_some (l := L) (i := i + 1 + k) hlt
    have hgy : ((L.drop (i + 1)).map TLabel.en)[((k : Int)).toNat]? = some y.en := by rw [Int.toNat_natCast, List.getElem?_map, List.getElem?_drop, hy]; rfl
    have hty : decide ((k : Int) < (((L.drop (i + 1)).map TLabel.en).length : Int)) = true := by rw [List.length_map, List.length_drop]; simp; omega
    have hny : IntKind.i64.wrap ((k : Int) + 1) = ((k + 1 : Nat) : Int) := by rw [w64 (by omega) (by omega)]; rfl
    have hcly : Clo (.agg y.en) := Clo.agg y.clo_en
    have hov : ovB x.box y.box = false := apt_at hap hx hy (by omega)
  case' neg =>
    have q2 := True.intro
    have hty : decide ((k : Int) < (((L.drop (i + 1)).map TLabel.en).length : Int)) = false := by rw [List.length_map, List.length_drop]; simp; omega)) <;> (try dsimp only))
  all_goals first
    | (have _ := p2; refine ⟨k + 1, _, (by omega), by omega, ?_, rfl, ?_, ?_⟩; (focus (exact wkH)); (focus (exact fitsA)); (focus (exact fitsM_cons (clo_one x.clo_en) (FitsM.nil _))))
    | (have _ := q2; refine ⟨i + 1, _, hil, by omega, ?_, rfl, ?_, ?_⟩; (focus (exact wkH)); (focus (exact fitsA)); (focus (exact FitsM.nil _)))
    | (have _ := q1; exact Fin.one rfl (RV.tmp (by rfl)) (clo_c _) ⟨by rfl, rfl⟩)

theorem isCht_s (c : TChart) (hok : ChOk c) : VCalls Tryz.prog 84 [.agg c.en] (fun r M => r = B true ∧ M = []) := by
  refine VB Tryz.func84 45 (fun E hE => ?_)
  have hclo : Clo (.ro 6 (c.labels.map TLabel.en)) := clo_list TLabel.clo_en
  have hclF : Clo (.ro 5 (c.features.map TFeature.en)) := clo_list TFeature.clo_en
  have hcC : Clo (.agg c.en) := Clo.agg c.clo_en
  have hS := hok.src
  have hg0 := hok.gd
  have hll := hok.len
  have hap := hok.apt
  have hsl := src_len hS
  have hl1 : c.features.length ≤ 1048576 := by omega
  dsimp only [TChart.en]
  repeat' ((first
    | (refine iAL ?_; first | refine AL.any ?_ | refine AL.any (h := POp.k Tryz.func78 (hc := isSrcT_s c.features hl1 hg0 hS)) ?_ | refine AL.any (h := POp.k Tryz.func146 (hc := find_s c.features x.id hl1)) ?_ | refine AL.T ?_ | refine AL.T (h := POp.k Tryz.func147 (hc := apart_s c.labels hll hap)) ?_ | refine AL.nil ?_)
    | ((with_reducible show DL ..); first | refine DL.any ?_ | refine DL.T ?_ | refine DL.nil ?_)
    | (refine iAW ?_; first | (refine AW.c0 ?_; constructor) | refine AW.dr (id := 4) 8 ?_ | refine AW.dr (id := 5) 15 ?_ | refine AW.cT ?_ | refine AW.cF ?_)
    | (
  refine AW.loopD hE (fun i : Nat => [.any, .ref 0 0 2 0 0, .any, I (i : Int), .any, .any, .any, .any, .any, .any, .any, .any, .any, .any, .any, .any, .any, .any, .any, .any, .any, .any, .any, .any, .any, .any, .any, .any, .any, .any, .any, .any, .any, .any, .any, .any, .any, .any, .any, .any, .any, .any, .any, .any, .any, .any]) (fun i => [some ⟨65, 2, 0, true, [c.en]⟩]) (fun i => c.labels.length - i) (fun i => i ≤ c.labels.length) 0 (by simp) ?_ (by first | rfl | (simp [fil_zero]; done)) ?_
  (focus (exact wkI))
  intro i hi
  by_cases hlt : i < c.labels.length
  case' pos =>
    have hP := True.intro
    obtain ⟨x, hx⟩ : ∃ x, c.labels[i]? = some x := ⟨_, List.getElem?_eq_getElem hlt⟩
    have hg := map_get (f := TLabel.en) hx
    have ht := lt_true (f := TLabel.en) hlt
    have hn := next_ix hlt (by omega)
    have hcle : Clo (.agg x.en) := Clo.agg x.clo_en
    obtain ⟨j, f, hj, hfd, hnm⟩ := hok.nm x (List.mem_of_getElem? hx)
    have hgj : (c.features.map TFeature.en)[(fnd c.features x.id).toNat]? = some f.en := by rw [hfd, Int.toNat_natCast, List.getElem?_map, hj]; rfl
    have h0j : 0 ≤ fnd c.features x.id := by omega
    have hlt0 : decide (fnd c.features x.id < 0) = false := by simp; omega
    have hneq : (!(f.name.toList == x.name.toList)) = false := by rw [hnm]; simp
  case' neg =>
    have hQ := True.intro
    have ht := lt_false (f := TLabel.en) hlt
    have e : i = c.labels.length := by omega
    subst e
    try rw [List.take_length])) <;> (try dsimp only))
  all_goals first
    | (have _ := hP; (refine ⟨i + 1, _, hlt, by omega, ?_, rfl, ?_, ?_⟩; (focus (exact wkH)); (focus (exact fitsA)); (focus (exact fitsM_cons (clo_one c.clo_en) (FitsM.nil _)))))
    | (have _ := hQ; exact Fin.one rfl (RV.tmp (by rfl)) (clo_c _) ⟨by rfl, rfl⟩)

theorem isCht_i (c : TChart) (hok : ChOk c) : VCalls Tryz.prog 85 [.agg c.en] (fun r M => r = B true ∧ M = []) := by
  refine VB Tryz.func85 41 (fun E hE => ?_)
  have hclo : Clo (.ro 6 (c.labels.map TLabel.en)) := clo_list TLabel.clo_en
  have hclF : Clo (.ro 5 (c.features.map TFeature.en)) := clo_list TFeature.clo_en
  have hcC : Clo (.agg c.en) := Clo.agg c.clo_en
  have hS := hok.src
  have hg0 := hok.gd
  have hll := hok.len
  have hap := hok.apt
  have hsl := src_len hS
  have hl1 : c.features.length ≤ 1048576 := by omega
  dsimp only [TChart.en]
  repeat' ((first
    | (refine iAL ?_; first | refine AL.any ?_ | refine AL.any (h := POp.k Tryz.func80 (hc := isSrcT_i c.features hl1 hg0 hS)) ?_ | refine AL.any (h := POp.k Tryz.func149 (hc := find_i c.features x.id hl1)) ?_ | refine AL.T ?_ | refine AL.T (h := POp.k Tryz.func148 (hc := apart_i c.labels hll hap)) ?_ | refine AL.nil ?_)
    | ((with_reducible show DL ..); first | refine DL.any ?_ | refine DL.T ?_ | refine DL.nil ?_)
    | (refine iAW ?_; first | (refine AW.c0 ?_; constructor) | refine AW.dr (id := 7) 11 ?_ | refine AW.cT ?_ | refine AW.cF ?_)
    | (
  refine AW.loopD hE (fun i : Nat => [.any, .ref 0 0 2 0 0, .any, .any, .any, .any, .any, .any, .any, .any, .any, .any, .any, .any, .any, .any, .any, .ro 6 (c.labels.map TLabel.en), I ((c.labels.map TLabel.en).length : Int), I (i : Int), .any, .any, .any, .any, .any, .any, .any, .any, .any, .any, .any, .any, .any, .any, .any, .any, .any, .any, .any, .any, .any, .any]) (fun i => [some ⟨65, 2, 0, true, [c.en]⟩]) (fun i => c.labels.length - i) (fun i => i ≤ c.labels.length) 0 (by simp) ?_ (by first | rfl | (simp [fil_zero]; done)) ?_
  (focus (exact wkI))
  intro i hi
  by_cases hlt : i < c.labels.length
  case' pos =>
    have hP := True.intro
    obtain ⟨x, hx⟩ : ∃ x, c.labels[i]? = some x := ⟨_, List.getElem?_eq_getElem hlt⟩
    have hg := map_get (f := TLabel.en) hx
    have ht := lt_true (f := TLabel.en) hlt
    have hn := next_ix hlt (by omega)
    have hcle : Clo (.agg x.en) := Clo.agg x.clo_en
    obtain ⟨j, f, hj, hfd, hnm⟩ := hok.nm x (List.mem_of_getElem? hx)
    have hgj : (c.features.map TFeature.en)[(fnd c.features x.id).toNat]? = some f.en := by rw [hfd, Int.toNat_natCast, List.getElem?_map, hj]; rfl
    have h0j : 0 ≤ fnd c.features x.id := by omega
    have hlt0 : decide (fnd c.features x.id < 0) = false := by simp; omega
    have hneq : (!(f.name.toList == x.name.toList)) = false := by rw [hnm]; simp
  case' neg =>
    have hQ := True.intro
    have ht := lt_false (f := TLabel.en) hlt
    have e : i = c.labels.length := by omega
    subst e
    try rw [List.take_length])) <;> (try dsimp only))
  all_goals first
    | (have _ := hP; (refine ⟨i + 1, _, hlt, by omega, ?_, rfl, ?_, ?_⟩; (focus (exact wkH)); (focus (exact fitsA)); (focus (exact fitsM_cons (clo_one c.clo_en) (FitsM.nil _)))))
    | (have _ := hQ; exact Fin.one rfl (RV.tmp (by rfl)) (clo_c _) ⟨by rfl, rfl⟩)

end Go.Proofs.YtpffahmmklpifaaGreat.Abs

/- The walks of ChartAt and AreNamesApart. -/
namespace Go.Proofs.YtpffahmmklpifaaGreat.Abs
open Go.Proofs Go.RowKit
set_option linter.unusedVariables false
set_option linter.unusedSimpArgs false
set_option maxRecDepth 100000
set_option maxHeartbeats 2000000
attribute [local irreducible] OpA AL AW DL DLM DLR DLS QOp POp VCalls VCallsI
attribute [local irreducible] chF plN srcOf
theorem in_lv {i n : Nat} (h : i < n) (hn : n ≤ 1048576) : inr (i : Int) 0 (IntKind.i64.wrap ((n : Int) - 1)) = true := by
  rw [w64 (by omega) (by omega)]
  simp [inr]
  omega
theorem chAt_s_t (a : TAtlas) (hgd : a.gd) (i : Nat) (v : TLevel) (hx : a.levels[i]? = some v) (hK : chtOk (srcOf a.log) v = true) : VCalls Tryz.prog 41 [.agg a.en, I (i : Int)] (fun r M => r = .tup [.agg (chart (srcOf a.log) v).en, B true] ∧ M = []) := by
  refine VB Tryz.func41 23 (fun E hE => ?_)
  have hclG : Clo (.ro 8 (a.log.map TEntry.en)) := clo_list TEntry.clo_en
  have hclV : Clo (.ro 3 (a.levels.map TLevel.en)) := clo_list TLevel.clo_en
  have hclE : Clo (.ro 3 (a.editions.map TEdition.en)) := clo_list TEdition.clo_en
  have hcla : Clo (.agg a.en) := Clo.agg a.clo_en
  have hLl := srcOf_len hgd.1.1
  have hLg : ∀ x ∈ (srcOf a.log), x.gd := srcOf_mem hgd.1.2
  have hclS : Clo (.ro 5 ((srcOf a.log).map TFeature.en)) := clo_list TFeature.clo_en
  have hvl : a.levels.length ≤ 1048576 := hgd.2.1
  have hclv : Clo (.agg v.en) := Clo.agg v.clo_en
  have hct := cht_clo (srcOf a.log) v true
  have hcc : Clo (.agg (chart (srcOf a.log) v).en) := Clo.agg (TChart.clo_en _)
  have hlt := (List.getElem?_eq_some_iff.1 hx).1
  have hg := map_get (f := TLevel.en) hx
  have hin : inr (i : Int) 0 (IntKind.i64.wrap (((a.levels.map TLevel.en).length : Int) - 1)) = true := by rw [List.length_map]; exact in_lv hlt hvl
  have hi0 : decide ((i : Int) < 0) = false := decide_eq_false (by omega)
  have hi1 : decide ((i : Int) ≥ ((a.levels.map TLevel.en).length : Int)) = false := by rw [List.length_map]; simp; omega
  dsimp only [TAtlas.en]
  repeat' ((first
    | (refine iAL ?_; first | refine AL.any ?_ | refine AL.any (h := POp.k Tryz.func96 (hc := inr_s _ _ _)) ?_ | refine AL.nil ?_)
    | ((with_reducible show DL ..); first | refine DL.any ?_ | refine DL.any (h := POp.k Tryz.func52 (hc := src_s' a.log hgd.1.1 hgd.1.2)) ?_ | refine DL.any (h := POp.k Tryz.func71 (hc := chart_s (srcOf a.log) v (chtOk_t hK).1 hLg (chtOk_t hK).2)) ?_ | refine DL.nil ?_)
    | (refine iAW ?_; first | (refine AW.c0 ?_; constructor) | refine AW.dr (id := 3) 11 ?_ | refine AW.cF ?_)) <;> (try dsimp only))
  all_goals exact Fin.two rfl (RV.cell (QOp.quietA TT_ok (by rfl))) (RV.tmp (by rfl)) (Clo.tup (clo_cons (Clo.agg (TChart.clo_en _)) (clo_cons (clo_c _) clo_nil))) ⟨rfl, rfl⟩

theorem chAt_s_f (a : TAtlas) (hgd : a.gd) (i : Nat) (v : TLevel) (hx : a.levels[i]? = some v) (hK : chtOk (srcOf a.log) v = false) : VCalls Tryz.prog 41 [.agg a.en, I (i : Int)] (fun r M => r = .tup [.agg [.c (.slice none 0 0), .c (.slice none 0 0)], B false] ∧ M = []) := by
  refine VB Tryz.func41 23 (fun E hE => ?_)
  have hclG : Clo (.ro 8 (a.log.map TEntry.en)) := clo_list TEntry.clo_en
  have hclV : Clo (.ro 3 (a.levels.map TLevel.en)) := clo_list TLevel.clo_en
  have hclE : Clo (.ro 3 (a.editions.map TEdition.en)) := clo_list TEdition.clo_en
  have hcla : Clo (.agg a.en) := Clo.agg a.clo_en
  have hLl := srcOf_len hgd.1.1
  have hLg : ∀ x ∈ (srcOf a.log), x.gd := srcOf_mem hgd.1.2
  have hclS : Clo (.ro 5 ((srcOf a.log).map TFeature.en)) := clo_list TFeature.clo_en
  have hvl : a.levels.length ≤ 1048576 := hgd.2.1
  have hclv : Clo (.agg v.en) := Clo.agg v.clo_en
  have hct := cht_clo (srcOf a.log) v true
  have hcc : Clo (.agg (chart (srcOf a.log) v).en) := Clo.agg (TChart.clo_en _)
  have hlt := (List.getElem?_eq_some_iff.1 hx).1
  have hg := map_get (f := TLevel.en) hx
  have hin : inr (i : Int) 0 (IntKind.i64.wrap (((a.levels.map TLevel.en).length : Int) - 1)) = true := by rw [List.length_map]; exact in_lv hlt hvl
  have hi0 : decide ((i : Int) < 0) = false := decide_eq_false (by omega)
  have hi1 : decide ((i : Int) ≥ ((a.levels.map TLevel.en).length : Int)) = false := by rw [List.length_map]; simp; omega
  dsimp only [TAtlas.en]
  repeat' ((first
    | (refine iAL ?_; first | refine AL.any ?_ | refine AL.any (h := POp.k Tryz.func96 (hc := inr_s _ _ _)) ?_ | refine AL.nil ?_)
    | ((with_reducible show DL ..); first | refine DL.any ?_ | refine DL.any (h := POp.k Tryz.func52 (hc := src_s' a.log hgd.1.1 hgd.1.2)) ?_ | refine DL.any (h := POp.k Tryz.func71 (hc := chart0_s (srcOf a.log) v hLl hLg hK)) ?_ | refine DL.nil ?_)
    | (refine iAW ?_; first | (refine AW.c0 ?_; constructor) | refine AW.dr (id := 3) 11 ?_ | refine AW.cF ?_)) <;> (try dsimp only))
  all_goals exact Fin.two rfl (RV.cell (QOp.quietA TT_ok (by rfl))) (RV.tmp (by rfl)) (clo_of (by rfl)) ⟨rfl, rfl⟩

theorem nmA_s (a : TAtlas) (hgd : a.gd) : VCalls Tryz.prog 35 [.agg a.en] (fun r M => r = B true ∧ M = []) := by
  refine VB Tryz.func35 21 (fun E hE => ?_)
  have hclG : Clo (.ro 8 (a.log.map TEntry.en)) := clo_list TEntry.clo_en
  have hclV : Clo (.ro 3 (a.levels.map TLevel.en)) := clo_list TLevel.clo_en
  have hclE : Clo (.ro 3 (a.editions.map TEdition.en)) := clo_list TEdition.clo_en
  have hcla : Clo (.agg a.en) := Clo.agg a.clo_en
  have hLl := srcOf_len hgd.1.1
  have hLg : ∀ x ∈ (srcOf a.log), x.gd := srcOf_mem hgd.1.2
  have hclS : Clo (.ro 5 ((srcOf a.log).map TFeature.en)) := clo_list TFeature.clo_en
  have hvl : a.levels.length ≤ 1048576 := hgd.2.1
  dsimp only [TAtlas.en]
  repeat' ((first
    | (refine iAL ?_; first | refine AL.any ?_ | refine AL.any (h := POp.k Tryz.func41 (hc := by first | exact chAt_s_t a hgd i v hx hK | exact chAt_s_f a hgd i v hx hK)) ?_ | refine AL.any (h := POp.k Tryz.func84 (hc := isCht_s (chart (srcOf a.log) v) hco)) ?_ | refine AL.any (h := POp.D Tryz.func84 (hc := isCht_s chart0 chart0_ok)) ?_ | refine AL.nil ?_)
    | (refine iAW ?_; first | (refine AW.c0 ?_; constructor) | refine AW.cT ?_ | refine AW.cF ?_)
    | (
  refine AW.loopD hE (fun i : Nat => [.any, .ref 0 0 7 0 0, .any, I (i : Int), .any, .any, .any, .any, .any, .any, .any, .any, .any, .any, .any, .any, .any, .any, .any, .any, .any, .any]) (fun i => [some ⟨36, 7, 0, true, [a.en]⟩]) (fun i => a.levels.length - i) (fun i => i ≤ a.levels.length) 0 (by simp) ?_ (by first | rfl | (simp [fil_zero]; done)) ?_
  (focus (exact wkI))
  intro i hi
  by_cases hlt : i < a.levels.length
  case' pos =>
    have hP := True.intro
    obtain ⟨v, hx⟩ : ∃ x, a.levels[i]? = some x := ⟨_, List.getElem?_eq_getElem hlt⟩
    have hg := map_get (f := TLevel.en) hx
    have ht := lt_true (f := TLevel.en) hlt
    have hn := next_ix hlt (by omega)
    have hclv : Clo (.agg v.en) := Clo.agg v.clo_en
    have hct := cht_clo (srcOf a.log) v true
    have hcc : Clo (.agg (chart (srcOf a.log) v).en) := Clo.agg (TChart.clo_en _)
    rcases Bool.eq_false_or_eq_true (chtOk (srcOf a.log) v) with hK | hK
    case' inl => have hco := chart_ok (v := v) (chtOk_t hK).1 hLg
  case' neg =>
    have hQ := True.intro
    have ht := lt_false (f := TLevel.en) hlt
    have e : i = a.levels.length := by omega
    subst e
    try rw [List.take_length])) <;> (try dsimp only))
  all_goals first
    | (have _ := hP; (refine ⟨i + 1, _, hlt, by omega, ?_, rfl, ?_, ?_⟩; (focus (exact wkH)); (focus (exact fitsA)); (focus (exact fitsM_cons (clo_one a.clo_en) (FitsM.nil _)))))
    | (have _ := hQ; exact Fin.one rfl (RV.tmp (by rfl)) (clo_c _) ⟨by rfl, rfl⟩)

theorem chAt_i_t (a : TAtlas) (hgd : a.gd) (i : Nat) (v : TLevel) (hx : a.levels[i]? = some v) (hK : chtOk (srcOf a.log) v = true) : VCalls Tryz.prog 42 [.agg a.en, I (i : Int)] (fun r M => r = .tup [.agg (chart (srcOf a.log) v).en, B true] ∧ M = []) := by
  refine VB Tryz.func42 25 (fun E hE => ?_)
  have hclG : Clo (.ro 8 (a.log.map TEntry.en)) := clo_list TEntry.clo_en
  have hclV : Clo (.ro 3 (a.levels.map TLevel.en)) := clo_list TLevel.clo_en
  have hclE : Clo (.ro 3 (a.editions.map TEdition.en)) := clo_list TEdition.clo_en
  have hcla : Clo (.agg a.en) := Clo.agg a.clo_en
  have hLl := srcOf_len hgd.1.1
  have hLg : ∀ x ∈ (srcOf a.log), x.gd := srcOf_mem hgd.1.2
  have hclS : Clo (.ro 5 ((srcOf a.log).map TFeature.en)) := clo_list TFeature.clo_en
  have hvl : a.levels.length ≤ 1048576 := hgd.2.1
  have hclv : Clo (.agg v.en) := Clo.agg v.clo_en
  have hct := cht_clo (srcOf a.log) v true
  have hcc : Clo (.agg (chart (srcOf a.log) v).en) := Clo.agg (TChart.clo_en _)
  have hlt := (List.getElem?_eq_some_iff.1 hx).1
  have hg := map_get (f := TLevel.en) hx
  have hin : inr (i : Int) 0 (IntKind.i64.wrap (((a.levels.map TLevel.en).length : Int) - 1)) = true := by rw [List.length_map]; exact in_lv hlt hvl
  have hi0 : decide ((i : Int) < 0) = false := decide_eq_false (by omega)
  have hi1 : decide ((i : Int) ≥ ((a.levels.map TLevel.en).length : Int)) = false := by rw [List.length_map]; simp; omega
  dsimp only [TAtlas.en]
  repeat' ((first
    | (refine iAL ?_; first | refine AL.any ?_ | refine AL.T ?_ | refine AL.nil ?_)
    | ((with_reducible show DL ..); first | refine DL.any ?_ | refine DL.any (h := POp.k Tryz.func60 (hc := src_i' a.log hgd.1.1 hgd.1.2)) ?_ | refine DL.any (h := POp.k Tryz.func74 (hc := chart_i (srcOf a.log) v (chtOk_t hK).1 hLg (chtOk_t hK).2)) ?_ | refine DL.nil ?_)
    | (refine iAW ?_; first | (refine AW.c0 ?_; constructor) | refine AW.dr (id := 3) 11 ?_ | refine AW.cF ?_)) <;> (try dsimp only))
  all_goals exact Fin.two rfl (RV.cell (QOp.quietA TT_ok (by rfl))) (RV.tmp (by rfl)) (Clo.tup (clo_cons (Clo.agg (TChart.clo_en _)) (clo_cons (clo_c _) clo_nil))) ⟨rfl, rfl⟩

theorem chAt_i_f (a : TAtlas) (hgd : a.gd) (i : Nat) (v : TLevel) (hx : a.levels[i]? = some v) (hK : chtOk (srcOf a.log) v = false) : VCalls Tryz.prog 42 [.agg a.en, I (i : Int)] (fun r M => r = .tup [.agg [.c (.slice none 0 0), .c (.slice none 0 0)], B false] ∧ M = []) := by
  refine VB Tryz.func42 25 (fun E hE => ?_)
  have hclG : Clo (.ro 8 (a.log.map TEntry.en)) := clo_list TEntry.clo_en
  have hclV : Clo (.ro 3 (a.levels.map TLevel.en)) := clo_list TLevel.clo_en
  have hclE : Clo (.ro 3 (a.editions.map TEdition.en)) := clo_list TEdition.clo_en
  have hcla : Clo (.agg a.en) := Clo.agg a.clo_en
  have hLl := srcOf_len hgd.1.1
  have hLg : ∀ x ∈ (srcOf a.log), x.gd := srcOf_mem hgd.1.2
  have hclS : Clo (.ro 5 ((srcOf a.log).map TFeature.en)) := clo_list TFeature.clo_en
  have hvl : a.levels.length ≤ 1048576 := hgd.2.1
  have hclv : Clo (.agg v.en) := Clo.agg v.clo_en
  have hct := cht_clo (srcOf a.log) v true
  have hcc : Clo (.agg (chart (srcOf a.log) v).en) := Clo.agg (TChart.clo_en _)
  have hlt := (List.getElem?_eq_some_iff.1 hx).1
  have hg := map_get (f := TLevel.en) hx
  have hin : inr (i : Int) 0 (IntKind.i64.wrap (((a.levels.map TLevel.en).length : Int) - 1)) = true := by rw [List.length_map]; exact in_lv hlt hvl
  have hi0 : decide ((i : Int) < 0) = false := decide_eq_false (by omega)
  have hi1 : decide ((i : Int) ≥ ((a.levels.map TLevel.en).length : Int)) = false := by rw [List.length_map]; simp; omega
  dsimp only [TAtlas.en]
  repeat' ((first
    | (refine iAL ?_; first | refine AL.any ?_ | refine AL.T ?_ | refine AL.nil ?_)
    | ((with_reducible show DL ..); first | refine DL.any ?_ | refine DL.any (h := POp.k Tryz.func60 (hc := src_i' a.log hgd.1.1 hgd.1.2)) ?_ | refine DL.any (h := POp.k Tryz.func74 (hc := chart0_i (srcOf a.log) v hLl hLg hK)) ?_ | refine DL.nil ?_)
    | (refine iAW ?_; first | (refine AW.c0 ?_; constructor) | refine AW.dr (id := 3) 11 ?_ | refine AW.cF ?_)) <;> (try dsimp only))
  all_goals exact Fin.two rfl (RV.cell (QOp.quietA TT_ok (by rfl))) (RV.tmp (by rfl)) (clo_of (by rfl)) ⟨rfl, rfl⟩

theorem nmA_i (a : TAtlas) (hgd : a.gd) : VCalls Tryz.prog 36 [.agg a.en] (fun r M => r = B true ∧ M = []) := by
  refine VB Tryz.func36 21 (fun E hE => ?_)
  have hclG : Clo (.ro 8 (a.log.map TEntry.en)) := clo_list TEntry.clo_en
  have hclV : Clo (.ro 3 (a.levels.map TLevel.en)) := clo_list TLevel.clo_en
  have hclE : Clo (.ro 3 (a.editions.map TEdition.en)) := clo_list TEdition.clo_en
  have hcla : Clo (.agg a.en) := Clo.agg a.clo_en
  have hLl := srcOf_len hgd.1.1
  have hLg : ∀ x ∈ (srcOf a.log), x.gd := srcOf_mem hgd.1.2
  have hclS : Clo (.ro 5 ((srcOf a.log).map TFeature.en)) := clo_list TFeature.clo_en
  have hvl : a.levels.length ≤ 1048576 := hgd.2.1
  dsimp only [TAtlas.en]
  repeat' ((first
    | (refine iAL ?_; first | refine AL.any ?_ | refine AL.any (h := POp.k Tryz.func42 (hc := by first | exact chAt_i_t a hgd i v hx hK | exact chAt_i_f a hgd i v hx hK)) ?_ | refine AL.any (h := POp.k Tryz.func85 (hc := isCht_i (chart (srcOf a.log) v) hco)) ?_ | refine AL.any (h := POp.D Tryz.func85 (hc := isCht_i chart0 chart0_ok)) ?_ | refine AL.nil ?_)
    | (refine iAW ?_; first | (refine AW.c0 ?_; constructor) | refine AW.cT ?_ | refine AW.cF ?_)
    | (
  refine AW.loopD hE (fun i : Nat => [.any, .ref 0 0 7 0 0, .any, .any, .any, .any, .any, .ro 3 (a.levels.map TLevel.en), I ((a.levels.map TLevel.en).length : Int), I (i : Int), .any, .any, .any, .any, .any, .any, .any, .any, .any, .any, .any, .any]) (fun i => [some ⟨36, 7, 0, true, [a.en]⟩]) (fun i => a.levels.length - i) (fun i => i ≤ a.levels.length) 0 (by simp) ?_ (by first | rfl | (simp [fil_zero]; done)) ?_
  (focus (exact wkI))
  intro i hi
  by_cases hlt : i < a.levels.length
  case' pos =>
    have hP := True.intro
    obtain ⟨v, hx⟩ : ∃ x, a.levels[i]? = some x := ⟨_, List.getElem?_eq_getElem hlt⟩
    have hg := map_get (f := TLevel.en) hx
    have ht := lt_true (f := TLevel.en) hlt
    have hn := next_ix hlt (by omega)
    have hclv : Clo (.agg v.en) := Clo.agg v.clo_en
    have hct := cht_clo (srcOf a.log) v true
    have hcc : Clo (.agg (chart (srcOf a.log) v).en) := Clo.agg (TChart.clo_en _)
    rcases Bool.eq_false_or_eq_true (chtOk (srcOf a.log) v) with hK | hK
    case' inl => have hco := chart_ok (v := v) (chtOk_t hK).1 hLg
  case' neg =>
    have hQ := True.intro
    have ht := lt_false (f := TLevel.en) hlt
    have e : i = a.levels.length := by omega
    subst e
    try rw [List.take_length])) <;> (try dsimp only))
  all_goals first
    | (have _ := hP; (refine ⟨i + 1, _, hlt, by omega, ?_, rfl, ?_, ?_⟩; (focus (exact wkH)); (focus (exact fitsA)); (focus (exact fitsM_cons (clo_one a.clo_en) (FitsM.nil _)))))
    | (have _ := hQ; exact Fin.one rfl (RV.tmp (by rfl)) (clo_c _) ⟨by rfl, rfl⟩)

end Go.Proofs.YtpffahmmklpifaaGreat.Abs

/- The walks of the program's own equality tests. -/
namespace Go.Proofs.YtpffahmmklpifaaGreat.Abs
open Go.Proofs Go.RowKit
set_option linter.unusedVariables false
set_option linter.unusedSimpArgs false
set_option maxRecDepth 100000
set_option maxHeartbeats 2000000
attribute [local irreducible] OpA AL AW DL DLM DLR DLS QOp POp VCalls VCallsI
end Go.Proofs.YtpffahmmklpifaaGreat.Abs
