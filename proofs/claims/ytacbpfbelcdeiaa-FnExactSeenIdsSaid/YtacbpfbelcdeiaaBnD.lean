/- Part D of the walk over abstract states and of the functions' walks. -/
import Derived.Test.YtacbpfbelcdeiaaWkStep
import Derived.Test.YtacbpfbelcdeiaaWkMark
import Derived.Test.YtacbpfbelcdeiaaBnC
/- The walks of a feature's pieces. -/
namespace Go.Proofs.Ytacbpfbelcdeiaa.Abs
open Go.Proofs Go.RowKit
set_option linter.unusedVariables false
set_option linter.unusedSimpArgs false
attribute [local irreducible] OpA AL AW DL DLM DLR DLS QOp POp VCalls VCallsI
/-! ### Pieces -/
abbrev pt0 (f : TFeature) : TPoint := f.points.getD 0 ⟨0, 0⟩
def ptAt (f : TFeature) (k : Nat) : TSegment := (partsOf f).getD k ⟨⟨0, 0⟩, ⟨0, 0⟩⟩
theorem ptAt_of {f : TFeature} {i : Nat} {x : TSegment} (h : (partsOf f)[i]? = some x) : ptAt f i = x := by simp [ptAt, List.getD_eq_getElem?_getD, h]
def pcBase (f : TFeature) (b : TBox) : List TPiece := if ((f.kind == 1) && inBoxB b (pt0 f)) = true then [⟨f.id, 0⟩] else []
def pcTo (f : TFeature) (b : TBox) (i : Nat) : List TPiece := pcBase f b ++ ((List.range i).filter fun k => meetsB (ptAt f k) b).map fun k => ⟨f.id, (k : Int)⟩
def pcs (f : TFeature) (b : TBox) : List TPiece := pcTo f b (partsOf f).length
theorem pcTo_zero (f : TFeature) (b : TBox) : pcTo f b 0 = pcBase f b := by simp [pcTo]
theorem pcTo_succ (f : TFeature) (b : TBox) (i : Nat) : pcTo f b (i + 1) = if meetsB (ptAt f i) b = true then pcTo f b i ++ [⟨f.id, (i : Int)⟩] else pcTo f b i := by
  unfold pcTo
  rw [List.range_succ, List.filter_append, List.map_append, ← List.append_assoc]
  split <;> simp [*]
theorem pcTo_len (f : TFeature) (b : TBox) (i : Nat) : (pcTo f b i).length ≤ 1 + i := by
  induction i with
  | zero => rw [pcTo_zero]; unfold pcBase; split <;> simp
  | succ i ih =>
    rw [pcTo_succ]
    split
    · rw [List.length_append, List.length_singleton]; omega
    · omega
theorem pcs_len (f : TFeature) (b : TBox) : (pcs f b).length ≤ 11 := by
  have h1 := pcTo_len f b (partsOf f).length
  have h2 := partsOf_le f
  unfold pcs
  omega
theorem pc_cases {f : TFeature} {b : TBox} {i : Nat} {x : TSegment} (h : (partsOf f)[i]? = some x) :
    (meetsB x b = true ∧ (pcTo f b (i + 1)).map TPiece.en = (pcTo f b i).map TPiece.en ++ [[I f.id, I (i : Int)]] ∧ (pcTo f b (i + 1)).length = (pcTo f b i).length + 1) ∨
    (meetsB x b = false ∧ (pcTo f b (i + 1)).map TPiece.en = (pcTo f b i).map TPiece.en ∧ (pcTo f b (i + 1)).length = (pcTo f b i).length) := by
  rw [pcTo_succ, ptAt_of h]
  cases hm : meetsB x b
  · exact .inr ⟨rfl, by simp, by simp⟩
  · exact .inl ⟨rfl, by simp [TPiece.en], by simp⟩
theorem parts_k1 {f : TFeature} (hk : (f.kind == 1) = true) : partsOf f = [] := by
  have e : f.kind = 1 := by simpa using hk
  unfold partsOf
  rw [e]
  simp
theorem feat_pt {f : TFeature} (hf : isFeat f = true) (hk : (f.kind == 1) = true) : (f.points.map TPoint.en)[((0 : Int)).toNat]? = some (pt0 f).en := by
  simp only [isFeat, kindOk, Bool.and_eq_true, hk, if_true] at hf
  have h1 := hf.2.1
  cases hp : f.points with
  | nil => rw [hp] at h1; simp at h1
  | cons a l => simp [pt0, hp]
theorem base_t {f : TFeature} {b : TBox} (hk : (f.kind == 1) = true) (hi : inBoxB b (pt0 f) = true) : pcTo f b 0 = [⟨f.id, 0⟩] := by rw [pcTo_zero, pcBase, hk, hi]; rfl
theorem base_n {f : TFeature} {b : TBox} (hk : (f.kind == 1) = true) (hi : inBoxB b (pt0 f) = false) : pcTo f b 0 = [] := by rw [pcTo_zero, pcBase, hk, hi]; rfl
theorem base_f {f : TFeature} {b : TBox} (hk : (f.kind == 1) = false) : pcTo f b 0 = [] := by rw [pcTo_zero, pcBase, hk]; rfl
/-! ### Tiles -/
theorem src_feat {l : List TFeature} {i : Nat} {x : TFeature} (hS : isSource l = true) (hx : l[i]? = some x) : isFeat x = true := by
  simp only [isSource, Bool.and_eq_true, srcOk, List.all_eq_true, List.mem_range] at hS
  have h := hS.1 i (List.getElem?_eq_some_iff.1 hx).1
  simp only [srcAt, hx, Bool.and_eq_true] at h
  exact h.1
theorem src_len {l : List TFeature} (hS : isSource l = true) : l.length ≤ 16 := by
  simp only [isSource, Bool.and_eq_true, decide_eq_true_eq] at hS
  omega
def pcIn (l : List TFeature) (t : Int) (i : Nat) : List TPiece := (l.take i).flatMap fun f => pcs f (tileBox t)
theorem pcIn_succ {l : List TFeature} {t : Int} {i : Nat} {x : TFeature} (h : l[i]? = some x) : pcIn l t (i + 1) = pcIn l t i ++ pcs x (tileBox t) := by
  unfold pcIn
  rw [take_succ_of h, List.flatMap_append]
  simp
theorem pcIn_map {l : List TFeature} {t : Int} {i : Nat} {x : TFeature} (h : l[i]? = some x) : (pcIn l t (i + 1)).map TPiece.en = (pcIn l t i).map TPiece.en ++ (pcs x (tileBox t)).map TPiece.en := by rw [pcIn_succ h, List.map_append]
theorem pcIn_len (l : List TFeature) (t : Int) (i : Nat) (hi : i ≤ l.length) : (pcIn l t i).length ≤ 11 * i := by
  induction i with
  | zero => simp [pcIn]
  | succ i ih =>
    have := ih (by omega)
    have hx : l[i]? = some l[i] := List.getElem?_eq_getElem (by omega)
    have h2 := pcs_len l[i] (tileBox t)
    rw [pcIn_succ hx, List.length_append]
    omega
def cntT (l : List TFeature) (k i : Nat) : Nat := (pcIn l (k : Int) i).length
theorem cntT_zero (l : List TFeature) (k : Nat) : cntT l k 0 = 0 := by simp [cntT, pcIn]
theorem cntT_succ {l : List TFeature} {k i : Nat} {x : TFeature} (h : l[i]? = some x) : cntT l k (i + 1) = cntT l k i + (pcs x (tileBox (k : Int))).length := by rw [cntT, pcIn_succ h, List.length_append]; rfl
def rowC (l : List TFeature) (i t : Nat) : List (List AV) := (List.range 441).map fun k => [I (((if k < t then cntT l k (i + 1) else cntT l k i : Nat)) : Int)]
theorem rowC_len (l : List TFeature) (i t : Nat) : (rowC l i t).length = 441 := by rw [rowC, List.length_map, List.length_range]
theorem rowC_zero (l : List TFeature) : rowC l 0 0 = List.replicate 441 [I 0] := by
  apply List.ext_getElem?
  intro k
  rw [rowC, List.getElem?_map, List.getElem?_replicate]
  by_cases hk : k < 441
  · rw [List.getElem?_range hk, if_pos hk]
    simp [cntT_zero]
  · rw [if_neg hk, List.getElem?_eq_none (by rw [List.length_range]; omega)]
    rfl
theorem rowC_all (l : List TFeature) (i : Nat) : rowC l i 441 = rowC l (i + 1) 0 := by
  apply List.ext_getElem?
  intro k
  rw [rowC, rowC, List.getElem?_map, List.getElem?_map]
  by_cases hk : k < 441
  · rw [List.getElem?_range hk]
    simp [hk]
  · rw [List.getElem?_eq_none (by rw [List.length_range]; omega)]
    rfl
theorem rowC_get (l : List TFeature) (i t k : Nat) (hk : k < 441) (ht : t ≤ k) : (rowC l i t)[((k : Nat) : Int).toNat]? = some [I ((cntT l k i : Nat) : Int)] := by
  rw [Int.toNat_natCast, rowC, List.getElem?_map, List.getElem?_range hk]
  simp [show ¬ k < t by omega]
theorem rowC_set (l : List TFeature) (i t : Nat) (ht : t < 441) : (rowC l i t).set ((t : Nat) : Int).toNat [I ((cntT l t (i + 1) : Nat) : Int)] = rowC l i (t + 1) := by
  rw [Int.toNat_natCast]
  apply List.ext_getElem?
  intro k
  rw [List.getElem?_set, rowC_len]
  by_cases hk : k < 441
  · rw [rowC, rowC, List.getElem?_map, List.getElem?_map, List.getElem?_range hk]
    by_cases e : t = k
    · subst e
      rw [if_pos rfl, if_pos hk]
      simp
    · rw [if_neg e]
      by_cases h2 : k < t
      · simp [h2, show k < t + 1 by omega]
      · simp [h2, show ¬ k < t + 1 by omega]
  · have e1 : (rowC l i t)[k]? = none := List.getElem?_eq_none (by rw [rowC_len]; omega)
    have e2 : (rowC l i (t + 1))[k]? = none := List.getElem?_eq_none (by rw [rowC_len]; omega)
    rw [e1, e2, if_neg (by omega)]
theorem clo_rowC (l : List TFeature) (i t : Nat) : ∀ r ∈ rowC l i t, ∀ x ∈ r, Clo x := fun r hr x hx => by
  obtain ⟨k, _, rfl⟩ := List.mem_map.1 hr
  rw [List.mem_singleton.1 hx]
  exact clo_c _
/-- The fullest so far. -/
def bst (c : Nat → Nat) : Nat → Int
  | 0 => -1
  | i + 1 => if 0 < c i ∧ (bst c i < 0 ∨ c (bst c i).toNat < c i) then (i : Int) else bst c i
theorem bst_succ (c : Nat → Nat) (i : Nat) : bst c (i + 1) = if 0 < c i ∧ (bst c i < 0 ∨ c (bst c i).toNat < c i) then (i : Int) else bst c i := rfl
theorem bst_bd (c : Nat → Nat) (i : Nat) : -1 ≤ bst c i ∧ bst c i < i := by
  induction i with
  | zero => simp [bst]
  | succ i ih => rw [bst_succ]; split <;> omega
def mst (c : Nat → Nat) (i : Nat) : Nat := if bst c i < 0 then 0 else c (bst c i).toNat
theorem mst_cases (c : Nat → Nat) (i : Nat) : (decide (((c i : Nat) : Int) > ((mst c i : Nat) : Int)) = true ∧ bst c (i + 1) = (i : Int) ∧ mst c (i + 1) = c i) ∨ (decide (((c i : Nat) : Int) > ((mst c i : Nat) : Int)) = false ∧ bst c (i + 1) = bst c i ∧ mst c (i + 1) = mst c i) := by
  have hb := bst_succ c i
  by_cases hm : mst c i < c i
  · have hc : 0 < c i ∧ (bst c i < 0 ∨ c (bst c i).toNat < c i) := by
      unfold mst at hm
      split at hm <;> omega
    rw [if_pos hc] at hb
    refine .inl ⟨by simp; omega, hb, ?_⟩
    unfold mst
    rw [hb, if_neg (by omega), Int.toNat_natCast]
  · have hc : ¬ (0 < c i ∧ (bst c i < 0 ∨ c (bst c i).toNat < c i)) := by
      unfold mst at hm
      split at hm <;> omega
    rw [if_neg hc] at hb
    refine .inr ⟨by simp; omega, hb, ?_⟩
    unfold mst
    rw [hb]
theorem bst_cases (l : List TFeature) (m i : Nat) (hi : i < 441) :
    (decide (((cntT l i m : Nat) : Int) > 0) = false ∧ bst (fun k => cntT l k m) (i + 1) = bst (fun k => cntT l k m) i) ∨
    (decide (((cntT l i m : Nat) : Int) > 0) = true ∧ decide (bst (fun k => cntT l k m) i < 0) = true ∧ bst (fun k => cntT l k m) (i + 1) = (i : Int)) ∨
    (decide (((cntT l i m : Nat) : Int) > 0) = true ∧ decide (bst (fun k => cntT l k m) i < 0) = false ∧ 0 ≤ bst (fun k => cntT l k m) i ∧ (bst (fun k => cntT l k m) i).toNat < (rowC l m 0).length ∧ (rowC l m 0)[(bst (fun k => cntT l k m) i).toNat]? = some [I ((cntT l (bst (fun k => cntT l k m) i).toNat m : Nat) : Int)] ∧
      ((decide (((cntT l i m : Nat) : Int) > ((cntT l (bst (fun k => cntT l k m) i).toNat m : Nat) : Int)) = true ∧ bst (fun k => cntT l k m) (i + 1) = (i : Int)) ∨ (decide (((cntT l i m : Nat) : Int) > ((cntT l (bst (fun k => cntT l k m) i).toNat m : Nat) : Int)) = false ∧ bst (fun k => cntT l k m) (i + 1) = bst (fun k => cntT l k m) i))) := by
  have hb := bst_succ (fun k => cntT l k m) i
  have hd := bst_bd (fun k => cntT l k m) i
  by_cases h1 : 0 < cntT l i m
  · by_cases h2 : bst (fun k => cntT l k m) i < 0
    · exact .inr (.inl ⟨by simp; omega, by simp; omega, by rw [hb, if_pos ⟨h1, .inl h2⟩]⟩)
    · refine .inr (.inr ⟨by simp; omega, by simp; omega, by omega, by rw [rowC_len]; omega, ?_, ?_⟩)
      · have := rowC_get l m 0 (bst (fun k => cntT l k m) i).toNat (by omega) (by omega)
        rwa [Int.toNat_natCast] at this
      · by_cases h3 : cntT l (bst (fun k => cntT l k m) i).toNat m < cntT l i m
        · exact .inl ⟨by simp; omega, by rw [hb, if_pos ⟨h1, .inr h3⟩]⟩
        · exact .inr ⟨by simp; omega, by rw [hb, if_neg (fun h => by rcases h.2 with h | h <;> omega)]⟩
  · exact .inl ⟨by simp; omega, by rw [hb, if_neg (fun h => h1 h.1)]⟩
def nSrc (l : List TFeature) : Nat := if isSource l = true then l.length else 0
def full (l : List TFeature) : Int := bst (fun k => cntT l k (nSrc l)) 441
theorem bst_none (l : List TFeature) (i : Nat) : bst (fun k => cntT l k 0) i = -1 := by
  induction i with
  | zero => rfl
  | succ i ih => rw [bst_succ, ih, if_neg (by rw [cntT_zero]; omega)]
theorem full_f {l : List TFeature} (h : isSource l = false) : full l = -1 := by rw [full, nSrc, h]; exact bst_none l 441
theorem full_t {l : List TFeature} (h : isSource l = true) : full l = bst (fun k => cntT l k l.length) 441 := by rw [full, nSrc, if_pos h]
theorem nSrc_le (l : List TFeature) : nSrc l ≤ l.length := by unfold nSrc; split <;> omega
theorem nSrc_t {l : List TFeature} {i : Nat} (h : i < nSrc l) : isSource l = true ∧ nSrc l = l.length := by
  unfold nSrc at h ⊢
  split at h
  · rename_i hS; exact ⟨hS, by rw [if_pos hS]⟩
  · omega
theorem repl_succ (i : Nat) : List.replicate (i + 1) [I 0] = List.replicate i [I 0] ++ [[I 0]] := List.replicate_succ'
theorem clo_repl (n : Nat) : ∀ r ∈ List.replicate n [I 0], ∀ x ∈ r, Clo x := fun r hr x hx => by
  rw [(List.mem_replicate.1 hr).2] at hx
  rw [List.mem_singleton.1 hx]
  exact clo_c _
theorem cnt_add {l : List TFeature} {t i : Nat} {x : TFeature} (hx : l[i]? = some x) (hi : i ≤ 1048576) (hl : i < l.length) : IntKind.i64.wrap (((cntT l t i : Nat) : Int) + (((pcs x (tileBox (t : Int))).map TPiece.en).length : Int)) = ((cntT l t (i + 1) : Nat) : Int) := by
  have h1 := pcIn_len l (t : Int) i (by omega)
  have h2 := pcs_len x (tileBox (t : Int))
  have h3 := cntT_succ (k := t) hx
  rw [List.length_map]
  unfold cntT at h3 ⊢
  rw [w64 (by omega) (by omega)]
  omega
theorem gd_of {l : List TFeature} (h1 : ∀ x ∈ l, x.sm) (h2 : ∀ x ∈ l, x.ok) : ∀ x ∈ l, x.gd := fun x hx => ⟨h1 x hx, (h2 x hx).2.2.2.1⟩

set_option maxRecDepth 100000 in
set_option maxHeartbeats 2000000 in
theorem pcs_s_f (f : TFeature) (b : TBox) (hgd : f.gd) (hf : isFeat f = true) (hk : (f.kind == 1) = false) : VCalls Try.prog 35 [.agg f.en, .ro 4 ((partsOf f).map TSegment.en), .agg b.en] (fun r M => r = .ro 2 ((pcs f b).map TPiece.en) ∧ M = []) := by
  refine VCalls.bodyE Try.func35 rfl 42 rfl (fun E hE => ?_)
  simp only [List.reduceReplicate, List.cons_append, List.nil_append]
  have hclP : Clo (.ro 2 (f.points.map TPoint.en)) := clo_list TPoint.clo_en
  have hclS : Clo (.ro 4 ((partsOf f).map TSegment.en)) := clo_list TSegment.clo_en
  have hcle : Clo (.agg f.en) := Clo.agg f.clo_en
  have hpl := partsOf_le f
  have hb0 := base_f (b := b) hk
  repeat' ((first
    | ((with_reducible show AL _ _ _ _ _ _ _); first | refine AL.any ?_ | refine AL.any (h := POp.k Try.func52 (hc := inBox_s b (pt0 f))) ?_ | refine AL.any (h := POp.k Try.func53 (hc := meets_s x b)) ?_ | refine AL.U ?_ | refine AL.F ?_ | refine AL.T ?_ | refine AL.T (h := POp.k Try.func52 (hc := inBox_s b (pt0 f))) ?_ | refine AL.T (h := POp.k Try.func53 (hc := meets_s x b)) ?_ | refine AL.W ?_ | refine AL.W (h := fun h => by (try rw [h]); exact POp.k Try.func52 (hc := inBox_s b (pt0 f))) ?_ | refine AL.W (h := fun h => by (try rw [h]); exact POp.k Try.func53 (hc := meets_s x b)) ?_ | refine AL.nil ?_)
    | ((with_reducible show DL _ _ _ _ _ _ _); first | refine DL.any ?_ | refine DL.any (h := POp.k Try.func52 (hc := inBox_s b (pt0 f))) ?_ | refine DL.any (h := POp.k Try.func53 (hc := meets_s x b)) ?_ | refine DL.U ?_ | refine DL.F ?_ | refine DL.T ?_ | refine DL.T (h := POp.k Try.func52 (hc := inBox_s b (pt0 f))) ?_ | refine DL.T (h := POp.k Try.func53 (hc := meets_s x b)) ?_ | refine DL.W ?_ | refine DL.W (h := fun h => by (try rw [h]); exact POp.k Try.func52 (hc := inBox_s b (pt0 f))) ?_ | refine DL.W (h := fun h => by (try rw [h]); exact POp.k Try.func53 (hc := meets_s x b)) ?_ | refine DL.nil ?_)
    | ((with_reducible show AW _ _ _ _ _ _); first | refine AW.seq ?_ | refine AW.region ?_ | refine AW.skip ?_ | (refine AW.loopD hE (fun i : Nat => [.any, .ro 4 ((partsOf f).map TSegment.en), .any, .ref 0 0 5 0 0, .any, .ref 1 0 4 0 0, .any, .own 2 (pcTo f b i).length, I (i : Int), .any, .any, .any, .any, .any, .any, .any, .any, .any, .any, .any, .any, .any, .any, .any, .any, .any, .any, .any, .any, .any, .any, .any, .any, .any, .any, .any, .any, .any, .any, .any, .any, .any, .any, .any, .any]) (fun i => [some ⟨52, 5, 0, true, [f.en]⟩, some ⟨72, 4, 0, true, [b.en]⟩, some ⟨92, 2, (pcTo f b i).length, false, (pcTo f b i).map TPiece.en⟩]) (fun i => (partsOf f).length - i) (fun i => i ≤ (partsOf f).length) 0 (by simp) ?_ (by first | rfl | (rw [hb0]; rfl)) ?_) | refine AW.dr (id := 2) 9 ?_ | refine AW.dr (id := 7) 5 ?_ | refine AW.cT ?_ | refine AW.cF ?_ | (refine AW.c2 ?_ ?_ <;> (intro h; try simp only [Bool.not_eq_true', Bool.not_eq_false'] at h)) | refine AW.block ?_ | refine AW.exit ?_ | refine AW.ret ?_)
    | with_reducible refine (if_pos rfl).mpr ?_
    | with_reducible refine (if_neg (by decide)).mpr ?_) <;> (try dsimp only))
  · (repeat' (first | exact Wk.nil | refine Wk.any ?_ | (with_reducible refine Wk.same ?_) | refine Wk.of ?_ ?_)) <;> first | rfl | (simp_all)
  · intro i hi
    have hclP : Clo (.ro 2 (f.points.map TPoint.en)) := clo_list TPoint.clo_en
    have hclS : Clo (.ro 4 ((partsOf f).map TSegment.en)) := clo_list TSegment.clo_en
    have hcle : Clo (.agg f.en) := Clo.agg f.clo_en
    have hpl := partsOf_le f
    by_cases hlt : i < (partsOf f).length
    · obtain ⟨x, hx⟩ : ∃ x, (partsOf f)[i]? = some x := ⟨_, List.getElem?_eq_getElem hlt⟩
      have hg := map_get (f := TSegment.en) hx
      have ht := lt_true (f := TSegment.en) hlt
      have hn := next_ix hlt (by omega)
      have hln := pcTo_len f b i
      rcases pc_cases (b := b) hx with ⟨hm, h1, h2⟩ | ⟨hm, h1, h2⟩
      repeat' ((first
        | ((with_reducible show AL _ _ _ _ _ _ _); first | refine AL.any ?_ | refine AL.any (h := POp.k Try.func52 (hc := inBox_s b (pt0 f))) ?_ | refine AL.any (h := POp.k Try.func53 (hc := meets_s x b)) ?_ | refine AL.U ?_ | refine AL.F ?_ | refine AL.T ?_ | refine AL.T (h := POp.k Try.func52 (hc := inBox_s b (pt0 f))) ?_ | refine AL.T (h := POp.k Try.func53 (hc := meets_s x b)) ?_ | refine AL.W ?_ | refine AL.W (h := fun h => by (try rw [h]); exact POp.k Try.func52 (hc := inBox_s b (pt0 f))) ?_ | refine AL.W (h := fun h => by (try rw [h]); exact POp.k Try.func53 (hc := meets_s x b)) ?_ | refine AL.nil ?_)
        | ((with_reducible show DL _ _ _ _ _ _ _); first | refine DL.any ?_ | refine DL.any (h := POp.k Try.func52 (hc := inBox_s b (pt0 f))) ?_ | refine DL.any (h := POp.k Try.func53 (hc := meets_s x b)) ?_ | refine DL.U ?_ | refine DL.F ?_ | refine DL.T ?_ | refine DL.T (h := POp.k Try.func52 (hc := inBox_s b (pt0 f))) ?_ | refine DL.T (h := POp.k Try.func53 (hc := meets_s x b)) ?_ | refine DL.W ?_ | refine DL.W (h := fun h => by (try rw [h]); exact POp.k Try.func52 (hc := inBox_s b (pt0 f))) ?_ | refine DL.W (h := fun h => by (try rw [h]); exact POp.k Try.func53 (hc := meets_s x b)) ?_ | refine DL.nil ?_)
        | ((with_reducible show AW _ _ _ _ _ _); first | refine AW.seq ?_ | refine AW.region ?_ | refine AW.skip ?_ | refine AW.dr (id := 2) 9 ?_ | refine AW.dr (id := 7) 5 ?_ | refine AW.cT ?_ | refine AW.cF ?_ | (refine AW.c2 ?_ ?_ <;> (intro h; try simp only [Bool.not_eq_true', Bool.not_eq_false'] at h)) | refine AW.block ?_ | refine AW.exit ?_ | refine AW.ret ?_)
        | with_reducible refine (if_pos rfl).mpr ?_
        | with_reducible refine (if_neg (by decide)).mpr ?_) <;> (try dsimp only))
      all_goals first
        | (refine ⟨i + 1, _, hlt, by omega, ?_, by rw [h1, h2] <;> rfl, ?_, ?_⟩; (focus ((repeat' (first | exact Wk.nil | refine Wk.any ?_ | (with_reducible refine Wk.same ?_) | refine Wk.of ?_ ?_)) <;> (simp_all))); (focus ((repeat' (first | exact Fits.nil _ | refine Fits.cons ?_ ?_ | exact Fits.any _ | exact Fits.c _ _ | exact Fits.own (by rfl) | exact Fits.ref (by rfl) | exact Fits.clo (by assumption) | exact Fits.clo (clo_of (by rfl)) | exact Fits.clo (clo_fn _))))); (focus (exact fitsM_cons (clo_one f.clo_en) (fitsM_cons (clo_one b.clo_en) (fitsM_cons (clo_rows TPiece.clo_en) (FitsM.nil _))))))
    · have ht := lt_false (f := TSegment.en) hlt
      have e : i = (partsOf f).length := by omega
      subst e
      try rw [List.take_length]
      repeat' ((first
        | ((with_reducible show AL _ _ _ _ _ _ _); first | refine AL.any ?_ | refine AL.any (h := POp.k Try.func52 (hc := inBox_s b (pt0 f))) ?_ | refine AL.any (h := POp.k Try.func53 (hc := meets_s x b)) ?_ | refine AL.U ?_ | refine AL.F ?_ | refine AL.T ?_ | refine AL.T (h := POp.k Try.func52 (hc := inBox_s b (pt0 f))) ?_ | refine AL.T (h := POp.k Try.func53 (hc := meets_s x b)) ?_ | refine AL.W ?_ | refine AL.W (h := fun h => by (try rw [h]); exact POp.k Try.func52 (hc := inBox_s b (pt0 f))) ?_ | refine AL.W (h := fun h => by (try rw [h]); exact POp.k Try.func53 (hc := meets_s x b)) ?_ | refine AL.nil ?_)
        | ((with_reducible show DL _ _ _ _ _ _ _); first | refine DL.any ?_ | refine DL.any (h := POp.k Try.func52 (hc := inBox_s b (pt0 f))) ?_ | refine DL.any (h := POp.k Try.func53 (hc := meets_s x b)) ?_ | refine DL.U ?_ | refine DL.F ?_ | refine DL.T ?_ | refine DL.T (h := POp.k Try.func52 (hc := inBox_s b (pt0 f))) ?_ | refine DL.T (h := POp.k Try.func53 (hc := meets_s x b)) ?_ | refine DL.W ?_ | refine DL.W (h := fun h => by (try rw [h]); exact POp.k Try.func52 (hc := inBox_s b (pt0 f))) ?_ | refine DL.W (h := fun h => by (try rw [h]); exact POp.k Try.func53 (hc := meets_s x b)) ?_ | refine DL.nil ?_)
        | ((with_reducible show AW _ _ _ _ _ _); first | refine AW.seq ?_ | refine AW.region ?_ | refine AW.skip ?_ | (refine AW.freezeRet (t := 6) (id := 2) rfl rfl rfl rfl (clo_rows TPiece.clo_en) ?_; (try simp only [List.take_length]); try dsimp only [dput, List.set, cond_true, cond_false, Nat.zero_add, Nat.add_zero, Nat.reduceAdd, splice, List.take, List.drop, List.length, List.nil_append, List.cons_append, List.append, TPoint.en, TSegment.en, TBox.en, TFeature.en, TMeet.en, TPlace.en, TCover.en, TLabel.en, TPiece.en, TLevel.en, TChart.en, TReason.en, TEdit.en, TEntry.en, TEdition.en, TListing.en, TAtlas.en, TEvent.en, TWindow.en]) | refine AW.dr (id := 2) 9 ?_ | refine AW.dr (id := 7) 5 ?_ | refine AW.cT ?_ | refine AW.cF ?_ | (refine AW.c2 ?_ ?_ <;> (intro h; try simp only [Bool.not_eq_true', Bool.not_eq_false'] at h)) | refine AW.block ?_ | refine AW.exit ?_ | refine AW.ret ?_)
        | with_reducible refine (if_pos rfl).mpr ?_
        | with_reducible refine (if_neg (by decide)).mpr ?_) <;> (try dsimp only))
      all_goals exact Fin.one rfl (RV.tmp (by rfl)) (clo_list TPiece.clo_en) ⟨rfl, rfl⟩

set_option maxRecDepth 100000 in
set_option maxHeartbeats 2000000 in
theorem pcs_s_n (f : TFeature) (b : TBox) (hgd : f.gd) (hf : isFeat f = true) (hk : (f.kind == 1) = true) (hin : inBoxB b (pt0 f) = false) : VCalls Try.prog 35 [.agg f.en, .ro 4 ((partsOf f).map TSegment.en), .agg b.en] (fun r M => r = .ro 2 ((pcs f b).map TPiece.en) ∧ M = []) := by
  refine VCalls.bodyE Try.func35 rfl 42 rfl (fun E hE => ?_)
  simp only [List.reduceReplicate, List.cons_append, List.nil_append]
  have hclP : Clo (.ro 2 (f.points.map TPoint.en)) := clo_list TPoint.clo_en
  have hclS : Clo (.ro 4 ((partsOf f).map TSegment.en)) := clo_list TSegment.clo_en
  have hcle : Clo (.agg f.en) := Clo.agg f.clo_en
  have hpl := partsOf_le f
  have hb0 := base_n hk hin
  have hp0 := feat_pt hf hk
  repeat' ((first
    | ((with_reducible show AL _ _ _ _ _ _ _); first | refine AL.any ?_ | refine AL.any (h := POp.k Try.func52 (hc := inBox_s b (pt0 f))) ?_ | refine AL.any (h := POp.k Try.func53 (hc := meets_s x b)) ?_ | refine AL.U ?_ | refine AL.F ?_ | refine AL.T ?_ | refine AL.T (h := POp.k Try.func52 (hc := inBox_s b (pt0 f))) ?_ | refine AL.T (h := POp.k Try.func53 (hc := meets_s x b)) ?_ | refine AL.W ?_ | refine AL.W (h := fun h => by (try rw [h]); exact POp.k Try.func52 (hc := inBox_s b (pt0 f))) ?_ | refine AL.W (h := fun h => by (try rw [h]); exact POp.k Try.func53 (hc := meets_s x b)) ?_ | refine AL.nil ?_)
    | ((with_reducible show DL _ _ _ _ _ _ _); first | refine DL.any ?_ | refine DL.any (h := POp.k Try.func52 (hc := inBox_s b (pt0 f))) ?_ | refine DL.any (h := POp.k Try.func53 (hc := meets_s x b)) ?_ | refine DL.U ?_ | refine DL.F ?_ | refine DL.T ?_ | refine DL.T (h := POp.k Try.func52 (hc := inBox_s b (pt0 f))) ?_ | refine DL.T (h := POp.k Try.func53 (hc := meets_s x b)) ?_ | refine DL.W ?_ | refine DL.W (h := fun h => by (try rw [h]); exact POp.k Try.func52 (hc := inBox_s b (pt0 f))) ?_ | refine DL.W (h := fun h => by (try rw [h]); exact POp.k Try.func53 (hc := meets_s x b)) ?_ | refine DL.nil ?_)
    | ((with_reducible show AW _ _ _ _ _ _); first | refine AW.seq ?_ | refine AW.region ?_ | refine AW.skip ?_ | (refine AW.loopD hE (fun i : Nat => [.any, .ro 4 ((partsOf f).map TSegment.en), .any, .ref 0 0 5 0 0, .any, .ref 1 0 4 0 0, .any, .own 2 (pcTo f b i).length, I (i : Int), .any, .any, .any, .any, .any, .any, .any, .any, .any, .any, .any, .any, .any, .any, .any, .any, .any, .any, .any, .any, .any, .any, .any, .any, .any, .any, .any, .any, .any, .any, .any, .any, .any, .any, .any, .any]) (fun i => [some ⟨52, 5, 0, true, [f.en]⟩, some ⟨72, 4, 0, true, [b.en]⟩, some ⟨92, 2, (pcTo f b i).length, false, (pcTo f b i).map TPiece.en⟩]) (fun i => (partsOf f).length - i) (fun i => i ≤ (partsOf f).length) 0 (by simp) ?_ (by first | rfl | (rw [hb0]; rfl)) ?_) | refine AW.dr (id := 2) 9 ?_ | refine AW.dr (id := 7) 5 ?_ | refine AW.cT ?_ | refine AW.cF ?_ | (refine AW.c2 ?_ ?_ <;> (intro h; try simp only [Bool.not_eq_true', Bool.not_eq_false'] at h)) | refine AW.block ?_ | refine AW.exit ?_ | refine AW.ret ?_)
    | with_reducible refine (if_pos rfl).mpr ?_
    | with_reducible refine (if_neg (by decide)).mpr ?_) <;> (try dsimp only))
  · (repeat' (first | exact Wk.nil | refine Wk.any ?_ | (with_reducible refine Wk.same ?_) | refine Wk.of ?_ ?_)) <;> first | rfl | (simp_all)
  · intro i hi
    have hclP : Clo (.ro 2 (f.points.map TPoint.en)) := clo_list TPoint.clo_en
    have hclS : Clo (.ro 4 ((partsOf f).map TSegment.en)) := clo_list TSegment.clo_en
    have hcle : Clo (.agg f.en) := Clo.agg f.clo_en
    have hpl := partsOf_le f
    by_cases hlt : i < (partsOf f).length
    · obtain ⟨x, hx⟩ : ∃ x, (partsOf f)[i]? = some x := ⟨_, List.getElem?_eq_getElem hlt⟩
      have hg := map_get (f := TSegment.en) hx
      have ht := lt_true (f := TSegment.en) hlt
      have hn := next_ix hlt (by omega)
      have hln := pcTo_len f b i
      rcases pc_cases (b := b) hx with ⟨hm, h1, h2⟩ | ⟨hm, h1, h2⟩
      repeat' ((first
        | ((with_reducible show AL _ _ _ _ _ _ _); first | refine AL.any ?_ | refine AL.any (h := POp.k Try.func52 (hc := inBox_s b (pt0 f))) ?_ | refine AL.any (h := POp.k Try.func53 (hc := meets_s x b)) ?_ | refine AL.U ?_ | refine AL.F ?_ | refine AL.T ?_ | refine AL.T (h := POp.k Try.func52 (hc := inBox_s b (pt0 f))) ?_ | refine AL.T (h := POp.k Try.func53 (hc := meets_s x b)) ?_ | refine AL.W ?_ | refine AL.W (h := fun h => by (try rw [h]); exact POp.k Try.func52 (hc := inBox_s b (pt0 f))) ?_ | refine AL.W (h := fun h => by (try rw [h]); exact POp.k Try.func53 (hc := meets_s x b)) ?_ | refine AL.nil ?_)
        | ((with_reducible show DL _ _ _ _ _ _ _); first | refine DL.any ?_ | refine DL.any (h := POp.k Try.func52 (hc := inBox_s b (pt0 f))) ?_ | refine DL.any (h := POp.k Try.func53 (hc := meets_s x b)) ?_ | refine DL.U ?_ | refine DL.F ?_ | refine DL.T ?_ | refine DL.T (h := POp.k Try.func52 (hc := inBox_s b (pt0 f))) ?_ | refine DL.T (h := POp.k Try.func53 (hc := meets_s x b)) ?_ | refine DL.W ?_ | refine DL.W (h := fun h => by (try rw [h]); exact POp.k Try.func52 (hc := inBox_s b (pt0 f))) ?_ | refine DL.W (h := fun h => by (try rw [h]); exact POp.k Try.func53 (hc := meets_s x b)) ?_ | refine DL.nil ?_)
        | ((with_reducible show AW _ _ _ _ _ _); first | refine AW.seq ?_ | refine AW.region ?_ | refine AW.skip ?_ | refine AW.dr (id := 2) 9 ?_ | refine AW.dr (id := 7) 5 ?_ | refine AW.cT ?_ | refine AW.cF ?_ | (refine AW.c2 ?_ ?_ <;> (intro h; try simp only [Bool.not_eq_true', Bool.not_eq_false'] at h)) | refine AW.block ?_ | refine AW.exit ?_ | refine AW.ret ?_)
        | with_reducible refine (if_pos rfl).mpr ?_
        | with_reducible refine (if_neg (by decide)).mpr ?_) <;> (try dsimp only))
      all_goals first
        | (refine ⟨i + 1, _, hlt, by omega, ?_, by rw [h1, h2] <;> rfl, ?_, ?_⟩; (focus ((repeat' (first | exact Wk.nil | refine Wk.any ?_ | (with_reducible refine Wk.same ?_) | refine Wk.of ?_ ?_)) <;> (simp_all))); (focus ((repeat' (first | exact Fits.nil _ | refine Fits.cons ?_ ?_ | exact Fits.any _ | exact Fits.c _ _ | exact Fits.own (by rfl) | exact Fits.ref (by rfl) | exact Fits.clo (by assumption) | exact Fits.clo (clo_of (by rfl)) | exact Fits.clo (clo_fn _))))); (focus (exact fitsM_cons (clo_one f.clo_en) (fitsM_cons (clo_one b.clo_en) (fitsM_cons (clo_rows TPiece.clo_en) (FitsM.nil _))))))
    · have ht := lt_false (f := TSegment.en) hlt
      have e : i = (partsOf f).length := by omega
      subst e
      try rw [List.take_length]
      repeat' ((first
        | ((with_reducible show AL _ _ _ _ _ _ _); first | refine AL.any ?_ | refine AL.any (h := POp.k Try.func52 (hc := inBox_s b (pt0 f))) ?_ | refine AL.any (h := POp.k Try.func53 (hc := meets_s x b)) ?_ | refine AL.U ?_ | refine AL.F ?_ | refine AL.T ?_ | refine AL.T (h := POp.k Try.func52 (hc := inBox_s b (pt0 f))) ?_ | refine AL.T (h := POp.k Try.func53 (hc := meets_s x b)) ?_ | refine AL.W ?_ | refine AL.W (h := fun h => by (try rw [h]); exact POp.k Try.func52 (hc := inBox_s b (pt0 f))) ?_ | refine AL.W (h := fun h => by (try rw [h]); exact POp.k Try.func53 (hc := meets_s x b)) ?_ | refine AL.nil ?_)
        | ((with_reducible show DL _ _ _ _ _ _ _); first | refine DL.any ?_ | refine DL.any (h := POp.k Try.func52 (hc := inBox_s b (pt0 f))) ?_ | refine DL.any (h := POp.k Try.func53 (hc := meets_s x b)) ?_ | refine DL.U ?_ | refine DL.F ?_ | refine DL.T ?_ | refine DL.T (h := POp.k Try.func52 (hc := inBox_s b (pt0 f))) ?_ | refine DL.T (h := POp.k Try.func53 (hc := meets_s x b)) ?_ | refine DL.W ?_ | refine DL.W (h := fun h => by (try rw [h]); exact POp.k Try.func52 (hc := inBox_s b (pt0 f))) ?_ | refine DL.W (h := fun h => by (try rw [h]); exact POp.k Try.func53 (hc := meets_s x b)) ?_ | refine DL.nil ?_)
        | ((with_reducible show AW _ _ _ _ _ _); first | refine AW.seq ?_ | refine AW.region ?_ | refine AW.skip ?_ | (refine AW.freezeRet (t := 6) (id := 2) rfl rfl rfl rfl (clo_rows TPiece.clo_en) ?_; (try simp only [List.take_length]); try dsimp only [dput, List.set, cond_true, cond_false, Nat.zero_add, Nat.add_zero, Nat.reduceAdd, splice, List.take, List.drop, List.length, List.nil_append, List.cons_append, List.append, TPoint.en, TSegment.en, TBox.en, TFeature.en, TMeet.en, TPlace.en, TCover.en, TLabel.en, TPiece.en, TLevel.en, TChart.en, TReason.en, TEdit.en, TEntry.en, TEdition.en, TListing.en, TAtlas.en, TEvent.en, TWindow.en]) | refine AW.dr (id := 2) 9 ?_ | refine AW.dr (id := 7) 5 ?_ | refine AW.cT ?_ | refine AW.cF ?_ | (refine AW.c2 ?_ ?_ <;> (intro h; try simp only [Bool.not_eq_true', Bool.not_eq_false'] at h)) | refine AW.block ?_ | refine AW.exit ?_ | refine AW.ret ?_)
        | with_reducible refine (if_pos rfl).mpr ?_
        | with_reducible refine (if_neg (by decide)).mpr ?_) <;> (try dsimp only))
      all_goals exact Fin.one rfl (RV.tmp (by rfl)) (clo_list TPiece.clo_en) ⟨rfl, rfl⟩

set_option maxRecDepth 100000 in
set_option maxHeartbeats 2000000 in
theorem pcs_s_t (f : TFeature) (b : TBox) (hgd : f.gd) (hf : isFeat f = true) (hk : (f.kind == 1) = true) (hin : inBoxB b (pt0 f) = true) : VCalls Try.prog 35 [.agg f.en, .ro 4 ((partsOf f).map TSegment.en), .agg b.en] (fun r M => r = .ro 2 ((pcs f b).map TPiece.en) ∧ M = []) := by
  refine VCalls.body Try.func35 rfl 42 rfl (fun E => ?_)
  simp only [List.reduceReplicate, List.cons_append, List.nil_append]
  have hclP : Clo (.ro 2 (f.points.map TPoint.en)) := clo_list TPoint.clo_en
  have hclS : Clo (.ro 4 ((partsOf f).map TSegment.en)) := clo_list TSegment.clo_en
  have hcle : Clo (.agg f.en) := Clo.agg f.clo_en
  have hpl := partsOf_le f
  have hb0 := base_t hk hin
  have hp0 := feat_pt hf hk
  have hcl1 : Clo (.ro 2 (([⟨f.id, 0⟩] : List TPiece).map TPiece.en)) := clo_list TPiece.clo_en
  repeat' ((first
    | ((with_reducible show AL _ _ _ _ _ _ _); first | refine AL.any ?_ | refine AL.any (h := POp.k Try.func52 (hc := inBox_s b (pt0 f))) ?_ | refine AL.U ?_ | refine AL.F ?_ | refine AL.T ?_ | refine AL.T (h := POp.k Try.func52 (hc := inBox_s b (pt0 f))) ?_ | refine AL.W ?_ | refine AL.W (h := fun h => by (try rw [h]); exact POp.k Try.func52 (hc := inBox_s b (pt0 f))) ?_ | refine AL.nil ?_)
    | ((with_reducible show DL _ _ _ _ _ _ _); first | refine DL.any ?_ | refine DL.any (h := POp.k Try.func52 (hc := inBox_s b (pt0 f))) ?_ | refine DL.U ?_ | refine DL.F ?_ | refine DL.T ?_ | refine DL.T (h := POp.k Try.func52 (hc := inBox_s b (pt0 f))) ?_ | refine DL.W ?_ | refine DL.W (h := fun h => by (try rw [h]); exact POp.k Try.func52 (hc := inBox_s b (pt0 f))) ?_ | refine DL.nil ?_)
    | ((with_reducible show AW _ _ _ _ _ _); first | refine AW.seq ?_ | refine AW.region ?_ | refine AW.skip ?_ | (refine AW.freezeRet (t := 6) (id := 3) rfl rfl rfl rfl (clo_rows_b rfl) ?_; (try simp only [List.take_length]); try dsimp only [dput, List.set, cond_true, cond_false, Nat.zero_add, Nat.add_zero, Nat.reduceAdd, splice, List.take, List.drop, List.length, List.nil_append, List.cons_append, List.append, TPoint.en, TSegment.en, TBox.en, TFeature.en, TMeet.en, TPlace.en, TCover.en, TLabel.en, TPiece.en, TLevel.en, TChart.en, TReason.en, TEdit.en, TEntry.en, TEdition.en, TListing.en, TAtlas.en, TEvent.en, TWindow.en]) | refine AW.dr (id := 2) 9 ?_ | refine AW.dr (id := 7) 5 ?_ | refine AW.cT ?_ | refine AW.cF ?_ | (refine AW.c2 ?_ ?_ <;> (intro h; try simp only [Bool.not_eq_true', Bool.not_eq_false'] at h)) | refine AW.block ?_ | refine AW.exit ?_ | refine AW.ret ?_)
    | with_reducible refine (if_pos rfl).mpr ?_
    | with_reducible refine (if_neg (by decide)).mpr ?_) <;> (try dsimp only))
  all_goals exact Fin.one rfl (RV.tmp (by rfl)) hcl1 ⟨by unfold pcs; rw [parts_k1 hk, List.length_nil, base_t hk hin] <;> rfl, rfl⟩

theorem pcs_s (f : TFeature) (b : TBox) (hgd : f.gd) (hf : isFeat f = true) : VCalls Try.prog 35 [.agg f.en, .ro 4 ((partsOf f).map TSegment.en), .agg b.en] (fun r M => r = .ro 2 ((pcs f b).map TPiece.en) ∧ M = []) := by
  cases hk : (f.kind == 1)
  · exact pcs_s_f f b hgd hf hk
  · cases hin : inBoxB b (pt0 f)
    · exact pcs_s_n f b hgd hf hk hin
    · exact pcs_s_t f b hgd hf hk hin
set_option maxRecDepth 100000 in
set_option maxHeartbeats 2000000 in
theorem pcs_i_f (f : TFeature) (b : TBox) (hgd : f.gd) (hf : isFeat f = true) (hk : (f.kind == 1) = false) : VCalls Try.prog 41 [.agg f.en, .agg b.en, B false] (fun r M => r = .ro 2 ((pcs f b).map TPiece.en) ∧ M = []) := by
  refine VCalls.bodyE Try.func41 rfl 51 rfl (fun E hE => ?_)
  simp only [List.reduceReplicate, List.cons_append, List.nil_append]
  have hclP : Clo (.ro 2 (f.points.map TPoint.en)) := clo_list TPoint.clo_en
  have hclS : Clo (.ro 4 ((partsOf f).map TSegment.en)) := clo_list TSegment.clo_en
  have hcle : Clo (.agg f.en) := Clo.agg f.clo_en
  have hpl := partsOf_le f
  have hb0 := base_f (b := b) hk
  repeat' ((first
    | ((with_reducible show AL _ _ _ _ _ _ _); first | refine AL.any ?_ | refine AL.any (h := POp.k Try.func59 (hc := inBox_i b (pt0 f))) ?_ | refine AL.any (h := POp.k Try.func60 (hc := parts_i f (by assumption))) ?_ | refine AL.any (h := POp.k Try.func61 (hc := meets_i x b)) ?_ | refine AL.U ?_ | refine AL.F ?_ | refine AL.T ?_ | refine AL.T (h := POp.k Try.func59 (hc := inBox_i b (pt0 f))) ?_ | refine AL.T (h := POp.k Try.func60 (hc := parts_i f (by assumption))) ?_ | refine AL.T (h := POp.k Try.func61 (hc := meets_i x b)) ?_ | refine AL.W ?_ | refine AL.W (h := fun h => by (try rw [h]); exact POp.k Try.func59 (hc := inBox_i b (pt0 f))) ?_ | refine AL.W (h := fun h => by (try rw [h]); exact POp.k Try.func60 (hc := parts_i f (by assumption))) ?_ | refine AL.W (h := fun h => by (try rw [h]); exact POp.k Try.func61 (hc := meets_i x b)) ?_ | refine AL.nil ?_)
    | ((with_reducible show DL _ _ _ _ _ _ _); first | refine DL.any ?_ | refine DL.any (h := POp.k Try.func59 (hc := inBox_i b (pt0 f))) ?_ | refine DL.any (h := POp.k Try.func60 (hc := parts_i f (by assumption))) ?_ | refine DL.any (h := POp.k Try.func61 (hc := meets_i x b)) ?_ | refine DL.U ?_ | refine DL.F ?_ | refine DL.T ?_ | refine DL.T (h := POp.k Try.func59 (hc := inBox_i b (pt0 f))) ?_ | refine DL.T (h := POp.k Try.func60 (hc := parts_i f (by assumption))) ?_ | refine DL.T (h := POp.k Try.func61 (hc := meets_i x b)) ?_ | refine DL.W ?_ | refine DL.W (h := fun h => by (try rw [h]); exact POp.k Try.func59 (hc := inBox_i b (pt0 f))) ?_ | refine DL.W (h := fun h => by (try rw [h]); exact POp.k Try.func60 (hc := parts_i f (by assumption))) ?_ | refine DL.W (h := fun h => by (try rw [h]); exact POp.k Try.func61 (hc := meets_i x b)) ?_ | refine DL.nil ?_)
    | ((with_reducible show AW _ _ _ _ _ _); first | refine AW.seq ?_ | refine AW.region ?_ | refine AW.skip ?_ | (refine AW.loopX hE (fun i : Nat => [.any, .any, B false, .ref 0 0 5 0 0, .ref 1 0 4 0 0, .any, .any, .own 2 (pcTo f b i).length, .any, .any, .any, .any, .any, .any, .any, .any, .any, .any, .any, .any, .any, .any, .any, .any, .any, .any, .any, .any, .any, .any, .any, .any, .ro 4 ((partsOf f).map TSegment.en), I (((partsOf f).map TSegment.en).length : Int), I (i : Int), .any, .any, .any, .any, .any, .any, .any, .any, .any, .any, .any, .any, .any, .any, .any, .any, .any, .any, .any]) (fun i => [some ⟨52, 5, 0, true, [f.en]⟩, some ⟨72, 4, 0, true, [b.en]⟩, some ⟨92, 2, (pcTo f b i).length, false, (pcTo f b i).map TPiece.en⟩]) (fun i => (partsOf f).length - i) (fun i => i ≤ (partsOf f).length) 0 _ (by simp) ?_ (by first | rfl | (rw [hb0]; rfl)) ?_ ?_ ?_) | refine AW.dr (id := 2) 11 ?_ | refine AW.cT ?_ | refine AW.cF ?_ | (refine AW.c2 ?_ ?_ <;> (intro h; try simp only [Bool.not_eq_true', Bool.not_eq_false'] at h)) | refine AW.block ?_ | refine AW.exit ?_ | refine AW.ret ?_)
    | with_reducible refine (if_pos rfl).mpr ?_
    | with_reducible refine (if_neg (by decide)).mpr ?_) <;> (try dsimp only))
  rotate_left 1
  · (repeat' (first | exact Fits.nil _ | refine Fits.cons ?_ ?_ | exact Fits.any _ | exact Fits.c _ _ | exact Fits.own (by rfl) | exact Fits.ref (by rfl) | exact Fits.clo (by assumption) | exact Fits.clo (clo_of (by rfl)) | exact Fits.clo (clo_fn _)))
  · exact fitsM_cons (clo_one f.clo_en) (fitsM_cons (clo_one b.clo_en) (fitsM_cons (clo_rows TPiece.clo_en) (FitsM.nil _)))
  rotate_right 1
  · (repeat' (first | exact Wk.nil | refine Wk.any ?_ | (with_reducible refine Wk.same ?_) | refine Wk.of ?_ ?_)) <;> first | rfl | (simp_all)
  · intro i hi
    have hclP : Clo (.ro 2 (f.points.map TPoint.en)) := clo_list TPoint.clo_en
    have hclS : Clo (.ro 4 ((partsOf f).map TSegment.en)) := clo_list TSegment.clo_en
    have hcle : Clo (.agg f.en) := Clo.agg f.clo_en
    have hpl := partsOf_le f
    by_cases hlt : i < (partsOf f).length
    · obtain ⟨x, hx⟩ : ∃ x, (partsOf f)[i]? = some x := ⟨_, List.getElem?_eq_getElem hlt⟩
      have hg := map_get (f := TSegment.en) hx
      have ht := lt_true (f := TSegment.en) hlt
      have hn := next_ix hlt (by omega)
      have hln := pcTo_len f b i
      rcases pc_cases (b := b) hx with ⟨hm, h1, h2⟩ | ⟨hm, h1, h2⟩
      repeat' ((first
        | ((with_reducible show AL _ _ _ _ _ _ _); first | refine AL.any ?_ | refine AL.any (h := POp.k Try.func59 (hc := inBox_i b (pt0 f))) ?_ | refine AL.any (h := POp.k Try.func60 (hc := parts_i f (by assumption))) ?_ | refine AL.any (h := POp.k Try.func61 (hc := meets_i x b)) ?_ | refine AL.U ?_ | refine AL.F ?_ | refine AL.T ?_ | refine AL.T (h := POp.k Try.func59 (hc := inBox_i b (pt0 f))) ?_ | refine AL.T (h := POp.k Try.func60 (hc := parts_i f (by assumption))) ?_ | refine AL.T (h := POp.k Try.func61 (hc := meets_i x b)) ?_ | refine AL.W ?_ | refine AL.W (h := fun h => by (try rw [h]); exact POp.k Try.func59 (hc := inBox_i b (pt0 f))) ?_ | refine AL.W (h := fun h => by (try rw [h]); exact POp.k Try.func60 (hc := parts_i f (by assumption))) ?_ | refine AL.W (h := fun h => by (try rw [h]); exact POp.k Try.func61 (hc := meets_i x b)) ?_ | refine AL.nil ?_)
        | ((with_reducible show DL _ _ _ _ _ _ _); first | refine DL.any ?_ | refine DL.any (h := POp.k Try.func59 (hc := inBox_i b (pt0 f))) ?_ | refine DL.any (h := POp.k Try.func60 (hc := parts_i f (by assumption))) ?_ | refine DL.any (h := POp.k Try.func61 (hc := meets_i x b)) ?_ | refine DL.U ?_ | refine DL.F ?_ | refine DL.T ?_ | refine DL.T (h := POp.k Try.func59 (hc := inBox_i b (pt0 f))) ?_ | refine DL.T (h := POp.k Try.func60 (hc := parts_i f (by assumption))) ?_ | refine DL.T (h := POp.k Try.func61 (hc := meets_i x b)) ?_ | refine DL.W ?_ | refine DL.W (h := fun h => by (try rw [h]); exact POp.k Try.func59 (hc := inBox_i b (pt0 f))) ?_ | refine DL.W (h := fun h => by (try rw [h]); exact POp.k Try.func60 (hc := parts_i f (by assumption))) ?_ | refine DL.W (h := fun h => by (try rw [h]); exact POp.k Try.func61 (hc := meets_i x b)) ?_ | refine DL.nil ?_)
        | ((with_reducible show AW _ _ _ _ _ _); first | refine AW.seq ?_ | refine AW.region ?_ | refine AW.skip ?_ | refine AW.dr (id := 2) 11 ?_ | refine AW.cT ?_ | refine AW.cF ?_ | (refine AW.c2 ?_ ?_ <;> (intro h; try simp only [Bool.not_eq_true', Bool.not_eq_false'] at h)) | refine AW.block ?_ | refine AW.exit ?_ | refine AW.ret ?_)
        | with_reducible refine (if_pos rfl).mpr ?_
        | with_reducible refine (if_neg (by decide)).mpr ?_) <;> (try dsimp only))
      all_goals first
        | (refine ⟨i + 1, _, hlt, by omega, ?_, by rw [h1, h2] <;> rfl, ?_, ?_⟩; (focus ((repeat' (first | exact Wk.nil | refine Wk.any ?_ | (with_reducible refine Wk.same ?_) | refine Wk.of ?_ ?_)) <;> (simp_all))); (focus ((repeat' (first | exact Fits.nil _ | refine Fits.cons ?_ ?_ | exact Fits.any _ | exact Fits.c _ _ | exact Fits.own (by rfl) | exact Fits.ref (by rfl) | exact Fits.clo (by assumption) | exact Fits.clo (clo_of (by rfl)) | exact Fits.clo (clo_fn _))))); (focus (exact fitsM_cons (clo_one f.clo_en) (fitsM_cons (clo_one b.clo_en) (fitsM_cons (clo_rows TPiece.clo_en) (FitsM.nil _))))))
    · have ht := lt_false (f := TSegment.en) hlt
      have e : i = (partsOf f).length := by omega
      subst e
      try rw [List.take_length]
      repeat' ((first
        | ((with_reducible show AL _ _ _ _ _ _ _); first | refine AL.any ?_ | refine AL.any (h := POp.k Try.func59 (hc := inBox_i b (pt0 f))) ?_ | refine AL.any (h := POp.k Try.func60 (hc := parts_i f (by assumption))) ?_ | refine AL.any (h := POp.k Try.func61 (hc := meets_i x b)) ?_ | refine AL.U ?_ | refine AL.F ?_ | refine AL.T ?_ | refine AL.T (h := POp.k Try.func59 (hc := inBox_i b (pt0 f))) ?_ | refine AL.T (h := POp.k Try.func60 (hc := parts_i f (by assumption))) ?_ | refine AL.T (h := POp.k Try.func61 (hc := meets_i x b)) ?_ | refine AL.W ?_ | refine AL.W (h := fun h => by (try rw [h]); exact POp.k Try.func59 (hc := inBox_i b (pt0 f))) ?_ | refine AL.W (h := fun h => by (try rw [h]); exact POp.k Try.func60 (hc := parts_i f (by assumption))) ?_ | refine AL.W (h := fun h => by (try rw [h]); exact POp.k Try.func61 (hc := meets_i x b)) ?_ | refine AL.nil ?_)
        | ((with_reducible show DL _ _ _ _ _ _ _); first | refine DL.any ?_ | refine DL.any (h := POp.k Try.func59 (hc := inBox_i b (pt0 f))) ?_ | refine DL.any (h := POp.k Try.func60 (hc := parts_i f (by assumption))) ?_ | refine DL.any (h := POp.k Try.func61 (hc := meets_i x b)) ?_ | refine DL.U ?_ | refine DL.F ?_ | refine DL.T ?_ | refine DL.T (h := POp.k Try.func59 (hc := inBox_i b (pt0 f))) ?_ | refine DL.T (h := POp.k Try.func60 (hc := parts_i f (by assumption))) ?_ | refine DL.T (h := POp.k Try.func61 (hc := meets_i x b)) ?_ | refine DL.W ?_ | refine DL.W (h := fun h => by (try rw [h]); exact POp.k Try.func59 (hc := inBox_i b (pt0 f))) ?_ | refine DL.W (h := fun h => by (try rw [h]); exact POp.k Try.func60 (hc := parts_i f (by assumption))) ?_ | refine DL.W (h := fun h => by (try rw [h]); exact POp.k Try.func61 (hc := meets_i x b)) ?_ | refine DL.nil ?_)
        | ((with_reducible show AW _ _ _ _ _ _); first | refine AW.seq ?_ | refine AW.region ?_ | refine AW.skip ?_ | (refine AW.freezeRet (t := 6) (id := 2) rfl rfl rfl rfl (clo_rows TPiece.clo_en) ?_; (try simp only [List.take_length]); try dsimp only [dput, List.set, cond_true, cond_false, Nat.zero_add, Nat.add_zero, Nat.reduceAdd, splice, List.take, List.drop, List.length, List.nil_append, List.cons_append, List.append, TPoint.en, TSegment.en, TBox.en, TFeature.en, TMeet.en, TPlace.en, TCover.en, TLabel.en, TPiece.en, TLevel.en, TChart.en, TReason.en, TEdit.en, TEntry.en, TEdition.en, TListing.en, TAtlas.en, TEvent.en, TWindow.en]) | refine AW.dr (id := 2) 11 ?_ | refine AW.cT ?_ | refine AW.cF ?_ | (refine AW.c2 ?_ ?_ <;> (intro h; try simp only [Bool.not_eq_true', Bool.not_eq_false'] at h)) | refine AW.block ?_ | refine AW.exit ?_ | refine AW.ret ?_)
        | with_reducible refine (if_pos rfl).mpr ?_
        | with_reducible refine (if_neg (by decide)).mpr ?_) <;> (try dsimp only))
      all_goals exact Fin.one rfl (RV.tmp (by rfl)) (clo_list TPiece.clo_en) ⟨rfl, rfl⟩

set_option maxRecDepth 100000 in
set_option maxHeartbeats 2000000 in
theorem pcs_i_n (f : TFeature) (b : TBox) (hgd : f.gd) (hf : isFeat f = true) (hk : (f.kind == 1) = true) (hin : inBoxB b (pt0 f) = false) : VCalls Try.prog 41 [.agg f.en, .agg b.en, B false] (fun r M => r = .ro 2 ((pcs f b).map TPiece.en) ∧ M = []) := by
  refine VCalls.bodyE Try.func41 rfl 51 rfl (fun E hE => ?_)
  simp only [List.reduceReplicate, List.cons_append, List.nil_append]
  have hclP : Clo (.ro 2 (f.points.map TPoint.en)) := clo_list TPoint.clo_en
  have hclS : Clo (.ro 4 ((partsOf f).map TSegment.en)) := clo_list TSegment.clo_en
  have hcle : Clo (.agg f.en) := Clo.agg f.clo_en
  have hpl := partsOf_le f
  have hb0 := base_n hk hin
  have hp0 := feat_pt hf hk
  repeat' ((first
    | ((with_reducible show AL _ _ _ _ _ _ _); first | refine AL.any ?_ | refine AL.any (h := POp.k Try.func59 (hc := inBox_i b (pt0 f))) ?_ | refine AL.any (h := POp.k Try.func60 (hc := parts_i f (by assumption))) ?_ | refine AL.any (h := POp.k Try.func61 (hc := meets_i x b)) ?_ | refine AL.U ?_ | refine AL.F ?_ | refine AL.T ?_ | refine AL.T (h := POp.k Try.func59 (hc := inBox_i b (pt0 f))) ?_ | refine AL.T (h := POp.k Try.func60 (hc := parts_i f (by assumption))) ?_ | refine AL.T (h := POp.k Try.func61 (hc := meets_i x b)) ?_ | refine AL.W ?_ | refine AL.W (h := fun h => by (try rw [h]); exact POp.k Try.func59 (hc := inBox_i b (pt0 f))) ?_ | refine AL.W (h := fun h => by (try rw [h]); exact POp.k Try.func60 (hc := parts_i f (by assumption))) ?_ | refine AL.W (h := fun h => by (try rw [h]); exact POp.k Try.func61 (hc := meets_i x b)) ?_ | refine AL.nil ?_)
    | ((with_reducible show DL _ _ _ _ _ _ _); first | refine DL.any ?_ | refine DL.any (h := POp.k Try.func59 (hc := inBox_i b (pt0 f))) ?_ | refine DL.any (h := POp.k Try.func60 (hc := parts_i f (by assumption))) ?_ | refine DL.any (h := POp.k Try.func61 (hc := meets_i x b)) ?_ | refine DL.U ?_ | refine DL.F ?_ | refine DL.T ?_ | refine DL.T (h := POp.k Try.func59 (hc := inBox_i b (pt0 f))) ?_ | refine DL.T (h := POp.k Try.func60 (hc := parts_i f (by assumption))) ?_ | refine DL.T (h := POp.k Try.func61 (hc := meets_i x b)) ?_ | refine DL.W ?_ | refine DL.W (h := fun h => by (try rw [h]); exact POp.k Try.func59 (hc := inBox_i b (pt0 f))) ?_ | refine DL.W (h := fun h => by (try rw [h]); exact POp.k Try.func60 (hc := parts_i f (by assumption))) ?_ | refine DL.W (h := fun h => by (try rw [h]); exact POp.k Try.func61 (hc := meets_i x b)) ?_ | refine DL.nil ?_)
    | ((with_reducible show AW _ _ _ _ _ _); first | refine AW.seq ?_ | refine AW.region ?_ | refine AW.skip ?_ | (refine AW.loopX hE (fun i : Nat => [.any, .any, B false, .ref 0 0 5 0 0, .ref 1 0 4 0 0, .any, .any, .own 2 (pcTo f b i).length, .any, .any, .any, .any, .any, .any, .any, .any, .any, .any, .any, .any, .any, .any, .any, .any, .any, .any, .any, .any, .any, .any, .any, .any, .ro 4 ((partsOf f).map TSegment.en), I (((partsOf f).map TSegment.en).length : Int), I (i : Int), .any, .any, .any, .any, .any, .any, .any, .any, .any, .any, .any, .any, .any, .any, .any, .any, .any, .any, .any]) (fun i => [some ⟨52, 5, 0, true, [f.en]⟩, some ⟨72, 4, 0, true, [b.en]⟩, some ⟨92, 2, (pcTo f b i).length, false, (pcTo f b i).map TPiece.en⟩]) (fun i => (partsOf f).length - i) (fun i => i ≤ (partsOf f).length) 0 _ (by simp) ?_ (by first | rfl | (rw [hb0]; rfl)) ?_ ?_ ?_) | refine AW.dr (id := 2) 11 ?_ | refine AW.cT ?_ | refine AW.cF ?_ | (refine AW.c2 ?_ ?_ <;> (intro h; try simp only [Bool.not_eq_true', Bool.not_eq_false'] at h)) | refine AW.block ?_ | refine AW.exit ?_ | refine AW.ret ?_)
    | with_reducible refine (if_pos rfl).mpr ?_
    | with_reducible refine (if_neg (by decide)).mpr ?_) <;> (try dsimp only))
  rotate_left 1
  · (repeat' (first | exact Fits.nil _ | refine Fits.cons ?_ ?_ | exact Fits.any _ | exact Fits.c _ _ | exact Fits.own (by rfl) | exact Fits.ref (by rfl) | exact Fits.clo (by assumption) | exact Fits.clo (clo_of (by rfl)) | exact Fits.clo (clo_fn _)))
  · exact fitsM_cons (clo_one f.clo_en) (fitsM_cons (clo_one b.clo_en) (fitsM_cons (clo_rows TPiece.clo_en) (FitsM.nil _)))
  rotate_right 1
  · (repeat' (first | exact Wk.nil | refine Wk.any ?_ | (with_reducible refine Wk.same ?_) | refine Wk.of ?_ ?_)) <;> first | rfl | (simp_all)
  · intro i hi
    have hclP : Clo (.ro 2 (f.points.map TPoint.en)) := clo_list TPoint.clo_en
    have hclS : Clo (.ro 4 ((partsOf f).map TSegment.en)) := clo_list TSegment.clo_en
    have hcle : Clo (.agg f.en) := Clo.agg f.clo_en
    have hpl := partsOf_le f
    by_cases hlt : i < (partsOf f).length
    · obtain ⟨x, hx⟩ : ∃ x, (partsOf f)[i]? = some x := ⟨_, List.getElem?_eq_getElem hlt⟩
      have hg := map_get (f := TSegment.en) hx
      have ht := lt_true (f := TSegment.en) hlt
      have hn := next_ix hlt (by omega)
      have hln := pcTo_len f b i
      rcases pc_cases (b := b) hx with ⟨hm, h1, h2⟩ | ⟨hm, h1, h2⟩
      repeat' ((first
        | ((with_reducible show AL _ _ _ _ _ _ _); first | refine AL.any ?_ | refine AL.any (h := POp.k Try.func59 (hc := inBox_i b (pt0 f))) ?_ | refine AL.any (h := POp.k Try.func60 (hc := parts_i f (by assumption))) ?_ | refine AL.any (h := POp.k Try.func61 (hc := meets_i x b)) ?_ | refine AL.U ?_ | refine AL.F ?_ | refine AL.T ?_ | refine AL.T (h := POp.k Try.func59 (hc := inBox_i b (pt0 f))) ?_ | refine AL.T (h := POp.k Try.func60 (hc := parts_i f (by assumption))) ?_ | refine AL.T (h := POp.k Try.func61 (hc := meets_i x b)) ?_ | refine AL.W ?_ | refine AL.W (h := fun h => by (try rw [h]); exact POp.k Try.func59 (hc := inBox_i b (pt0 f))) ?_ | refine AL.W (h := fun h => by (try rw [h]); exact POp.k Try.func60 (hc := parts_i f (by assumption))) ?_ | refine AL.W (h := fun h => by (try rw [h]); exact POp.k Try.func61 (hc := meets_i x b)) ?_ | refine AL.nil ?_)
        | ((with_reducible show DL _ _ _ _ _ _ _); first | refine DL.any ?_ | refine DL.any (h := POp.k Try.func59 (hc := inBox_i b (pt0 f))) ?_ | refine DL.any (h := POp.k Try.func60 (hc := parts_i f (by assumption))) ?_ | refine DL.any (h := POp.k Try.func61 (hc := meets_i x b)) ?_ | refine DL.U ?_ | refine DL.F ?_ | refine DL.T ?_ | refine DL.T (h := POp.k Try.func59 (hc := inBox_i b (pt0 f))) ?_ | refine DL.T (h := POp.k Try.func60 (hc := parts_i f (by assumption))) ?_ | refine DL.T (h := POp.k Try.func61 (hc := meets_i x b)) ?_ | refine DL.W ?_ | refine DL.W (h := fun h => by (try rw [h]); exact POp.k Try.func59 (hc := inBox_i b (pt0 f))) ?_ | refine DL.W (h := fun h => by (try rw [h]); exact POp.k Try.func60 (hc := parts_i f (by assumption))) ?_ | refine DL.W (h := fun h => by (try rw [h]); exact POp.k Try.func61 (hc := meets_i x b)) ?_ | refine DL.nil ?_)
        | ((with_reducible show AW _ _ _ _ _ _); first | refine AW.seq ?_ | refine AW.region ?_ | refine AW.skip ?_ | refine AW.dr (id := 2) 11 ?_ | refine AW.cT ?_ | refine AW.cF ?_ | (refine AW.c2 ?_ ?_ <;> (intro h; try simp only [Bool.not_eq_true', Bool.not_eq_false'] at h)) | refine AW.block ?_ | refine AW.exit ?_ | refine AW.ret ?_)
        | with_reducible refine (if_pos rfl).mpr ?_
        | with_reducible refine (if_neg (by decide)).mpr ?_) <;> (try dsimp only))
      all_goals first
        | (refine ⟨i + 1, _, hlt, by omega, ?_, by rw [h1, h2] <;> rfl, ?_, ?_⟩; (focus ((repeat' (first | exact Wk.nil | refine Wk.any ?_ | (with_reducible refine Wk.same ?_) | refine Wk.of ?_ ?_)) <;> (simp_all))); (focus ((repeat' (first | exact Fits.nil _ | refine Fits.cons ?_ ?_ | exact Fits.any _ | exact Fits.c _ _ | exact Fits.own (by rfl) | exact Fits.ref (by rfl) | exact Fits.clo (by assumption) | exact Fits.clo (clo_of (by rfl)) | exact Fits.clo (clo_fn _))))); (focus (exact fitsM_cons (clo_one f.clo_en) (fitsM_cons (clo_one b.clo_en) (fitsM_cons (clo_rows TPiece.clo_en) (FitsM.nil _))))))
    · have ht := lt_false (f := TSegment.en) hlt
      have e : i = (partsOf f).length := by omega
      subst e
      try rw [List.take_length]
      repeat' ((first
        | ((with_reducible show AL _ _ _ _ _ _ _); first | refine AL.any ?_ | refine AL.any (h := POp.k Try.func59 (hc := inBox_i b (pt0 f))) ?_ | refine AL.any (h := POp.k Try.func60 (hc := parts_i f (by assumption))) ?_ | refine AL.any (h := POp.k Try.func61 (hc := meets_i x b)) ?_ | refine AL.U ?_ | refine AL.F ?_ | refine AL.T ?_ | refine AL.T (h := POp.k Try.func59 (hc := inBox_i b (pt0 f))) ?_ | refine AL.T (h := POp.k Try.func60 (hc := parts_i f (by assumption))) ?_ | refine AL.T (h := POp.k Try.func61 (hc := meets_i x b)) ?_ | refine AL.W ?_ | refine AL.W (h := fun h => by (try rw [h]); exact POp.k Try.func59 (hc := inBox_i b (pt0 f))) ?_ | refine AL.W (h := fun h => by (try rw [h]); exact POp.k Try.func60 (hc := parts_i f (by assumption))) ?_ | refine AL.W (h := fun h => by (try rw [h]); exact POp.k Try.func61 (hc := meets_i x b)) ?_ | refine AL.nil ?_)
        | ((with_reducible show DL _ _ _ _ _ _ _); first | refine DL.any ?_ | refine DL.any (h := POp.k Try.func59 (hc := inBox_i b (pt0 f))) ?_ | refine DL.any (h := POp.k Try.func60 (hc := parts_i f (by assumption))) ?_ | refine DL.any (h := POp.k Try.func61 (hc := meets_i x b)) ?_ | refine DL.U ?_ | refine DL.F ?_ | refine DL.T ?_ | refine DL.T (h := POp.k Try.func59 (hc := inBox_i b (pt0 f))) ?_ | refine DL.T (h := POp.k Try.func60 (hc := parts_i f (by assumption))) ?_ | refine DL.T (h := POp.k Try.func61 (hc := meets_i x b)) ?_ | refine DL.W ?_ | refine DL.W (h := fun h => by (try rw [h]); exact POp.k Try.func59 (hc := inBox_i b (pt0 f))) ?_ | refine DL.W (h := fun h => by (try rw [h]); exact POp.k Try.func60 (hc := parts_i f (by assumption))) ?_ | refine DL.W (h := fun h => by (try rw [h]); exact POp.k Try.func61 (hc := meets_i x b)) ?_ | refine DL.nil ?_)
        | ((with_reducible show AW _ _ _ _ _ _); first | refine AW.seq ?_ | refine AW.region ?_ | refine AW.skip ?_ | (refine AW.freezeRet (t := 6) (id := 2) rfl rfl rfl rfl (clo_rows TPiece.clo_en) ?_; (try simp only [List.take_length]); try dsimp only [dput, List.set, cond_true, cond_false, Nat.zero_add, Nat.add_zero, Nat.reduceAdd, splice, List.take, List.drop, List.length, List.nil_append, List.cons_append, List.append, TPoint.en, TSegment.en, TBox.en, TFeature.en, TMeet.en, TPlace.en, TCover.en, TLabel.en, TPiece.en, TLevel.en, TChart.en, TReason.en, TEdit.en, TEntry.en, TEdition.en, TListing.en, TAtlas.en, TEvent.en, TWindow.en]) | refine AW.dr (id := 2) 11 ?_ | refine AW.cT ?_ | refine AW.cF ?_ | (refine AW.c2 ?_ ?_ <;> (intro h; try simp only [Bool.not_eq_true', Bool.not_eq_false'] at h)) | refine AW.block ?_ | refine AW.exit ?_ | refine AW.ret ?_)
        | with_reducible refine (if_pos rfl).mpr ?_
        | with_reducible refine (if_neg (by decide)).mpr ?_) <;> (try dsimp only))
      all_goals exact Fin.one rfl (RV.tmp (by rfl)) (clo_list TPiece.clo_en) ⟨rfl, rfl⟩

set_option maxRecDepth 100000 in
set_option maxHeartbeats 2000000 in
theorem pcs_i_t (f : TFeature) (b : TBox) (hgd : f.gd) (hf : isFeat f = true) (hk : (f.kind == 1) = true) (hin : inBoxB b (pt0 f) = true) : VCalls Try.prog 41 [.agg f.en, .agg b.en, B false] (fun r M => r = .ro 2 ((pcs f b).map TPiece.en) ∧ M = []) := by
  refine VCalls.bodyE Try.func41 rfl 51 rfl (fun E hE => ?_)
  simp only [List.reduceReplicate, List.cons_append, List.nil_append]
  have hclP : Clo (.ro 2 (f.points.map TPoint.en)) := clo_list TPoint.clo_en
  have hclS : Clo (.ro 4 ((partsOf f).map TSegment.en)) := clo_list TSegment.clo_en
  have hcle : Clo (.agg f.en) := Clo.agg f.clo_en
  have hpl := partsOf_le f
  have hb0 := base_t hk hin
  have hp0 := feat_pt hf hk
  repeat' ((first
    | ((with_reducible show AL _ _ _ _ _ _ _); first | refine AL.any ?_ | refine AL.any (h := POp.k Try.func59 (hc := inBox_i b (pt0 f))) ?_ | refine AL.any (h := POp.k Try.func60 (hc := parts_i f (by assumption))) ?_ | refine AL.any (h := POp.k Try.func61 (hc := meets_i x b)) ?_ | refine AL.U ?_ | refine AL.F ?_ | refine AL.T ?_ | refine AL.T (h := POp.k Try.func59 (hc := inBox_i b (pt0 f))) ?_ | refine AL.T (h := POp.k Try.func60 (hc := parts_i f (by assumption))) ?_ | refine AL.T (h := POp.k Try.func61 (hc := meets_i x b)) ?_ | refine AL.W ?_ | refine AL.W (h := fun h => by (try rw [h]); exact POp.k Try.func59 (hc := inBox_i b (pt0 f))) ?_ | refine AL.W (h := fun h => by (try rw [h]); exact POp.k Try.func60 (hc := parts_i f (by assumption))) ?_ | refine AL.W (h := fun h => by (try rw [h]); exact POp.k Try.func61 (hc := meets_i x b)) ?_ | refine AL.nil ?_)
    | ((with_reducible show DL _ _ _ _ _ _ _); first | refine DL.any ?_ | refine DL.any (h := POp.k Try.func59 (hc := inBox_i b (pt0 f))) ?_ | refine DL.any (h := POp.k Try.func60 (hc := parts_i f (by assumption))) ?_ | refine DL.any (h := POp.k Try.func61 (hc := meets_i x b)) ?_ | refine DL.U ?_ | refine DL.F ?_ | refine DL.T ?_ | refine DL.T (h := POp.k Try.func59 (hc := inBox_i b (pt0 f))) ?_ | refine DL.T (h := POp.k Try.func60 (hc := parts_i f (by assumption))) ?_ | refine DL.T (h := POp.k Try.func61 (hc := meets_i x b)) ?_ | refine DL.W ?_ | refine DL.W (h := fun h => by (try rw [h]); exact POp.k Try.func59 (hc := inBox_i b (pt0 f))) ?_ | refine DL.W (h := fun h => by (try rw [h]); exact POp.k Try.func60 (hc := parts_i f (by assumption))) ?_ | refine DL.W (h := fun h => by (try rw [h]); exact POp.k Try.func61 (hc := meets_i x b)) ?_ | refine DL.nil ?_)
    | ((with_reducible show AW _ _ _ _ _ _); first | refine AW.seq ?_ | refine AW.region ?_ | refine AW.skip ?_ | (refine AW.loopX hE (fun i : Nat => [.any, .any, B false, .ref 0 0 5 0 0, .ref 1 0 4 0 0, .any, .any, .own 2 (pcTo f b i).length, .any, .any, .any, .any, .any, .any, .any, .any, .any, .any, .any, .any, .any, .any, .any, .any, .any, .any, .any, .any, .any, .any, .any, .any, .ro 4 ((partsOf f).map TSegment.en), I (((partsOf f).map TSegment.en).length : Int), I (i : Int), .any, .any, .any, .any, .any, .any, .any, .any, .any, .any, .any, .any, .any, .any, .any, .any, .any, .any, .any]) (fun i => [some ⟨52, 5, 0, true, [f.en]⟩, some ⟨72, 4, 0, true, [b.en]⟩, some ⟨92, 2, (pcTo f b i).length, false, (pcTo f b i).map TPiece.en⟩]) (fun i => (partsOf f).length - i) (fun i => i ≤ (partsOf f).length) 0 _ (by simp) ?_ (by first | rfl | (rw [hb0]; rfl)) ?_ ?_ ?_) | refine AW.dr (id := 2) 11 ?_ | refine AW.cT ?_ | refine AW.cF ?_ | (refine AW.c2 ?_ ?_ <;> (intro h; try simp only [Bool.not_eq_true', Bool.not_eq_false'] at h)) | refine AW.block ?_ | refine AW.exit ?_ | refine AW.ret ?_)
    | with_reducible refine (if_pos rfl).mpr ?_
    | with_reducible refine (if_neg (by decide)).mpr ?_) <;> (try dsimp only))
  rotate_left 1
  · (repeat' (first | exact Fits.nil _ | refine Fits.cons ?_ ?_ | exact Fits.any _ | exact Fits.c _ _ | exact Fits.own (by rfl) | exact Fits.ref (by rfl) | exact Fits.clo (by assumption) | exact Fits.clo (clo_of (by rfl)) | exact Fits.clo (clo_fn _)))
  · exact fitsM_cons (clo_one f.clo_en) (fitsM_cons (clo_one b.clo_en) (fitsM_cons (clo_rows TPiece.clo_en) (FitsM.nil _)))
  rotate_right 1
  · (repeat' (first | exact Wk.nil | refine Wk.any ?_ | (with_reducible refine Wk.same ?_) | refine Wk.of ?_ ?_)) <;> first | rfl | (simp_all)
  · intro i hi
    have hclP : Clo (.ro 2 (f.points.map TPoint.en)) := clo_list TPoint.clo_en
    have hclS : Clo (.ro 4 ((partsOf f).map TSegment.en)) := clo_list TSegment.clo_en
    have hcle : Clo (.agg f.en) := Clo.agg f.clo_en
    have hpl := partsOf_le f
    by_cases hlt : i < (partsOf f).length
    · obtain ⟨x, hx⟩ : ∃ x, (partsOf f)[i]? = some x := ⟨_, List.getElem?_eq_getElem hlt⟩
      have hg := map_get (f := TSegment.en) hx
      have ht := lt_true (f := TSegment.en) hlt
      have hn := next_ix hlt (by omega)
      have hln := pcTo_len f b i
      rcases pc_cases (b := b) hx with ⟨hm, h1, h2⟩ | ⟨hm, h1, h2⟩
      repeat' ((first
        | ((with_reducible show AL _ _ _ _ _ _ _); first | refine AL.any ?_ | refine AL.any (h := POp.k Try.func59 (hc := inBox_i b (pt0 f))) ?_ | refine AL.any (h := POp.k Try.func60 (hc := parts_i f (by assumption))) ?_ | refine AL.any (h := POp.k Try.func61 (hc := meets_i x b)) ?_ | refine AL.U ?_ | refine AL.F ?_ | refine AL.T ?_ | refine AL.T (h := POp.k Try.func59 (hc := inBox_i b (pt0 f))) ?_ | refine AL.T (h := POp.k Try.func60 (hc := parts_i f (by assumption))) ?_ | refine AL.T (h := POp.k Try.func61 (hc := meets_i x b)) ?_ | refine AL.W ?_ | refine AL.W (h := fun h => by (try rw [h]); exact POp.k Try.func59 (hc := inBox_i b (pt0 f))) ?_ | refine AL.W (h := fun h => by (try rw [h]); exact POp.k Try.func60 (hc := parts_i f (by assumption))) ?_ | refine AL.W (h := fun h => by (try rw [h]); exact POp.k Try.func61 (hc := meets_i x b)) ?_ | refine AL.nil ?_)
        | ((with_reducible show DL _ _ _ _ _ _ _); first | refine DL.any ?_ | refine DL.any (h := POp.k Try.func59 (hc := inBox_i b (pt0 f))) ?_ | refine DL.any (h := POp.k Try.func60 (hc := parts_i f (by assumption))) ?_ | refine DL.any (h := POp.k Try.func61 (hc := meets_i x b)) ?_ | refine DL.U ?_ | refine DL.F ?_ | refine DL.T ?_ | refine DL.T (h := POp.k Try.func59 (hc := inBox_i b (pt0 f))) ?_ | refine DL.T (h := POp.k Try.func60 (hc := parts_i f (by assumption))) ?_ | refine DL.T (h := POp.k Try.func61 (hc := meets_i x b)) ?_ | refine DL.W ?_ | refine DL.W (h := fun h => by (try rw [h]); exact POp.k Try.func59 (hc := inBox_i b (pt0 f))) ?_ | refine DL.W (h := fun h => by (try rw [h]); exact POp.k Try.func60 (hc := parts_i f (by assumption))) ?_ | refine DL.W (h := fun h => by (try rw [h]); exact POp.k Try.func61 (hc := meets_i x b)) ?_ | refine DL.nil ?_)
        | ((with_reducible show AW _ _ _ _ _ _); first | refine AW.seq ?_ | refine AW.region ?_ | refine AW.skip ?_ | refine AW.dr (id := 2) 11 ?_ | refine AW.cT ?_ | refine AW.cF ?_ | (refine AW.c2 ?_ ?_ <;> (intro h; try simp only [Bool.not_eq_true', Bool.not_eq_false'] at h)) | refine AW.block ?_ | refine AW.exit ?_ | refine AW.ret ?_)
        | with_reducible refine (if_pos rfl).mpr ?_
        | with_reducible refine (if_neg (by decide)).mpr ?_) <;> (try dsimp only))
      all_goals first
        | (refine ⟨i + 1, _, hlt, by omega, ?_, by rw [h1, h2] <;> rfl, ?_, ?_⟩; (focus ((repeat' (first | exact Wk.nil | refine Wk.any ?_ | (with_reducible refine Wk.same ?_) | refine Wk.of ?_ ?_)) <;> (simp_all))); (focus ((repeat' (first | exact Fits.nil _ | refine Fits.cons ?_ ?_ | exact Fits.any _ | exact Fits.c _ _ | exact Fits.own (by rfl) | exact Fits.ref (by rfl) | exact Fits.clo (by assumption) | exact Fits.clo (clo_of (by rfl)) | exact Fits.clo (clo_fn _))))); (focus (exact fitsM_cons (clo_one f.clo_en) (fitsM_cons (clo_one b.clo_en) (fitsM_cons (clo_rows TPiece.clo_en) (FitsM.nil _))))))
    · have ht := lt_false (f := TSegment.en) hlt
      have e : i = (partsOf f).length := by omega
      subst e
      try rw [List.take_length]
      repeat' ((first
        | ((with_reducible show AL _ _ _ _ _ _ _); first | refine AL.any ?_ | refine AL.any (h := POp.k Try.func59 (hc := inBox_i b (pt0 f))) ?_ | refine AL.any (h := POp.k Try.func60 (hc := parts_i f (by assumption))) ?_ | refine AL.any (h := POp.k Try.func61 (hc := meets_i x b)) ?_ | refine AL.U ?_ | refine AL.F ?_ | refine AL.T ?_ | refine AL.T (h := POp.k Try.func59 (hc := inBox_i b (pt0 f))) ?_ | refine AL.T (h := POp.k Try.func60 (hc := parts_i f (by assumption))) ?_ | refine AL.T (h := POp.k Try.func61 (hc := meets_i x b)) ?_ | refine AL.W ?_ | refine AL.W (h := fun h => by (try rw [h]); exact POp.k Try.func59 (hc := inBox_i b (pt0 f))) ?_ | refine AL.W (h := fun h => by (try rw [h]); exact POp.k Try.func60 (hc := parts_i f (by assumption))) ?_ | refine AL.W (h := fun h => by (try rw [h]); exact POp.k Try.func61 (hc := meets_i x b)) ?_ | refine AL.nil ?_)
        | ((with_reducible show DL _ _ _ _ _ _ _); first | refine DL.any ?_ | refine DL.any (h := POp.k Try.func59 (hc := inBox_i b (pt0 f))) ?_ | refine DL.any (h := POp.k Try.func60 (hc := parts_i f (by assumption))) ?_ | refine DL.any (h := POp.k Try.func61 (hc := meets_i x b)) ?_ | refine DL.U ?_ | refine DL.F ?_ | refine DL.T ?_ | refine DL.T (h := POp.k Try.func59 (hc := inBox_i b (pt0 f))) ?_ | refine DL.T (h := POp.k Try.func60 (hc := parts_i f (by assumption))) ?_ | refine DL.T (h := POp.k Try.func61 (hc := meets_i x b)) ?_ | refine DL.W ?_ | refine DL.W (h := fun h => by (try rw [h]); exact POp.k Try.func59 (hc := inBox_i b (pt0 f))) ?_ | refine DL.W (h := fun h => by (try rw [h]); exact POp.k Try.func60 (hc := parts_i f (by assumption))) ?_ | refine DL.W (h := fun h => by (try rw [h]); exact POp.k Try.func61 (hc := meets_i x b)) ?_ | refine DL.nil ?_)
        | ((with_reducible show AW _ _ _ _ _ _); first | refine AW.seq ?_ | refine AW.region ?_ | refine AW.skip ?_ | (refine AW.freezeRet (t := 6) (id := 2) rfl rfl rfl rfl (clo_rows TPiece.clo_en) ?_; (try simp only [List.take_length]); try dsimp only [dput, List.set, cond_true, cond_false, Nat.zero_add, Nat.add_zero, Nat.reduceAdd, splice, List.take, List.drop, List.length, List.nil_append, List.cons_append, List.append, TPoint.en, TSegment.en, TBox.en, TFeature.en, TMeet.en, TPlace.en, TCover.en, TLabel.en, TPiece.en, TLevel.en, TChart.en, TReason.en, TEdit.en, TEntry.en, TEdition.en, TListing.en, TAtlas.en, TEvent.en, TWindow.en]) | refine AW.dr (id := 2) 11 ?_ | refine AW.cT ?_ | refine AW.cF ?_ | (refine AW.c2 ?_ ?_ <;> (intro h; try simp only [Bool.not_eq_true', Bool.not_eq_false'] at h)) | refine AW.block ?_ | refine AW.exit ?_ | refine AW.ret ?_)
        | with_reducible refine (if_pos rfl).mpr ?_
        | with_reducible refine (if_neg (by decide)).mpr ?_) <;> (try dsimp only))
      all_goals exact Fin.one rfl (RV.tmp (by rfl)) (clo_list TPiece.clo_en) ⟨rfl, rfl⟩

theorem pcs_i (f : TFeature) (b : TBox) (hgd : f.gd) (hf : isFeat f = true) : VCalls Try.prog 41 [.agg f.en, .agg b.en, B false] (fun r M => r = .ro 2 ((pcs f b).map TPiece.en) ∧ M = []) := by
  cases hk : (f.kind == 1)
  · exact pcs_i_f f b hgd hf hk
  · cases hin : inBoxB b (pt0 f)
    · exact pcs_i_n f b hgd hf hk hin
    · exact pcs_i_t f b hgd hf hk hin
end Go.Proofs.Ytacbpfbelcdeiaa.Abs

/- The walks of SeenIds. -/
namespace Go.Proofs.Ytacbpfbelcdeiaa.Abs
open Go.Proofs Go.RowKit
set_option linter.unusedVariables false
set_option linter.unusedSimpArgs false
attribute [local irreducible] OpA AL AW DL DLM DLR DLS QOp POp VCalls VCallsI
def isWin (w : TWindow) : Bool := isp w.low.x w.low.y && inr w.side 1 200 && decide (wadd w.low.x w.side ≤ 200) && decide (wadd w.low.y w.side ≤ 200) && inr w.level 0 4
def winBox (w : TWindow) : TBox := ⟨w.low, ⟨wadd w.low.x w.side, wadd w.low.y w.side⟩⟩
def seenP (w : TWindow) (f : TFeature) : Bool := decide ((((pcs f (winBox w)).map TPiece.en).length : Int) > 0)
def seenTo (l : List TFeature) (w : TWindow) (i : Nat) : List Int := ((l.take i).filter (seenP w)).map (·.id)
def nSeen (l : List TFeature) (w : TWindow) : Nat := if (isSource l && isWin w) = true then l.length else 0
def seenOf (l : List TFeature) (w : TWindow) : List Int := seenTo l w (nSeen l w)
theorem seenTo_len (l : List TFeature) (w : TWindow) (i : Nat) : (seenTo l w i).length ≤ l.length := by
  unfold seenTo
  rw [List.length_map]
  exact Nat.le_trans (List.length_filter_le ..) (by rw [List.length_take]; omega)
theorem seen_cases {l : List TFeature} {w : TWindow} {i : Nat} {x : TFeature} (h : l[i]? = some x) :
    (seenP w x = true ∧ (seenTo l w (i + 1)).map enI0 = (seenTo l w i).map enI0 ++ [[I x.id]] ∧ (seenTo l w (i + 1)).length = (seenTo l w i).length + 1) ∨
    (seenP w x = false ∧ (seenTo l w (i + 1)).map enI0 = (seenTo l w i).map enI0 ∧ (seenTo l w (i + 1)).length = (seenTo l w i).length) := by
  unfold seenTo
  rw [take_succ_of h, List.filter_append]
  cases hp : seenP w x
  · exact .inr ⟨rfl, by simp [hp], by simp [hp]⟩
  · exact .inl ⟨rfl, by simp [hp], by simp [hp]⟩
theorem seenOf_f {l : List TFeature} {w : TWindow} (h : (isSource l && isWin w) = false) : seenOf l w = [] := by rw [seenOf, nSeen, h]; rfl
theorem seenOf_t {l : List TFeature} {w : TWindow} (h : (isSource l && isWin w) = true) : seenOf l w = seenTo l w l.length := by rw [seenOf, nSeen, if_pos h]
theorem nSeen_le (l : List TFeature) (w : TWindow) : nSeen l w ≤ l.length := by unfold nSeen; split <;> omega
theorem nSeen_t {l : List TFeature} {w : TWindow} {i : Nat} (h : i < nSeen l w) : isSource l = true ∧ isWin w = true ∧ nSeen l w = l.length := by
  unfold nSeen at h ⊢
  by_cases e : (isSource l && isWin w) = true
  · rw [if_pos e]
    rw [Bool.and_eq_true] at e
    exact ⟨e.1, e.2, rfl⟩
  · rw [if_neg e] at h
    omega
theorem nSeen_end {l : List TFeature} {w : TWindow} : (decide (((nSeen l w : Nat) : Int) < ((l.map TFeature.en).length : Int)) && isSource l && isWin w) = false := by
  unfold nSeen
  cases hs : isSource l <;> cases hw : isWin w <;> simp
theorem ctL_bd {α : Type} {ct : α → Nat} {c : Nat} : ∀ {l : List α}, (∀ x ∈ l, ct x ≤ c) → ctL ct l ≤ l.length * c
  | [], _ => by simp [ctL]
  | x :: l, h => by
    rw [ctL, List.length_cons, Nat.add_mul]
    have h1 := h x List.mem_cons_self
    have h2 := ctL_bd (ct := ct) (c := c) (l := l) (fun y hy => h y (List.mem_cons_of_mem _ hy))
    omega
theorem ictL : ∀ (l : List Int), ctL ict l = l.length
  | [] => rfl
  | x :: l => by rw [ctL, ictL l, List.length_cons, ict]; omega
theorem ctL_pt (l : List TPoint) : ctL TPoint.ct l ≤ l.length * 2 := ctL_bd fun _ _ => Nat.le_refl 2
theorem ctL_ft {l : List TFeature} (hl : l.length ≤ 1048576) (hp : ∀ x ∈ l, x.points.length ≤ 1048576) : ctL TFeature.ct l ≤ 2199027449856 := by
  have h := ctL_bd (ct := TFeature.ct) (c := 2097156) (l := l) fun x hx => by
    have h1 := ctL_pt x.points
    have h2 := hp x hx
    unfold TFeature.ct
    omega
  omega

set_option maxRecDepth 100000 in
set_option maxHeartbeats 2000000 in
theorem isWin_s (v : TWindow) : VCalls Try.prog 34 [.agg v.en] (fun r M => r = B (isWin v) ∧ M = []) := by
  refine VCalls.body Try.func34 rfl 33 rfl (fun E => ?_)
  simp only [List.reduceReplicate, List.cons_append, List.nil_append]
  dsimp only [TWindow.en]
  repeat' ((first
    | ((with_reducible show AL _ _ _ _ _ _ _); first | refine AL.any ?_ | refine AL.any (h := POp.k Try.func50 (hc := by first | exact isp_s_t _ _ (by assumption) | exact isp_s_f _ _ (by assumption) | exact isp_s _ _)) ?_ | refine AL.any (h := POp.k Try.func51 (hc := inr_s _ _ _)) ?_ | refine AL.U ?_ | refine AL.F ?_ | refine AL.T ?_ | refine AL.T (h := POp.k Try.func50 (hc := by first | exact isp_s_t _ _ (by assumption) | exact isp_s_f _ _ (by assumption) | exact isp_s _ _)) ?_ | refine AL.T (h := POp.k Try.func51 (hc := inr_s _ _ _)) ?_ | refine AL.W ?_ | refine AL.W (h := fun h => by (try rw [h]); exact POp.k Try.func50 (hc := by first | exact isp_s_t _ _ (by assumption) | exact isp_s_f _ _ (by assumption) | exact isp_s _ _)) ?_ | refine AL.W (h := fun h => by (try rw [h]); exact POp.k Try.func51 (hc := inr_s _ _ _)) ?_ | refine AL.nil ?_)
    | ((with_reducible show AW _ _ _ _ _ _); first | refine AW.seq ?_ | refine AW.region ?_ | refine AW.skip ?_ | refine AW.block ?_ | refine AW.exit ?_ | refine AW.ret ?_)
    | with_reducible refine (if_pos rfl).mpr ?_
    | with_reducible refine (if_neg (by decide)).mpr ?_) <;> (try dsimp only))
  all_goals exact Fin.one rfl (RV.tmp (by rfl)) (clo_c _) ⟨by first | rfl | (simp only [isWin, Bool.and_assoc]; done), rfl⟩

set_option maxRecDepth 100000 in
set_option maxHeartbeats 2000000 in
theorem isWin_i (v : TWindow) : VCalls Try.prog 40 [.agg v.en] (fun r M => r = B (isWin v) ∧ M = []) := by
  refine VCalls.body Try.func40 rfl 33 rfl (fun E => ?_)
  simp only [List.reduceReplicate, List.cons_append, List.nil_append]
  dsimp only [TWindow.en]
  repeat' ((first
    | ((with_reducible show AL _ _ _ _ _ _ _); first | refine AL.any ?_ | refine AL.any (h := POp.k Try.func57 (hc := by first | exact isp_v_t _ _ (by assumption) | exact isp_v_f _ _ (by assumption) | exact isp_v _ _)) ?_ | refine AL.any (h := POp.k Try.func58 (hc := inr_v _ _ _)) ?_ | refine AL.U ?_ | refine AL.F ?_ | refine AL.T ?_ | refine AL.T (h := POp.k Try.func57 (hc := by first | exact isp_v_t _ _ (by assumption) | exact isp_v_f _ _ (by assumption) | exact isp_v _ _)) ?_ | refine AL.T (h := POp.k Try.func58 (hc := inr_v _ _ _)) ?_ | refine AL.W ?_ | refine AL.W (h := fun h => by (try rw [h]); exact POp.k Try.func57 (hc := by first | exact isp_v_t _ _ (by assumption) | exact isp_v_f _ _ (by assumption) | exact isp_v _ _)) ?_ | refine AL.W (h := fun h => by (try rw [h]); exact POp.k Try.func58 (hc := inr_v _ _ _)) ?_ | refine AL.nil ?_)
    | ((with_reducible show AW _ _ _ _ _ _); first | refine AW.seq ?_ | refine AW.region ?_ | refine AW.skip ?_ | refine AW.block ?_ | refine AW.exit ?_ | refine AW.ret ?_)
    | with_reducible refine (if_pos rfl).mpr ?_
    | with_reducible refine (if_neg (by decide)).mpr ?_) <;> (try dsimp only))
  all_goals exact Fin.one rfl (RV.tmp (by rfl)) (clo_c _) ⟨by first | rfl | (simp only [isWin, Bool.and_assoc]; done), rfl⟩

set_option maxRecDepth 100000 in
set_option maxHeartbeats 2000000 in
theorem winBox_s (v : TWindow) : VCalls Try.prog 37 [.agg v.en] (fun r M => r = .agg (winBox v).en ∧ M = []) := by
  refine VCalls.body Try.func37 rfl 18 rfl (fun E => ?_)
  simp only [List.reduceReplicate, List.cons_append, List.nil_append]
  dsimp only [TWindow.en]
  repeat' ((first
    | ((with_reducible show AL _ _ _ _ _ _ _); first | refine AL.any ?_ | refine AL.nil ?_)
    | ((with_reducible show AW _ _ _ _ _ _); first | refine AW.seq ?_ | refine AW.region ?_ | refine AW.skip ?_ | refine AW.block ?_ | refine AW.exit ?_ | refine AW.ret ?_)
    | with_reducible refine (if_pos rfl).mpr ?_
    | with_reducible refine (if_neg (by decide)).mpr ?_) <;> (try dsimp only))
  all_goals exact Fin.one rfl (RV.cell (QOp.quietA TT_ok (by rfl))) (Clo.agg (TBox.clo_en (winBox v))) ⟨by rfl, rfl⟩

set_option maxRecDepth 100000 in
set_option maxHeartbeats 2000000 in
theorem winBox_i (v : TWindow) : VCalls Try.prog 42 [.agg v.en] (fun r M => r = .agg (winBox v).en ∧ M = []) := by
  refine VCalls.body Try.func42 rfl 18 rfl (fun E => ?_)
  simp only [List.reduceReplicate, List.cons_append, List.nil_append]
  dsimp only [TWindow.en]
  repeat' ((first
    | ((with_reducible show AL _ _ _ _ _ _ _); first | refine AL.any ?_ | refine AL.nil ?_)
    | ((with_reducible show AW _ _ _ _ _ _); first | refine AW.seq ?_ | refine AW.region ?_ | refine AW.skip ?_ | refine AW.block ?_ | refine AW.exit ?_ | refine AW.ret ?_)
    | with_reducible refine (if_pos rfl).mpr ?_
    | with_reducible refine (if_neg (by decide)).mpr ?_) <;> (try dsimp only))
  all_goals exact Fin.one rfl (RV.cell (QOp.quietA TT_ok (by rfl))) (Clo.agg (TBox.clo_en (winBox v))) ⟨by rfl, rfl⟩

set_option maxRecDepth 100000 in
set_option maxHeartbeats 2000000 in
theorem seen_i_f (l : List TFeature) (v : TWindow) (hl : l.length ≤ 1048576) (hp : ∀ x ∈ l, x.gd) (hSW : (isSource l && isWin v) = false) : VCalls Try.prog 16 [.ro 5 (l.map TFeature.en), .agg v.en] (fun r M => r = .own 0 0 ∧ M = [some ⟨3, 1, 0, false, (seenOf l v).map enI0⟩]) := by
  refine VCalls.body Try.func16 rfl 35 rfl (fun E => ?_)
  simp only [List.reduceReplicate, List.cons_append, List.nil_append]
  have hclo : Clo (.ro 5 (l.map TFeature.en)) := clo_list TFeature.clo_en
  have hclw : Clo (.agg v.en) := Clo.agg v.clo_en
  repeat' ((first
    | ((with_reducible show AL _ _ _ _ _ _ _); first | refine AL.any ?_ | refine AL.any (h := POp.k Try.func39 (hc := isSource_i _ (by assumption) (by assumption))) ?_ | refine AL.any (h := POp.k Try.func40 (hc := isWin_i _)) ?_ | refine AL.any (h := POp.k Try.func41 (hc := pcs_i x (winBox v) (by assumption) (by assumption))) ?_ | refine AL.any (h := POp.k Try.func42 (hc := winBox_i _)) ?_ | refine AL.U ?_ | refine AL.F ?_ | refine AL.T ?_ | refine AL.T (h := POp.k Try.func39 (hc := isSource_i _ (by assumption) (by assumption))) ?_ | refine AL.T (h := POp.k Try.func40 (hc := isWin_i _)) ?_ | refine AL.T (h := POp.k Try.func41 (hc := pcs_i x (winBox v) (by assumption) (by assumption))) ?_ | refine AL.T (h := POp.k Try.func42 (hc := winBox_i _)) ?_ | refine AL.W ?_ | refine AL.W (h := fun h => by (try rw [h]); exact POp.k Try.func39 (hc := isSource_i _ (by assumption) (by assumption))) ?_ | refine AL.W (h := fun h => by (try rw [h]); exact POp.k Try.func40 (hc := isWin_i _)) ?_ | refine AL.W (h := fun h => by (try rw [h]); exact POp.k Try.func41 (hc := pcs_i x (winBox v) (by assumption) (by assumption))) ?_ | refine AL.W (h := fun h => by (try rw [h]); exact POp.k Try.func42 (hc := winBox_i _)) ?_ | refine AL.nil ?_)
    | ((with_reducible show DL _ _ _ _ _ _ _); first | refine DL.any ?_ | refine DL.any (h := POp.k Try.func39 (hc := isSource_i _ (by assumption) (by assumption))) ?_ | refine DL.any (h := POp.k Try.func40 (hc := isWin_i _)) ?_ | refine DL.any (h := POp.k Try.func41 (hc := pcs_i x (winBox v) (by assumption) (by assumption))) ?_ | refine DL.any (h := POp.k Try.func42 (hc := winBox_i _)) ?_ | refine DL.nil ?_)
    | ((with_reducible show AW _ _ _ _ _ _); first | refine AW.seq ?_ | refine AW.region ?_ | refine AW.skip ?_ | refine AW.dr (id := 7) 3 ?_ | refine AW.cT ?_ | refine AW.cF ?_ | (refine AW.c2 ?_ ?_ <;> (intro h; try simp only [Bool.not_eq_true', Bool.not_eq_false'] at h)) | refine AW.block ?_ | refine AW.exit ?_ | refine AW.ret ?_)
    | (simp_all; done)
    | with_reducible refine (if_pos rfl).mpr ?_
    | with_reducible refine (if_neg (by decide)).mpr ?_) <;> (try dsimp only))
  all_goals exact Fin.rows1 [1] rfl (RV.tmp (by rfl)) (by decide) (by repeat' (first | exact trivial | refine ⟨⟨_, rfl, ?_⟩, ?_⟩ | exact DCl.b rfl | exact DCl.map (fun _ => rfl))) (by repeat' (first | exact all_nil | refine all_cons ?_ ?_ | exact ⟨⟨_, rfl, rfl⟩, rfl⟩ | (show Clo _; exact clo_of (by rfl)))) ⟨rfl, by rw [seenOf_f hSW] <;> rfl⟩

set_option maxRecDepth 100000 in
set_option maxHeartbeats 2000000 in
theorem seen_i_t (l : List TFeature) (v : TWindow) (hl : l.length ≤ 1048576) (hp : ∀ x ∈ l, x.gd) (hS : isSource l = true) (hW : isWin v = true) : VCalls Try.prog 16 [.ro 5 (l.map TFeature.en), .agg v.en] (fun r M => r = .own 0 0 ∧ M = [some ⟨3, 1, 0, false, (seenOf l v).map enI0⟩]) := by
  refine VCalls.bodyE Try.func16 rfl 35 rfl (fun E hE => ?_)
  simp only [List.reduceReplicate, List.cons_append, List.nil_append]
  have hclo : Clo (.ro 5 (l.map TFeature.en)) := clo_list TFeature.clo_en
  have hclw : Clo (.agg v.en) := Clo.agg v.clo_en
  repeat' ((first
    | ((with_reducible show AL _ _ _ _ _ _ _); first | refine AL.any ?_ | refine AL.any (h := POp.k Try.func39 (hc := isSource_i _ (by assumption) (by assumption))) ?_ | refine AL.any (h := POp.k Try.func40 (hc := isWin_i _)) ?_ | refine AL.any (h := POp.k Try.func41 (hc := pcs_i x (winBox v) (by assumption) (by assumption))) ?_ | refine AL.any (h := POp.k Try.func42 (hc := winBox_i _)) ?_ | refine AL.U ?_ | refine AL.F ?_ | refine AL.T ?_ | refine AL.T (h := POp.k Try.func39 (hc := isSource_i _ (by assumption) (by assumption))) ?_ | refine AL.T (h := POp.k Try.func40 (hc := isWin_i _)) ?_ | refine AL.T (h := POp.k Try.func41 (hc := pcs_i x (winBox v) (by assumption) (by assumption))) ?_ | refine AL.T (h := POp.k Try.func42 (hc := winBox_i _)) ?_ | refine AL.W ?_ | refine AL.W (h := fun h => by (try rw [h]); exact POp.k Try.func39 (hc := isSource_i _ (by assumption) (by assumption))) ?_ | refine AL.W (h := fun h => by (try rw [h]); exact POp.k Try.func40 (hc := isWin_i _)) ?_ | refine AL.W (h := fun h => by (try rw [h]); exact POp.k Try.func41 (hc := pcs_i x (winBox v) (by assumption) (by assumption))) ?_ | refine AL.W (h := fun h => by (try rw [h]); exact POp.k Try.func42 (hc := winBox_i _)) ?_ | refine AL.nil ?_)
    | ((with_reducible show DL _ _ _ _ _ _ _); first | refine DL.any ?_ | refine DL.any (h := POp.k Try.func39 (hc := isSource_i _ (by assumption) (by assumption))) ?_ | refine DL.any (h := POp.k Try.func40 (hc := isWin_i _)) ?_ | refine DL.any (h := POp.k Try.func41 (hc := pcs_i x (winBox v) (by assumption) (by assumption))) ?_ | refine DL.any (h := POp.k Try.func42 (hc := winBox_i _)) ?_ | refine DL.nil ?_)
    | ((with_reducible show AW _ _ _ _ _ _); first | refine AW.seq ?_ | refine AW.region ?_ | refine AW.skip ?_ | (refine AW.loopD hE (fun i : Nat => [.any, .any, .any, .ref 0 0 4 0 0, .any, .own 1 (seenTo l v i).length, .any, .any, .any, .any, .any, .any, .any, .any, .any, .any, .any, .any, .ro 5 (l.map TFeature.en), I ((l.map TFeature.en).length : Int), I (i : Int), .any, .any, .any, .any, .any, .any, .any, .any, .any, .any, .any, .any, .any, .any, .any, .any]) (fun i => [some ⟨41, 4, 0, true, [v.en]⟩, some ⟨3, 1, (seenTo l v i).length, false, (seenTo l v i).map enI0⟩]) (fun i => l.length - i) (fun i => i ≤ l.length) 0 (by simp) ?_ (by first | rfl | (simp [fil_zero]; done)) ?_) | refine AW.dr (id := 7) 3 ?_ | refine AW.cT ?_ | refine AW.cF ?_ | (refine AW.c2 ?_ ?_ <;> (intro h; try simp only [Bool.not_eq_true', Bool.not_eq_false'] at h)) | refine AW.block ?_ | refine AW.exit ?_ | refine AW.ret ?_)
    | with_reducible refine (if_pos rfl).mpr ?_
    | with_reducible refine (if_neg (by decide)).mpr ?_) <;> (try dsimp only))
  · (repeat' (first | exact Wk.nil | refine Wk.any ?_ | (with_reducible refine Wk.same ?_) | refine Wk.of ?_ ?_)) <;> first | rfl | (simp)
  · intro i hi
    have hclo : Clo (.ro 5 (l.map TFeature.en)) := clo_list TFeature.clo_en
    have hclw : Clo (.agg v.en) := Clo.agg v.clo_en
    by_cases hlt : i < l.length
    · obtain ⟨x, hx⟩ : ∃ x, l[i]? = some x := ⟨_, List.getElem?_eq_getElem hlt⟩
      have hg := map_get (f := TFeature.en) hx
      have ht := lt_true (f := TFeature.en) hlt
      have hn := next_ix hlt (by omega)
      have hgx := hp x (List.mem_of_getElem? hx)
      have hfx := src_feat hS hx
      have hln := seenTo_len l v i
      have hclQ : Clo (.ro 2 ((pcs x (winBox v)).map TPiece.en)) := clo_list TPiece.clo_en
      have hclP : Clo (.ro 2 (x.points.map TPoint.en)) := clo_list TPoint.clo_en
      have hcle : Clo (.agg x.en) := Clo.agg x.clo_en
      have hclb : Clo (.agg (winBox v).en) := Clo.agg (TBox.clo_en _)
      have hclS : Clo (.ro 4 ((partsOf x).map TSegment.en)) := clo_list TSegment.clo_en
      rcases seen_cases (w := v) hx with ⟨hm, h1, h2⟩ | ⟨hm, h1, h2⟩
      all_goals unfold seenP at hm
      repeat' ((first
        | ((with_reducible show AL _ _ _ _ _ _ _); first | refine AL.any ?_ | refine AL.any (h := POp.k Try.func39 (hc := isSource_i _ (by assumption) (by assumption))) ?_ | refine AL.any (h := POp.k Try.func40 (hc := isWin_i _)) ?_ | refine AL.any (h := POp.k Try.func41 (hc := pcs_i x (winBox v) (by assumption) (by assumption))) ?_ | refine AL.any (h := POp.k Try.func42 (hc := winBox_i _)) ?_ | refine AL.U ?_ | refine AL.F ?_ | refine AL.T ?_ | refine AL.T (h := POp.k Try.func39 (hc := isSource_i _ (by assumption) (by assumption))) ?_ | refine AL.T (h := POp.k Try.func40 (hc := isWin_i _)) ?_ | refine AL.T (h := POp.k Try.func41 (hc := pcs_i x (winBox v) (by assumption) (by assumption))) ?_ | refine AL.T (h := POp.k Try.func42 (hc := winBox_i _)) ?_ | refine AL.W ?_ | refine AL.W (h := fun h => by (try rw [h]); exact POp.k Try.func39 (hc := isSource_i _ (by assumption) (by assumption))) ?_ | refine AL.W (h := fun h => by (try rw [h]); exact POp.k Try.func40 (hc := isWin_i _)) ?_ | refine AL.W (h := fun h => by (try rw [h]); exact POp.k Try.func41 (hc := pcs_i x (winBox v) (by assumption) (by assumption))) ?_ | refine AL.W (h := fun h => by (try rw [h]); exact POp.k Try.func42 (hc := winBox_i _)) ?_ | refine AL.nil ?_)
        | ((with_reducible show DL _ _ _ _ _ _ _); first | refine DL.any ?_ | refine DL.any (h := POp.k Try.func39 (hc := isSource_i _ (by assumption) (by assumption))) ?_ | refine DL.any (h := POp.k Try.func40 (hc := isWin_i _)) ?_ | refine DL.any (h := POp.k Try.func41 (hc := pcs_i x (winBox v) (by assumption) (by assumption))) ?_ | refine DL.any (h := POp.k Try.func42 (hc := winBox_i _)) ?_ | refine DL.nil ?_)
        | ((with_reducible show AW _ _ _ _ _ _); first | refine AW.seq ?_ | refine AW.region ?_ | refine AW.skip ?_ | refine AW.dr (id := 7) 3 ?_ | refine AW.cT ?_ | refine AW.cF ?_ | (refine AW.c2 ?_ ?_ <;> (intro h; try simp only [Bool.not_eq_true', Bool.not_eq_false'] at h)) | refine AW.block ?_ | refine AW.exit ?_ | refine AW.ret ?_)
        | with_reducible refine (if_pos rfl).mpr ?_
        | with_reducible refine (if_neg (by decide)).mpr ?_) <;> (try dsimp only))
      all_goals first
        | (refine ⟨i + 1, _, hlt, by omega, ?_, by rw [h1, h2] <;> rfl, ?_, ?_⟩; (focus ((repeat' (first | exact Wk.nil | refine Wk.any ?_ | (with_reducible refine Wk.same ?_) | refine Wk.of ?_ ?_)) <;> (first | rfl | (rw [h2]; done) | simp_all))); (focus ((repeat' (first | exact Fits.nil _ | refine Fits.cons ?_ ?_ | exact Fits.any _ | exact Fits.c _ _ | exact Fits.own (by rfl) | exact Fits.ref (by rfl) | exact Fits.clo (by assumption) | exact Fits.clo (clo_of (by rfl)) | exact Fits.clo (clo_fn _))))); (focus (exact fitsM_cons (clo_one v.clo_en) (fitsM_cons (clo_rows (fun _ => clo_cons (clo_c _) clo_nil)) (FitsM.nil _)))))
    · have ht := lt_false (f := TFeature.en) hlt
      have e : i = l.length := by omega
      subst e
      try rw [List.take_length]
      repeat' ((first
        | ((with_reducible show AL _ _ _ _ _ _ _); first | refine AL.any ?_ | refine AL.any (h := POp.k Try.func39 (hc := isSource_i _ (by assumption) (by assumption))) ?_ | refine AL.any (h := POp.k Try.func40 (hc := isWin_i _)) ?_ | refine AL.any (h := POp.k Try.func41 (hc := pcs_i x (winBox v) (by assumption) (by assumption))) ?_ | refine AL.any (h := POp.k Try.func42 (hc := winBox_i _)) ?_ | refine AL.U ?_ | refine AL.F ?_ | refine AL.T ?_ | refine AL.T (h := POp.k Try.func39 (hc := isSource_i _ (by assumption) (by assumption))) ?_ | refine AL.T (h := POp.k Try.func40 (hc := isWin_i _)) ?_ | refine AL.T (h := POp.k Try.func41 (hc := pcs_i x (winBox v) (by assumption) (by assumption))) ?_ | refine AL.T (h := POp.k Try.func42 (hc := winBox_i _)) ?_ | refine AL.W ?_ | refine AL.W (h := fun h => by (try rw [h]); exact POp.k Try.func39 (hc := isSource_i _ (by assumption) (by assumption))) ?_ | refine AL.W (h := fun h => by (try rw [h]); exact POp.k Try.func40 (hc := isWin_i _)) ?_ | refine AL.W (h := fun h => by (try rw [h]); exact POp.k Try.func41 (hc := pcs_i x (winBox v) (by assumption) (by assumption))) ?_ | refine AL.W (h := fun h => by (try rw [h]); exact POp.k Try.func42 (hc := winBox_i _)) ?_ | refine AL.nil ?_)
        | ((with_reducible show DL _ _ _ _ _ _ _); first | refine DL.any ?_ | refine DL.any (h := POp.k Try.func39 (hc := isSource_i _ (by assumption) (by assumption))) ?_ | refine DL.any (h := POp.k Try.func40 (hc := isWin_i _)) ?_ | refine DL.any (h := POp.k Try.func41 (hc := pcs_i x (winBox v) (by assumption) (by assumption))) ?_ | refine DL.any (h := POp.k Try.func42 (hc := winBox_i _)) ?_ | refine DL.nil ?_)
        | ((with_reducible show AW _ _ _ _ _ _); first | refine AW.seq ?_ | refine AW.region ?_ | refine AW.skip ?_ | refine AW.dr (id := 7) 3 ?_ | refine AW.cT ?_ | refine AW.cF ?_ | (refine AW.c2 ?_ ?_ <;> (intro h; try simp only [Bool.not_eq_true', Bool.not_eq_false'] at h)) | refine AW.block ?_ | refine AW.exit ?_ | refine AW.ret ?_)
        | with_reducible refine (if_pos rfl).mpr ?_
        | with_reducible refine (if_neg (by decide)).mpr ?_) <;> (try dsimp only))
      all_goals exact Fin.rows1 [1] rfl (RV.tmp (by rfl)) (by decide) (by repeat' (first | exact trivial | refine ⟨⟨_, rfl, ?_⟩, ?_⟩ | exact DCl.b rfl | exact DCl.map (fun _ => rfl))) (by repeat' (first | exact all_nil | refine all_cons ?_ ?_ | exact ⟨⟨_, rfl, rfl⟩, rfl⟩ | (show Clo _; exact clo_of (by rfl)))) ⟨rfl, by rw [seenOf_t (by rw [hS, hW]; rfl)] <;> rfl⟩

theorem seen_i (l : List TFeature) (v : TWindow) (hl : l.length ≤ 1048576) (hp : ∀ x ∈ l, x.gd) : VCalls Try.prog 16 [.ro 5 (l.map TFeature.en), .agg v.en] (fun r M => r = .own 0 0 ∧ M = [some ⟨3, 1, 0, false, (seenOf l v).map enI0⟩]) := by
  cases hS : isSource l
  · exact seen_i_f l v hl hp (by rw [hS]; rfl)
  · cases hW : isWin v
    · exact seen_i_f l v hl hp (by rw [hS, hW]; rfl)
    · exact seen_i_t l v hl hp hS hW
theorem seen_i' (l : List TFeature) (v : TWindow) (hl : l.length ≤ 1048576) (hp : ∀ x ∈ l, x.gd) : VCalls Try.prog 16 [.ro 5 (l.map TFeature.en), .agg v.en] (fun r M => r = .ro 1 ((seenOf l v).map enI0) ∧ M = []) := VCalls.frz (seen_i l v hl hp) (by repeat' (first | exact VwL.nil | refine VwL.cons ?_ ?_ | (refine View.own (by rfl) (by rfl) (by rfl) (by rfl) ?_ ?_ <;> first | exact DCl.b rfl | exact DCl.map (fun _ => rfl) | assumption | rfl | exact TPoint.und | exact TSegment.und | exact TBox.und | exact TFeature.und | exact TMeet.und | exact TPlace.und | exact TCover.und | exact TLabel.und | exact TPiece.und | exact TLevel.und | exact TChart.und | exact TReason.und | exact TEdit.und | exact TEntry.und | exact TEdition.und | exact TListing.und | exact TAtlas.und | exact TEvent.und | exact TWindow.und | exact und_nil | exact und_I | assumption) | refine View.agg' ?_ | exact View.same (by first | exact clo_of (by rfl) | assumption | exact clo_fn _) | exact View.nil))
set_option maxRecDepth 100000 in
set_option maxHeartbeats 2000000 in
theorem seen_s (l : List TFeature) (v : TWindow) (hl : l.length ≤ 1048576) (hp : ∀ x ∈ l, x.gd) : VCalls Try.prog 14 [.ro 5 (l.map TFeature.en), .agg v.en] (fun r M => r = .ro 1 ((seenOf l v).map enI0) ∧ M = []) := by
  refine VCalls.bodyE Try.func14 rfl 43 rfl (fun E hE => ?_)
  simp only [List.reduceReplicate, List.cons_append, List.nil_append]
  have hclo : Clo (.ro 5 (l.map TFeature.en)) := clo_list TFeature.clo_en
  have hclw : Clo (.agg v.en) := Clo.agg v.clo_en
  repeat' ((first
    | ((with_reducible show AL _ _ _ _ _ _ _); first | refine AL.any ?_ | refine AL.any (h := POp.k Try.func33 (hc := isSource_s _ (by assumption) (by assumption))) ?_ | refine AL.any (h := POp.k Try.func34 (hc := isWin_s _)) ?_ | refine AL.any (h := POp.k Try.func35 (hc := pcs_s x (winBox v) (by assumption) (by assumption))) ?_ | refine AL.any (h := POp.k Try.func36 (hc := parts_s x (by assumption))) ?_ | refine AL.any (h := POp.k Try.func37 (hc := winBox_s _)) ?_ | refine AL.U ?_ | refine AL.F ?_ | refine AL.T ?_ | refine AL.T (h := POp.k Try.func33 (hc := isSource_s _ (by assumption) (by assumption))) ?_ | refine AL.T (h := POp.k Try.func34 (hc := isWin_s _)) ?_ | refine AL.T (h := POp.k Try.func35 (hc := pcs_s x (winBox v) (by assumption) (by assumption))) ?_ | refine AL.T (h := POp.k Try.func36 (hc := parts_s x (by assumption))) ?_ | refine AL.T (h := POp.k Try.func37 (hc := winBox_s _)) ?_ | refine AL.W ?_ | refine AL.W (h := fun h => by (try rw [h]); exact POp.k Try.func33 (hc := isSource_s _ (by assumption) (by assumption))) ?_ | refine AL.W (h := fun h => by (try rw [h]); exact POp.k Try.func34 (hc := isWin_s _)) ?_ | refine AL.W (h := fun h => by (try rw [h]); exact POp.k Try.func35 (hc := pcs_s x (winBox v) (by assumption) (by assumption))) ?_ | refine AL.W (h := fun h => by (try rw [h]); exact POp.k Try.func36 (hc := parts_s x (by assumption))) ?_ | refine AL.W (h := fun h => by (try rw [h]); exact POp.k Try.func37 (hc := winBox_s _)) ?_ | refine AL.nil ?_)
    | ((with_reducible show DL _ _ _ _ _ _ _); first | refine DL.any ?_ | refine DL.any (h := POp.k Try.func33 (hc := isSource_s _ (by assumption) (by assumption))) ?_ | refine DL.any (h := POp.k Try.func34 (hc := isWin_s _)) ?_ | refine DL.any (h := POp.k Try.func35 (hc := pcs_s x (winBox v) (by assumption) (by assumption))) ?_ | refine DL.any (h := POp.k Try.func36 (hc := parts_s x (by assumption))) ?_ | refine DL.any (h := POp.k Try.func37 (hc := winBox_s _)) ?_ | refine DL.nil ?_)
    | ((with_reducible show AW _ _ _ _ _ _); first | refine AW.seq ?_ | refine AW.region ?_ | refine AW.skip ?_ | (refine AW.loopD hE (fun i : Nat => [.ro 5 (l.map TFeature.en), .any, .any, .ref 0 0 4 0 0, .any, .own 1 (seenTo l v i).length, I (i : Int), .any, .any, .any, .any, .any, .any, .any, .any, .any, .any, .any, .any, .any, .any, .any, .any, .any, .any, .any, .any, .any, .any, .any, .any, .any, .any, .any, .any, .any, .any, .any, .any, .any, .any, .any, .any, .any, .any]) (fun i => [some ⟨41, 4, 0, true, [v.en]⟩, some ⟨3, 1, (seenTo l v i).length, false, (seenTo l v i).map enI0⟩]) (fun i => nSeen l v - i) (fun i => i ≤ nSeen l v) 0 (Nat.zero_le _) ?_ (by first | rfl | (simp [fil_zero]; done)) ?_) | refine AW.dr (id := 5) 11 ?_ | refine AW.cT ?_ | refine AW.cF ?_ | (refine AW.c2 ?_ ?_ <;> (intro h; try simp only [Bool.not_eq_true', Bool.not_eq_false'] at h)) | refine AW.block ?_ | refine AW.exit ?_ | refine AW.ret ?_)
    | with_reducible refine (if_pos rfl).mpr ?_
    | with_reducible refine (if_neg (by decide)).mpr ?_) <;> (try dsimp only))
  · (repeat' (first | exact Wk.nil | refine Wk.any ?_ | (with_reducible refine Wk.same ?_) | refine Wk.of ?_ ?_)) <;> first | rfl | (simp)
  · intro i hi
    have hclo : Clo (.ro 5 (l.map TFeature.en)) := clo_list TFeature.clo_en
    have hclw : Clo (.agg v.en) := Clo.agg v.clo_en
    have hnl := nSeen_le l v
    by_cases hlt : i < nSeen l v
    · skip
      obtain ⟨hS, hW, hN⟩ := nSeen_t hlt
      obtain ⟨x, hx⟩ : ∃ x, l[i]? = some x := ⟨_, List.getElem?_eq_getElem (by omega)⟩
      have hg := map_get (f := TFeature.en) hx
      have ht : (decide ((i : Int) < ((l.map TFeature.en).length : Int)) && isSource l && isWin v) = true := by rw [hS, hW]; simp; omega
      have hn := next_ix hlt (by omega)
      have hgx := hp x (List.mem_of_getElem? hx)
      have hfx := src_feat hS hx
      have hln := seenTo_len l v i
      have hclQ : Clo (.ro 2 ((pcs x (winBox v)).map TPiece.en)) := clo_list TPiece.clo_en
      have hclP : Clo (.ro 2 (x.points.map TPoint.en)) := clo_list TPoint.clo_en
      have hcle : Clo (.agg x.en) := Clo.agg x.clo_en
      have hclb : Clo (.agg (winBox v).en) := Clo.agg (TBox.clo_en _)
      have hclS : Clo (.ro 4 ((partsOf x).map TSegment.en)) := clo_list TSegment.clo_en
      rcases seen_cases (w := v) hx with ⟨hm, h1, h2⟩ | ⟨hm, h1, h2⟩
      all_goals unfold seenP at hm
      repeat' ((first
        | ((with_reducible show AL _ _ _ _ _ _ _); first | refine AL.any ?_ | refine AL.any (h := POp.k Try.func33 (hc := isSource_s _ (by assumption) (by assumption))) ?_ | refine AL.any (h := POp.k Try.func34 (hc := isWin_s _)) ?_ | refine AL.any (h := POp.k Try.func35 (hc := pcs_s x (winBox v) (by assumption) (by assumption))) ?_ | refine AL.any (h := POp.k Try.func36 (hc := parts_s x (by assumption))) ?_ | refine AL.any (h := POp.k Try.func37 (hc := winBox_s _)) ?_ | refine AL.U ?_ | refine AL.F ?_ | refine AL.T ?_ | refine AL.T (h := POp.k Try.func33 (hc := isSource_s _ (by assumption) (by assumption))) ?_ | refine AL.T (h := POp.k Try.func34 (hc := isWin_s _)) ?_ | refine AL.T (h := POp.k Try.func35 (hc := pcs_s x (winBox v) (by assumption) (by assumption))) ?_ | refine AL.T (h := POp.k Try.func36 (hc := parts_s x (by assumption))) ?_ | refine AL.T (h := POp.k Try.func37 (hc := winBox_s _)) ?_ | refine AL.W ?_ | refine AL.W (h := fun h => by (try rw [h]); exact POp.k Try.func33 (hc := isSource_s _ (by assumption) (by assumption))) ?_ | refine AL.W (h := fun h => by (try rw [h]); exact POp.k Try.func34 (hc := isWin_s _)) ?_ | refine AL.W (h := fun h => by (try rw [h]); exact POp.k Try.func35 (hc := pcs_s x (winBox v) (by assumption) (by assumption))) ?_ | refine AL.W (h := fun h => by (try rw [h]); exact POp.k Try.func36 (hc := parts_s x (by assumption))) ?_ | refine AL.W (h := fun h => by (try rw [h]); exact POp.k Try.func37 (hc := winBox_s _)) ?_ | refine AL.nil ?_)
        | ((with_reducible show DL _ _ _ _ _ _ _); first | refine DL.any ?_ | refine DL.any (h := POp.k Try.func33 (hc := isSource_s _ (by assumption) (by assumption))) ?_ | refine DL.any (h := POp.k Try.func34 (hc := isWin_s _)) ?_ | refine DL.any (h := POp.k Try.func35 (hc := pcs_s x (winBox v) (by assumption) (by assumption))) ?_ | refine DL.any (h := POp.k Try.func36 (hc := parts_s x (by assumption))) ?_ | refine DL.any (h := POp.k Try.func37 (hc := winBox_s _)) ?_ | refine DL.nil ?_)
        | ((with_reducible show AW _ _ _ _ _ _); first | refine AW.seq ?_ | refine AW.region ?_ | refine AW.skip ?_ | refine AW.dr (id := 5) 11 ?_ | refine AW.cT ?_ | refine AW.cF ?_ | (refine AW.c2 ?_ ?_ <;> (intro h; try simp only [Bool.not_eq_true', Bool.not_eq_false'] at h)) | refine AW.block ?_ | refine AW.exit ?_ | refine AW.ret ?_)
        | with_reducible refine (if_pos rfl).mpr ?_
        | with_reducible refine (if_neg (by decide)).mpr ?_) <;> (try dsimp only))
      all_goals first
        | (refine ⟨i + 1, _, hlt, by omega, ?_, by rw [h1, h2] <;> rfl, ?_, ?_⟩; (focus ((repeat' (first | exact Wk.nil | refine Wk.any ?_ | (with_reducible refine Wk.same ?_) | refine Wk.of ?_ ?_)) <;> (first | rfl | (rw [h2]; done) | simp_all))); (focus ((repeat' (first | exact Fits.nil _ | refine Fits.cons ?_ ?_ | exact Fits.any _ | exact Fits.c _ _ | exact Fits.own (by rfl) | exact Fits.ref (by rfl) | exact Fits.clo (by assumption) | exact Fits.clo (clo_of (by rfl)) | exact Fits.clo (clo_fn _))))); (focus (exact fitsM_cons (clo_one v.clo_en) (fitsM_cons (clo_rows (fun _ => clo_cons (clo_c _) clo_nil)) (FitsM.nil _)))))
    · have e : i = nSeen l v := by omega
      have ht : (decide ((i : Int) < ((l.map TFeature.en).length : Int)) && isSource l && isWin v) = false := by rw [e]; exact nSeen_end
      subst e
      repeat' ((first
        | ((with_reducible show AL _ _ _ _ _ _ _); first | refine AL.any ?_ | refine AL.any (h := POp.k Try.func33 (hc := isSource_s _ (by assumption) (by assumption))) ?_ | refine AL.any (h := POp.k Try.func34 (hc := isWin_s _)) ?_ | refine AL.any (h := POp.k Try.func35 (hc := pcs_s x (winBox v) (by assumption) (by assumption))) ?_ | refine AL.any (h := POp.k Try.func36 (hc := parts_s x (by assumption))) ?_ | refine AL.any (h := POp.k Try.func37 (hc := winBox_s _)) ?_ | refine AL.U ?_ | refine AL.F ?_ | refine AL.T ?_ | refine AL.T (h := POp.k Try.func33 (hc := isSource_s _ (by assumption) (by assumption))) ?_ | refine AL.T (h := POp.k Try.func34 (hc := isWin_s _)) ?_ | refine AL.T (h := POp.k Try.func35 (hc := pcs_s x (winBox v) (by assumption) (by assumption))) ?_ | refine AL.T (h := POp.k Try.func36 (hc := parts_s x (by assumption))) ?_ | refine AL.T (h := POp.k Try.func37 (hc := winBox_s _)) ?_ | refine AL.W ?_ | refine AL.W (h := fun h => by (try rw [h]); exact POp.k Try.func33 (hc := isSource_s _ (by assumption) (by assumption))) ?_ | refine AL.W (h := fun h => by (try rw [h]); exact POp.k Try.func34 (hc := isWin_s _)) ?_ | refine AL.W (h := fun h => by (try rw [h]); exact POp.k Try.func35 (hc := pcs_s x (winBox v) (by assumption) (by assumption))) ?_ | refine AL.W (h := fun h => by (try rw [h]); exact POp.k Try.func36 (hc := parts_s x (by assumption))) ?_ | refine AL.W (h := fun h => by (try rw [h]); exact POp.k Try.func37 (hc := winBox_s _)) ?_ | refine AL.nil ?_)
        | ((with_reducible show DL _ _ _ _ _ _ _); first | refine DL.any ?_ | refine DL.any (h := POp.k Try.func33 (hc := isSource_s _ (by assumption) (by assumption))) ?_ | refine DL.any (h := POp.k Try.func34 (hc := isWin_s _)) ?_ | refine DL.any (h := POp.k Try.func35 (hc := pcs_s x (winBox v) (by assumption) (by assumption))) ?_ | refine DL.any (h := POp.k Try.func36 (hc := parts_s x (by assumption))) ?_ | refine DL.any (h := POp.k Try.func37 (hc := winBox_s _)) ?_ | refine DL.nil ?_)
        | ((with_reducible show AW _ _ _ _ _ _); first | refine AW.seq ?_ | refine AW.region ?_ | refine AW.skip ?_ | (refine AW.freezeRet (t := 4) (id := 1) rfl rfl rfl rfl (clo_rows (fun _ => clo_cons (clo_c _) clo_nil)) ?_; (try simp only [List.take_length]); try dsimp only [dput, List.set, cond_true, cond_false, Nat.zero_add, Nat.add_zero, Nat.reduceAdd, splice, List.take, List.drop, List.length, List.nil_append, List.cons_append, List.append, TPoint.en, TSegment.en, TBox.en, TFeature.en, TMeet.en, TPlace.en, TCover.en, TLabel.en, TPiece.en, TLevel.en, TChart.en, TReason.en, TEdit.en, TEntry.en, TEdition.en, TListing.en, TAtlas.en, TEvent.en, TWindow.en]) | refine AW.dr (id := 5) 11 ?_ | refine AW.cT ?_ | refine AW.cF ?_ | (refine AW.c2 ?_ ?_ <;> (intro h; try simp only [Bool.not_eq_true', Bool.not_eq_false'] at h)) | refine AW.block ?_ | refine AW.exit ?_ | refine AW.ret ?_)
        | with_reducible refine (if_pos rfl).mpr ?_
        | with_reducible refine (if_neg (by decide)).mpr ?_) <;> (try dsimp only))
      all_goals exact Fin.one rfl (RV.tmp (by rfl)) (clo_list (fun _ => clo_cons (clo_c _) clo_nil)) ⟨rfl, rfl⟩

end Go.Proofs.Ytacbpfbelcdeiaa.Abs

/- The walk of the law on SeenIds. -/
namespace Go.Proofs.Ytacbpfbelcdeiaa.Abs
open Go.Proofs Go.RowKit
set_option linter.unusedVariables false
set_option linter.unusedSimpArgs false
attribute [local irreducible] OpA AL AW DL DLM DLR DLS QOp POp VCalls VCallsI
set_option maxRecDepth 100000 in
set_option maxHeartbeats 2000000 in
theorem law_FnExactSeenIds (l : List TFeature) (v : TWindow) (h0 : (l.length ≤ maxLen ∧ ∀ x ∈ l, x.ok)) (h1 : v.ok) : VCalls Try.prog 4 [.ro 5 (l.map TFeature.en), .agg v.en] (fun r M => r = B true ∧ M = []) := by
  refine VCalls.body Try.func4 rfl 75 rfl (fun E => ?_)
  simp only [List.reduceReplicate, List.cons_append, List.nil_append]
  have hclo_l : Clo (.ro 5 (l.map TFeature.en)) := clo_list TFeature.clo_en
  have hclo_v : Clo (.agg v.en) := Clo.agg v.clo_en
  obtain ⟨hl0, hp0⟩ := id h0
  rw [maxLen_eq] at hl0
  have hsl : (seenOf l v).length ≤ l.length := seenTo_len l v _
  have hci := ictL (seenOf l v)
  have hclI : Clo (.ro 1 ((seenOf l v).map enI0)) := clo_list (fun _ => clo_cons (clo_c _) clo_nil)
  have hclw : Clo (.agg v.en) := Clo.agg v.clo_en
  rcases Szs.split (TFeature.szs.list) l 1048576 h0 (by decide) (by decide) with hz | ⟨hz, ⟨hl0', hp0'⟩, hz0, hz1⟩
  all_goals try (have hlI : (seenOf l v).length ≤ 1048576 := by omega)
  all_goals try (have hcf := ctL_ft hl0' (fun x hx => hp0' x hx))
  all_goals try (have hk1 : decide (1 + ((ctL TFeature.ct l : Nat) : Int) < 0) = false := by simp; omega)
  all_goals try (have hk2 : decide (1 + ((ctL ict (seenOf l v) : Nat) : Int) < 0) = false := by simp; omega)
  repeat' ((first
    | ((with_reducible show AL _ _ _ _ _ _ _); first | refine AL.at 24 (h := POp.O Try.func7 (hc := toFeatureS_o l (by assumption) (by assumption))) ?_ | refine AL.at 28 (h := POp.O Try.func16 (hc := seen_i l v (by assumption) (gd_of (by assumption) (by assumption)))) ?_ | refine AL.any ?_ | refine AL.any (h := POp.k Try.func5 (hc := szFeatureS _ _ (by assumption) (by assumption))) ?_ | refine AL.any (h := POp.k Try.func7 (hc := toFeatureS _ (by assumption) (by assumption))) ?_ | refine AL.any (h := POp.D Try.func10 (hc := eqFeatureS_self l (by assumption) (by assumption))) ?_ | refine AL.any (h := POp.H [1] Try.func11 (hc := markFeatureS 52 l 1 (by omega) (by omega))) ?_ | refine AL.any (h := POp.k Try.func14 (hc := seen_s l v (by assumption) (gd_of (by assumption) (by assumption)))) ?_ | refine AL.any (h := POp.k Try.func15 (hc := toWindow v)) ?_ | refine AL.any (h := POp.k Try.func16 (hc := seen_i' l v (by assumption) (gd_of (by assumption) (by assumption)))) ?_ | refine AL.any (h := POp.D Try.func17 (hc := eqIntS_self (seenOf l v) (by assumption))) ?_ | refine AL.any (h := POp.H [2] Try.func18 (hc := markIntS 3 (seenOf l v) 1 (by omega) (by omega))) ?_ | refine AL.any (h := POp.D Try.func19 (hc := heldIntS (seenOf l v) 1 (by omega) (by omega))) ?_ | refine AL.U ?_ | refine AL.F ?_ | refine AL.T ?_ | refine AL.T (h := POp.k Try.func5 (hc := szFeatureS _ _ (by assumption) (by assumption))) ?_ | refine AL.T (h := POp.k Try.func7 (hc := toFeatureS _ (by assumption) (by assumption))) ?_ | refine AL.T (h := POp.D Try.func10 (hc := eqFeatureS_self l (by assumption) (by assumption))) ?_ | refine AL.T (h := POp.H [1] Try.func11 (hc := markFeatureS 52 l 1 (by omega) (by omega))) ?_ | refine AL.T (h := POp.k Try.func14 (hc := seen_s l v (by assumption) (gd_of (by assumption) (by assumption)))) ?_ | refine AL.T (h := POp.k Try.func15 (hc := toWindow v)) ?_ | refine AL.T (h := POp.k Try.func16 (hc := seen_i' l v (by assumption) (gd_of (by assumption) (by assumption)))) ?_ | refine AL.T (h := POp.D Try.func17 (hc := eqIntS_self (seenOf l v) (by assumption))) ?_ | refine AL.T (h := POp.H [2] Try.func18 (hc := markIntS 3 (seenOf l v) 1 (by omega) (by omega))) ?_ | refine AL.T (h := POp.D Try.func19 (hc := heldIntS (seenOf l v) 1 (by omega) (by omega))) ?_ | refine AL.W ?_ | refine AL.W (h := fun h => by (try rw [h]); exact POp.k Try.func5 (hc := szFeatureS _ _ (by assumption) (by assumption))) ?_ | refine AL.W (h := fun h => by (try rw [h]); exact POp.k Try.func7 (hc := toFeatureS _ (by assumption) (by assumption))) ?_ | refine AL.W (h := fun h => by (try rw [h]); exact POp.D Try.func10 (hc := eqFeatureS_self l (by assumption) (by assumption))) ?_ | refine AL.W (h := fun h => by (try rw [h]); exact POp.H [1] Try.func11 (hc := markFeatureS 52 l 1 (by omega) (by omega))) ?_ | refine AL.W (h := fun h => by (try rw [h]); exact POp.k Try.func14 (hc := seen_s l v (by assumption) (gd_of (by assumption) (by assumption)))) ?_ | refine AL.W (h := fun h => by (try rw [h]); exact POp.k Try.func15 (hc := toWindow v)) ?_ | refine AL.W (h := fun h => by (try rw [h]); exact POp.k Try.func16 (hc := seen_i' l v (by assumption) (gd_of (by assumption) (by assumption)))) ?_ | refine AL.W (h := fun h => by (try rw [h]); exact POp.D Try.func17 (hc := eqIntS_self (seenOf l v) (by assumption))) ?_ | refine AL.W (h := fun h => by (try rw [h]); exact POp.H [2] Try.func18 (hc := markIntS 3 (seenOf l v) 1 (by omega) (by omega))) ?_ | refine AL.W (h := fun h => by (try rw [h]); exact POp.D Try.func19 (hc := heldIntS (seenOf l v) 1 (by omega) (by omega))) ?_ | refine AL.nil ?_)
    | ((with_reducible show DL _ _ _ _ _ _ _); first | refine DL.any ?_ | refine DL.any (h := POp.k Try.func5 (hc := szFeatureS _ _ (by assumption) (by assumption))) ?_ | refine DL.any (h := POp.k Try.func7 (hc := toFeatureS _ (by assumption) (by assumption))) ?_ | refine DL.any (h := POp.D Try.func10 (hc := eqFeatureS_self l (by assumption) (by assumption))) ?_ | refine DL.any (h := POp.H [1] Try.func11 (hc := markFeatureS 52 l 1 (by omega) (by omega))) ?_ | refine DL.any (h := POp.k Try.func14 (hc := seen_s l v (by assumption) (gd_of (by assumption) (by assumption)))) ?_ | refine DL.any (h := POp.k Try.func15 (hc := toWindow v)) ?_ | refine DL.any (h := POp.k Try.func16 (hc := seen_i' l v (by assumption) (gd_of (by assumption) (by assumption)))) ?_ | refine DL.any (h := POp.D Try.func17 (hc := eqIntS_self (seenOf l v) (by assumption))) ?_ | refine DL.any (h := POp.H [2] Try.func18 (hc := markIntS 3 (seenOf l v) 1 (by omega) (by omega))) ?_ | refine DL.any (h := POp.D Try.func19 (hc := heldIntS (seenOf l v) 1 (by omega) (by omega))) ?_ | refine DL.nil ?_)
    | ((with_reducible show AW _ _ _ _ _ _); first | refine AW.seq ?_ | refine AW.region ?_ | refine AW.skip ?_ | refine AW.dr (id := 5) 3 ?_ | refine AW.dr (id := 24) 3 ?_ | refine AW.cT ?_ | refine AW.cF ?_ | (refine AW.c2 ?_ ?_ <;> (intro h; try simp only [Bool.not_eq_true', Bool.not_eq_false'] at h)) | refine AW.block ?_ | refine AW.exit ?_ | refine AW.ret ?_)
    | with_reducible refine (if_pos rfl).mpr ?_
    | with_reducible refine (if_neg (by decide)).mpr ?_) <;> (try dsimp only))
  all_goals exact Fin.one rfl (RV.tmp (by rfl)) (clo_c _) ⟨by first | rfl | (simp_all; done), rfl⟩

end Go.Proofs.Ytacbpfbelcdeiaa.Abs
