/- How two segments meet: what the program's way and the reference's way come to. -/
import Derived.Test.YtolmophnimngjaaGreatWkStep
import Derived.Test.YtolmophnimngjaaGreatWkGeo2
namespace Go.Proofs.YtolmophnimngjaaGreat.Abs
open Go.Proofs Go.RowKit
set_option linter.unusedVariables false
set_option linter.unusedSimpArgs false
attribute [local irreducible] OpA AL AW DL DLM DLR DLS QOp POp VCalls VCallsI
def hmI (s t : TSegment) : Int :=
  if (!isSeg s || !isSeg t) = true then 0 else
  if ((sdW s.a s.b t.a == 0) && (sdW s.a s.b t.b == 0)) = true then
    if bef (if bef (fwdW t).b (fwdW s).b = true then (fwdW t).b else (fwdW s).b) (if bef (fwdW s).a (fwdW t).a = true then (fwdW t).a else (fwdW s).a) = true then 0
    else if ptE (if bef (fwdW s).a (fwdW t).a = true then (fwdW t).a else (fwdW s).a) (if bef (fwdW t).b (fwdW s).b = true then (fwdW t).b else (fwdW s).b) = true then 1 else 3
  else if (decide (wmul (sdW s.a s.b t.a) (sdW s.a s.b t.b) < 0) && decide (wmul (sdW t.a t.b s.a) (sdW t.a t.b s.b) < 0)) = true then 2
  else if (onW s t.a || onW s t.b || onW t s.a || onW t s.b) = true then 1 else 0
theorem mul_small {u v : Int} (h1 : -200 ≤ u ∧ u ≤ 200) (h2 : -200 ≤ v ∧ v ≤ 200) : -40000 ≤ u * v ∧ u * v ≤ 40000 := by
  have a1 := Int.mul_nonneg (show 0 ≤ 200 - u by omega) (show 0 ≤ 200 + v by omega)
  have a2 := Int.mul_nonneg (show 0 ≤ 200 + u by omega) (show 0 ≤ 200 - v by omega)
  have a3 := Int.mul_nonneg (show 0 ≤ 200 - u by omega) (show 0 ≤ 200 - v by omega)
  have a4 := Int.mul_nonneg (show 0 ≤ 200 + u by omega) (show 0 ≤ 200 + v by omega)
  have e1 : (200 - u) * (200 + v) + (200 + u) * (200 - v) = 80000 - 2 * (u * v) := by grind
  have e2 : (200 - u) * (200 - v) + (200 + u) * (200 + v) = 80000 + 2 * (u * v) := by grind
  omega
theorem isp_bd {x y : Int} (h : isp x y = true) : 0 ≤ x ∧ x ≤ 200 ∧ 0 ≤ y ∧ y ≤ 200 := by
  simp only [isp, inr, Bool.and_eq_true, decide_eq_true_eq] at h
  omega
theorem crW_crs {a b p : TPoint} (ha : isp a.x a.y = true) (hb : isp b.x b.y = true) (hp : isp p.x p.y = true) : crW a b p = crs a b p := by
  have ha := isp_bd ha
  have hb := isp_bd hb
  have hp := isp_bd hp
  have m1 := mul_small (u := b.x - a.x) (v := p.y - a.y) (by omega) (by omega)
  have m2 := mul_small (u := b.y - a.y) (v := p.x - a.x) (by omega) (by omega)
  unfold crW crs wmul wsub
  rw [w64 (n := b.x - a.x) (by omega) (by omega), w64 (n := p.y - a.y) (by omega) (by omega), w64 (n := b.y - a.y) (by omega) (by omega), w64 (n := p.x - a.x) (by omega) (by omega)]
  rw [w64 (n := (b.x - a.x) * (p.y - a.y)) (by omega) (by omega), w64 (n := (b.y - a.y) * (p.x - a.x)) (by omega) (by omega), w64 (by omega) (by omega)]
theorem sdW_sg {a b p : TPoint} (ha : isp a.x a.y = true) (hb : isp b.x b.y = true) (hp : isp p.x p.y = true) : sdW a b p = sg (crs a b p) := by
  unfold sdW
  rw [ha, hb, hp, crW_crs ha hb hp]
  rfl
theorem sg_bd (n : Int) : -1 ≤ sg n ∧ sg n ≤ 1 := by unfold sg; split <;> (try split) <;> omega
theorem wmul_sg (m n : Int) : wmul (sg m) (sg n) = sg m * sg n := by
  have h1 := sg_bd m
  have h2 := sg_bd n
  have := mul_small (u := sg m) (v := sg n) (by omega) (by omega)
  exact w64 (by omega) (by omega)
theorem isSeg_bd {s : TSegment} (h : isSeg s = true) : isp s.a.x s.a.y = true ∧ isp s.b.x s.b.y = true ∧ ptE s.a s.b = false := by
  simp only [isSeg, Bool.and_eq_true, Bool.not_eq_true'] at h
  exact ⟨h.1.1, h.1.2, h.2⟩
theorem ptE_eqP (a b : TPoint) : ptE a b = eqP a b := by
  rw [Bool.eq_iff_iff]
  simp [ptE, eqVs, eqV, eqP]
theorem isSeg_ne {s : TSegment} (h : isSeg s = true) : s.a ≠ s.b := fun e => by
  have := (isSeg_bd h).2.2
  rw [ptE_eqP, e] at this
  simp [eqP] at this
theorem inr_btw (a b p : Int) : inr p (wmin a b) (wmax a b) = btwB a b p := by
  rw [Bool.eq_iff_iff]
  unfold inr wmin wmax btwB
  simp only [Bool.and_eq_true, Bool.or_eq_true, decide_eq_true_eq]
  split <;> split <;> omega
theorem onW_onB {s : TSegment} {p : TPoint} (hs : isSeg s = true) (hp : isp p.x p.y = true) : onW s p = onB s.a s.b p := by
  unfold onW onB
  rw [hs, hp, crW_crs (isSeg_bd hs).1 (isSeg_bd hs).2.1 hp, inr_btw, inr_btw]
  rfl
theorem fwdW_ends (s : TSegment) : (fwdW s).a = lowE s.a s.b ∧ (fwdW s).b = highE s.a s.b := by
  unfold fwdW lowE highE
  split <;> exact ⟨rfl, rfl⟩
theorem hmI_eq {s t : TSegment} (hs : isSeg s = true) (ht : isSeg t = true) : hmI s t = meetI s.a s.b t.a t.b := by
  obtain ⟨h1, h2, h3⟩ := isSeg_bd hs
  obtain ⟨g1, g2, g3⟩ := isSeg_bd ht
  unfold hmI meetI crossB
  rw [hs, ht]
  rw [onW_onB hs g1, onW_onB hs g2, onW_onB ht h1, onW_onB ht h2]
  rw [sdW_sg h1 h2 g1, sdW_sg h1 h2 g2, sdW_sg g1 g2 h1, sdW_sg g1 g2 h2, wmul_sg, wmul_sg]
  rw [(fwdW_ends s).1, (fwdW_ends s).2, (fwdW_ends t).1, (fwdW_ends t).2, ptE_eqP]
  simp only [Bool.not_true, Bool.or_self, Bool.false_eq_true, if_false, Bool.and_eq_true, beq_iff_eq]
def endsL (s t : TSegment) : List TPoint := [s.a, s.b, t.a, t.b]
def endE (s t : TSegment) (i : Nat) : TPoint := (endsL s t).getD i ⟨0, 0⟩
def onE (s t : TSegment) (i : Nat) : Bool := if i < 2 then onW t (endE s t i) else onW s (endE s t i)
def addW (on : Bool) (e : TPoint) (l : List TPoint) : List TPoint := if (on && l.all fun q => !ptE q e) = true then l ++ [e] else l
def shK (s t : TSegment) : Nat → List TPoint
  | 0 => []
  | i + 1 => addW (onE s t i) (endE s t i) (shK s t i)
theorem shK_succ (s t : TSegment) (i : Nat) : shK s t (i + 1) = addW (onE s t i) (endE s t i) (shK s t i) := rfl
theorem shK_len (s t : TSegment) (i : Nat) : (shK s t i).length ≤ i := by
  induction i with
  | zero => simp [shK]
  | succ i ih =>
    rw [shK_succ]
    unfold addW
    split
    · simp; omega
    · omega
def onK (s t : TSegment) (i k : Nat) : Bool := onE s t i && ((shK s t i).take k).all fun q => !ptE q (endE s t i)
theorem onK_zero (s t : TSegment) (i : Nat) : onK s t i 0 = onE s t i := by simp [onK]
theorem onK_succ {s t : TSegment} {i k : Nat} {q : TPoint} (h : (shK s t i)[k]? = some q) : onK s t i (k + 1) = (onK s t i k && !ptE q (endE s t i)) := by
  unfold onK
  rw [take_succ_of h, List.all_append, Bool.and_assoc]
  simp
theorem sh_add {s t : TSegment} {i : Nat} (h : onK s t i (shK s t i).length = true) : (shK s t (i + 1)).map TPoint.en = (shK s t i).map TPoint.en ++ [(endE s t i).en] ∧ (shK s t (i + 1)).length = (shK s t i).length + 1 := by
  unfold onK at h
  rw [List.take_length] at h
  rw [shK_succ, addW, if_pos h]
  simp
theorem sh_not {s t : TSegment} {i : Nat} (h : onK s t i (shK s t i).length = false) : (shK s t (i + 1)).map TPoint.en = (shK s t i).map TPoint.en ∧ (shK s t (i + 1)).length = (shK s t i).length := by
  unfold onK at h
  rw [List.take_length] at h
  rw [shK_succ, addW, if_neg (by rw [h]; simp)]
  simp
theorem end_get {s t : TSegment} {i : Nat} (h : i < 4) : ((endsL s t).map TPoint.en)[((i : Int)).toNat]? = some (endE s t i).en := by
  refine map_get ?_
  rw [endE, List.getD_eq_getElem?_getD, List.getElem?_eq_getElem (show i < (endsL s t).length from h)]
  rfl
theorem fitsM_cons {n : Nat} {b : Blk} {M : Mem} (h : ∀ r ∈ b.es, ∀ y ∈ r, Clo y) (hm : FitsM n M) : FitsM n (some b :: M) := fun b' hb r hr x hx => by
  rcases List.mem_cons.1 hb with e | hb
  · cases e; exact Fits.clo (h r hr x hx)
  · exact hm b' hb r hr x hx
theorem clo_one {l : List AV} (h : ∀ x ∈ l, Clo x) : ∀ r ∈ [l], ∀ x ∈ r, Clo x := fun r hr => by
  rw [List.mem_singleton.1 hr]
  exact h
def apW (s t : TSegment) : Bool := decide (wmax s.a.x s.b.x < wmin t.a.x t.b.x) || decide (wmax t.a.x t.b.x < wmin s.a.x s.b.x) || decide (wmax s.a.y s.b.y < wmin t.a.y t.b.y) || decide (wmax t.a.y t.b.y < wmin s.a.y s.b.y)
def hmS (s t : TSegment) : Int :=
  if (!isSeg s || !isSeg t) = true then 0 else if apW s t = true then 0 else
  if (((shK s t 4).length : Int) == 0) = true then (if (decide (wmul (sdW s.a s.b t.a) (sdW s.a s.b t.b) < 0) && decide (wmul (sdW t.a t.b s.a) (sdW t.a t.b s.b) < 0)) = true then 2 else 0)
  else if (((shK s t 4).length : Int) == 1) = true then 1 else 3
theorem addW_addE (on : Bool) (e : TPoint) (l : List TPoint) : addW on e l = addE on e l := by
  unfold addW addE
  simp only [ptE_eqP]
theorem shK_shrd {s t : TSegment} (hs : isSeg s = true) (ht : isSeg t = true) : shK s t 4 = shrd s.a s.b t.a t.b := by
  obtain ⟨h1, h2, h3⟩ := isSeg_bd hs
  obtain ⟨g1, g2, g3⟩ := isSeg_bd ht
  unfold shrd
  rw [shK_succ, shK_succ, shK_succ, shK_succ]
  simp only [addW_addE, onE, endE, endsL, List.getD_cons_zero, List.getD_cons_succ, shK]
  rw [onW_onB hs g1, onW_onB hs g2, onW_onB ht h1, onW_onB ht h2]
  simp
theorem apW_apart {s t : TSegment} (h : apW s t = true) : apart s.a s.b t.a t.b := by
  unfold apW wmin wmax at h
  simp only [Bool.or_eq_true, decide_eq_true_eq] at h
  unfold apart
  rcases h with ((h | h) | h) | h
  · left; split at h <;> split at h <;> omega
  · right; left; split at h <;> split at h <;> omega
  · right; right; left; split at h <;> split at h <;> omega
  · right; right; right; split at h <;> split at h <;> omega
theorem hmS_eq (s t : TSegment) : hmS s t = hmI s t := by
  cases hs : isSeg s
  · simp [hmS, hmI, hs]
  · cases ht : isSeg t
    · simp [hmS, hmI, ht]
    · rw [hmI_eq hs ht]
      cases ha : apW s t
      · rw [← meet_eq (isSeg_ne hs) (isSeg_ne ht)]
        obtain ⟨h1, h2, h3⟩ := isSeg_bd hs
        obtain ⟨g1, g2, g3⟩ := isSeg_bd ht
        have e0 : ∀ n : Nat, ((n : Int) == 0) = decide (n = 0) := fun n => by rw [Bool.eq_iff_iff]; simp
        have e1 : ∀ n : Nat, ((n : Int) == 1) = decide (n = 1) := fun n => by rw [Bool.eq_iff_iff]; simp; omega
        unfold hmS meetS crossB
        simp only [e0, e1, decide_eq_true_eq]
        rw [hs, ht, ha, shK_shrd hs ht, sdW_sg h1 h2 g1, sdW_sg h1 h2 g2, sdW_sg g1 g2 h1, sdW_sg g1 g2 h2, wmul_sg, wmul_sg]
        rfl
      · rw [meet_eq_boxes (isSeg_ne hs) (isSeg_ne ht) (apW_apart ha)]
        simp [hmS, hs, ht, ha]

end Go.Proofs.YtolmophnimngjaaGreat.Abs
