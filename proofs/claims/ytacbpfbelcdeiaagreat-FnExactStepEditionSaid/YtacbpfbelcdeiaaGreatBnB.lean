/- Part B of the walk over abstract states and of the functions' walks. -/
import Derived.Test.YtacbpfbelcdeiaaGreatWkStep
import Derived.Test.YtacbpfbelcdeiaaGreatBnA
/- How two segments meet: what the program's way and the reference's way come to. -/
namespace Go.Proofs.YtacbpfbelcdeiaaGreat.Abs
open Go.Proofs Go.RowKit
set_option linter.unusedVariables false
set_option linter.unusedSimpArgs false
attribute [local irreducible] OpA AL AW DL DLM DLR DLS QOp POp VCalls VCallsI
def hmI (s t : TSegment) : Int :=
  if (!isSeg s || !isSeg t) = true then 0 else
  if ((sdW s.a s.b t.a == 0) && (sdW s.a s.b t.b == 0)) = true then
    if bef (if bef (fwdW t).b (fwdW s).b = true then (fwdW t).b else (fwdW s).b) (if bef (fwdW s).a (fwdW t).a = true then (fwdW t).a else (fwdW s).a) = true then 0
    else if ptE (if bef (fwdW s).a (fwdW t).a = true then (fwdW t).a else (fwdW s).a) (if bef (fwdW t).b (fwdW s).b = true then (fwdW t).b else (fwdW s).b) = true then 1 else 3
  else if (decide (wmul (sdW s.a s.b t.a) (sdW s.a s.b t.b) < 0) && decide (wmul (sdW t.a t.b s.a) (sdW t.a t.b s.b) < 0)) = true then 2
  else if (onW s t.a || onW s t.b || onW t s.a || onW t s.b) = true then 1 else 0
theorem mul_small {u v : Int} (h1 : -200 ≤ u ∧ u ≤ 200) (h2 : -200 ≤ v ∧ v ≤ 200) : -40000 ≤ u * v ∧ u * v ≤ 40000 := by
  have a1 := Int.mul_nonneg (show 0 ≤ 200 - u by omega) (show 0 ≤ 200 + v by omega)
  have a2 := Int.mul_nonneg (show 0 ≤ 200 + u by omega) (show 0 ≤ 200 - v by omega)
  have a3 := Int.mul_nonneg (show 0 ≤ 200 - u by omega) (show 0 ≤ 200 - v by omega)
  have a4 := Int.mul_nonneg (show 0 ≤ 200 + u by omega) (show 0 ≤ 200 + v by omega)
  have e1 : (200 - u) * (200 + v) + (200 + u) * (200 - v) = 80000 - 2 * (u * v) := by grind
  have e2 : (200 - u) * (200 - v) + (200 + u) * (200 + v) = 80000 + 2 * (u * v) := by grind
  omega
theorem isp_bd {x y : Int} (h : isp x y = true) : 0 ≤ x ∧ x ≤ 200 ∧ 0 ≤ y ∧ y ≤ 200 := by
  simp only [isp, inr, Bool.and_eq_true, decide_eq_true_eq] at h
  omega
theorem crW_crs {a b p : TPoint} (ha : isp a.x a.y = true) (hb : isp b.x b.y = true) (hp : isp p.x p.y = true) : crW a b p = crs a b p := by
  have ha := isp_bd ha
  have hb := isp_bd hb
  have hp := isp_bd hp
  have m1 := mul_small (u := b.x - a.x) (v := p.y - a.y) (by omega) (by omega)
  have m2 := mul_small (u := b.y - a.y) (v := p.x - a.x) (by omega) (by omega)
  unfold crW crs wmul wsub
  rw [w64 (n := b.x - a.x) (by omega) (by omega), w64 (n := p.y - a.y) (by omega) (by omega), w64 (n := b.y - a.y) (by omega) (by omega), w64 (n := p.x - a.x) (by omega) (by omega)]
  rw [w64 (n := (b.x - a.x) * (p.y - a.y)) (by omega) (by omega), w64 (n := (b.y - a.y) * (p.x - a.x)) (by omega) (by omega), w64 (by omega) (by omega)]
theorem sdW_sg {a b p : TPoint} (ha : isp a.x a.y = true) (hb : isp b.x b.y = true) (hp : isp p.x p.y = true) : sdW a b p = sg (crs a b p) := by
  unfold sdW
  rw [ha, hb, hp, crW_crs ha hb hp]
  rfl
theorem sg_bd (n : Int) : -1 ≤ sg n ∧ sg n ≤ 1 := by unfold sg; split <;> (try split) <;> omega
theorem wmul_sg (m n : Int) : wmul (sg m) (sg n) = sg m * sg n := by
  have h1 := sg_bd m
  have h2 := sg_bd n
  have := mul_small (u := sg m) (v := sg n) (by omega) (by omega)
  exact w64 (by omega) (by omega)
theorem isSeg_bd {s : TSegment} (h : isSeg s = true) : isp s.a.x s.a.y = true ∧ isp s.b.x s.b.y = true ∧ ptE s.a s.b = false := by
  simp only [isSeg, Bool.and_eq_true, Bool.not_eq_true'] at h
  exact ⟨h.1.1, h.1.2, h.2⟩
theorem ptE_eqP (a b : TPoint) : ptE a b = eqP a b := by
  rw [Bool.eq_iff_iff]
  simp [ptE, eqVs, eqV, eqP]
theorem isSeg_ne {s : TSegment} (h : isSeg s = true) : s.a ≠ s.b := fun e => by
  have := (isSeg_bd h).2.2
  rw [ptE_eqP, e] at this
  simp [eqP] at this
theorem inr_btw (a b p : Int) : inr p (wmin a b) (wmax a b) = btwB a b p := by
  rw [Bool.eq_iff_iff]
  unfold inr wmin wmax btwB
  simp only [Bool.and_eq_true, Bool.or_eq_true, decide_eq_true_eq]
  split <;> split <;> omega
theorem onW_onB {s : TSegment} {p : TPoint} (hs : isSeg s = true) (hp : isp p.x p.y = true) : onW s p = onB s.a s.b p := by
  unfold onW onB
  rw [hs, hp, crW_crs (isSeg_bd hs).1 (isSeg_bd hs).2.1 hp, inr_btw, inr_btw]
  rfl
theorem fwdW_ends (s : TSegment) : (fwdW s).a = lowE s.a s.b ∧ (fwdW s).b = highE s.a s.b := by
  unfold fwdW lowE highE
  split <;> exact ⟨rfl, rfl⟩
theorem hmI_eq {s t : TSegment} (hs : isSeg s = true) (ht : isSeg t = true) : hmI s t = meetI s.a s.b t.a t.b := by
  obtain ⟨h1, h2, h3⟩ := isSeg_bd hs
  obtain ⟨g1, g2, g3⟩ := isSeg_bd ht
  unfold hmI meetI crossB
  rw [hs, ht]
  rw [onW_onB hs g1, onW_onB hs g2, onW_onB ht h1, onW_onB ht h2]
  rw [sdW_sg h1 h2 g1, sdW_sg h1 h2 g2, sdW_sg g1 g2 h1, sdW_sg g1 g2 h2, wmul_sg, wmul_sg]
  rw [(fwdW_ends s).1, (fwdW_ends s).2, (fwdW_ends t).1, (fwdW_ends t).2, ptE_eqP]
  simp only [Bool.not_true, Bool.or_self, Bool.false_eq_true, if_false, Bool.and_eq_true, beq_iff_eq]
def endsL (s t : TSegment) : List TPoint := [s.a, s.b, t.a, t.b]
def endE (s t : TSegment) (i : Nat) : TPoint := (endsL s t).getD i ⟨0, 0⟩
def onE (s t : TSegment) (i : Nat) : Bool := if i < 2 then onW t (endE s t i) else onW s (endE s t i)
def addW (on : Bool) (e : TPoint) (l : List TPoint) : List TPoint := if (on && l.all fun q => !ptE q e) = true then l ++ [e] else l
def shK (s t : TSegment) : Nat → List TPoint
  | 0 => []
  | i + 1 => addW (onE s t i) (endE s t i) (shK s t i)
theorem shK_succ (s t : TSegment) (i : Nat) : shK s t (i + 1) = addW (onE s t i) (endE s t i) (shK s t i) := rfl
theorem shK_len (s t : TSegment) (i : Nat) : (shK s t i).length ≤ i := by
  induction i with
  | zero => simp [shK]
  | succ i ih =>
    rw [shK_succ]
    unfold addW
    split
    · simp; omega
    · omega
def onK (s t : TSegment) (i k : Nat) : Bool := onE s t i && ((shK s t i).take k).all fun q => !ptE q (endE s t i)
theorem onK_zero (s t : TSegment) (i : Nat) : onK s t i 0 = onE s t i := by simp [onK]
theorem onK_succ {s t : TSegment} {i k : Nat} {q : TPoint} (h : (shK s t i)[k]? = some q) : onK s t i (k + 1) = (onK s t i k && !ptE q (endE s t i)) := by
  unfold onK
  rw [take_succ_of h, List.all_append, Bool.and_assoc]
  simp
theorem sh_add {s t : TSegment} {i : Nat} (h : onK s t i (shK s t i).length = true) : (shK s t (i + 1)).map TPoint.en = (shK s t i).map TPoint.en ++ [(endE s t i).en] ∧ (shK s t (i + 1)).length = (shK s t i).length + 1 := by
  unfold onK at h
  rw [List.take_length] at h
  rw [shK_succ, addW, if_pos h]
  simp
theorem sh_not {s t : TSegment} {i : Nat} (h : onK s t i (shK s t i).length = false) : (shK s t (i + 1)).map TPoint.en = (shK s t i).map TPoint.en ∧ (shK s t (i + 1)).length = (shK s t i).length := by
  unfold onK at h
  rw [List.take_length] at h
  rw [shK_succ, addW, if_neg (by rw [h]; simp)]
  simp
theorem end_get {s t : TSegment} {i : Nat} (h : i < 4) : ((endsL s t).map TPoint.en)[((i : Int)).toNat]? = some (endE s t i).en := by
  refine map_get ?_
  rw [endE, List.getD_eq_getElem?_getD, List.getElem?_eq_getElem (show i < (endsL s t).length from h)]
  rfl
theorem fitsM_cons {n : Nat} {b : Blk} {M : Mem} (h : ∀ r ∈ b.es, ∀ y ∈ r, Clo y) (hm : FitsM n M) : FitsM n (some b :: M) := fun b' hb r hr x hx => by
  rcases List.mem_cons.1 hb with e | hb
  · cases e; exact Fits.clo (h r hr x hx)
  · exact hm b' hb r hr x hx
theorem clo_one {l : List AV} (h : ∀ x ∈ l, Clo x) : ∀ r ∈ [l], ∀ x ∈ r, Clo x := fun r hr => by
  rw [List.mem_singleton.1 hr]
  exact h
def apW (s t : TSegment) : Bool := decide (wmax s.a.x s.b.x < wmin t.a.x t.b.x) || decide (wmax t.a.x t.b.x < wmin s.a.x s.b.x) || decide (wmax s.a.y s.b.y < wmin t.a.y t.b.y) || decide (wmax t.a.y t.b.y < wmin s.a.y s.b.y)
def hmS (s t : TSegment) : Int :=
  if (!isSeg s || !isSeg t) = true then 0 else if apW s t = true then 0 else
  if (((shK s t 4).length : Int) == 0) = true then (if (decide (wmul (sdW s.a s.b t.a) (sdW s.a s.b t.b) < 0) && decide (wmul (sdW t.a t.b s.a) (sdW t.a t.b s.b) < 0)) = true then 2 else 0)
  else if (((shK s t 4).length : Int) == 1) = true then 1 else 3
theorem addW_addE (on : Bool) (e : TPoint) (l : List TPoint) : addW on e l = addE on e l := by
  unfold addW addE
  simp only [ptE_eqP]
theorem shK_shrd {s t : TSegment} (hs : isSeg s = true) (ht : isSeg t = true) : shK s t 4 = shrd s.a s.b t.a t.b := by
  obtain ⟨h1, h2, h3⟩ := isSeg_bd hs
  obtain ⟨g1, g2, g3⟩ := isSeg_bd ht
  unfold shrd
  rw [shK_succ, shK_succ, shK_succ, shK_succ]
  simp only [addW_addE, onE, endE, endsL, List.getD_cons_zero, List.getD_cons_succ, shK]
  rw [onW_onB hs g1, onW_onB hs g2, onW_onB ht h1, onW_onB ht h2]
  simp
theorem apW_apart {s t : TSegment} (h : apW s t = true) : apart s.a s.b t.a t.b := by
  unfold apW wmin wmax at h
  simp only [Bool.or_eq_true, decide_eq_true_eq] at h
  unfold apart
  rcases h with ((h | h) | h) | h
  · left; split at h <;> split at h <;> omega
  · right; left; split at h <;> split at h <;> omega
  · right; right; left; split at h <;> split at h <;> omega
  · right; right; right; split at h <;> split at h <;> omega
theorem hmS_eq (s t : TSegment) : hmS s t = hmI s t := by
  cases hs : isSeg s
  · simp [hmS, hmI, hs]
  · cases ht : isSeg t
    · simp [hmS, hmI, ht]
    · rw [hmI_eq hs ht]
      cases ha : apW s t
      · rw [← meet_eq (isSeg_ne hs) (isSeg_ne ht)]
        obtain ⟨h1, h2, h3⟩ := isSeg_bd hs
        obtain ⟨g1, g2, g3⟩ := isSeg_bd ht
        have e0 : ∀ n : Nat, ((n : Int) == 0) = decide (n = 0) := fun n => by rw [Bool.eq_iff_iff]; simp
        have e1 : ∀ n : Nat, ((n : Int) == 1) = decide (n = 1) := fun n => by rw [Bool.eq_iff_iff]; simp; omega
        unfold hmS meetS crossB
        simp only [e0, e1, decide_eq_true_eq]
        rw [hs, ht, ha, shK_shrd hs ht, sdW_sg h1 h2 g1, sdW_sg h1 h2 g2, sdW_sg g1 g2 h1, sdW_sg g1 g2 h2, wmul_sg, wmul_sg]
        rfl
      · rw [meet_eq_boxes (isSeg_ne hs) (isSeg_ne ht) (apW_apart ha)]
        simp [hmS, hs, ht, ha]

end Go.Proofs.YtacbpfbelcdeiaaGreat.Abs

/- The walks of a ring's segments. -/
namespace Go.Proofs.YtacbpfbelcdeiaaGreat.Abs
open Go.Proofs Go.RowKit
set_option linter.unusedVariables false
set_option linter.unusedSimpArgs false
attribute [local irreducible] OpA AL AW DL DLM DLR DLS QOp POp VCalls VCallsI
def arnd (l : List TPoint) : List TSegment := List.zipWith TSegment.mk l (l.tail ++ l.take 1)
theorem arnd_len (l : List TPoint) : (arnd l).length = l.length := by
  cases l
  · simp [arnd]
  · simp [arnd]
theorem arnd_get {l : List TPoint} {i : Nat} (h : i < l.length) : ∃ a b, l[i]? = some a ∧ l[(i + 1) % l.length]? = some b ∧ (arnd l)[i]? = some ⟨a, b⟩ := by
  refine ⟨l[i], l[(i + 1) % l.length]'(Nat.mod_lt _ (by omega)), List.getElem?_eq_getElem _, List.getElem?_eq_getElem _, ?_⟩
  unfold arnd
  rw [List.getElem?_zipWith]
  by_cases h1 : i + 1 < l.length
  · have e : (i + 1) % l.length = i + 1 := Nat.mod_eq_of_lt h1
    rw [List.getElem?_append_left (by simp; omega), List.getElem?_tail]
    simp [e, List.getElem?_eq_getElem h, List.getElem?_eq_getElem h1]
  · have e : (i + 1) % l.length = 0 := by rw [show i + 1 = l.length by omega, Nat.mod_self]
    rw [List.getElem?_append_right (by simp; omega)]
    have e2 : i - l.tail.length = 0 := by simp; omega
    rw [e2]
    simp [e, List.getElem?_eq_getElem h, List.getElem?_take, List.getElem?_eq_getElem (show 0 < l.length by omega)]
theorem arnd_take (l : List TPoint) : (arnd l).take l.length = arnd l := by rw [← arnd_len l, List.take_length]
def wantN (n i k : Nat) : Int := if k + 1 = i ∨ (k = 0 ∧ i + 1 = n) then 1 else 0
theorem arnd_ix {l : List TPoint} {i : Nat} (h : i < l.length) (hl : l.length ≤ 1048576) : (IntKind.i64.wrap ((i : Int) + 1)).tmod ((l.map TPoint.en).length : Int) = (((i + 1) % l.length : Nat) : Int) := by
  rw [w64 (by omega) (by omega), List.length_map, show (i : Int) + 1 = ((i + 1 : Nat) : Int) by omega]
  exact (Int.ofNat_tmod _ _).symm
theorem want_s {n i k : Nat} (hi : i < n) (hk : k < i) (hn : n ≤ 1048576) :
    ((IntKind.i64.wrap ((k : Int) + 1) == (i : Int)) = true ∧ wantN n i k = 1) ∨
    ((IntKind.i64.wrap ((k : Int) + 1) == (i : Int)) = false ∧ ((k : Int) == 0) = false ∧ wantN n i k = 0) ∨
    ((IntKind.i64.wrap ((k : Int) + 1) == (i : Int)) = false ∧ ((k : Int) == 0) = true ∧ (IntKind.i64.wrap ((i : Int) + 1) == (n : Int)) = true ∧ wantN n i k = 1) ∨
    ((IntKind.i64.wrap ((k : Int) + 1) == (i : Int)) = false ∧ ((k : Int) == 0) = true ∧ (IntKind.i64.wrap ((i : Int) + 1) == (n : Int)) = false ∧ wantN n i k = 0) := by
  rw [w64 (n := (k : Int) + 1) (by omega) (by omega), w64 (n := (i : Int) + 1) (by omega) (by omega)]
  unfold wantN
  simp only [beq_iff_eq, beq_eq_false_iff_ne, ne_eq]
  by_cases q1 : k + 1 = i
  · exact .inl ⟨by omega, by simp [q1]⟩
  · by_cases q2 : k = 0
    · by_cases q3 : i + 1 = n
      · exact .inr (.inr (.inl ⟨by omega, by omega, by omega, by simp [q2, q3]⟩))
      · exact .inr (.inr (.inr ⟨by omega, by omega, by omega, by simp [q1, q2, q3] <;> omega⟩))
    · exact .inr (.inl ⟨by omega, by omega, by simp [q1, q2]⟩)
theorem want_i {n i k : Nat} (hi : i < n) (hk : k < i) (hn : n ≤ 1048576) :
    (((k : Int) == IntKind.i64.wrap ((i : Int) - 1)) = true ∧ wantN n i k = 1) ∨
    (((k : Int) == IntKind.i64.wrap ((i : Int) - 1)) = false ∧ ((k : Int) == 0) = false ∧ wantN n i k = 0) ∨
    (((k : Int) == IntKind.i64.wrap ((i : Int) - 1)) = false ∧ ((k : Int) == 0) = true ∧ ((i : Int) == IntKind.i64.wrap ((n : Int) - 1)) = true ∧ wantN n i k = 1) ∨
    (((k : Int) == IntKind.i64.wrap ((i : Int) - 1)) = false ∧ ((k : Int) == 0) = true ∧ ((i : Int) == IntKind.i64.wrap ((n : Int) - 1)) = false ∧ wantN n i k = 0) := by
  have e1 : ((k : Int) == IntKind.i64.wrap ((i : Int) - 1)) = (IntKind.i64.wrap ((k : Int) + 1) == (i : Int)) := by
    rw [w64 (n := (k : Int) + 1) (by omega) (by omega), w64 (n := (i : Int) - 1) (by omega) (by omega), Bool.eq_iff_iff]
    simp only [beq_iff_eq]
    omega
  have e2 : ((i : Int) == IntKind.i64.wrap ((n : Int) - 1)) = (IntKind.i64.wrap ((i : Int) + 1) == (n : Int)) := by
    rw [w64 (n := (i : Int) + 1) (by omega) (by omega), w64 (n := (n : Int) - 1) (by omega) (by omega), Bool.eq_iff_iff]
    simp only [beq_iff_eq]
    omega
  rw [e1, e2]
  exact want_s hi hk hn
def sAt (l : List TPoint) (i : Nat) : TSegment := (arnd l).getD i ⟨⟨0, 0⟩, ⟨0, 0⟩⟩
theorem sAt_of {l : List TPoint} {i : Nat} {x : TSegment} (h : (arnd l)[i]? = some x) : sAt l i = x := by simp [sAt, List.getD_eq_getElem?_getD, h]
def rgIn (l : List TPoint) (i n : Nat) : Bool := (List.range n).all fun k => hmI (sAt l i) (sAt l k) == wantN l.length i k
def rgAt (l : List TPoint) (i : Nat) : Bool := isSeg (sAt l i) && rgIn l i i
def rgOk (l : List TPoint) (n : Nat) : Bool := (List.range n).all (rgAt l)
theorem rgIn_succ (l : List TPoint) (i k : Nat) : rgIn l i (k + 1) = (rgIn l i k && (hmI (sAt l i) (sAt l k) == wantN l.length i k)) := by simp [rgIn, List.range_succ]
theorem rgOk_succ (l : List TPoint) (i : Nat) : rgOk l (i + 1) = (rgOk l i && rgAt l i) := by simp [rgOk, List.range_succ]
theorem rgIn_not {l : List TPoint} {i k n : Nat} (h : (hmI (sAt l i) (sAt l k) == wantN l.length i k) = false) (hk : k < n) : rgIn l i n = false := by
  simp only [rgIn, List.all_eq_false, List.mem_range]
  exact ⟨k, hk, by simp [h]⟩
theorem rgOk_not {l : List TPoint} {i n : Nat} (h : rgAt l i = false) (hi : i < n) : rgOk l n = false := by
  simp only [rgOk, List.all_eq_false, List.mem_range]
  exact ⟨i, hi, by simp [h]⟩
def isRing (l : List TPoint) : Bool := inr l.length 3 10 && rgOk l l.length
theorem isRing_len {l : List TPoint} (h : isRing l = true) : 3 ≤ l.length ∧ l.length ≤ 10 := by
  simp only [isRing, inr, Bool.and_eq_true, decide_eq_true_eq] at h
  omega
def ringSegs (l : List TPoint) : List TSegment := if isRing l then arnd l else []
theorem ringSegs_t {l : List TPoint} (h : isRing l = true) : ringSegs l = arnd l := by simp [ringSegs, h]
theorem ringSegs_f {l : List TPoint} (h : isRing l = false) : ringSegs l = [] := by simp [ringSegs, h]
theorem ringSegs_le (l : List TPoint) : (ringSegs l).length ≤ 10 := by
  unfold ringSegs
  split
  · have := isRing_len (by assumption); rw [arnd_len]; omega
  · simp
abbrev twS (n : Int) (s : TSegment) : Int := wsub (wadd n (wmul s.a.x s.b.y)) (wmul s.a.y s.b.x)
abbrev twI (n : Int) (s : TSegment) : Int := wadd n (wsub (wmul s.a.x s.b.y) (wmul s.a.y s.b.x))
theorem tw_eq (n : Int) (s : TSegment) : twI n s = twS n s := by
  unfold twI twS wadd wsub
  generalize wmul s.a.x s.b.y = p
  generalize wmul s.a.y s.b.x = q
  unfold IntKind.wrap
  simp [IntKind.bits, IntKind.signed]
  repeat' split
  all_goals omega
theorem tw_fun : twI = twS := by
  funext n s
  exact tw_eq n s
def twice (l : List TPoint) : Int := (ringSegs l).foldl twS 0
abbrev stepA (n : Int) (x : TFeature) : Int := if x.kind == 3 then wadd n (wmax (twice x.points) (IntKind.i64.wrap (-(twice x.points)))) else n
def totArea (l : List TFeature) : Int := l.foldl stepA 0

set_option maxRecDepth 100000 in
set_option maxHeartbeats 2000000 in
theorem arnd_s (l : List TPoint) (hl : l.length ≤ 1048576) : VCalls Tryz.prog 169 [.ro 2 (l.map TPoint.en)] (fun r M => r = .ro 4 ((arnd l).map TSegment.en) ∧ M = []) := by
  refine VCalls.bodyE Tryz.func169 rfl 28 rfl (fun E hE => ?_)
  simp only [List.reduceReplicate, List.cons_append, List.nil_append]
  have hclo : Clo (.ro 2 (l.map TPoint.en)) := clo_list TPoint.clo_en
  have hclA : Clo (.ro 4 ((arnd l).map TSegment.en)) := clo_list TSegment.clo_en
  have hal := arnd_len l
  repeat' ((first
    | ((with_reducible show AL _ _ _ _ _ _ _); first | refine AL.any ?_ | refine AL.nil ?_)
    | ((with_reducible show DL _ _ _ _ _ _ _); first | refine DL.any ?_ | refine DL.nil ?_)
    | ((with_reducible show DLM _ _ _ _ _ _ _ _ _ _); first | refine DLM.any ?_ | refine DLM.mk ?_ | refine DLM.nil ?_)
    | ((with_reducible show AW _ _ _ _ _ _); first | refine AW.seq ?_ | refine AW.region ?_ | refine AW.skip ?_ | (refine AW.loopD hE (fun i : Nat => [.ro 2 (l.map TPoint.en), .any, .any, .own 0 i, I (i : Int), .any, .any, .any, .any, .any, .any, .any, .any, .any, .any, .any, .any, .any, .any, .any, .any, .any, .any, .any, .any, .any, .any, .any, .any]) (fun i => [some ⟨177, 4, i, false, ((arnd l).take i).map TSegment.en⟩]) (fun i => (arnd l).length - i) (fun i => i ≤ (arnd l).length) 0 (Nat.zero_le _) ?_ (by first | rfl | (simp [fil_zero]; done)) ?_) | refine AW.drM (id := 5) 15 14 ?_ | refine AW.cT ?_ | refine AW.cF ?_ | (refine AW.c2 ?_ ?_ <;> (intro h; try simp only [Bool.not_eq_true', Bool.not_eq_false'] at h)) | refine AW.block ?_ | refine AW.exit ?_ | refine AW.ret ?_)
    | with_reducible refine (if_pos rfl).mpr ?_
    | with_reducible refine (if_neg (by decide)).mpr ?_) <;> (try dsimp only))
  · (repeat' (first | exact Wk.nil | refine Wk.any ?_ | (with_reducible refine Wk.same ?_) | refine Wk.of ?_ ?_)) <;> first | rfl | (simp)
  · intro i hi
    have hclo : Clo (.ro 2 (l.map TPoint.en)) := clo_list TPoint.clo_en
    have hclA : Clo (.ro 4 ((arnd l).map TSegment.en)) := clo_list TSegment.clo_en
    have hal := arnd_len l
    by_cases hlt : i < (arnd l).length
    · skip
      obtain ⟨a, b, ha, hb, hs⟩ := arnd_get (l := l) (i := i) (by omega)
      have ht : decide ((i : Int) < ((l.map TPoint.en).length : Int)) = true := by simp; omega
      have hn := next_ix hlt (by omega)
      have hix := arnd_ix (l := l) (i := i) (by omega) hl
      have hz : ((l.map TPoint.en).length : Int) ≠ 0 := by rw [List.length_map]; omega
      have h0 : 0 ≤ (IntKind.i64.wrap ((i : Int) + 1)).tmod ((l.map TPoint.en).length : Int) := by rw [hix]; omega
      have hga := map_get (f := TPoint.en) ha
      have hgb : (l.map TPoint.en)[((IntKind.i64.wrap ((i : Int) + 1)).tmod ((l.map TPoint.en).length : Int)).toNat]? = some b.en := by rw [hix]; exact map_get hb
      have hm := map_take_succ (f := TSegment.en) hs
      repeat' ((first
        | ((with_reducible show AL _ _ _ _ _ _ _); first | refine AL.any ?_ | refine AL.nil ?_)
        | ((with_reducible show DL _ _ _ _ _ _ _); first | refine DL.any ?_ | refine DL.nil ?_)
        | ((with_reducible show DLM _ _ _ _ _ _ _ _ _ _); first | refine DLM.any ?_ | refine DLM.mk ?_ | refine DLM.nil ?_)
        | ((with_reducible show AW _ _ _ _ _ _); first | refine AW.seq ?_ | refine AW.region ?_ | refine AW.skip ?_ | refine AW.drM (id := 5) 15 14 ?_ | refine AW.cT ?_ | refine AW.cF ?_ | (refine AW.c2 ?_ ?_ <;> (intro h; try simp only [Bool.not_eq_true', Bool.not_eq_false'] at h)) | refine AW.block ?_ | refine AW.exit ?_ | refine AW.ret ?_)
        | with_reducible refine (if_pos rfl).mpr ?_
        | with_reducible refine (if_neg (by decide)).mpr ?_) <;> (try dsimp only))
      all_goals first
        | (refine ⟨i + 1, _, hlt, by omega, ?_, by rw [hm] <;> rfl, ?_, ?_⟩; (focus ((repeat' (first | exact Wk.nil | refine Wk.any ?_ | (with_reducible refine Wk.same ?_) | refine Wk.of ?_ ?_)) <;> (simp_all))); (focus ((repeat' (first | exact Fits.nil _ | refine Fits.cons ?_ ?_ | exact Fits.any _ | exact Fits.c _ _ | exact Fits.own (by rfl) | exact Fits.ref (by rfl) | exact Fits.clo (by assumption) | exact Fits.clo (clo_of (by rfl)) | exact Fits.clo (clo_fn _))))); (focus (exact fits_row (clo_rows TSegment.clo_en))))
    · have e : i = (arnd l).length := by omega
      have ht : decide ((i : Int) < ((l.map TPoint.en).length : Int)) = false := by simp; omega
      subst e
      repeat' ((first
        | ((with_reducible show AL _ _ _ _ _ _ _); first | refine AL.any ?_ | refine AL.nil ?_)
        | ((with_reducible show DL _ _ _ _ _ _ _); first | refine DL.any ?_ | refine DL.nil ?_)
        | ((with_reducible show DLM _ _ _ _ _ _ _ _ _ _); first | refine DLM.any ?_ | refine DLM.mk ?_ | refine DLM.nil ?_)
        | ((with_reducible show AW _ _ _ _ _ _); first | refine AW.seq ?_ | refine AW.region ?_ | refine AW.skip ?_ | (refine AW.freezeRet (t := 2) (id := 0) rfl rfl rfl rfl (clo_rows TSegment.clo_en) ?_; (try simp only [List.take_length]); try dsimp only [dput, List.set, cond_true, cond_false, Nat.zero_add, Nat.add_zero, Nat.reduceAdd, splice, List.take, List.drop, List.length, List.nil_append, List.cons_append, List.append, TPoint.en, TSegment.en, TBox.en, TFeature.en, TMeet.en, TPlace.en, TCover.en, TLabel.en, TPiece.en, TLevel.en, TChart.en, TReason.en, TEdit.en, TEntry.en, TEdition.en, TListing.en, TAtlas.en, TEvent.en, TWindow.en]) | refine AW.drM (id := 5) 15 14 ?_ | refine AW.cT ?_ | refine AW.cF ?_ | (refine AW.c2 ?_ ?_ <;> (intro h; try simp only [Bool.not_eq_true', Bool.not_eq_false'] at h)) | refine AW.block ?_ | refine AW.exit ?_ | refine AW.ret ?_)
        | with_reducible refine (if_pos rfl).mpr ?_
        | with_reducible refine (if_neg (by decide)).mpr ?_) <;> (try dsimp only))
      all_goals exact Fin.one rfl (RV.tmp (by rfl)) (clo_list TSegment.clo_en) ⟨rfl, rfl⟩

set_option maxRecDepth 100000 in
set_option maxHeartbeats 2000000 in
theorem arnd_i (l : List TPoint) (hl : l.length ≤ 1048576) : VCalls Tryz.prog 176 [.ro 2 (l.map TPoint.en)] (fun r M => r = .ro 4 ((arnd l).map TSegment.en) ∧ M = []) := by
  refine VCalls.bodyE Tryz.func176 rfl 28 rfl (fun E hE => ?_)
  simp only [List.reduceReplicate, List.cons_append, List.nil_append]
  have hclo : Clo (.ro 2 (l.map TPoint.en)) := clo_list TPoint.clo_en
  have hclA : Clo (.ro 4 ((arnd l).map TSegment.en)) := clo_list TSegment.clo_en
  have hal := arnd_len l
  repeat' ((first
    | ((with_reducible show AL _ _ _ _ _ _ _); first | refine AL.any ?_ | refine AL.nil ?_)
    | ((with_reducible show DL _ _ _ _ _ _ _); first | refine DL.any ?_ | refine DL.nil ?_)
    | ((with_reducible show DLM _ _ _ _ _ _ _ _ _ _); first | refine DLM.any ?_ | refine DLM.mk ?_ | refine DLM.nil ?_)
    | ((with_reducible show AW _ _ _ _ _ _); first | refine AW.seq ?_ | refine AW.region ?_ | refine AW.skip ?_ | (refine AW.loopD hE (fun i : Nat => [.ro 2 (l.map TPoint.en), .any, .any, .own 0 i, .any, .any, .any, .ro 2 (l.map TPoint.en), I (l.map TPoint.en).length, I (i : Int), .any, .any, .any, .any, .any, .any, .any, .any, .any, .any, .any, .any, .any, .any, .any, .any, .any, .any, .any]) (fun i => [some ⟨177, 4, i, false, ((arnd l).take i).map TSegment.en⟩]) (fun i => (arnd l).length - i) (fun i => i ≤ (arnd l).length) 0 (Nat.zero_le _) ?_ (by first | rfl | (simp [fil_zero]; done)) ?_) | refine AW.drM (id := 5) 12 11 ?_ | refine AW.cT ?_ | refine AW.cF ?_ | (refine AW.c2 ?_ ?_ <;> (intro h; try simp only [Bool.not_eq_true', Bool.not_eq_false'] at h)) | refine AW.block ?_ | refine AW.exit ?_ | refine AW.ret ?_)
    | with_reducible refine (if_pos rfl).mpr ?_
    | with_reducible refine (if_neg (by decide)).mpr ?_) <;> (try dsimp only))
  · (repeat' (first | exact Wk.nil | refine Wk.any ?_ | (with_reducible refine Wk.same ?_) | refine Wk.of ?_ ?_)) <;> first | rfl | (simp)
  · intro i hi
    have hclo : Clo (.ro 2 (l.map TPoint.en)) := clo_list TPoint.clo_en
    have hclA : Clo (.ro 4 ((arnd l).map TSegment.en)) := clo_list TSegment.clo_en
    have hal := arnd_len l
    by_cases hlt : i < (arnd l).length
    · skip
      obtain ⟨a, b, ha, hb, hs⟩ := arnd_get (l := l) (i := i) (by omega)
      have ht : decide ((i : Int) < ((l.map TPoint.en).length : Int)) = true := by simp; omega
      have hn := next_ix hlt (by omega)
      have hix := arnd_ix (l := l) (i := i) (by omega) hl
      have hz : ((l.map TPoint.en).length : Int) ≠ 0 := by rw [List.length_map]; omega
      have h0 : 0 ≤ (IntKind.i64.wrap ((i : Int) + 1)).tmod ((l.map TPoint.en).length : Int) := by rw [hix]; omega
      have hga := map_get (f := TPoint.en) ha
      have hgb : (l.map TPoint.en)[((IntKind.i64.wrap ((i : Int) + 1)).tmod ((l.map TPoint.en).length : Int)).toNat]? = some b.en := by rw [hix]; exact map_get hb
      have hm := map_take_succ (f := TSegment.en) hs
      repeat' ((first
        | ((with_reducible show AL _ _ _ _ _ _ _); first | refine AL.any ?_ | refine AL.nil ?_)
        | ((with_reducible show DL _ _ _ _ _ _ _); first | refine DL.any ?_ | refine DL.nil ?_)
        | ((with_reducible show DLM _ _ _ _ _ _ _ _ _ _); first | refine DLM.any ?_ | refine DLM.mk ?_ | refine DLM.nil ?_)
        | ((with_reducible show AW _ _ _ _ _ _); first | refine AW.seq ?_ | refine AW.region ?_ | refine AW.skip ?_ | refine AW.drM (id := 5) 12 11 ?_ | refine AW.cT ?_ | refine AW.cF ?_ | (refine AW.c2 ?_ ?_ <;> (intro h; try simp only [Bool.not_eq_true', Bool.not_eq_false'] at h)) | refine AW.block ?_ | refine AW.exit ?_ | refine AW.ret ?_)
        | with_reducible refine (if_pos rfl).mpr ?_
        | with_reducible refine (if_neg (by decide)).mpr ?_) <;> (try dsimp only))
      all_goals first
        | (refine ⟨i + 1, _, hlt, by omega, ?_, by rw [hm] <;> rfl, ?_, ?_⟩; (focus ((repeat' (first | exact Wk.nil | refine Wk.any ?_ | (with_reducible refine Wk.same ?_) | refine Wk.of ?_ ?_)) <;> (simp_all))); (focus ((repeat' (first | exact Fits.nil _ | refine Fits.cons ?_ ?_ | exact Fits.any _ | exact Fits.c _ _ | exact Fits.own (by rfl) | exact Fits.ref (by rfl) | exact Fits.clo (by assumption) | exact Fits.clo (clo_of (by rfl)) | exact Fits.clo (clo_fn _))))); (focus (exact fits_row (clo_rows TSegment.clo_en))))
    · have e : i = (arnd l).length := by omega
      have ht : decide ((i : Int) < ((l.map TPoint.en).length : Int)) = false := by simp; omega
      subst e
      repeat' ((first
        | ((with_reducible show AL _ _ _ _ _ _ _); first | refine AL.any ?_ | refine AL.nil ?_)
        | ((with_reducible show DL _ _ _ _ _ _ _); first | refine DL.any ?_ | refine DL.nil ?_)
        | ((with_reducible show DLM _ _ _ _ _ _ _ _ _ _); first | refine DLM.any ?_ | refine DLM.mk ?_ | refine DLM.nil ?_)
        | ((with_reducible show AW _ _ _ _ _ _); first | refine AW.seq ?_ | refine AW.region ?_ | refine AW.skip ?_ | (refine AW.freezeRet (t := 2) (id := 0) rfl rfl rfl rfl (clo_rows TSegment.clo_en) ?_; (try simp only [List.take_length]); try dsimp only [dput, List.set, cond_true, cond_false, Nat.zero_add, Nat.add_zero, Nat.reduceAdd, splice, List.take, List.drop, List.length, List.nil_append, List.cons_append, List.append, TPoint.en, TSegment.en, TBox.en, TFeature.en, TMeet.en, TPlace.en, TCover.en, TLabel.en, TPiece.en, TLevel.en, TChart.en, TReason.en, TEdit.en, TEntry.en, TEdition.en, TListing.en, TAtlas.en, TEvent.en, TWindow.en]) | refine AW.drM (id := 5) 12 11 ?_ | refine AW.cT ?_ | refine AW.cF ?_ | (refine AW.c2 ?_ ?_ <;> (intro h; try simp only [Bool.not_eq_true', Bool.not_eq_false'] at h)) | refine AW.block ?_ | refine AW.exit ?_ | refine AW.ret ?_)
        | with_reducible refine (if_pos rfl).mpr ?_
        | with_reducible refine (if_neg (by decide)).mpr ?_) <;> (try dsimp only))
      all_goals exact Fin.one rfl (RV.tmp (by rfl)) (clo_list TSegment.clo_en) ⟨rfl, rfl⟩

end Go.Proofs.YtacbpfbelcdeiaaGreat.Abs

/- The walk of the program's HowMeet. -/
namespace Go.Proofs.YtacbpfbelcdeiaaGreat.Abs
open Go.Proofs Go.RowKit
set_option linter.unusedVariables false
set_option linter.unusedSimpArgs false
attribute [local irreducible] OpA AL AW DL DLM DLR DLS QOp POp VCalls VCallsI
set_option maxRecDepth 100000 in
set_option maxHeartbeats 2000000 in
theorem meet_i (s t : TSegment) : VCalls Tryz.prog 175 [.agg s.en, .agg t.en] (fun r M => r = I (hmI s t) ∧ M = []) := by
  refine VCalls.body Tryz.func175 rfl 107 rfl (fun E => ?_)
  simp only [List.reduceReplicate, List.cons_append, List.nil_append]
  dsimp only [TPoint.en, TSegment.en]
  repeat' ((first
    | ((with_reducible show AL _ _ _ _ _ _ _); first | refine AL.any ?_ | refine AL.any (h := POp.k Tryz.func177 (hc := by first | exact isSeg_i s | exact isSeg_i t)) ?_ | refine AL.any (h := POp.k Tryz.func191 (hc := by first | exact side_i s.a s.b t.a | exact side_i s.a s.b t.b | exact side_i t.a t.b s.a | exact side_i t.a t.b s.b)) ?_ | refine AL.any (h := POp.k Tryz.func192 (hc := by first | exact fwd_i s | exact fwd_i t)) ?_ | refine AL.any (h := POp.k Tryz.func193 (hc := by first | exact bef_i (fwdW s).a (fwdW t).a | exact bef_i (fwdW t).b (fwdW s).b | exact bef_i (fwdW s).b (fwdW s).a | exact bef_i (fwdW s).b (fwdW t).a | exact bef_i (fwdW t).b (fwdW s).a | exact bef_i (fwdW t).b (fwdW t).a)) ?_ | refine AL.any (h := POp.k Tryz.func194 (hc := by first | exact isOn_i s t.a | exact isOn_i s t.b | exact isOn_i t s.a | exact isOn_i t s.b)) ?_ | refine AL.U ?_ | refine AL.F ?_ | refine AL.T ?_ | refine AL.T (h := POp.k Tryz.func177 (hc := by first | exact isSeg_i s | exact isSeg_i t)) ?_ | refine AL.T (h := POp.k Tryz.func191 (hc := by first | exact side_i s.a s.b t.a | exact side_i s.a s.b t.b | exact side_i t.a t.b s.a | exact side_i t.a t.b s.b)) ?_ | refine AL.T (h := POp.k Tryz.func194 (hc := by first | exact isOn_i s t.a | exact isOn_i s t.b | exact isOn_i t s.a | exact isOn_i t s.b)) ?_ | refine AL.W ?_ | refine AL.W (h := fun h => by (try rw [h]); exact POp.k Tryz.func177 (hc := by first | exact isSeg_i s | exact isSeg_i t)) ?_ | refine AL.W (h := fun h => by (try rw [h]); exact POp.k Tryz.func191 (hc := by first | exact side_i s.a s.b t.a | exact side_i s.a s.b t.b | exact side_i t.a t.b s.a | exact side_i t.a t.b s.b)) ?_ | refine AL.W (h := fun h => by (try rw [h]); exact POp.k Tryz.func194 (hc := by first | exact isOn_i s t.a | exact isOn_i s t.b | exact isOn_i t s.a | exact isOn_i t s.b)) ?_ | refine AL.nil ?_)
    | ((with_reducible show DL _ _ _ _ _ _ _); first | refine DL.any ?_ | refine DL.any (h := POp.k Tryz.func191 (hc := by first | exact side_i s.a s.b t.a | exact side_i s.a s.b t.b | exact side_i t.a t.b s.a | exact side_i t.a t.b s.b)) ?_ | refine DL.any (h := POp.k Tryz.func192 (hc := by first | exact fwd_i s | exact fwd_i t)) ?_ | refine DL.U ?_ | refine DL.F ?_ | refine DL.T ?_ | refine DL.T (h := POp.k Tryz.func191 (hc := by first | exact side_i s.a s.b t.a | exact side_i s.a s.b t.b | exact side_i t.a t.b s.a | exact side_i t.a t.b s.b)) ?_ | refine DL.W ?_ | refine DL.W (h := fun h => by (try rw [h]); exact POp.k Tryz.func191 (hc := by first | exact side_i s.a s.b t.a | exact side_i s.a s.b t.b | exact side_i t.a t.b s.a | exact side_i t.a t.b s.b)) ?_ | refine DL.nil ?_)
    | ((with_reducible show DLR _ _ _ _ _ _ _ _ _); first | refine DLR.any ?_ | refine DLR.alloc rfl rfl (by first | exact ze2 | exact ze3 | exact ze4 | exact ze5 | exact ze6 | exact ze7 | exact ze8 | exact ze9 | exact ze10 | exact ze11 | exact ze12 | exact ze14 | exact ze17 | exact ze19 | exact ze21 | exact ze22 | exact ze23 | exact ze24 | exact ze27 | exact ze28 | exact ze29 | exact ze30 | exact ze31 | exact ze32 | exact ze42 | exact ze43 | exact ze44 | exact ze62 | exact ze63 | exact ze64 | exact ze67 | exact ze68 | exact ze69 | exact ze76 | exact ze77 | exact ze81 | exact ze96 | exact ze97 | exact ze99 | exact ze117 | exact ze145 | exact ze152 | exact ze155 | exact ze177) rfl rfl ?_ | refine DLR.box rfl rfl (by rfl) (by rfl) rfl rfl ?_ | refine DLR.store rfl rfl (by rfl) rfl rfl rfl rfl rfl (by rfl) (by rfl) (TT_ok.ld _ _ (by rfl)) (by rfl) (by rfl) rfl ?_ | refine DLR.any (h := fun Y => POp.k Tryz.func191 (hc := by first | exact side_i s.a s.b t.a | exact side_i s.a s.b t.b | exact side_i t.a t.b s.a | exact side_i t.a t.b s.b)) ?_ | refine DLR.any (h := fun Y => POp.k Tryz.func192 (hc := by first | exact fwd_i s | exact fwd_i t)) ?_ | refine DLR.row rfl (fun Y => RowRun.empty (by rfl) (by rfl) (by first | exact rwk22 | exact rwk27 | exact rwk28 | exact rwk29 | exact rwk42 | exact rwk43 | exact rwk62 | exact rwk67)) rfl rfl ?_ | refine DLR.row rfl (fun Y => RowRun.literal (by rfl) (by first | exact rwk22 | exact rwk27 | exact rwk28 | exact rwk29 | exact rwk42 | exact rwk43 | exact rwk62 | exact rwk67) (by rfl) (by rfl) (by rfl) (by rfl) (by rfl) (by rfl)) rfl rfl ?_ | refine DLR.append rfl (by rfl) (by first | exact rwk22 | exact rwk27 | exact rwk28 | exact rwk29 | exact rwk42 | exact rwk43 | exact rwk62 | exact rwk67) (by rfl) rfl rfl rfl rfl rfl rfl (by rfl) (by first | (simp <;> omega) | omega) (by first | (simp [maxLen] <;> omega) | (simp_all [maxLen] <;> omega)) ?_ | refine DLR.W ?_ | refine DLR.W (h := fun h Y => by (try rw [h]); exact POp.k Tryz.func191 (hc := by first | exact side_i s.a s.b t.a | exact side_i s.a s.b t.b | exact side_i t.a t.b s.a | exact side_i t.a t.b s.b)) ?_ | refine DLR.nil ?_)
    | ((with_reducible show AW _ _ _ _ _ _); first | refine AW.seq ?_ | refine AW.region ?_ | refine AW.skip ?_ | refine AW.dr (id := 3) 13 ?_ | refine AW.dr (id := 5) 3 ?_ | refine AW.drawnR (id := 6) 7 2 [none, none, none, none, some 0, some 1, some 0] [some Rsv, some Rsv] rfl (by kernel_rfl) (by kernel_rfl) (by kernel_rfl) (by rfl) ?_ | refine AW.dr (id := 16) 18 ?_ | refine AW.cT ?_ | refine AW.cF ?_ | (refine AW.c2 ?_ ?_ <;> (intro h; try simp only [Bool.not_eq_true', Bool.not_eq_false'] at h)) | refine AW.block ?_ | refine AW.exit ?_ | refine AW.ret ?_)
    | with_reducible refine (if_pos rfl).mpr ?_
    | with_reducible refine (if_neg (by decide)).mpr ?_) <;> (try dsimp only))
  all_goals exact Fin.one rfl (RV.tmp (by rfl)) (clo_c _) ⟨by first | (simp only [hmI]; simp_all; done) | (unfold hmI wmul; simp only [*, Bool.false_eq_true, if_false, if_true]; done), rfl⟩

end Go.Proofs.YtacbpfbelcdeiaaGreat.Abs

/- The walk of the reference's HowMeet. -/
namespace Go.Proofs.YtacbpfbelcdeiaaGreat.Abs
open Go.Proofs Go.RowKit
set_option linter.unusedVariables false
set_option linter.unusedSimpArgs false
attribute [local irreducible] OpA AL AW DL DLM DLR DLS QOp POp VCalls VCallsI
set_option maxRecDepth 100000 in
set_option maxHeartbeats 2000000 in
theorem shared_s (s t : TSegment) : VCalls Tryz.prog 188 [.agg s.en, .agg t.en] (fun r M => r = I ((shK s t 4).length) ∧ M = []) := by
  refine VCalls.bodyE Tryz.func188 rfl 72 rfl (fun E hE => ?_)
  simp only [List.reduceReplicate, List.cons_append, List.nil_append]
  repeat' ((first
    | ((with_reducible show AL _ _ _ _ _ _ _); first | refine AL.any ?_ | refine AL.U ?_ | refine AL.F ?_ | refine AL.T ?_ | refine AL.T (h := POp.k Tryz.func199 (hc := by first | exact isOn_s s (endE s t i) | exact isOn_s t (endE s t i))) ?_ | refine AL.W ?_ | refine AL.W (h := fun h => by (try rw [h]); exact POp.k Tryz.func199 (hc := by first | exact isOn_s s (endE s t i) | exact isOn_s t (endE s t i))) ?_ | refine AL.nil ?_)
    | ((with_reducible show DL _ _ _ _ _ _ _); first | refine DL.any ?_ | refine DL.U ?_ | refine DL.F ?_ | refine DL.T ?_ | refine DL.T (h := POp.k Tryz.func199 (hc := by first | exact isOn_s s (endE s t i) | exact isOn_s t (endE s t i))) ?_ | refine DL.W ?_ | refine DL.W (h := fun h => by (try rw [h]); exact POp.k Tryz.func199 (hc := by first | exact isOn_s s (endE s t i) | exact isOn_s t (endE s t i))) ?_ | refine DL.nil ?_)
    | ((with_reducible show AW _ _ _ _ _ _); first | refine AW.seq ?_ | refine AW.region ?_ | refine AW.skip ?_ | (refine AW.loopD hE (fun i : Nat => [.any, .any, .ref 0 0 4 0 0, .ref 1 0 4 0 0, .any, .own 2 (shK s t i).length, .own 3 0, I (i : Int), .any, .any, .any, .any, .any, .any, .any, .any, .any, .any, .any, .any, .any, .any, .any, .any, .any, .any, .any, .any, .any, .any, .any, .any, .any, .any, .any, .any, .any, .any, .any, .any, .any, .any, .any, .any, .any, .any, .any, .any, .any, .any, .any, .any, .any, .any, .any, .any, .any, .any, .any, .any, .any, .any, .any, .any, .any, .any, .any, .any, .any, .any, .any, .any, .any, .any]) (fun i => [some ⟨177, 4, 0, true, [s.en]⟩, some ⟨177, 4, 0, true, [t.en]⟩, some ⟨152, 2, (shK s t i).length, false, (shK s t i).map TPoint.en⟩, some ⟨152, 2, 0, false, (endsL s t).map TPoint.en⟩]) (fun i => 4 - i) (fun i => i ≤ 4) 0 (Nat.zero_le _) ?_ (by first | rfl | (simp; done)) ?_) | refine AW.dr (id := 6) 19 ?_ | refine AW.dr (id := 10) 10 ?_ | refine AW.cT ?_ | refine AW.cF ?_ | (refine AW.c2 ?_ ?_ <;> (intro h; try simp only [Bool.not_eq_true', Bool.not_eq_false'] at h)) | refine AW.block ?_ | refine AW.exit ?_ | refine AW.ret ?_)
    | with_reducible refine (if_pos rfl).mpr ?_
    | with_reducible refine (if_neg (by decide)).mpr ?_) <;> (try dsimp only))
  · (repeat' (first | exact Wk.nil | refine Wk.any ?_ | (with_reducible refine Wk.same ?_) | refine Wk.of ?_ ?_)) <;> first | rfl | (simp; done)
  · intro i hv_i
    by_cases hlt_i : i < 4
    · skip
      have hti : decide ((i : Int) < 4) = true := by simp; omega
      have hni : IntKind.i64.wrap ((i : Int) + 1) = ((i + 1 : Nat) : Int) := by rw [w64 (by omega) (by omega)]; omega
      have hge := end_get (s := s) (t := t) hlt_i
      have hix : ((i : Int)).toNat < ((endsL s t).map TPoint.en).length := by simp [endsL]; omega
      have hln := shK_len s t i
      have hz := onK_zero s t i
      have hm1 := sh_add (s := s) (t := t) (i := i)
      have hm0 := sh_not (s := s) (t := t) (i := i)
      have hc2 : (decide ((i : Int) < 2) = true ∧ decide ((i : Int) ≥ 2) = false ∧ onE s t i = onW t (endE s t i)) ∨ (decide ((i : Int) < 2) = false ∧ decide ((i : Int) ≥ 2) = true ∧ onE s t i = onW s (endE s t i)) := by
        rcases Nat.lt_or_ge i 2 with h2 | h2
        · exact .inl ⟨by simp; omega, by simp; omega, by simp [onE, h2]⟩
        · exact .inr ⟨by simp; omega, by simp; omega, by simp [onE]; omega⟩
      rcases hc2 with ⟨hA, hB, hon⟩ | ⟨hA, hB, hon⟩
      cases hw : onW t (endE s t i)
      all_goals
        repeat' ((first
          | ((with_reducible show AL _ _ _ _ _ _ _); first | refine AL.any ?_ | refine AL.U ?_ | refine AL.F ?_ | refine AL.T ?_ | refine AL.T (h := POp.k Tryz.func199 (hc := by first | exact isOn_s s (endE s t i) | exact isOn_s t (endE s t i))) ?_ | refine AL.W ?_ | refine AL.W (h := fun h => by (try rw [h]); exact POp.k Tryz.func199 (hc := by first | exact isOn_s s (endE s t i) | exact isOn_s t (endE s t i))) ?_ | refine AL.nil ?_)
          | ((with_reducible show DL _ _ _ _ _ _ _); first | refine DL.any ?_ | refine DL.U ?_ | refine DL.F ?_ | refine DL.T ?_ | refine DL.T (h := POp.k Tryz.func199 (hc := by first | exact isOn_s s (endE s t i) | exact isOn_s t (endE s t i))) ?_ | refine DL.W ?_ | refine DL.W (h := fun h => by (try rw [h]); exact POp.k Tryz.func199 (hc := by first | exact isOn_s s (endE s t i) | exact isOn_s t (endE s t i))) ?_ | refine DL.nil ?_)
          | ((with_reducible show AW _ _ _ _ _ _); first | refine AW.seq ?_ | refine AW.region ?_ | refine AW.skip ?_ | (refine AW.loopD hE (fun k : Nat => [.any, .any, .ref 0 0 4 0 0, .ref 1 0 4 0 0, .any, .own 2 (shK s t i).length, .own 3 0, I (i : Int), B (onK s t i k), I (k : Int), .any, .any, .any, .any, .any, .any, .any, .any, .any, .any, .any, .any, .any, .any, .any, .any, .any, .any, .any, .any, .any, .any, .any, .any, .any, .any, .any, .any, .any, .any, .any, .any, .any, .any, .any, .any, .any, .any, .any, .any, .any, .any, .any, .any, .any, .any, .any, .any, .any, .any, .any, .any, .any, .any, .any, .any, .any, .any, .any, .any, .any, .any, .any, .any]) (fun k => [some ⟨177, 4, 0, true, [s.en]⟩, some ⟨177, 4, 0, true, [t.en]⟩, some ⟨152, 2, (shK s t i).length, false, (shK s t i).map TPoint.en⟩, some ⟨152, 2, 0, false, (endsL s t).map TPoint.en⟩]) (fun k => (shK s t i).length - k) (fun k => k ≤ (shK s t i).length) 0 (Nat.zero_le _) ?_ (by first | rfl | (simp; done)) ?_) | refine AW.dr (id := 6) 19 ?_ | refine AW.dr (id := 10) 10 ?_ | refine AW.cT ?_ | refine AW.cF ?_ | (refine AW.c2 ?_ ?_ <;> (intro h; try simp only [Bool.not_eq_true', Bool.not_eq_false'] at h)) | refine AW.block ?_ | refine AW.exit ?_ | refine AW.ret ?_)
          | with_reducible refine (if_pos rfl).mpr ?_
          | with_reducible refine (if_neg (by decide)).mpr ?_) <;> (try dsimp only))
        · (repeat' (first | exact Wk.nil | refine Wk.any ?_ | (with_reducible refine Wk.same ?_) | refine Wk.of ?_ ?_)) <;> first | rfl | (simp_all)
        · intro k hv_k
          by_cases hlt_k : k < (shK s t i).length
          · skip
            obtain ⟨q, hq⟩ : ∃ q, (shK s t i)[k]? = some q := ⟨_, List.getElem?_eq_getElem hlt_k⟩
            have hgk := map_get (f := TPoint.en) hq
            have htk := lt_true (f := TPoint.en) hlt_k
            have hnk := next_ix hlt_k (by omega)
            have hkx : ((k : Int)).toNat < ((shK s t i).map TPoint.en).length := by simp; omega
            have hks := onK_succ hq
            repeat' ((first
              | ((with_reducible show AL _ _ _ _ _ _ _); first | refine AL.any ?_ | refine AL.U ?_ | refine AL.F ?_ | refine AL.T ?_ | refine AL.T (h := POp.k Tryz.func199 (hc := by first | exact isOn_s s (endE s t i) | exact isOn_s t (endE s t i))) ?_ | refine AL.W ?_ | refine AL.W (h := fun h => by (try rw [h]); exact POp.k Tryz.func199 (hc := by first | exact isOn_s s (endE s t i) | exact isOn_s t (endE s t i))) ?_ | refine AL.nil ?_)
              | ((with_reducible show DL _ _ _ _ _ _ _); first | refine DL.any ?_ | refine DL.U ?_ | refine DL.F ?_ | refine DL.T ?_ | refine DL.T (h := POp.k Tryz.func199 (hc := by first | exact isOn_s s (endE s t i) | exact isOn_s t (endE s t i))) ?_ | refine DL.W ?_ | refine DL.W (h := fun h => by (try rw [h]); exact POp.k Tryz.func199 (hc := by first | exact isOn_s s (endE s t i) | exact isOn_s t (endE s t i))) ?_ | refine DL.nil ?_)
              | ((with_reducible show AW _ _ _ _ _ _); first | refine AW.seq ?_ | refine AW.region ?_ | refine AW.skip ?_ | refine AW.dr (id := 6) 19 ?_ | refine AW.dr (id := 10) 10 ?_ | refine AW.cT ?_ | refine AW.cF ?_ | (refine AW.c2 ?_ ?_ <;> (intro h; try simp only [Bool.not_eq_true', Bool.not_eq_false'] at h)) | refine AW.block ?_ | refine AW.exit ?_ | refine AW.ret ?_)
              | with_reducible refine (if_pos rfl).mpr ?_
              | with_reducible refine (if_neg (by decide)).mpr ?_) <;> (try dsimp only))
            all_goals first
              | (refine ⟨k + 1, _, hlt_k, by omega, ?_, rfl, ?_, ?_⟩; (focus ((repeat' (first | exact Wk.nil | refine Wk.any ?_ | (with_reducible refine Wk.same ?_) | refine Wk.of ?_ ?_)) <;> (simp_all))); (focus ((repeat' (first | exact Fits.nil _ | refine Fits.cons ?_ ?_ | exact Fits.any _ | exact Fits.c _ _ | exact Fits.own (by rfl) | exact Fits.ref (by rfl) | exact Fits.clo (by assumption) | exact Fits.clo (clo_of (by rfl)) | exact Fits.clo (clo_fn _))))); (focus (exact fitsM_cons (clo_one s.clo_en) (fitsM_cons (clo_one t.clo_en) (fitsM_cons (clo_rows TPoint.clo_en) (fitsM_cons (clo_rows TPoint.clo_en) (FitsM.nil _)))))))
          · have e_k : k = (shK s t i).length := by omega
            have htk := lt_false (f := TPoint.en) (show ¬ k < (shK s t i).length by omega)
            subst e_k
            repeat' ((first
              | ((with_reducible show AL _ _ _ _ _ _ _); first | refine AL.any ?_ | refine AL.U ?_ | refine AL.F ?_ | refine AL.T ?_ | refine AL.T (h := POp.k Tryz.func199 (hc := by first | exact isOn_s s (endE s t i) | exact isOn_s t (endE s t i))) ?_ | refine AL.W ?_ | refine AL.W (h := fun h => by (try rw [h]); exact POp.k Tryz.func199 (hc := by first | exact isOn_s s (endE s t i) | exact isOn_s t (endE s t i))) ?_ | refine AL.nil ?_)
              | ((with_reducible show DL _ _ _ _ _ _ _); first | refine DL.any ?_ | refine DL.U ?_ | refine DL.F ?_ | refine DL.T ?_ | refine DL.T (h := POp.k Tryz.func199 (hc := by first | exact isOn_s s (endE s t i) | exact isOn_s t (endE s t i))) ?_ | refine DL.W ?_ | refine DL.W (h := fun h => by (try rw [h]); exact POp.k Tryz.func199 (hc := by first | exact isOn_s s (endE s t i) | exact isOn_s t (endE s t i))) ?_ | refine DL.nil ?_)
              | ((with_reducible show AW _ _ _ _ _ _); first | refine AW.seq ?_ | refine AW.region ?_ | refine AW.skip ?_ | refine AW.dr (id := 6) 19 ?_ | refine AW.dr (id := 10) 10 ?_ | refine AW.cT ?_ | refine AW.cF ?_ | (refine AW.c2 ?_ ?_ <;> (intro h; try simp only [Bool.not_eq_true', Bool.not_eq_false'] at h)) | refine AW.block ?_ | refine AW.exit ?_ | refine AW.ret ?_)
              | with_reducible refine (if_pos rfl).mpr ?_
              | with_reducible refine (if_neg (by decide)).mpr ?_) <;> (try dsimp only))
            all_goals first
              | (refine ⟨i + 1, _, hlt_i, by omega, ?_, by rw [(hm1 (by assumption)).1, (hm1 (by assumption)).2] <;> rfl, ?_, ?_⟩; (focus ((repeat' (first | exact Wk.nil | refine Wk.any ?_ | (with_reducible refine Wk.same ?_) | refine Wk.of ?_ ?_)) <;> (simp_all))); (focus ((repeat' (first | exact Fits.nil _ | refine Fits.cons ?_ ?_ | exact Fits.any _ | exact Fits.c _ _ | exact Fits.own (by rfl) | exact Fits.ref (by rfl) | exact Fits.clo (by assumption) | exact Fits.clo (clo_of (by rfl)) | exact Fits.clo (clo_fn _))))); (focus (exact fitsM_cons (clo_one s.clo_en) (fitsM_cons (clo_one t.clo_en) (fitsM_cons (clo_rows TPoint.clo_en) (fitsM_cons (clo_rows TPoint.clo_en) (FitsM.nil _)))))))
              | (refine ⟨i + 1, _, hlt_i, by omega, ?_, by rw [(hm0 (by assumption)).1, (hm0 (by assumption)).2] <;> rfl, ?_, ?_⟩; (focus ((repeat' (first | exact Wk.nil | refine Wk.any ?_ | (with_reducible refine Wk.same ?_) | refine Wk.of ?_ ?_)) <;> (simp_all))); (focus ((repeat' (first | exact Fits.nil _ | refine Fits.cons ?_ ?_ | exact Fits.any _ | exact Fits.c _ _ | exact Fits.own (by rfl) | exact Fits.ref (by rfl) | exact Fits.clo (by assumption) | exact Fits.clo (clo_of (by rfl)) | exact Fits.clo (clo_fn _))))); (focus (exact fitsM_cons (clo_one s.clo_en) (fitsM_cons (clo_one t.clo_en) (fitsM_cons (clo_rows TPoint.clo_en) (fitsM_cons (clo_rows TPoint.clo_en) (FitsM.nil _)))))))
    · have e_i : i = 4 := by omega
      have hti : decide ((i : Int) < 4) = false := by simp; omega
      subst e_i
      repeat' ((first
        | ((with_reducible show AL _ _ _ _ _ _ _); first | refine AL.any ?_ | refine AL.U ?_ | refine AL.F ?_ | refine AL.T ?_ | refine AL.T (h := POp.k Tryz.func199 (hc := by first | exact isOn_s s (endE s t i) | exact isOn_s t (endE s t i))) ?_ | refine AL.W ?_ | refine AL.W (h := fun h => by (try rw [h]); exact POp.k Tryz.func199 (hc := by first | exact isOn_s s (endE s t i) | exact isOn_s t (endE s t i))) ?_ | refine AL.nil ?_)
        | ((with_reducible show DL _ _ _ _ _ _ _); first | refine DL.any ?_ | refine DL.U ?_ | refine DL.F ?_ | refine DL.T ?_ | refine DL.T (h := POp.k Tryz.func199 (hc := by first | exact isOn_s s (endE s t i) | exact isOn_s t (endE s t i))) ?_ | refine DL.W ?_ | refine DL.W (h := fun h => by (try rw [h]); exact POp.k Tryz.func199 (hc := by first | exact isOn_s s (endE s t i) | exact isOn_s t (endE s t i))) ?_ | refine DL.nil ?_)
        | ((with_reducible show AW _ _ _ _ _ _); first | refine AW.seq ?_ | refine AW.region ?_ | refine AW.skip ?_ | refine AW.dr (id := 6) 19 ?_ | refine AW.dr (id := 10) 10 ?_ | refine AW.cT ?_ | refine AW.cF ?_ | (refine AW.c2 ?_ ?_ <;> (intro h; try simp only [Bool.not_eq_true', Bool.not_eq_false'] at h)) | refine AW.block ?_ | refine AW.exit ?_ | refine AW.ret ?_)
        | with_reducible refine (if_pos rfl).mpr ?_
        | with_reducible refine (if_neg (by decide)).mpr ?_) <;> (try dsimp only))
      all_goals first
        | exact Fin.one rfl (RV.tmp (by rfl)) (clo_c _) ⟨by first | rfl | (simp_all; done), rfl⟩

end Go.Proofs.YtacbpfbelcdeiaaGreat.Abs

/- The walk of the reference's HowMeet. -/
namespace Go.Proofs.YtacbpfbelcdeiaaGreat.Abs
open Go.Proofs Go.RowKit
set_option linter.unusedVariables false
set_option linter.unusedSimpArgs false
attribute [local irreducible] OpA AL AW DL DLM DLR DLS QOp POp VCalls VCallsI
set_option maxRecDepth 100000 in
set_option maxHeartbeats 2000000 in
theorem meet_s0 (s t : TSegment) : VCalls Tryz.prog 167 [.agg s.en, .agg t.en] (fun r M => r = I (hmS s t) ∧ M = []) := by
  refine VCalls.body Tryz.func167 rfl 118 rfl (fun E => ?_)
  simp only [List.reduceReplicate, List.cons_append, List.nil_append]
  dsimp only [TPoint.en, TSegment.en]
  repeat' ((first
    | ((with_reducible show AL _ _ _ _ _ _ _); first | refine AL.any ?_ | refine AL.any (h := POp.k Tryz.func170 (hc := by first | exact isSeg_s s | exact isSeg_s t)) ?_ | refine AL.any (h := POp.k Tryz.func188 (hc := shared_s s t)) ?_ | refine AL.U ?_ | refine AL.F ?_ | refine AL.T ?_ | refine AL.T (h := POp.k Tryz.func170 (hc := by first | exact isSeg_s s | exact isSeg_s t)) ?_ | refine AL.T (h := POp.k Tryz.func187 (hc := min_s _ _)) ?_ | refine AL.T (h := POp.k Tryz.func189 (hc := by first | exact side_s s.a s.b t.a | exact side_s s.a s.b t.b | exact side_s t.a t.b s.a | exact side_s t.a t.b s.b)) ?_ | refine AL.W ?_ | refine AL.W (h := fun h => by (try rw [h]); exact POp.k Tryz.func170 (hc := by first | exact isSeg_s s | exact isSeg_s t)) ?_ | refine AL.W (h := fun h => by (try rw [h]); exact POp.k Tryz.func187 (hc := min_s _ _)) ?_ | refine AL.W (h := fun h => by (try rw [h]); exact POp.k Tryz.func189 (hc := by first | exact side_s s.a s.b t.a | exact side_s s.a s.b t.b | exact side_s t.a t.b s.a | exact side_s t.a t.b s.b)) ?_ | refine AL.nil ?_)
    | ((with_reducible show DL _ _ _ _ _ _ _); first | refine DL.any ?_ | refine DL.any (h := POp.k Tryz.func186 (hc := max_s _ _)) ?_ | refine DL.any (h := POp.k Tryz.func187 (hc := min_s _ _)) ?_ | refine DL.any (h := POp.k Tryz.func189 (hc := by first | exact side_s s.a s.b t.a | exact side_s s.a s.b t.b | exact side_s t.a t.b s.a | exact side_s t.a t.b s.b)) ?_ | refine DL.U ?_ | refine DL.F ?_ | refine DL.T ?_ | refine DL.T (h := POp.k Tryz.func186 (hc := max_s _ _)) ?_ | refine DL.T (h := POp.k Tryz.func187 (hc := min_s _ _)) ?_ | refine DL.T (h := POp.k Tryz.func189 (hc := by first | exact side_s s.a s.b t.a | exact side_s s.a s.b t.b | exact side_s t.a t.b s.a | exact side_s t.a t.b s.b)) ?_ | refine DL.W ?_ | refine DL.W (h := fun h => by (try rw [h]); exact POp.k Tryz.func186 (hc := max_s _ _)) ?_ | refine DL.W (h := fun h => by (try rw [h]); exact POp.k Tryz.func187 (hc := min_s _ _)) ?_ | refine DL.W (h := fun h => by (try rw [h]); exact POp.k Tryz.func189 (hc := by first | exact side_s s.a s.b t.a | exact side_s s.a s.b t.b | exact side_s t.a t.b s.a | exact side_s t.a t.b s.b)) ?_ | refine DL.nil ?_)
    | ((with_reducible show AW _ _ _ _ _ _); first | refine AW.seq ?_ | refine AW.region ?_ | refine AW.skip ?_ | refine AW.dr (id := 3) 63 ?_ | refine AW.dr (id := 7) 30 ?_ | refine AW.cT ?_ | refine AW.cF ?_ | (refine AW.c2 ?_ ?_ <;> (intro h; try simp only [Bool.not_eq_true', Bool.not_eq_false'] at h)) | refine AW.block ?_ | refine AW.exit ?_ | refine AW.ret ?_)
    | with_reducible refine (if_pos rfl).mpr ?_
    | with_reducible refine (if_neg (by decide)).mpr ?_) <;> (try dsimp only))
  all_goals exact Fin.one rfl (RV.tmp (by rfl)) (clo_c _) ⟨by first | (simp only [hmS, apW]; simp_all; done) | (unfold hmS apW wmul; simp only [*, Bool.false_eq_true, if_false, if_true]; done), rfl⟩

theorem meet_s (s t : TSegment) : VCalls Tryz.prog 167 [.agg s.en, .agg t.en] (fun r M => r = I (hmI s t) ∧ M = []) := hmS_eq s t ▸ meet_s0 s t
end Go.Proofs.YtacbpfbelcdeiaaGreat.Abs

/- The walks of IsRing. -/
namespace Go.Proofs.YtacbpfbelcdeiaaGreat.Abs
open Go.Proofs Go.RowKit
set_option linter.unusedVariables false
set_option linter.unusedSimpArgs false
attribute [local irreducible] OpA AL AW DL DLM DLR DLS QOp POp VCalls VCallsI
set_option maxRecDepth 100000 in
set_option maxHeartbeats 2000000 in
theorem isRing_s (l : List TPoint) (hl : l.length ≤ 1048576) : VCalls Tryz.prog 149 [.ro 2 (l.map TPoint.en)] (fun r M => r = B (isRing l) ∧ M = []) := by
  refine VCalls.bodyE Tryz.func149 rfl 55 rfl (fun E hE => ?_)
  simp only [List.reduceReplicate, List.cons_append, List.nil_append]
  have hclo : Clo (.ro 2 (l.map TPoint.en)) := clo_list TPoint.clo_en
  have hclA : Clo (.ro 4 ((arnd l).map TSegment.en)) := clo_list TSegment.clo_en
  have hal := arnd_len l
  have hclo : Clo (.ro 2 (l.map TPoint.en)) := clo_list TPoint.clo_en
  have hclA : Clo (.ro 4 ((arnd l).map TSegment.en)) := clo_list TSegment.clo_en
  have hal := arnd_len l
  repeat' ((first
    | ((with_reducible show AL _ _ _ _ _ _ _); first | refine AL.any ?_ | refine AL.any (h := POp.k Tryz.func77 (hc := inr_s _ _ _)) ?_ | refine AL.any (h := POp.k Tryz.func169 (hc := arnd_s _ (by assumption))) ?_ | refine AL.any (h := POp.k Tryz.func170 (hc := isSeg_s x)) ?_ | refine AL.U ?_ | refine AL.F ?_ | refine AL.T ?_ | refine AL.W ?_ | refine AL.nil ?_)
    | ((with_reducible show DL _ _ _ _ _ _ _); first | refine DL.any ?_ | refine DL.any (h := POp.k Tryz.func167 (hc := meet_s x y)) ?_ | refine DL.nil ?_)
    | ((with_reducible show AW _ _ _ _ _ _); first | refine AW.seq ?_ | refine AW.region ?_ | refine AW.skip ?_ | (refine AW.loopD hE (fun i : Nat => [.ro 2 (l.map TPoint.en), .any, .any, .ro 4 ((arnd l).map TSegment.en), I (i : Int), .any, .any, .any, .any, .any, .any, .any, .any, .any, .any, .any, .any, .any, .any, .any, .any, .any, .any, .any, .any, .any, .any, .any, .any, .any, .any, .any, .any, .any, .any, .any, .any, .any, .any, .any, .any, .any, .any, .any, .any, .any, .any, .any, .any, .any, .any, .any, .any, .any, .any, .any]) (fun i => []) (fun i => (arnd l).length - i) (fun i => i ≤ (arnd l).length ∧ rgOk l i = true) 0 ⟨Nat.zero_le _, by simp [rgOk]⟩ ?_ (by first | rfl | (simp; done)) ?_) | refine AW.dr (id := 15) 10 ?_ | refine AW.cT ?_ | refine AW.cF ?_ | (refine AW.c2 ?_ ?_ <;> (intro h; try simp only [Bool.not_eq_true', Bool.not_eq_false'] at h)) | refine AW.block ?_ | refine AW.exit ?_ | refine AW.ret ?_)
    | with_reducible refine (if_pos rfl).mpr ?_
    | with_reducible refine (if_neg (by decide)).mpr ?_) <;> (try dsimp only))
  any_goals first | exact Fin.one rfl (RV.tmp (by rfl)) (clo_c _) ⟨by simp_all [isRing, inr] <;> omega, rfl⟩
  · (repeat' (first | exact Wk.nil | refine Wk.any ?_ | (with_reducible refine Wk.same ?_) | refine Wk.of ?_ ?_)) <;> first | rfl | (simp; done)
  · intro i hv_i
    have hclo : Clo (.ro 2 (l.map TPoint.en)) := clo_list TPoint.clo_en
    have hclA : Clo (.ro 4 ((arnd l).map TSegment.en)) := clo_list TSegment.clo_en
    have hal := arnd_len l
    by_cases hlt_i : i < (arnd l).length
    · skip
      obtain ⟨x, hx⟩ : ∃ x, (arnd l)[i]? = some x := ⟨_, List.getElem?_eq_getElem hlt_i⟩
      have hgx := map_get (f := TSegment.en) hx
      have hti := lt_true (f := TSegment.en) hlt_i
      have hni := next_ix hlt_i (by omega)
      have hro := rgOk_succ l i
      have hsx := sAt_of hx
      have hra : rgAt l i = (isSeg x && rgIn l i i) := by unfold rgAt; rw [hsx]
      repeat' ((first
        | ((with_reducible show AL _ _ _ _ _ _ _); first | refine AL.any ?_ | refine AL.any (h := POp.k Tryz.func77 (hc := inr_s _ _ _)) ?_ | refine AL.any (h := POp.k Tryz.func169 (hc := arnd_s _ (by assumption))) ?_ | refine AL.any (h := POp.k Tryz.func170 (hc := isSeg_s x)) ?_ | refine AL.U ?_ | refine AL.F ?_ | refine AL.T ?_ | refine AL.W ?_ | refine AL.nil ?_)
        | ((with_reducible show DL _ _ _ _ _ _ _); first | refine DL.any ?_ | refine DL.any (h := POp.k Tryz.func167 (hc := meet_s x y)) ?_ | refine DL.nil ?_)
        | ((with_reducible show AW _ _ _ _ _ _); first | refine AW.seq ?_ | refine AW.region ?_ | refine AW.skip ?_ | (refine AW.loopD hE (fun k : Nat => [.ro 2 (l.map TPoint.en), .any, .any, .ro 4 ((arnd l).map TSegment.en), I (i : Int), I (k : Int), .any, .any, .any, .any, .any, .any, .any, .any, .any, .any, .any, .any, .any, .any, .any, .any, .any, .any, .any, .any, .any, .any, .any, .any, .any, .any, .any, .any, .any, .any, .any, .any, .any, .any, .any, .any, .any, .any, .any, .any, .any, .any, .any, .any, .any, .any, .any, .any, .any, .any]) (fun k => []) (fun k => i - k) (fun k => k ≤ i ∧ rgIn l i k = true) 0 ⟨Nat.zero_le _, by simp [rgIn]⟩ ?_ (by first | rfl | (simp; done)) ?_) | refine AW.dr (id := 15) 10 ?_ | refine AW.cT ?_ | refine AW.cF ?_ | (refine AW.c2 ?_ ?_ <;> (intro h; try simp only [Bool.not_eq_true', Bool.not_eq_false'] at h)) | refine AW.block ?_ | refine AW.exit ?_ | refine AW.ret ?_)
        | with_reducible refine (if_pos rfl).mpr ?_
        | with_reducible refine (if_neg (by decide)).mpr ?_) <;> (try dsimp only))
      any_goals first | exact Fin.one rfl (RV.tmp (by rfl)) (clo_c _) ⟨by have e2 := rgOk_not (l := l) (i := i) (n := l.length) (by simp_all) (by omega); simp_all [isRing], rfl⟩
      · (repeat' (first | exact Wk.nil | refine Wk.any ?_ | (with_reducible refine Wk.same ?_) | refine Wk.of ?_ ?_)) <;> first | rfl | (simp; done)
      · intro k hv_k
        have hclo : Clo (.ro 2 (l.map TPoint.en)) := clo_list TPoint.clo_en
        have hclA : Clo (.ro 4 ((arnd l).map TSegment.en)) := clo_list TSegment.clo_en
        have hal := arnd_len l
        by_cases hlt_k : k < i
        · skip
          obtain ⟨y, hy⟩ : ∃ y, (arnd l)[k]? = some y := ⟨_, List.getElem?_eq_getElem (by omega)⟩
          have hgy := map_get (f := TSegment.en) hy
          have htk : decide ((k : Int) < (i : Int)) = true := by simp; omega
          have hnk := next_ix hlt_k (by omega)
          have hsy := sAt_of hy
          have hrk : rgIn l i (k + 1) = (rgIn l i k && (hmI x y == wantN l.length i k)) := by rw [rgIn_succ, hsx, hsy]
          have hen : ((arnd l).map TSegment.en).length = l.length := by simp [hal]
          rcases want_s (n := l.length) (i := i) (k := k) (by omega) hlt_k hl with ⟨w1, wN⟩ | ⟨w1, w2, wN⟩ | ⟨w1, w2, w3, wN⟩ | ⟨w1, w2, w3, wN⟩
          all_goals try rw [← hen] at w3
          all_goals
            repeat' ((first
              | ((with_reducible show AL _ _ _ _ _ _ _); first | refine AL.any ?_ | refine AL.any (h := POp.k Tryz.func77 (hc := inr_s _ _ _)) ?_ | refine AL.any (h := POp.k Tryz.func169 (hc := arnd_s _ (by assumption))) ?_ | refine AL.any (h := POp.k Tryz.func170 (hc := isSeg_s x)) ?_ | refine AL.U ?_ | refine AL.F ?_ | refine AL.T ?_ | refine AL.W ?_ | refine AL.nil ?_)
              | ((with_reducible show DL _ _ _ _ _ _ _); first | refine DL.any ?_ | refine DL.any (h := POp.k Tryz.func167 (hc := meet_s x y)) ?_ | refine DL.nil ?_)
              | ((with_reducible show AW _ _ _ _ _ _); first | refine AW.seq ?_ | refine AW.region ?_ | refine AW.skip ?_ | refine AW.dr (id := 15) 10 ?_ | refine AW.cT ?_ | refine AW.cF ?_ | (refine AW.c2 ?_ ?_ <;> (intro h; try simp only [Bool.not_eq_true', Bool.not_eq_false'] at h)) | refine AW.block ?_ | refine AW.exit ?_ | refine AW.ret ?_)
              | with_reducible refine (if_pos rfl).mpr ?_
              | with_reducible refine (if_neg (by decide)).mpr ?_) <;> (try dsimp only))
            all_goals first
              | (refine ⟨k + 1, _, ⟨hlt_k, by simp_all⟩, by omega, ?_, rfl, ?_, ?_⟩; (focus ((repeat' (first | exact Wk.nil | refine Wk.any ?_ | (with_reducible refine Wk.same ?_) | refine Wk.of ?_ ?_)) <;> (simp_all))); (focus ((repeat' (first | exact Fits.nil _ | refine Fits.cons ?_ ?_ | exact Fits.any _ | exact Fits.c _ _ | exact Fits.own (by rfl) | exact Fits.ref (by rfl) | exact Fits.clo (by assumption) | exact Fits.clo (clo_of (by rfl)) | exact Fits.clo (clo_fn _))))); (focus (exact FitsM.nil _)))
              | exact Fin.one rfl (RV.tmp (by rfl)) (clo_c _) ⟨by have e1 := rgIn_not (l := l) (i := i) (k := k) (n := i) (by simp_all) hlt_k; have e2 := rgOk_not (l := l) (i := i) (n := l.length) (by simp_all) (by omega); simp_all [isRing], rfl⟩
        · have e_k : k = i := by omega
          have htk : decide ((k : Int) < (i : Int)) = false := by simp; omega
          have e2 := e_k.symm
          subst e2
          repeat' ((first
            | ((with_reducible show AL _ _ _ _ _ _ _); first | refine AL.any ?_ | refine AL.any (h := POp.k Tryz.func77 (hc := inr_s _ _ _)) ?_ | refine AL.any (h := POp.k Tryz.func169 (hc := arnd_s _ (by assumption))) ?_ | refine AL.any (h := POp.k Tryz.func170 (hc := isSeg_s x)) ?_ | refine AL.U ?_ | refine AL.F ?_ | refine AL.T ?_ | refine AL.W ?_ | refine AL.nil ?_)
            | ((with_reducible show DL _ _ _ _ _ _ _); first | refine DL.any ?_ | refine DL.any (h := POp.k Tryz.func167 (hc := meet_s x y)) ?_ | refine DL.nil ?_)
            | ((with_reducible show AW _ _ _ _ _ _); first | refine AW.seq ?_ | refine AW.region ?_ | refine AW.skip ?_ | refine AW.dr (id := 15) 10 ?_ | refine AW.cT ?_ | refine AW.cF ?_ | (refine AW.c2 ?_ ?_ <;> (intro h; try simp only [Bool.not_eq_true', Bool.not_eq_false'] at h)) | refine AW.block ?_ | refine AW.exit ?_ | refine AW.ret ?_)
            | with_reducible refine (if_pos rfl).mpr ?_
            | with_reducible refine (if_neg (by decide)).mpr ?_) <;> (try dsimp only))
          all_goals first
            | (refine ⟨i + 1, _, ⟨hlt_i, by simp_all⟩, by omega, ?_, rfl, ?_, ?_⟩; (focus ((repeat' (first | exact Wk.nil | refine Wk.any ?_ | (with_reducible refine Wk.same ?_) | refine Wk.of ?_ ?_)) <;> (simp_all))); (focus ((repeat' (first | exact Fits.nil _ | refine Fits.cons ?_ ?_ | exact Fits.any _ | exact Fits.c _ _ | exact Fits.own (by rfl) | exact Fits.ref (by rfl) | exact Fits.clo (by assumption) | exact Fits.clo (clo_of (by rfl)) | exact Fits.clo (clo_fn _))))); (focus (exact FitsM.nil _)))
    · have e_i : i = (arnd l).length := by omega
      have hti := lt_false (f := TSegment.en) (show ¬ i < (arnd l).length by omega)
      subst e_i
      repeat' ((first
        | ((with_reducible show AL _ _ _ _ _ _ _); first | refine AL.any ?_ | refine AL.any (h := POp.k Tryz.func77 (hc := inr_s _ _ _)) ?_ | refine AL.any (h := POp.k Tryz.func169 (hc := arnd_s _ (by assumption))) ?_ | refine AL.any (h := POp.k Tryz.func170 (hc := isSeg_s x)) ?_ | refine AL.U ?_ | refine AL.F ?_ | refine AL.T ?_ | refine AL.W ?_ | refine AL.nil ?_)
        | ((with_reducible show DL _ _ _ _ _ _ _); first | refine DL.any ?_ | refine DL.any (h := POp.k Tryz.func167 (hc := meet_s x y)) ?_ | refine DL.nil ?_)
        | ((with_reducible show AW _ _ _ _ _ _); first | refine AW.seq ?_ | refine AW.region ?_ | refine AW.skip ?_ | refine AW.dr (id := 15) 10 ?_ | refine AW.cT ?_ | refine AW.cF ?_ | (refine AW.c2 ?_ ?_ <;> (intro h; try simp only [Bool.not_eq_true', Bool.not_eq_false'] at h)) | refine AW.block ?_ | refine AW.exit ?_ | refine AW.ret ?_)
        | with_reducible refine (if_pos rfl).mpr ?_
        | with_reducible refine (if_neg (by decide)).mpr ?_) <;> (try dsimp only))
      all_goals first
        | exact Fin.one rfl (RV.tmp (by rfl)) (clo_c _) ⟨by first | (simp_all [isRing]; done) | (simp_all [isRing, inr] <;> omega), rfl⟩

set_option maxRecDepth 100000 in
set_option maxHeartbeats 2000000 in
theorem isRing_i (l : List TPoint) (hl : l.length ≤ 1048576) : VCalls Tryz.prog 155 [.ro 2 (l.map TPoint.en)] (fun r M => r = B (isRing l) ∧ M = []) := by
  refine VCalls.bodyE Tryz.func155 rfl 59 rfl (fun E hE => ?_)
  simp only [List.reduceReplicate, List.cons_append, List.nil_append]
  have hclo : Clo (.ro 2 (l.map TPoint.en)) := clo_list TPoint.clo_en
  have hclA : Clo (.ro 4 ((arnd l).map TSegment.en)) := clo_list TSegment.clo_en
  have hal := arnd_len l
  have hclo : Clo (.ro 2 (l.map TPoint.en)) := clo_list TPoint.clo_en
  have hclA : Clo (.ro 4 ((arnd l).map TSegment.en)) := clo_list TSegment.clo_en
  have hal := arnd_len l
  repeat' ((first
    | ((with_reducible show AL _ _ _ _ _ _ _); first | refine AL.any ?_ | refine AL.any (h := POp.k Tryz.func176 (hc := arnd_i _ (by assumption))) ?_ | refine AL.any (h := POp.k Tryz.func177 (hc := isSeg_i x)) ?_ | refine AL.U ?_ | refine AL.F ?_ | refine AL.T ?_ | refine AL.W ?_ | refine AL.nil ?_)
    | ((with_reducible show DL _ _ _ _ _ _ _); first | refine DL.any ?_ | refine DL.any (h := POp.k Tryz.func175 (hc := meet_i x y)) ?_ | refine DL.nil ?_)
    | ((with_reducible show AW _ _ _ _ _ _); first | refine AW.seq ?_ | refine AW.region ?_ | refine AW.skip ?_ | (refine AW.loopD hE (fun i : Nat => [.ro 2 (l.map TPoint.en), .any, .any, .ro 4 ((arnd l).map TSegment.en), .any, .any, .any, .any, .any, .any, .any, .any, .any, .any, .any, .any, .any, .any, I (((arnd l).map TSegment.en).length : Int), I (i : Int), .any, .any, .any, .any, .any, .any, .any, .any, .any, .any, .any, .any, .any, .any, .any, .any, .any, .any, .any, .any, .any, .any, .any, .any, .any, .any, .any, .any, .any, .any, .any, .any, .any, .any, .any, .any, .any, .any, .any, .any]) (fun i => []) (fun i => (arnd l).length - i) (fun i => i ≤ (arnd l).length ∧ rgOk l i = true) 0 ⟨Nat.zero_le _, by simp [rgOk]⟩ ?_ (by first | rfl | (simp; done)) ?_) | refine AW.dr (id := 15) 10 ?_ | refine AW.cT ?_ | refine AW.cF ?_ | (refine AW.c2 ?_ ?_ <;> (intro h; try simp only [Bool.not_eq_true', Bool.not_eq_false'] at h)) | refine AW.block ?_ | refine AW.exit ?_ | refine AW.ret ?_)
    | with_reducible refine (if_pos rfl).mpr ?_
    | with_reducible refine (if_neg (by decide)).mpr ?_) <;> (try dsimp only))
  any_goals first | exact Fin.one rfl (RV.tmp (by rfl)) (clo_c _) ⟨by simp_all [isRing, inr] <;> omega, rfl⟩
  · (repeat' (first | exact Wk.nil | refine Wk.any ?_ | (with_reducible refine Wk.same ?_) | refine Wk.of ?_ ?_)) <;> first | rfl | (simp; done)
  · intro i hv_i
    have hclo : Clo (.ro 2 (l.map TPoint.en)) := clo_list TPoint.clo_en
    have hclA : Clo (.ro 4 ((arnd l).map TSegment.en)) := clo_list TSegment.clo_en
    have hal := arnd_len l
    by_cases hlt_i : i < (arnd l).length
    · skip
      obtain ⟨x, hx⟩ : ∃ x, (arnd l)[i]? = some x := ⟨_, List.getElem?_eq_getElem hlt_i⟩
      have hgx := map_get (f := TSegment.en) hx
      have hti := lt_true (f := TSegment.en) hlt_i
      have hni := next_ix hlt_i (by omega)
      have hro := rgOk_succ l i
      have hsx := sAt_of hx
      have hra : rgAt l i = (isSeg x && rgIn l i i) := by unfold rgAt; rw [hsx]
      repeat' ((first
        | ((with_reducible show AL _ _ _ _ _ _ _); first | refine AL.any ?_ | refine AL.any (h := POp.k Tryz.func176 (hc := arnd_i _ (by assumption))) ?_ | refine AL.any (h := POp.k Tryz.func177 (hc := isSeg_i x)) ?_ | refine AL.U ?_ | refine AL.F ?_ | refine AL.T ?_ | refine AL.W ?_ | refine AL.nil ?_)
        | ((with_reducible show DL _ _ _ _ _ _ _); first | refine DL.any ?_ | refine DL.any (h := POp.k Tryz.func175 (hc := meet_i x y)) ?_ | refine DL.nil ?_)
        | ((with_reducible show AW _ _ _ _ _ _); first | refine AW.seq ?_ | refine AW.region ?_ | refine AW.skip ?_ | (refine AW.loopD hE (fun k : Nat => [.ro 2 (l.map TPoint.en), .any, .any, .ro 4 ((arnd l).map TSegment.en), I (i : Int), .any, .any, .any, .any, .any, .any, .any, .any, .any, .any, .any, .any, .any, I (((arnd l).map TSegment.en).length : Int), I (i : Int), .any, .any, .any, .any, .any, .any, .any, .any, I (i : Int), I (k : Int), .any, .any, .any, .any, .any, .any, .any, .any, .any, .any, .any, .any, .any, .any, .any, .any, .any, .any, .any, .any, .any, .any, .any, .any, .any, .any, .any, .any, .any, .any]) (fun k => []) (fun k => i - k) (fun k => k ≤ i ∧ rgIn l i k = true) 0 ⟨Nat.zero_le _, by simp [rgIn]⟩ ?_ (by first | rfl | (simp; done)) ?_) | refine AW.dr (id := 15) 10 ?_ | refine AW.cT ?_ | refine AW.cF ?_ | (refine AW.c2 ?_ ?_ <;> (intro h; try simp only [Bool.not_eq_true', Bool.not_eq_false'] at h)) | refine AW.block ?_ | refine AW.exit ?_ | refine AW.ret ?_)
        | with_reducible refine (if_pos rfl).mpr ?_
        | with_reducible refine (if_neg (by decide)).mpr ?_) <;> (try dsimp only))
      any_goals first | exact Fin.one rfl (RV.tmp (by rfl)) (clo_c _) ⟨by have e2 := rgOk_not (l := l) (i := i) (n := l.length) (by simp_all) (by omega); simp_all [isRing], rfl⟩
      · (repeat' (first | exact Wk.nil | refine Wk.any ?_ | (with_reducible refine Wk.same ?_) | refine Wk.of ?_ ?_)) <;> first | rfl | (simp; done)
      · intro k hv_k
        have hclo : Clo (.ro 2 (l.map TPoint.en)) := clo_list TPoint.clo_en
        have hclA : Clo (.ro 4 ((arnd l).map TSegment.en)) := clo_list TSegment.clo_en
        have hal := arnd_len l
        by_cases hlt_k : k < i
        · skip
          obtain ⟨y, hy⟩ : ∃ y, (arnd l)[k]? = some y := ⟨_, List.getElem?_eq_getElem (by omega)⟩
          have hgy := map_get (f := TSegment.en) hy
          have htk : decide ((k : Int) < (i : Int)) = true := by simp; omega
          have hnk := next_ix hlt_k (by omega)
          have hsy := sAt_of hy
          have hrk : rgIn l i (k + 1) = (rgIn l i k && (hmI x y == wantN l.length i k)) := by rw [rgIn_succ, hsx, hsy]
          have hen : ((arnd l).map TSegment.en).length = l.length := by simp [hal]
          rcases want_i (n := l.length) (i := i) (k := k) (by omega) hlt_k hl with ⟨w1, wN⟩ | ⟨w1, w2, wN⟩ | ⟨w1, w2, w3, wN⟩ | ⟨w1, w2, w3, wN⟩
          all_goals try rw [← hen] at w3
          all_goals
            repeat' ((first
              | ((with_reducible show AL _ _ _ _ _ _ _); first | refine AL.any ?_ | refine AL.any (h := POp.k Tryz.func176 (hc := arnd_i _ (by assumption))) ?_ | refine AL.any (h := POp.k Tryz.func177 (hc := isSeg_i x)) ?_ | refine AL.U ?_ | refine AL.F ?_ | refine AL.T ?_ | refine AL.W ?_ | refine AL.nil ?_)
              | ((with_reducible show DL _ _ _ _ _ _ _); first | refine DL.any ?_ | refine DL.any (h := POp.k Tryz.func175 (hc := meet_i x y)) ?_ | refine DL.nil ?_)
              | ((with_reducible show AW _ _ _ _ _ _); first | refine AW.seq ?_ | refine AW.region ?_ | refine AW.skip ?_ | refine AW.dr (id := 15) 10 ?_ | refine AW.cT ?_ | refine AW.cF ?_ | (refine AW.c2 ?_ ?_ <;> (intro h; try simp only [Bool.not_eq_true', Bool.not_eq_false'] at h)) | refine AW.block ?_ | refine AW.exit ?_ | refine AW.ret ?_)
              | with_reducible refine (if_pos rfl).mpr ?_
              | with_reducible refine (if_neg (by decide)).mpr ?_) <;> (try dsimp only))
            all_goals first
              | (refine ⟨k + 1, _, ⟨hlt_k, by simp_all⟩, by omega, ?_, rfl, ?_, ?_⟩; (focus ((repeat' (first | exact Wk.nil | refine Wk.any ?_ | (with_reducible refine Wk.same ?_) | refine Wk.of ?_ ?_)) <;> (simp_all))); (focus ((repeat' (first | exact Fits.nil _ | refine Fits.cons ?_ ?_ | exact Fits.any _ | exact Fits.c _ _ | exact Fits.own (by rfl) | exact Fits.ref (by rfl) | exact Fits.clo (by assumption) | exact Fits.clo (clo_of (by rfl)) | exact Fits.clo (clo_fn _))))); (focus (exact FitsM.nil _)))
              | exact Fin.one rfl (RV.tmp (by rfl)) (clo_c _) ⟨by have e1 := rgIn_not (l := l) (i := i) (k := k) (n := i) (by simp_all) hlt_k; have e2 := rgOk_not (l := l) (i := i) (n := l.length) (by simp_all) (by omega); simp_all [isRing], rfl⟩
        · have e_k : k = i := by omega
          have htk : decide ((k : Int) < (i : Int)) = false := by simp; omega
          have e2 := e_k.symm
          subst e2
          repeat' ((first
            | ((with_reducible show AL _ _ _ _ _ _ _); first | refine AL.any ?_ | refine AL.any (h := POp.k Tryz.func176 (hc := arnd_i _ (by assumption))) ?_ | refine AL.any (h := POp.k Tryz.func177 (hc := isSeg_i x)) ?_ | refine AL.U ?_ | refine AL.F ?_ | refine AL.T ?_ | refine AL.W ?_ | refine AL.nil ?_)
            | ((with_reducible show DL _ _ _ _ _ _ _); first | refine DL.any ?_ | refine DL.any (h := POp.k Tryz.func175 (hc := meet_i x y)) ?_ | refine DL.nil ?_)
            | ((with_reducible show AW _ _ _ _ _ _); first | refine AW.seq ?_ | refine AW.region ?_ | refine AW.skip ?_ | refine AW.dr (id := 15) 10 ?_ | refine AW.cT ?_ | refine AW.cF ?_ | (refine AW.c2 ?_ ?_ <;> (intro h; try simp only [Bool.not_eq_true', Bool.not_eq_false'] at h)) | refine AW.block ?_ | refine AW.exit ?_ | refine AW.ret ?_)
            | with_reducible refine (if_pos rfl).mpr ?_
            | with_reducible refine (if_neg (by decide)).mpr ?_) <;> (try dsimp only))
          all_goals first
            | (refine ⟨i + 1, _, ⟨hlt_i, by simp_all⟩, by omega, ?_, rfl, ?_, ?_⟩; (focus ((repeat' (first | exact Wk.nil | refine Wk.any ?_ | (with_reducible refine Wk.same ?_) | refine Wk.of ?_ ?_)) <;> (simp_all))); (focus ((repeat' (first | exact Fits.nil _ | refine Fits.cons ?_ ?_ | exact Fits.any _ | exact Fits.c _ _ | exact Fits.own (by rfl) | exact Fits.ref (by rfl) | exact Fits.clo (by assumption) | exact Fits.clo (clo_of (by rfl)) | exact Fits.clo (clo_fn _))))); (focus (exact FitsM.nil _)))
    · have e_i : i = (arnd l).length := by omega
      have hti := lt_false (f := TSegment.en) (show ¬ i < (arnd l).length by omega)
      subst e_i
      repeat' ((first
        | ((with_reducible show AL _ _ _ _ _ _ _); first | refine AL.any ?_ | refine AL.any (h := POp.k Tryz.func176 (hc := arnd_i _ (by assumption))) ?_ | refine AL.any (h := POp.k Tryz.func177 (hc := isSeg_i x)) ?_ | refine AL.U ?_ | refine AL.F ?_ | refine AL.T ?_ | refine AL.W ?_ | refine AL.nil ?_)
        | ((with_reducible show DL _ _ _ _ _ _ _); first | refine DL.any ?_ | refine DL.any (h := POp.k Tryz.func175 (hc := meet_i x y)) ?_ | refine DL.nil ?_)
        | ((with_reducible show AW _ _ _ _ _ _); first | refine AW.seq ?_ | refine AW.region ?_ | refine AW.skip ?_ | refine AW.dr (id := 15) 10 ?_ | refine AW.cT ?_ | refine AW.cF ?_ | (refine AW.c2 ?_ ?_ <;> (intro h; try simp only [Bool.not_eq_true', Bool.not_eq_false'] at h)) | refine AW.block ?_ | refine AW.exit ?_ | refine AW.ret ?_)
        | with_reducible refine (if_pos rfl).mpr ?_
        | with_reducible refine (if_neg (by decide)).mpr ?_) <;> (try dsimp only))
      all_goals first
        | exact Fin.one rfl (RV.tmp (by rfl)) (clo_c _) ⟨by first | (simp_all [isRing]; done) | (simp_all [isRing, inr] <;> omega), rfl⟩

end Go.Proofs.YtacbpfbelcdeiaaGreat.Abs

/- The walks of a line's segments. -/
namespace Go.Proofs.YtacbpfbelcdeiaaGreat.Abs
open Go.Proofs Go.RowKit
set_option linter.unusedVariables false
set_option linter.unusedSimpArgs false
attribute [local irreducible] OpA AL AW DL DLM DLR DLS QOp POp VCalls VCallsI
set_option maxRecDepth 100000 in
set_option maxHeartbeats 2000000 in
theorem segs_s (l : List TPoint) (hl : l.length ≤ 1048576) : VCalls Tryz.prog 166 [.ro 2 (l.map TPoint.en)] (fun r M => r = .ro 4 ((segs l).map TSegment.en) ∧ M = []) := by
  refine VCalls.bodyE Tryz.func166 rfl 29 rfl (fun E hE => ?_)
  simp only [List.reduceReplicate, List.cons_append, List.nil_append]
  have hclo : Clo (.ro 2 (l.map TPoint.en)) := clo_list TPoint.clo_en
  repeat' ((first
    | ((with_reducible show AL _ _ _ _ _ _ _); first | refine AL.any ?_ | refine AL.U ?_ | refine AL.F ?_ | refine AL.T ?_ | refine AL.T (h := POp.k Tryz.func168 (hc := isLine_s _ (by assumption))) ?_ | refine AL.W ?_ | refine AL.W (h := fun h => by (try rw [h]); exact POp.k Tryz.func168 (hc := isLine_s _ (by assumption))) ?_ | refine AL.nil ?_)
    | ((with_reducible show DL _ _ _ _ _ _ _); first | refine DL.any ?_ | refine DL.nil ?_)
    | ((with_reducible show DLM _ _ _ _ _ _ _ _ _ _); first | refine DLM.any ?_ | refine DLM.mk ?_ | refine DLM.nil ?_)
    | ((with_reducible show AW _ _ _ _ _ _); first | refine AW.seq ?_ | refine AW.region ?_ | refine AW.skip ?_ | (refine AW.loopD hE (fun i : Nat => [.ro 2 (l.map TPoint.en), .any, .any, .own 0 i, I ((i : Int) + 1), .any, .any, .any, .any, .any, .any, .any, .any, .any, .any, .any, .any, .any, .any, .any, .any, .any, .any, .any, .any, .any, .any, .any, .any, .any]) (fun i => [some ⟨177, 4, i, false, ((segs l).take i).map TSegment.en⟩]) (fun i => (segs l).length - i) (fun i => i ≤ (segs l).length) 0 (Nat.zero_le _) ?_ (by first | rfl | (simp [fil_zero]; done)) ?_) | refine AW.drM (id := 5) 12 11 ?_ | refine AW.cT ?_ | refine AW.cF ?_ | (refine AW.c2 ?_ ?_ <;> (intro h; try simp only [Bool.not_eq_true', Bool.not_eq_false'] at h)) | refine AW.block ?_ | refine AW.exit ?_ | refine AW.ret ?_)
    | with_reducible refine (if_pos rfl).mpr ?_
    | with_reducible refine (if_neg (by decide)).mpr ?_) <;> (try dsimp only))
  · (repeat' (first | exact Wk.nil | refine Wk.any ?_ | (with_reducible refine Wk.same ?_) | refine Wk.of ?_ ?_)) <;> first | rfl | (simp)
  · intro i hi
    have hclo : Clo (.ro 2 (l.map TPoint.en)) := clo_list TPoint.clo_en
    have hsl := segs_le l
    by_cases hlt : i < (segs l).length
    · skip
      obtain ⟨a, b, hL, hi1, ha, hb, hs⟩ := segs_get hlt
      have ht : (decide ((i : Int) + 1 < ((l.map TPoint.en).length : Int)) && isLine l) = true := by simp [hL]; omega
      have e1 : IntKind.i64.wrap ((i : Int) + 1 - 1) = (i : Int) := by rw [w64 (by omega) (by omega)]; omega
      have h0 : 0 ≤ IntKind.i64.wrap ((i : Int) + 1 - 1) := by omega
      have hga : (l.map TPoint.en)[(IntKind.i64.wrap ((i : Int) + 1 - 1)).toNat]? = some a.en := by rw [e1]; exact map_get ha
      have hgb : (l.map TPoint.en)[((i : Int) + 1).toNat]? = some b.en := by rw [show ((i : Int) + 1).toNat = i + 1 by omega, List.getElem?_map, hb]; rfl
      have h01 : 0 ≤ (i : Int) + 1 := by omega
      have hn : IntKind.i64.wrap ((i : Int) + 1 + 1) = ((i + 1 : Nat) : Int) + 1 := by rw [w64 (by omega) (by omega)]; omega
      have hm := map_take_succ (f := TSegment.en) hs
      repeat' ((first
        | ((with_reducible show AL _ _ _ _ _ _ _); first | refine AL.any ?_ | refine AL.U ?_ | refine AL.F ?_ | refine AL.T ?_ | refine AL.T (h := POp.k Tryz.func168 (hc := isLine_s _ (by assumption))) ?_ | refine AL.W ?_ | refine AL.W (h := fun h => by (try rw [h]); exact POp.k Tryz.func168 (hc := isLine_s _ (by assumption))) ?_ | refine AL.nil ?_)
        | ((with_reducible show DL _ _ _ _ _ _ _); first | refine DL.any ?_ | refine DL.nil ?_)
        | ((with_reducible show DLM _ _ _ _ _ _ _ _ _ _); first | refine DLM.any ?_ | refine DLM.mk ?_ | refine DLM.nil ?_)
        | ((with_reducible show AW _ _ _ _ _ _); first | refine AW.seq ?_ | refine AW.region ?_ | refine AW.skip ?_ | refine AW.drM (id := 5) 12 11 ?_ | refine AW.cT ?_ | refine AW.cF ?_ | (refine AW.c2 ?_ ?_ <;> (intro h; try simp only [Bool.not_eq_true', Bool.not_eq_false'] at h)) | refine AW.block ?_ | refine AW.exit ?_ | refine AW.ret ?_)
        | with_reducible refine (if_pos rfl).mpr ?_
        | with_reducible refine (if_neg (by decide)).mpr ?_) <;> (try dsimp only))
      all_goals first
        | (refine ⟨i + 1, _, hlt, by omega, ?_, by rw [hm] <;> rfl, ?_, ?_⟩; (focus ((repeat' (first | exact Wk.nil | refine Wk.any ?_ | (with_reducible refine Wk.same ?_) | refine Wk.of ?_ ?_)) <;> (simp_all))); (focus ((repeat' (first | exact Fits.nil _ | refine Fits.cons ?_ ?_ | exact Fits.any _ | exact Fits.c _ _ | exact Fits.own (by rfl) | exact Fits.ref (by rfl) | exact Fits.clo (by assumption) | exact Fits.clo (clo_of (by rfl)) | exact Fits.clo (clo_fn _))))); (focus (exact fits_row (clo_rows TSegment.clo_en))))
    · have e : i = (segs l).length := by omega
      have hsl := segs_le l
      have ht : (decide ((i : Int) + 1 < ((l.map TPoint.en).length : Int)) && isLine l) = false := by
        cases hL : isLine l
        · simp_all
        · have := segs_len hL; have := isLine_len hL; simp; omega
      subst e
      repeat' ((first
        | ((with_reducible show AL _ _ _ _ _ _ _); first | refine AL.any ?_ | refine AL.U ?_ | refine AL.F ?_ | refine AL.T ?_ | refine AL.T (h := POp.k Tryz.func168 (hc := isLine_s _ (by assumption))) ?_ | refine AL.W ?_ | refine AL.W (h := fun h => by (try rw [h]); exact POp.k Tryz.func168 (hc := isLine_s _ (by assumption))) ?_ | refine AL.nil ?_)
        | ((with_reducible show DL _ _ _ _ _ _ _); first | refine DL.any ?_ | refine DL.nil ?_)
        | ((with_reducible show DLM _ _ _ _ _ _ _ _ _ _); first | refine DLM.any ?_ | refine DLM.mk ?_ | refine DLM.nil ?_)
        | ((with_reducible show AW _ _ _ _ _ _); first | refine AW.seq ?_ | refine AW.region ?_ | refine AW.skip ?_ | (refine AW.freezeRet (t := 2) (id := 0) rfl rfl rfl rfl (clo_rows TSegment.clo_en) ?_; (try simp only [List.take_length]); try dsimp only [dput, List.set, cond_true, cond_false, Nat.zero_add, Nat.add_zero, Nat.reduceAdd, splice, List.take, List.drop, List.length, List.nil_append, List.cons_append, List.append, TPoint.en, TSegment.en, TBox.en, TFeature.en, TMeet.en, TPlace.en, TCover.en, TLabel.en, TPiece.en, TLevel.en, TChart.en, TReason.en, TEdit.en, TEntry.en, TEdition.en, TListing.en, TAtlas.en, TEvent.en, TWindow.en]) | refine AW.drM (id := 5) 12 11 ?_ | refine AW.cT ?_ | refine AW.cF ?_ | (refine AW.c2 ?_ ?_ <;> (intro h; try simp only [Bool.not_eq_true', Bool.not_eq_false'] at h)) | refine AW.block ?_ | refine AW.exit ?_ | refine AW.ret ?_)
        | with_reducible refine (if_pos rfl).mpr ?_
        | with_reducible refine (if_neg (by decide)).mpr ?_) <;> (try dsimp only))
      all_goals exact Fin.one rfl (RV.tmp (by rfl)) (clo_list TSegment.clo_en) ⟨rfl, rfl⟩

set_option maxRecDepth 100000 in
set_option maxHeartbeats 2000000 in
theorem segs_i (l : List TPoint) (hl : l.length ≤ 1048576) : VCalls Tryz.prog 174 [.ro 2 (l.map TPoint.en)] (fun r M => r = .ro 4 ((segs l).map TSegment.en) ∧ M = []) := by
  refine VCalls.bodyE Tryz.func174 rfl 29 rfl (fun E hE => ?_)
  simp only [List.reduceReplicate, List.cons_append, List.nil_append]
  have hclo : Clo (.ro 2 (l.map TPoint.en)) := clo_list TPoint.clo_en
  repeat' ((first
    | ((with_reducible show AL _ _ _ _ _ _ _); first | refine AL.any ?_ | refine AL.any (h := POp.k Tryz.func173 (hc := isLine_i _ (by assumption))) ?_ | refine AL.nil ?_)
    | ((with_reducible show DL _ _ _ _ _ _ _); first | refine DL.any ?_ | refine DL.nil ?_)
    | ((with_reducible show DLM _ _ _ _ _ _ _ _ _ _); first | refine DLM.any ?_ | refine DLM.mk ?_ | refine DLM.nil ?_)
    | ((with_reducible show AW _ _ _ _ _ _); first | refine AW.seq ?_ | refine AW.region ?_ | refine AW.skip ?_ | (refine AW.freezeRet (t := 2) (id := 0) rfl rfl rfl rfl clo_rows_nil ?_; (try simp only [List.take_length]); try dsimp only [dput, List.set, cond_true, cond_false, Nat.zero_add, Nat.add_zero, Nat.reduceAdd, splice, List.take, List.drop, List.length, List.nil_append, List.cons_append, List.append, TPoint.en, TSegment.en, TBox.en, TFeature.en, TMeet.en, TPlace.en, TCover.en, TLabel.en, TPiece.en, TLevel.en, TChart.en, TReason.en, TEdit.en, TEntry.en, TEdition.en, TListing.en, TAtlas.en, TEvent.en, TWindow.en]) | (refine AW.loopD hE (fun i : Nat => [.ro 2 (l.map TPoint.en), .any, .any, .own 0 i, I ((i : Int) + 1), .any, .any, .any, .any, .any, .any, .any, .any, .any, .any, .any, .any, .any, .any, .any, .any, .any, .any, .any, .any, .any, .any, .any, .any, .any]) (fun i => [some ⟨177, 4, i, false, ((segs l).take i).map TSegment.en⟩]) (fun i => (segs l).length - i) (fun i => i ≤ (segs l).length) 0 (Nat.zero_le _) ?_ (by first | rfl | (simp [fil_zero]; done)) ?_) | refine AW.drM (id := 7) 12 11 ?_ | refine AW.cT ?_ | refine AW.cF ?_ | (refine AW.c2 ?_ ?_ <;> (intro h; try simp only [Bool.not_eq_true', Bool.not_eq_false'] at h)) | refine AW.block ?_ | refine AW.exit ?_ | refine AW.ret ?_)
    | with_reducible refine (if_pos rfl).mpr ?_
    | with_reducible refine (if_neg (by decide)).mpr ?_) <;> (try dsimp only))
  · exact Fin.one rfl (RV.tmp (by rfl)) (Clo.ro fun r hr => by simp at hr) ⟨by rw [segs_nil (by assumption)]; rfl, rfl⟩
  · (repeat' (first | exact Wk.nil | refine Wk.any ?_ | (with_reducible refine Wk.same ?_) | refine Wk.of ?_ ?_)) <;> first | rfl | (simp)
  · intro i hi
    have hclo : Clo (.ro 2 (l.map TPoint.en)) := clo_list TPoint.clo_en
    have hsl := segs_le l
    by_cases hlt : i < (segs l).length
    · skip
      obtain ⟨a, b, hL, hi1, ha, hb, hs⟩ := segs_get hlt
      have ht : decide ((i : Int) + 1 < ((l.map TPoint.en).length : Int)) = true := by simp []; omega
      have e1 : IntKind.i64.wrap ((i : Int) + 1 - 1) = (i : Int) := by rw [w64 (by omega) (by omega)]; omega
      have h0 : 0 ≤ IntKind.i64.wrap ((i : Int) + 1 - 1) := by omega
      have hga : (l.map TPoint.en)[(IntKind.i64.wrap ((i : Int) + 1 - 1)).toNat]? = some a.en := by rw [e1]; exact map_get ha
      have hgb : (l.map TPoint.en)[((i : Int) + 1).toNat]? = some b.en := by rw [show ((i : Int) + 1).toNat = i + 1 by omega, List.getElem?_map, hb]; rfl
      have h01 : 0 ≤ (i : Int) + 1 := by omega
      have hn : IntKind.i64.wrap ((i : Int) + 1 + 1) = ((i + 1 : Nat) : Int) + 1 := by rw [w64 (by omega) (by omega)]; omega
      have hm := map_take_succ (f := TSegment.en) hs
      repeat' ((first
        | ((with_reducible show AL _ _ _ _ _ _ _); first | refine AL.any ?_ | refine AL.any (h := POp.k Tryz.func173 (hc := isLine_i _ (by assumption))) ?_ | refine AL.nil ?_)
        | ((with_reducible show DL _ _ _ _ _ _ _); first | refine DL.any ?_ | refine DL.nil ?_)
        | ((with_reducible show DLM _ _ _ _ _ _ _ _ _ _); first | refine DLM.any ?_ | refine DLM.mk ?_ | refine DLM.nil ?_)
        | ((with_reducible show AW _ _ _ _ _ _); first | refine AW.seq ?_ | refine AW.region ?_ | refine AW.skip ?_ | (refine AW.freezeRet (t := 2) (id := 0) rfl rfl rfl rfl clo_rows_nil ?_; (try simp only [List.take_length]); try dsimp only [dput, List.set, cond_true, cond_false, Nat.zero_add, Nat.add_zero, Nat.reduceAdd, splice, List.take, List.drop, List.length, List.nil_append, List.cons_append, List.append, TPoint.en, TSegment.en, TBox.en, TFeature.en, TMeet.en, TPlace.en, TCover.en, TLabel.en, TPiece.en, TLevel.en, TChart.en, TReason.en, TEdit.en, TEntry.en, TEdition.en, TListing.en, TAtlas.en, TEvent.en, TWindow.en]) | refine AW.drM (id := 7) 12 11 ?_ | refine AW.cT ?_ | refine AW.cF ?_ | (refine AW.c2 ?_ ?_ <;> (intro h; try simp only [Bool.not_eq_true', Bool.not_eq_false'] at h)) | refine AW.block ?_ | refine AW.exit ?_ | refine AW.ret ?_)
        | with_reducible refine (if_pos rfl).mpr ?_
        | with_reducible refine (if_neg (by decide)).mpr ?_) <;> (try dsimp only))
      all_goals first
        | (refine ⟨i + 1, _, hlt, by omega, ?_, by rw [hm] <;> rfl, ?_, ?_⟩; (focus ((repeat' (first | exact Wk.nil | refine Wk.any ?_ | (with_reducible refine Wk.same ?_) | refine Wk.of ?_ ?_)) <;> (simp_all))); (focus ((repeat' (first | exact Fits.nil _ | refine Fits.cons ?_ ?_ | exact Fits.any _ | exact Fits.c _ _ | exact Fits.own (by rfl) | exact Fits.ref (by rfl) | exact Fits.clo (by assumption) | exact Fits.clo (clo_of (by rfl)) | exact Fits.clo (clo_fn _))))); (focus (exact fits_row (clo_rows TSegment.clo_en))))
    · have e : i = (segs l).length := by omega
      have hsl := segs_le l
      have ht : decide ((i : Int) + 1 < ((l.map TPoint.en).length : Int)) = false := by
        cases hL : isLine l
        · simp_all
        · have := segs_len hL; have := isLine_len hL; simp; omega
      subst e
      repeat' ((first
        | ((with_reducible show AL _ _ _ _ _ _ _); first | refine AL.any ?_ | refine AL.any (h := POp.k Tryz.func173 (hc := isLine_i _ (by assumption))) ?_ | refine AL.nil ?_)
        | ((with_reducible show DL _ _ _ _ _ _ _); first | refine DL.any ?_ | refine DL.nil ?_)
        | ((with_reducible show DLM _ _ _ _ _ _ _ _ _ _); first | refine DLM.any ?_ | refine DLM.mk ?_ | refine DLM.nil ?_)
        | ((with_reducible show AW _ _ _ _ _ _); first | refine AW.seq ?_ | refine AW.region ?_ | refine AW.skip ?_ | (refine AW.freezeRet (t := 2) (id := 0) rfl rfl rfl rfl clo_rows_nil ?_; (try simp only [List.take_length]); try dsimp only [dput, List.set, cond_true, cond_false, Nat.zero_add, Nat.add_zero, Nat.reduceAdd, splice, List.take, List.drop, List.length, List.nil_append, List.cons_append, List.append, TPoint.en, TSegment.en, TBox.en, TFeature.en, TMeet.en, TPlace.en, TCover.en, TLabel.en, TPiece.en, TLevel.en, TChart.en, TReason.en, TEdit.en, TEntry.en, TEdition.en, TListing.en, TAtlas.en, TEvent.en, TWindow.en]) | (refine AW.freezeRet (t := 2) (id := 0) rfl rfl rfl rfl (clo_rows TSegment.clo_en) ?_; (try simp only [List.take_length]); try dsimp only [dput, List.set, cond_true, cond_false, Nat.zero_add, Nat.add_zero, Nat.reduceAdd, splice, List.take, List.drop, List.length, List.nil_append, List.cons_append, List.append, TPoint.en, TSegment.en, TBox.en, TFeature.en, TMeet.en, TPlace.en, TCover.en, TLabel.en, TPiece.en, TLevel.en, TChart.en, TReason.en, TEdit.en, TEntry.en, TEdition.en, TListing.en, TAtlas.en, TEvent.en, TWindow.en]) | refine AW.drM (id := 7) 12 11 ?_ | refine AW.cT ?_ | refine AW.cF ?_ | (refine AW.c2 ?_ ?_ <;> (intro h; try simp only [Bool.not_eq_true', Bool.not_eq_false'] at h)) | refine AW.block ?_ | refine AW.exit ?_ | refine AW.ret ?_)
        | with_reducible refine (if_pos rfl).mpr ?_
        | with_reducible refine (if_neg (by decide)).mpr ?_) <;> (try dsimp only))
      all_goals exact Fin.one rfl (RV.tmp (by rfl)) (clo_list TSegment.clo_en) ⟨rfl, rfl⟩

end Go.Proofs.YtacbpfbelcdeiaaGreat.Abs
