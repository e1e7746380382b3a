/- How two segments meet: the reference's way and the program's way say the same. -/
import Derived.Test.YtpffahmmklpifaaGreatData
namespace Go.Proofs.YtpffahmmklpifaaGreat.Abs
set_option linter.unusedVariables false
def crs (a b p : TPoint) : Int := (b.x - a.x) * (p.y - a.y) - (b.y - a.y) * (p.x - a.x)
def btw (a b p : Int) : Prop := (a ≤ p ∧ p ≤ b) ∨ (b ≤ p ∧ p ≤ a)
def onS (a b p : TPoint) : Prop := crs a b p = 0 ∧ btw a.x b.x p.x ∧ btw a.y b.y p.y
theorem TPoint.ext' {a b : TPoint} (h1 : a.x = b.x) (h2 : a.y = b.y) : a = b := by
 cases a; cases b; simp_all
theorem TPoint.ne_iff {a b : TPoint} : a ≠ b ↔ a.x ≠ b.x ∨ a.y ≠ b.y := by
 constructor
 · intro h
   by_cases hx : a.x = b.x
   · exact .inr fun hy => h (TPoint.ext' hx hy)
   · exact .inl hx
 · rintro (h | h) e <;> exact h (by rw [e])
theorem par {ux uy vx vy wx wy : Int} (hu : ux ≠ 0 ∨ uy ≠ 0) (h1 : ux * vy - uy * vx = 0) (h2 : ux * wy - uy * wx = 0) : vx * wy - vy * wx = 0 := by
 rcases hu with hu | hu
 · have : ux * (vx * wy - vy * wx) = 0 := by grind
   rcases Int.mul_eq_zero.1 this with h | h
   · exact absurd h hu
   · exact h
 · have : uy * (vx * wy - vy * wx) = 0 := by grind
   rcases Int.mul_eq_zero.1 this with h | h
   · exact absurd h hu
   · exact h
theorem one_line {a b c d p q : TPoint} (hab : a ≠ b) (hcd : c ≠ d) (hpq : p ≠ q) (h1 : crs a b p = 0) (h2 : crs a b q = 0) (h3 : crs c d p = 0) (h4 : crs c d q = 0) : crs a b c = 0 ∧ crs a b d = 0 := by
 unfold crs at *
 have nab : b.x - a.x ≠ 0 ∨ b.y - a.y ≠ 0 := by rcases TPoint.ne_iff.1 hab with h | h; exact .inl (by omega); exact .inr (by omega)
 have ncd : d.x - c.x ≠ 0 ∨ d.y - c.y ≠ 0 := by rcases TPoint.ne_iff.1 hcd with h | h; exact .inl (by omega); exact .inr (by omega)
 have npq : q.x - p.x ≠ 0 ∨ q.y - p.y ≠ 0 := by rcases TPoint.ne_iff.1 hpq with h | h; exact .inl (by omega); exact .inr (by omega)
 -- all along q - p
 have e1 : (q.x - p.x) * (b.y - a.y) - (q.y - p.y) * (b.x - a.x) = 0 := by grind
 have e2 : (d.x - c.x) * (q.y - p.y) - (d.y - c.y) * (q.x - p.x) = 0 := by grind
 have e3 : (q.x - p.x) * (c.y - p.y) - (q.y - p.y) * (c.x - p.x) = 0 := by
  have := par ncd (vx := q.x - p.x) (vy := q.y - p.y) (wx := c.x - p.x) (wy := c.y - p.y) e2 (by grind)
  grind
 have e4 : (q.x - p.x) * (d.y - p.y) - (q.y - p.y) * (d.x - p.x) = 0 := by
  have := par ncd (vx := q.x - p.x) (vy := q.y - p.y) (wx := d.x - p.x) (wy := d.y - p.y) e2 (by grind)
  grind
 have e5 : (q.x - p.x) * (a.y - p.y) - (q.y - p.y) * (a.x - p.x) = 0 := by
  have := par nab (vx := q.x - p.x) (vy := q.y - p.y) (wx := a.x - p.x) (wy := a.y - p.y) (by grind) (by grind)
  grind
 constructor
 · have := par npq (vx := b.x - a.x) (vy := b.y - a.y) (wx := c.x - a.x) (wy := c.y - a.y) e1 (by grind)
   grind
 · have := par npq (vx := b.x - a.x) (vy := b.y - a.y) (wx := d.x - a.x) (wy := d.y - a.y) e1 (by grind)
   grind
theorem cross_box1 {al be ga de ax bx cx dx m n : Int} (hv : be * ax - al * bx = ga * dx - de * cx) (hs : be - al = ga - de) (h1 : al < 0) (h2 : 0 < be) (h3 : de < 0) (h4 : 0 < ga) (ha : ax ≤ m) (hb : bx ≤ m) (hc : n ≤ cx) (hd : n ≤ dx) : n ≤ m := by
 have e1 : be * ax ≤ be * m := Int.mul_le_mul_of_nonneg_left ha (by omega)
 have e2 : (-al) * bx ≤ (-al) * m := Int.mul_le_mul_of_nonneg_left hb (by omega)
 have e3 : ga * n ≤ ga * dx := Int.mul_le_mul_of_nonneg_left hd (by omega)
 have e4 : (-de) * n ≤ (-de) * cx := Int.mul_le_mul_of_nonneg_left hc (by omega)
 have e6 : (be - al) * n = ga * n + (-de) * n := by rw [hs, ← Int.add_mul]; congr 1
 have e7 : (be - al) * m = be * m + (-al) * m := by rw [← Int.add_mul]; congr 1
 have e8 : be * ax + (-al) * bx = ga * dx + (-de) * cx := by rw [Int.neg_mul, Int.neg_mul]; omega
 have e5 : (be - al) * n ≤ (be - al) * m := by rw [e6, e7]; omega
 exact Int.le_of_mul_le_mul_left e5 (by omega)
theorem cross_box {al be ga de ax bx cx dx m n : Int} (hv : be * ax - al * bx = ga * dx - de * cx) (hs : be - al = ga - de) (h1 : al * be < 0) (h2 : ga * de < 0) (ha : ax ≤ m) (hb : bx ≤ m) (hc : n ≤ cx) (hd : n ≤ dx) : n ≤ m := by
 have sg : ∀ {p q : Int}, p * q < 0 → (p < 0 ∧ 0 < q) ∨ (0 < p ∧ q < 0) := fun {p q} h => by
  rcases Int.lt_trichotomy p 0 with hp | hp | hp
  · rcases Int.lt_trichotomy q 0 with hq | hq | hq
    · have := Int.mul_pos_of_neg_of_neg hp hq; omega
    · subst hq; simp at h
    · exact .inl ⟨hp, hq⟩
  · subst hp; simp at h
  · rcases Int.lt_trichotomy q 0 with hq | hq | hq
    · exact .inr ⟨hp, hq⟩
    · subst hq; simp at h
    · have := Int.mul_pos hp hq; omega
 rcases sg h1 with ⟨a1, a2⟩ | ⟨a1, a2⟩ <;> rcases sg h2 with ⟨b1, b2⟩ | ⟨b1, b2⟩
 · omega
 · exact cross_box1 hv hs a1 a2 b2 b1 ha hb hc hd
 · exact cross_box1 (al := -al) (be := -be) (ga := -ga) (de := -de) (by simp only [Int.neg_mul]; omega) (by omega) (by omega) (by omega) (by omega) (by omega) ha hb hc hd
 · omega
theorem btw_scale {dx dy p q v w : Int} (hd : dy ≠ 0) (h1 : dy * p = dx * q) (h2 : dy * v = dx * w) (h : (0 ≤ q ∧ q ≤ w) ∨ (w ≤ q ∧ q ≤ 0)) : (0 ≤ p ∧ p ≤ v) ∨ (v ≤ p ∧ p ≤ 0) := by
 have h3 : dy * (v - p) = dx * (w - q) := by rw [Int.mul_sub, Int.mul_sub, h1, h2]
 have nn : ∀ {r s : Int}, 0 < dy → dy * r = s → 0 ≤ s → 0 ≤ r := fun {r s} hp e hs => by
  rcases (by omega : r < 0 ∨ 0 ≤ r) with hr | hr
  · have := Int.mul_neg_of_pos_of_neg hp hr; omega
  · exact hr
 have np : ∀ {r s : Int}, 0 < dy → dy * r = s → s ≤ 0 → r ≤ 0 := fun {r s} hp e hs => by
  rcases (by omega : 0 < r ∨ r ≤ 0) with hr | hr
  · have := Int.mul_pos hp hr; omega
  · exact hr
 have pn : ∀ {r s : Int}, dy < 0 → dy * r = s → 0 ≤ s → r ≤ 0 := fun {r s} hp e hs => by
  rcases (by omega : 0 < r ∨ r ≤ 0) with hr | hr
  · have := Int.mul_neg_of_neg_of_pos hp hr; omega
  · exact hr
 have pp : ∀ {r s : Int}, dy < 0 → dy * r = s → s ≤ 0 → 0 ≤ r := fun {r s} hp e hs => by
  rcases (by omega : r < 0 ∨ 0 ≤ r) with hr | hr
  · have := Int.mul_pos_of_neg_of_neg hp hr; omega
  · exact hr
 have up : ∀ {r : Int}, 0 ≤ dx → 0 ≤ r → 0 ≤ dx * r := fun h h' => Int.mul_nonneg h h'
 have um : ∀ {r : Int}, dx ≤ 0 → 0 ≤ r → dx * r ≤ 0 := fun h h' => Int.mul_nonpos_of_nonpos_of_nonneg h h'
 have mp : ∀ {r : Int}, 0 ≤ dx → r ≤ 0 → dx * r ≤ 0 := fun h h' => Int.mul_nonpos_of_nonneg_of_nonpos h h'
 have mm : ∀ {r : Int}, dx ≤ 0 → r ≤ 0 → 0 ≤ dx * r := fun h h' => Int.mul_nonneg_of_nonpos_of_nonpos h h'
 rcases Int.lt_or_gt_of_ne hd with hy | hy <;> rcases Int.le_total 0 dx with hx | hx <;> rcases h with ⟨ha, hb⟩ | ⟨ha, hb⟩
 · right; have a := pn hy h1 (up hx ha); have b := pn hy h3 (up hx (by omega)); omega
 · left; have a := pp hy h1 (mp hx hb); have b := pp hy h3 (mp hx (by omega)); omega
 · left; have a := pp hy h1 (um hx ha); have b := pp hy h3 (um hx (by omega)); omega
 · right; have a := pn hy h1 (mm hx hb); have b := pn hy h3 (mm hx (by omega)); omega
 · left; have a := nn hy h1 (up hx ha); have b := nn hy h3 (up hx (by omega)); omega
 · right; have a := np hy h1 (mp hx hb); have b := np hy h3 (mp hx (by omega)); omega
 · right; have a := np hy h1 (um hx ha); have b := np hy h3 (um hx (by omega)); omega
 · left; have a := nn hy h1 (mm hx hb); have b := nn hy h3 (mm hx (by omega)); omega
def plc (a b p : TPoint) : Int := if a.y = b.y then p.x else p.y
theorem plc_inj {a b p q : TPoint} (hab : a ≠ b) (hp : crs a b p = 0) (hq : crs a b q = 0) (h : plc a b p = plc a b q) : p = q := by
 unfold plc at h
 unfold crs at hp hq
 split at h
 · rename_i hy
   have hx : b.x - a.x ≠ 0 := by rcases TPoint.ne_iff.1 hab with h | h <;> omega
   refine TPoint.ext' h ?_
   have e : (b.x - a.x) * (p.y - q.y) = 0 := by grind
   rcases Int.mul_eq_zero.1 e with h | h <;> omega
 · rename_i hy
   refine TPoint.ext' ?_ h
   have e : (b.y - a.y) * (p.x - q.x) = 0 := by grind
   rcases Int.mul_eq_zero.1 e with h | h <;> omega
theorem plc_btw {a b u v p : TPoint} (hab : a ≠ b) (hu : crs a b u = 0) (hv : crs a b v = 0) (hp : crs a b p = 0) : btw (plc a b u) (plc a b v) (plc a b p) ↔ (btw u.x v.x p.x ∧ btw u.y v.y p.y) := by
 have hy0 : ∀ {q : TPoint}, a.y = b.y → crs a b q = 0 → q.y = a.y := fun {q} hy hq => by
  have hx : b.x - a.x ≠ 0 := by rcases TPoint.ne_iff.1 hab with h | h <;> omega
  unfold crs at hq
  have e : (b.x - a.x) * (q.y - a.y) = 0 := by grind
  rcases Int.mul_eq_zero.1 e with h | h <;> omega
 unfold plc
 split
 · rename_i hy
   have e1 := hy0 hy hu
   have e2 := hy0 hy hv
   have e3 := hy0 hy hp
   refine ⟨fun h => ⟨h, .inl (by omega)⟩, fun h => h.1⟩
 · rename_i hy
   refine ⟨fun h => ⟨?_, h⟩, fun h => h.2⟩
   unfold crs at hu hv hp
   have := btw_scale (dx := b.x - a.x) (dy := b.y - a.y) (p := p.x - u.x) (q := p.y - u.y) (v := v.x - u.x) (w := v.y - u.y) (by omega) (by grind) (by grind) (by rcases h with h | h; exact .inl (by omega); exact .inr (by omega))
   rcases this with h | h
   · exact .inl (by omega)
   · exact .inr (by omega)
def eqP (p q : TPoint) : Bool := p.x == q.x && p.y == q.y
theorem eqP_iff {p q : TPoint} : eqP p q = true ↔ p = q := by
 unfold eqP
 simp only [Bool.and_eq_true, beq_iff_eq]
 exact ⟨fun h => TPoint.ext' h.1 h.2, fun h => by rw [h]; exact ⟨rfl, rfl⟩⟩
def sg (n : Int) : Int := if n > 0 then 1 else if n < 0 then -1 else 0
def btwB (a b p : Int) : Bool := (decide (a ≤ p) && decide (p ≤ b)) || (decide (b ≤ p) && decide (p ≤ a))
theorem btwB_iff {a b p : Int} : btwB a b p = true ↔ btw a b p := by simp [btwB, btw]
def onB (a b p : TPoint) : Bool := (crs a b p == 0) && btwB a.x b.x p.x && btwB a.y b.y p.y
theorem onB_iff {a b p : TPoint} : onB a b p = true ↔ onS a b p := by
 unfold onB onS
 simp only [Bool.and_eq_true, beq_iff_eq, btwB_iff, and_assoc]
def addE (on : Bool) (e : TPoint) (l : List TPoint) : List TPoint := if (on && l.all fun q => !eqP q e) = true then l ++ [e] else l
def shrd (a b c d : TPoint) : List TPoint := addE (onB a b d) d (addE (onB a b c) c (addE (onB c d b) b (addE (onB c d a) a [])))
def crossB (a b c d : TPoint) : Bool := decide (sg (crs a b c) * sg (crs a b d) < 0) && decide (sg (crs c d a) * sg (crs c d b) < 0)
def apart (a b c d : TPoint) : Prop := (a.x < c.x ∧ a.x < d.x ∧ b.x < c.x ∧ b.x < d.x) ∨ (c.x < a.x ∧ c.x < b.x ∧ d.x < a.x ∧ d.x < b.x) ∨ (a.y < c.y ∧ a.y < d.y ∧ b.y < c.y ∧ b.y < d.y) ∨ (c.y < a.y ∧ c.y < b.y ∧ d.y < a.y ∧ d.y < b.y)
def meetS (a b c d : TPoint) : Int := if (shrd a b c d).length = 0 then (if crossB a b c d = true then 2 else 0) else if (shrd a b c d).length = 1 then 1 else 3
def bef (a b : TPoint) : Bool := decide (a.y < b.y) || (a.y == b.y && decide (a.x < b.x))
def lowE (a b : TPoint) : TPoint := if bef b a = true then b else a
def highE (a b : TPoint) : TPoint := if bef b a = true then a else b
def meetI (a b c d : TPoint) : Int :=
 if sg (crs a b c) = 0 ∧ sg (crs a b d) = 0 then
  let low := if bef (lowE a b) (lowE c d) = true then lowE c d else lowE a b
  let high := if bef (highE c d) (highE a b) = true then highE c d else highE a b
  if bef high low = true then 0 else if eqP low high = true then 1 else 3
 else if crossB a b c d = true then 2 else if (onB a b c || onB a b d || onB c d a || onB c d b) = true then 1 else 0
theorem sg_zero {n : Int} : sg n = 0 ↔ n = 0 := by unfold sg; split <;> (try split) <;> omega
theorem sg_mul {p q : Int} (h : sg p * sg q < 0) : p * q < 0 := by
 unfold sg at h
 rcases Int.lt_trichotomy p 0 with hp | hp | hp <;> rcases Int.lt_trichotomy q 0 with hq | hq | hq
 · simp [show ¬ p > 0 by omega, show ¬ q > 0 by omega, hp, hq] at h
 · subst hq; simp at h
 · exact Int.mul_neg_of_neg_of_pos hp hq
 · subst hp; simp at h
 · subst hp; simp at h
 · subst hp; simp at h
 · exact Int.mul_neg_of_pos_of_neg hp hq
 · subst hq; simp at h
 · simp [hp, hq] at h
theorem crs_a (a b : TPoint) : crs a b a = 0 := by unfold crs; grind
theorem crs_b (a b : TPoint) : crs a b b = 0 := by unfold crs; grind
theorem apart_none {a b c d : TPoint} (h : apart a b c d) : onB a b c = false ∧ onB a b d = false ∧ onB c d a = false ∧ onB c d b = false ∧ crossB a b c d = false := by
 have no : ∀ {x : Bool} {p : Prop}, (x = true ↔ p) → ¬ p → x = false := fun h1 h2 => by
  rw [← h1] at h2; simpa using h2
 refine ⟨no onB_iff ?_, no onB_iff ?_, no onB_iff ?_, no onB_iff ?_, ?_⟩
 · rintro ⟨_, hx, hy⟩; unfold btw at hx hy; unfold apart at h; omega
 · rintro ⟨_, hx, hy⟩; unfold btw at hx hy; unfold apart at h; omega
 · rintro ⟨_, hx, hy⟩; unfold btw at hx hy; unfold apart at h; omega
 · rintro ⟨_, hx, hy⟩; unfold btw at hx hy; unfold apart at h; omega
 · unfold crossB
   rw [Bool.and_eq_false_iff, decide_eq_false_iff_not, decide_eq_false_iff_not]
   by_cases h1 : sg (crs a b c) * sg (crs a b d) < 0
   · right
     intro h2
     have g1 := sg_mul h1
     have g2 := sg_mul h2
     have vx : crs c d b * a.x - crs c d a * b.x = crs a b c * d.x - crs a b d * c.x := by unfold crs; grind
     have vy : crs c d b * a.y - crs c d a * b.y = crs a b c * d.y - crs a b d * c.y := by unfold crs; grind
     have hs : crs c d b - crs c d a = crs a b c - crs a b d := by unfold crs; grind
     have wx : crs a b d * c.x - crs a b c * d.x = crs c d a * b.x - crs c d b * a.x := by omega
     have wy : crs a b d * c.y - crs a b c * d.y = crs c d a * b.y - crs c d b * a.y := by omega
     have ws : crs a b d - crs a b c = crs c d a - crs c d b := by omega
     have mx : ∀ (p q : Int), p ≤ max p q ∧ q ≤ max p q ∧ min p q ≤ p ∧ min p q ≤ q := fun p q => by omega
     rcases h with h | h | h | h
     · have := cross_box (m := max a.x b.x) (n := min c.x d.x) vx hs g2 g1 (by omega) (by omega) (by omega) (by omega); omega
     · have := cross_box (m := max c.x d.x) (n := min a.x b.x) wx ws g1 g2 (by omega) (by omega) (by omega) (by omega); omega
     · have := cross_box (m := max a.y b.y) (n := min c.y d.y) vy hs g2 g1 (by omega) (by omega) (by omega) (by omega); omega
     · have := cross_box (m := max c.y d.y) (n := min a.y b.y) wy ws g1 g2 (by omega) (by omega) (by omega) (by omega); omega
   · exact .inl h1
theorem meet_two {a b c d : TPoint} (hab : a ≠ b) (hcd : c ≠ d) (h : ¬ (crs a b c = 0 ∧ crs a b d = 0)) : meetS a b c d = meetI a b c d := by
 have one : ∀ {p q : TPoint}, crs a b p = 0 → crs a b q = 0 → crs c d p = 0 → crs c d q = 0 → eqP p q = true := fun {p q} h1 h2 h3 h4 => by
  rw [eqP_iff]
  exact Classical.byContradiction fun hne => h (one_line hab hcd hne h1 h2 h3 h4)
 unfold meetI
 rw [if_neg (by rw [sg_zero, sg_zero]; exact h)]
 have z : ∀ {p q r : TPoint}, onB p q r = true → crs p q r = 0 := fun h => (onB_iff.1 h).1
 have nc : (onB a b c || onB a b d || onB c d a || onB c d b) = true → crossB a b c d = false := fun hh => by
  unfold crossB
  rw [Bool.and_eq_false_iff, decide_eq_false_iff_not, decide_eq_false_iff_not]
  simp only [Bool.or_eq_true] at hh
  rcases hh with ((hh | hh) | hh) | hh
  · left; rw [sg_zero.2 (z hh)]; simp
  · left; rw [sg_zero.2 (z hh)]; simp
  · right; rw [sg_zero.2 (z hh)]; simp
  · right; rw [sg_zero.2 (z hh)]; simp
 unfold meetS shrd addE
 cases h1 : onB c d a <;> cases h2 : onB c d b <;> cases h3 : onB a b c <;> cases h4 : onB a b d <;> simp only [h1, h2, h3, h4] at nc ⊢ <;> first
  | (simp; done)
  | (have e := nc rfl
     rw [e]
     simp (config := { decide := true }) only [Bool.true_and, Bool.false_and, List.all_nil, List.all_cons, List.nil_append, List.cons_append, if_true, if_false, Bool.and_true]
     iterate 3
      try rw [one (crs_a a b) (crs_b a b) (z h1) (z h2)]
      try rw [one (crs_a a b) (z h3) (z h1) (crs_a c d)]
      try rw [one (crs_a a b) (z h4) (z h1) (crs_b c d)]
      try rw [one (crs_b a b) (z h3) (z h2) (crs_a c d)]
      try rw [one (crs_b a b) (z h4) (z h2) (crs_b c d)]
      try rw [one (z h3) (z h4) (crs_a c d) (crs_b c d)]
      try simp)
theorem plc_facts {a b p q : TPoint} (hab : a ≠ b) (hp : crs a b p = 0) (hq : crs a b q = 0) : (bef p q = true ↔ plc a b p < plc a b q) ∧ (eqP p q = true ↔ plc a b p = plc a b q) := by
 have he : eqP p q = true ↔ plc a b p = plc a b q := by
  rw [eqP_iff]
  exact ⟨fun h => by rw [h], plc_inj hab hp hq⟩
 refine ⟨?_, he⟩
 have hinj := plc_inj hab hp hq
 have hy0 : ∀ {q : TPoint}, a.y = b.y → crs a b q = 0 → q.y = a.y := fun {q} hy hq => by
  have hx : b.x - a.x ≠ 0 := by rcases TPoint.ne_iff.1 hab with h | h <;> omega
  unfold crs at hq
  have e : (b.x - a.x) * (q.y - a.y) = 0 := by grind
  rcases Int.mul_eq_zero.1 e with h | h <;> omega
 unfold bef
 simp only [Bool.or_eq_true, Bool.and_eq_true, decide_eq_true_eq, beq_iff_eq]
 unfold plc at hinj ⊢
 split
 · rename_i hy
   have e1 := hy0 hy hp
   have e2 := hy0 hy hq
   omega
 · rename_i hy
   rw [if_neg hy, if_neg hy] at hinj
   constructor
   · rintro (h | ⟨h1, h2⟩)
     · exact h
     · have := hinj h1
       rw [this] at h2
       omega
   · exact fun h => .inl h
theorem on_plc {a b u v p : TPoint} (hab : a ≠ b) (hu : crs a b u = 0) (hv : crs a b v = 0) (hp : crs a b p = 0) : onB u v p = true ↔ btw (plc a b u) (plc a b v) (plc a b p) := by
 rw [onB_iff, plc_btw hab hu hv hp]
 refine ⟨fun h => h.2, fun h => ⟨?_, h⟩⟩
 have nab : b.x - a.x ≠ 0 ∨ b.y - a.y ≠ 0 := by rcases TPoint.ne_iff.1 hab with h | h; exact .inl (by omega); exact .inr (by omega)
 unfold crs at hu hv hp ⊢
 have := par nab (vx := v.x - u.x) (vy := v.y - u.y) (wx := p.x - u.x) (wy := p.y - u.y) (by grind) (by grind)
 exact this
theorem shrd_len {a b c d : TPoint} (hab : a ≠ b) (hcd : c ≠ d) (hc : crs a b c = 0) (hd : crs a b d = 0) :
 (shrd a b c d).length = if min (max (plc a b a) (plc a b b)) (max (plc a b c) (plc a b d)) < max (min (plc a b a) (plc a b b)) (min (plc a b c) (plc a b d)) then 0 else if max (min (plc a b a) (plc a b b)) (min (plc a b c) (plc a b d)) = min (max (plc a b a) (plc a b b)) (max (plc a b c) (plc a b d)) then 1 else 2 := by
 have za := crs_a a b
 have zb := crs_b a b
 have n1 : plc a b a ≠ plc a b b := fun h => hab (plc_inj hab za zb h)
 have n2 : plc a b c ≠ plc a b d := fun h => hcd (plc_inj hab hc hd h)
 have oa := on_plc hab hc hd za
 have ob := on_plc hab hc hd zb
 have oc := on_plc hab za zb hc
 have od := on_plc hab za zb hd
 have eab := (plc_facts hab za zb).2
 have eac := (plc_facts hab za hc).2
 have ead := (plc_facts hab za hd).2
 have ebc := (plc_facts hab zb hc).2
 have ebd := (plc_facts hab zb hd).2
 have ecd := (plc_facts hab hc hd).2
 generalize plc a b a = A at *
 generalize plc a b b = B at *
 generalize plc a b c = C at *
 generalize plc a b d = D at *
 have f1 : eqP a b = false := by rw [← Bool.not_eq_true, eab]; exact n1
 have f2 : eqP c d = false := by rw [← Bool.not_eq_true, ecd]; exact n2
 unfold btw at oa ob oc od
 unfold shrd addE
 cases h1 : onB c d a <;> cases h2 : onB c d b <;> cases h3 : onB a b c <;> cases h4 : onB a b d <;> cases h5 : eqP a c <;> cases h6 : eqP a d <;> cases h7 : eqP b c <;> cases h8 : eqP b d <;>
  simp only [h1, h2, h3, h4, h5, h6, h7, h8, Bool.false_eq_true, false_iff, true_iff] at oa ob oc od eac ead ebc ebd <;> first
   | (exfalso; omega)
   | (simp [f1, f2, h5, h6, h7, h8]; repeat' split
      all_goals omega)
theorem meetI_line {a b c d : TPoint} (hab : a ≠ b) (hcd : c ≠ d) (hc : crs a b c = 0) (hd : crs a b d = 0) :
 meetI a b c d = if min (max (plc a b a) (plc a b b)) (max (plc a b c) (plc a b d)) < max (min (plc a b a) (plc a b b)) (min (plc a b c) (plc a b d)) then 0 else if max (min (plc a b a) (plc a b b)) (min (plc a b c) (plc a b d)) = min (max (plc a b a) (plc a b b)) (max (plc a b c) (plc a b d)) then 1 else 3 := by
 have za := crs_a a b
 have zb := crs_b a b
 have f : ∀ {p q : TPoint}, crs a b p = 0 → crs a b q = 0 → (bef p q = true ↔ plc a b p < plc a b q) ∧ (eqP p q = true ↔ plc a b p = plc a b q) := fun h1 h2 => plc_facts hab h1 h2
 have lo : ∀ {p q : TPoint}, crs a b p = 0 → crs a b q = 0 → crs a b (lowE p q) = 0 ∧ plc a b (lowE p q) = min (plc a b p) (plc a b q) := fun {p q} h1 h2 => by
  have := (f h2 h1).1
  unfold lowE
  split
  · rename_i h; exact ⟨h2, by have := this.1 h; omega⟩
  · rename_i h; exact ⟨h1, by rw [this] at h; omega⟩
 have hi : ∀ {p q : TPoint}, crs a b p = 0 → crs a b q = 0 → crs a b (highE p q) = 0 ∧ plc a b (highE p q) = max (plc a b p) (plc a b q) := fun {p q} h1 h2 => by
  have := (f h2 h1).1
  unfold highE
  split
  · rename_i h; exact ⟨h1, by have := this.1 h; omega⟩
  · rename_i h; exact ⟨h2, by rw [this] at h; omega⟩
 obtain ⟨l1, l2⟩ := lo za zb
 obtain ⟨l3, l4⟩ := lo hc hd
 obtain ⟨g1, g2⟩ := hi za zb
 obtain ⟨g3, g4⟩ := hi hc hd
 have hlow : crs a b (if bef (lowE a b) (lowE c d) = true then lowE c d else lowE a b) = 0 ∧ plc a b (if bef (lowE a b) (lowE c d) = true then lowE c d else lowE a b) = max (plc a b (lowE a b)) (plc a b (lowE c d)) := by
  have := (f l1 l3).1
  split
  · rename_i h; exact ⟨l3, by have := this.1 h; omega⟩
  · rename_i h; exact ⟨l1, by rw [this] at h; omega⟩
 have hhigh : crs a b (if bef (highE c d) (highE a b) = true then highE c d else highE a b) = 0 ∧ plc a b (if bef (highE c d) (highE a b) = true then highE c d else highE a b) = min (plc a b (highE a b)) (plc a b (highE c d)) := by
  have := (f g3 g1).1
  split
  · rename_i h; exact ⟨g3, by have := this.1 h; omega⟩
  · rename_i h; exact ⟨g1, by rw [this] at h; omega⟩
 unfold meetI
 rw [if_pos ⟨sg_zero.2 hc, sg_zero.2 hd⟩]
 simp only
 generalize (if bef (lowE a b) (lowE c d) = true then lowE c d else lowE a b) = low at *
 generalize (if bef (highE c d) (highE a b) = true then highE c d else highE a b) = high at *
 obtain ⟨k1, k2⟩ := hlow
 obtain ⟨k3, k4⟩ := hhigh
 rw [l2, l4] at k2
 rw [g2, g4] at k4
 have hb := (f k3 k1).1
 have he := (f k1 k3).2
 rw [k2, k4] at hb he
 by_cases h1 : bef high low = true
 · rw [if_pos h1, if_pos (hb.1 h1)]
 · rw [if_neg h1, if_neg (fun h => h1 (hb.2 h))]
   by_cases h2 : eqP low high = true
   · rw [if_pos h2, if_pos (he.1 h2)]
   · rw [if_neg h2, if_neg (fun h => h2 (he.2 h))]
theorem meet_eq {a b c d : TPoint} (hab : a ≠ b) (hcd : c ≠ d) : meetS a b c d = meetI a b c d := by
 by_cases h : crs a b c = 0 ∧ crs a b d = 0
 · rw [meetI_line hab hcd h.1 h.2]
   unfold meetS
   rw [shrd_len hab hcd h.1 h.2]
   have hx : crossB a b c d = false := by
    unfold crossB
    rw [sg_zero.2 h.1]
    simp
   rw [hx]
   split
   · simp
   · split
     · simp
     · simp
 · exact meet_two hab hcd h
theorem meet_eq_boxes {a b c d : TPoint} (hab : a ≠ b) (hcd : c ≠ d) (h : apart a b c d) : meetI a b c d = 0 := by
 rw [← meet_eq hab hcd]
 obtain ⟨h1, h2, h3, h4, h5⟩ := apart_none h
 unfold meetS shrd addE
 rw [h1, h2, h3, h4, h5]
 simp
end Go.Proofs.YtpffahmmklpifaaGreat.Abs
