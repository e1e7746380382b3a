/- Part C of the walk over abstract states and of the functions' walks. -/
import Derived.Test.YtpffahmmklpifaaGreatWkStep
import Derived.Test.YtpffahmmklpifaaGreatBnB
import Derived.Lib.SlicesCompact
import Derived.Shelf.GgSortFunc.InsertionK
import Derived.Test.YtpffahmmklpifaaGreatAbsSU
import Derived.Test.YtpffahmmklpifaaGreatAbsTD
import Derived.Test.YtpffahmmklpifaaGreatBnA
import Derived.Lib.AppendZerosOnto
import Derived.WalkKit
import Derived.Lib.Walk
import Derived.Lib.SliceRun
import Derived.Shelf.RegionOpenPlain
/- Lists in their order: plain. -/
namespace Go.Proofs.YtpffahmmklpifaaGreat.Abs
open Go.Proofs Go.RowKit
set_option linter.unusedVariables false
set_option linter.unusedSimpArgs false
set_option maxRecDepth 100000
set_option maxHeartbeats 2000000
attribute [local irreducible] OpA AL AW DL DLM DLR DLS QOp POp VCalls VCallsI
section
variable {α : Type}
structure STO (lt : α → α → Prop) : Prop where
 irr : ∀ x, ¬ lt x x
 tr : ∀ x y z, lt x y → lt y z → lt x z
 tri : ∀ x y, lt x y ∨ x = y ∨ lt y x
theorem asc_ext {lt : α → α → Prop} (h : STO lt) : ∀ {l m : List α}, l.Pairwise lt → m.Pairwise lt → (∀ x, x ∈ l ↔ x ∈ m) → l = m
 | [], [], _, _, _ => rfl
 | [], b :: m, _, _, he => by have := (he b).2 List.mem_cons_self; simp at this
 | a :: l, [], _, _, he => by have := (he a).1 List.mem_cons_self; simp at this
 | a :: l, b :: m, hl, hm, he => by
  obtain ⟨hl1, hl2⟩ := List.pairwise_cons.1 hl
  obtain ⟨hm1, hm2⟩ := List.pairwise_cons.1 hm
  have e : a = b := by
   rcases List.mem_cons.1 ((he a).1 List.mem_cons_self) with h1 | h1
   · exact h1
   · rcases List.mem_cons.1 ((he b).2 List.mem_cons_self) with h2 | h2
     · exact h2.symm
     · exact absurd (h.tr _ _ _ (hm1 a h1) (hl1 b h2)) (h.irr b)
  subst e
  have hno : ∀ {k : List α}, (∀ y ∈ k, lt a y) → a ∉ k := fun hk ha => h.irr a (hk a ha)
  rw [asc_ext h hl2 hm2 fun x => ⟨fun hx => by
   rcases List.mem_cons.1 ((he x).1 (List.mem_cons_of_mem _ hx)) with rfl | h1
   · exact absurd hx (hno hl1)
   · exact h1, fun hx => by
   rcases List.mem_cons.1 ((he x).2 (List.mem_cons_of_mem _ hx)) with rfl | h1
   · exact absurd hx (hno hm1)
   · exact h1⟩]
variable [DecidableEq α]
end
theorem sto_int : STO (fun x y : Int => x < y) := ⟨fun x => Int.lt_irrefl x, fun x y z => Int.lt_trans, fun x y => by omega⟩
theorem putI_asc {l : List Int} (hl : l.Pairwise (· < ·)) (x : Int) : (putI l x).Pairwise (· < ·) ∧ ∀ y, y ∈ putI l x ↔ y = x ∨ y ∈ l := by
 have hlow : ∀ y ∈ l.take (posI l x), y < x := fun y hy => by
  obtain ⟨q, hq⟩ := List.getElem?_of_mem hy
  rw [List.getElem?_take] at hq
  split at hq
  · rename_i hlt
    obtain ⟨z, hz, hz2⟩ := posI_lt hlt
    rw [hz] at hq
    obtain rfl := Option.some.inj hq
    simpa using hz2
  · cases hq
 have hhigh : ∀ y ∈ l.drop (posI l x), x ≤ y := fun y hy => by
  obtain ⟨q, hq⟩ := List.getElem?_of_mem hy
  rw [List.getElem?_drop] at hq
  have hlt : posI l x < l.length := by have := (List.getElem?_eq_some_iff.1 hq).1; omega
  have h1 := posI_at (List.getElem?_eq_getElem hlt)
  simp at h1
  rcases Nat.eq_zero_or_pos q with e | e
  · subst e
    rw [Nat.add_zero, List.getElem?_eq_getElem hlt] at hq
    obtain rfl := Option.some.inj hq
    exact h1
  · have hq2 := (List.getElem?_eq_some_iff.1 hq).1
    have := List.pairwise_iff_getElem.1 hl (posI l x) (posI l x + q) hlt hq2 (by omega)
    rw [List.getElem?_eq_getElem hq2] at hq
    obtain rfl := Option.some.inj hq
    omega
 have hsplit : ∀ y, y ∈ l ↔ y ∈ l.take (posI l x) ∨ y ∈ l.drop (posI l x) := fun y => by
  rw [← List.mem_append, List.take_append_drop]
 unfold putI
 split
 · rename_i h
   exact ⟨hl, fun y => ⟨.inr, fun hy => hy.elim (fun e => by rw [e]; exact List.mem_of_getElem? h) id⟩⟩
 · rename_i h
   refine ⟨?_, fun y => ?_⟩
   · rw [List.pairwise_append, List.pairwise_append]
     refine ⟨⟨hl.sublist (List.take_sublist _ _), by simp, fun y hy z hz => ?_⟩, hl.sublist (List.drop_sublist _ _), fun y hy z hz => ?_⟩
     · simp at hz; subst hz; exact hlow y hy
     · have hxz : x < z := by
        have h1 := hhigh z hz
        rcases Int.lt_or_le x z with h2 | h2
        · exact h2
        · exfalso
          have e : z = x := by omega
          subst e
          obtain ⟨q, hq⟩ := List.getElem?_of_mem hz
          rw [List.getElem?_drop] at hq
          rcases Nat.eq_zero_or_pos q with e0 | e0
          · subst e0; exact h hq
          · have hlt : posI l z < l.length := by have := (List.getElem?_eq_some_iff.1 hq).1; omega
            have hq2 := (List.getElem?_eq_some_iff.1 hq).1
            have h3 := List.pairwise_iff_getElem.1 hl (posI l z) (posI l z + q) hlt hq2 (by omega)
            rw [List.getElem?_eq_getElem hq2] at hq
            have h4 := hhigh l[posI l z] (List.mem_of_getElem? (i := 0) (by rw [List.getElem?_drop, Nat.add_zero, List.getElem?_eq_getElem hlt]))
            have := Option.some.inj hq
            omega
       rcases List.mem_append.1 hy with hy | hy
       · exact Int.lt_trans (hlow y hy) hxz
       · simp at hy; subst hy; exact hxz
   · rw [List.mem_append, List.mem_append, hsplit y, List.mem_singleton]
     constructor
     · rintro ((h1 | h1) | h1)
       · exact .inr (.inl h1)
       · exact .inl h1
       · exact .inr (.inr h1)
     · rintro (h1 | h1 | h1)
       · exact .inl (.inr h1)
       · exact .inl (.inl h1)
       · exact .inr h1
def putIs (l : List Int) : List Int → List Int
 | [] => l
 | x :: xs => putIs (putI l x) xs
theorem putIs_asc : ∀ {xs l : List Int}, l.Pairwise (· < ·) → (putIs l xs).Pairwise (· < ·) ∧ ∀ y, y ∈ putIs l xs ↔ y ∈ xs ∨ y ∈ l
 | [], l, hl => ⟨hl, fun y => by simp [putIs]⟩
 | x :: xs, l, hl => by
  obtain ⟨h1, h2⟩ := putI_asc hl x
  obtain ⟨h3, h4⟩ := putIs_asc (xs := xs) h1
  refine ⟨h3, fun y => ?_⟩
  rw [putIs, h4, h2, List.mem_cons]
  constructor
  · rintro (h | h | h) <;> simp [h]
  · rintro ((h | h) | h) <;> simp [h]
theorem putIs_app : ∀ (xs ys l : List Int), putIs l (xs ++ ys) = putIs (putIs l xs) ys
 | [], _, _ => rfl
 | x :: xs, ys, l => by rw [List.cons_append, putIs, putIs_app xs ys, putIs]

section
variable {α : Type}
def posR (p : α → Bool) (l : List α) : Nat := l.length - (l.reverse.takeWhile p).length
theorem takeWhile_le (p : α → Bool) : ∀ l : List α, (l.takeWhile p).length ≤ l.length
 | [] => Nat.le_refl _
 | a :: l => by
  rw [List.takeWhile_cons]
  split
  · have := takeWhile_le p l; simp only [List.length_cons]; omega
  · simp
theorem takeWhile_lt {p : α → Bool} : ∀ {l : List α} {i : Nat}, i < (l.takeWhile p).length → ∃ y, l[i]? = some y ∧ p y = true
 | [], i, h => by simp at h
 | a :: l, i, h => by
  rw [List.takeWhile_cons] at h
  split at h
  · cases i with
    | zero => exact ⟨a, rfl, by assumption⟩
    | succ i => exact takeWhile_lt (l := l) (by simpa using h)
  · simp at h
theorem takeWhile_at {p : α → Bool} : ∀ {l : List α} {y : α}, l[(l.takeWhile p).length]? = some y → p y = false
 | [], y, h => by simp at h
 | a :: l, y, h => by
  rw [List.takeWhile_cons] at h
  split at h
  · exact takeWhile_at (l := l) (by simpa using h)
  · rename_i hp
    simp only [List.length_nil, List.getElem?_cons_zero, Option.some.injEq] at h
    subst h
    simpa using hp
theorem posR_le (p : α → Bool) (l : List α) : posR p l ≤ l.length := Nat.sub_le _ _
theorem posR_ge {p : α → Bool} {l : List α} {i : Nat} {y : α} (hi : posR p l ≤ i) (hy : l[i]? = some y) : p y = true := by
 have hlt := (List.getElem?_eq_some_iff.1 hy).1
 have h1 := takeWhile_le p l.reverse
 rw [List.length_reverse] at h1
 unfold posR at hi
 obtain ⟨z, hz, hpz⟩ := takeWhile_lt (p := p) (l := l.reverse) (i := l.length - 1 - i) (by omega)
 rw [List.getElem?_reverse (by omega), show l.length - 1 - (l.length - 1 - i) = i by omega, hy] at hz
 obtain rfl := Option.some.inj hz
 exact hpz
theorem posR_lt {p : α → Bool} {l : List α} {y : α} (h0 : 0 < posR p l) (hy : l[posR p l - 1]? = some y) : p y = false := by
 have h1 := takeWhile_le p l.reverse
 rw [List.length_reverse] at h1
 unfold posR at hy h0
 refine takeWhile_at (p := p) (l := l.reverse) ?_
 rw [List.getElem?_reverse (by omega), ← hy]
 congr 1
 omega
def insR (p : α → Bool) (l : List α) (x : α) : List α := l.take (posR p l) ++ [x] ++ l.drop (posR p l)
theorem insR_asc {lt : α → α → Prop} (h : STO lt) {p : α → Bool} {x : α} (hp : ∀ y, p y = true ↔ lt x y) {l : List α} (hl : l.Pairwise lt) :
 (∀ y ∈ l.drop (posR p l), lt x y) ∧ (∀ y ∈ l.take (posR p l), lt y x ∨ y = x) ∧ ((0 < posR p l → l[posR p l - 1]? ≠ some x) → x ∉ l ∧ (insR p l x).Pairwise lt) := by
 have hhigh : ∀ y ∈ l.drop (posR p l), lt x y := fun y hy => by
  obtain ⟨q, hq⟩ := List.getElem?_of_mem hy
  rw [List.getElem?_drop] at hq
  exact (hp y).1 (posR_ge (Nat.le_add_right _ _) hq)
 have hlow : ∀ i y, i < posR p l → l[i]? = some y → lt y x ∨ (y = x ∧ i = posR p l - 1) := fun i y hi hy => by
  have hle := posR_le p l
  have hlast := List.getElem?_eq_getElem (l := l) (i := posR p l - 1) (by omega)
  have hnl := posR_lt (by omega) hlast
  have hz : lt l[posR p l - 1] x ∨ l[posR p l - 1] = x := by
   rcases h.tri l[posR p l - 1] x with h1 | h1 | h1
   · exact .inl h1
   · exact .inr h1
   · rw [(hp _).2 h1] at hnl; cases hnl
  rcases Nat.lt_or_ge i (posR p l - 1) with h2 | h2
  · have h3 := List.pairwise_iff_getElem.1 hl i (posR p l - 1) (by omega) (by omega) h2
    rw [List.getElem?_eq_getElem (by omega)] at hy
    obtain rfl := Option.some.inj hy
    rcases hz with hz | hz
    · exact .inl (h.tr _ _ _ h3 hz)
    · rw [hz] at h3; exact .inl h3
  · have e : i = posR p l - 1 := by omega
    subst e
    rw [hlast] at hy
    obtain rfl := Option.some.inj hy
    exact hz.imp id fun e => ⟨e, rfl⟩
 have hlow' : ∀ y ∈ l.take (posR p l), ∃ i, i < posR p l ∧ l[i]? = some y := fun y hy => by
  obtain ⟨q, hq⟩ := List.getElem?_of_mem hy
  rw [List.getElem?_take] at hq
  split at hq
  · exact ⟨q, by assumption, hq⟩
  · cases hq
 refine ⟨hhigh, fun y hy => ?_, fun hne => ?_⟩
 · obtain ⟨i, hi, hy⟩ := hlow' y hy
   exact (hlow i y hi hy).imp id And.left
 · have hlt : ∀ y ∈ l.take (posR p l), lt y x := fun y hy => by
    obtain ⟨i, hi, hy⟩ := hlow' y hy
    rcases hlow i y hi hy with h1 | ⟨rfl, rfl⟩
    · exact h1
    · exact absurd hy (hne (by omega))
   refine ⟨fun hx => ?_, ?_⟩
   · rw [← List.take_append_drop (posR p l) l, List.mem_append] at hx
     rcases hx with hx | hx
     · exact h.irr _ (hlt _ hx)
     · exact h.irr _ (hhigh _ hx)
   · unfold insR
     rw [List.pairwise_append, List.pairwise_append]
     refine ⟨⟨hl.sublist (List.take_sublist _ _), by simp, fun y hy z hz => ?_⟩, hl.sublist (List.drop_sublist _ _), fun y hy z hz => ?_⟩
     · simp at hz; subst hz; exact hlt y hy
     · rcases List.mem_append.1 hy with hy | hy
       · exact h.tr _ _ _ (hlt y hy) (hhigh z hz)
       · simp at hy; subst hy; exact hhigh z hz
end

open Go.Sort
instance : DecidableEq TPiece := fun a b => decidable_of_iff (a.id = b.id ∧ a.part = b.part) ⟨fun ⟨h1, h2⟩ => by cases a; cases b; simp_all, fun h => by rw [h]; exact ⟨rfl, rfl⟩⟩
instance : Inhabited TPiece := ⟨⟨0, 0⟩⟩
def cmpZ (x y : Int) : Int := if x < y then -1 else if x > y then 1 else 0
theorem getD_some {α : Type} {l : List α} {i : Nat} (h : i < l.length) : ∃ x, l[i]? = some x := ⟨_, List.getElem?_eq_getElem h⟩
section
variable {α : Type} [DecidableEq α]
end
theorem src_iff (l : List TFeature) : isSource l = true ↔ l.length ≤ 16 ∧ (∀ x ∈ l, isFeat x = true) ∧ l.Pairwise fun x y => x.id < y.id := by
 constructor
 · intro h
   refine ⟨src_len h, fun x hx => ?_, ?_⟩
   · obtain ⟨i, hi⟩ := List.getElem?_of_mem hx
     exact src_feat h hi
   · rw [List.pairwise_iff_getElem]
     intro i j hi hj hij
     exact src_inc h i j _ _ hij (List.getElem?_eq_getElem hi) (List.getElem?_eq_getElem hj)
 · rintro ⟨h1, h2, h3⟩
   unfold isSource
   rw [Bool.and_eq_true]
   refine ⟨?_, by simp; omega⟩
   unfold srcOk
   rw [List.all_eq_true]
   intro i hi
   have hi : i < l.length := List.mem_range.1 hi
   have hx : l[i]? = some l[i] := List.getElem?_eq_getElem hi
   unfold srcAt
   rw [hx]
   simp only [Bool.and_eq_true, h2 _ (List.getElem_mem hi), true_and]
   rcases Nat.eq_zero_or_pos i with h0 | h0
   · subst h0; rfl
   · rw [Bool.or_eq_true]
     right
     have hp : prevF l i = l[i - 1] := by
      unfold prevF
      rw [List.getD_eq_getElem?_getD, List.getElem?_eq_getElem (by omega)]
      rfl
     rw [hp, decide_eq_true_eq]
     exact List.pairwise_iff_getElem.1 h3 (i - 1) i (by omega) hi (by omega)
theorem src_filter {l : List TFeature} (h : isSource l = true) (p : TFeature → Bool) : isSource (l.filter p) = true := by
 obtain ⟨h1, h2, h3⟩ := (src_iff l).1 h
 exact (src_iff _).2 ⟨Nat.le_trans (List.length_filter_le _ _) h1, fun x hx => h2 x (List.mem_filter.1 hx).1, h3.filter _⟩
theorem feat_bd {x : TFeature} (h : isFeat x = true) : inr x.id 1 99 = true ∧ inr x.rank 0 9 = true ∧ (noName x.name || isName x.name) = true ∧ kindOk x = true := by
 unfold isFeat at h
 simp only [Bool.and_eq_true] at h
 exact ⟨h.1.1.1, h.1.1.2, h.1.2, h.2⟩
theorem kind_cases {x : TFeature} (h : kindOk x = true) : ((x.kind == 1) = true ∧ ∃ p, x.points = [p] ∧ isp p.x p.y = true) ∨ ((x.kind == 1) = false ∧ (x.kind == 2) = true ∧ (x.kind == 3) = false ∧ isSimple x.points = true) ∨ ((x.kind == 1) = false ∧ (x.kind == 2) = false ∧ (x.kind == 3) = true ∧ isRing x.points = true) := by
 unfold kindOk at h
 by_cases h1 : (x.kind == 1) = true
 · rw [if_pos h1, Bool.and_eq_true] at h
   left
   refine ⟨h1, ?_⟩
   have hl : x.points.length = 1 := by have := h.1; simp at this; omega
   obtain ⟨p, hp⟩ := List.length_eq_one_iff.1 hl
   exact ⟨p, hp, by have := h.2; rw [hp] at this; exact this⟩
 · rw [if_neg h1] at h
   by_cases h2 : (x.kind == 2) = true
   · rw [if_pos h2] at h
     have e := beq_iff_eq.1 h2
     exact .inr (.inl ⟨by simpa using h1, h2, by rw [e]; rfl, h⟩)
   · rw [if_neg h2] at h
     by_cases h3 : (x.kind == 3) = true
     · rw [if_pos h3] at h
       exact .inr (.inr ⟨by simpa using h1, by simpa using h2, h3, h⟩)
     · rw [if_neg h3] at h; cases h
def above (a b : TPlace) : Bool := decide (a.rank > b.rank) || (a.rank == b.rank && decide (a.id < b.id))
def far2 (p q : TPoint) : Int := (p.x - q.x) * (p.x - q.x) + (p.y - q.y) * (p.y - q.y)
theorem sq_bd {d : Int} (h : -200 ≤ d) (h2 : d ≤ 200) : 0 ≤ d * d ∧ d * d ≤ 40000 := by
 have e : d * d = (d.natAbs : Int) * (d.natAbs : Int) := Int.natAbs_mul_self.symm.trans (by rw [Int.natCast_mul])
 have h3 : d.natAbs ≤ 200 := by omega
 have h4 : d.natAbs * d.natAbs ≤ 200 * 200 := Nat.mul_le_mul h3 h3
 rw [e]
 omega
theorem far_w {p q : TPoint} (hp : isp p.x p.y = true) (hq : isp q.x q.y = true) :
 IntKind.i64.wrap (IntKind.i64.wrap (IntKind.i64.wrap (p.x - q.x) * IntKind.i64.wrap (p.x - q.x)) + IntKind.i64.wrap (IntKind.i64.wrap (p.y - q.y) * IntKind.i64.wrap (p.y - q.y))) = far2 p q := by
 obtain ⟨a1, a2, a3, a4⟩ := isp_bd hp
 obtain ⟨b1, b2, b3, b4⟩ := isp_bd hq
 have h1 := sq_bd (d := p.x - q.x) (by omega) (by omega)
 have h2 := sq_bd (d := p.y - q.y) (by omega) (by omega)
 rw [w64 (n := p.x - q.x) (by omega) (by omega), w64 (n := p.y - q.y) (by omega) (by omega), w64 (n := (p.x - q.x) * (p.x - q.x)) (by omega) (by omega), w64 (n := (p.y - q.y) * (p.y - q.y)) (by omega) (by omega), w64 (by omega) (by omega)]
 rfl
theorem far2_comm (p q : TPoint) : far2 p q = far2 q p := by
 unfold far2
 have e1 : p.x - q.x = -(q.x - p.x) := by omega
 have e2 : p.y - q.y = -(q.y - p.y) := by omega
 rw [e1, e2, Int.neg_mul_neg, Int.neg_mul_neg]
structure PlOk (l : List TPlace) : Prop where
 len : l.length ≤ 16
 ok : ∀ x ∈ l, inr x.id 1 99 = true ∧ isp x.at_.x x.at_.y = true ∧ inr x.rank 0 9 = true
 asc : l.Pairwise fun x y => x.id < y.id
theorem pl_cases {l : List TPlace} (h : PlOk l) {i : Nat} {x : TPlace} (hx : l[i]? = some x) : (decide ((i : Int) > 0) = false) ∨ ∃ y : TPlace, decide ((i : Int) > 0) = true ∧ 0 ≤ IntKind.i64.wrap ((i : Int) - 1) ∧ (l.map TPlace.en)[(IntKind.i64.wrap ((i : Int) - 1)).toNat]? = some y.en ∧ decide (y.id ≥ x.id) = false ∧ decide (x.id ≤ y.id) = false := by
 have hil : i < l.length := (List.getElem?_eq_some_iff.1 hx).1
 have hl := h.len
 rcases Nat.eq_zero_or_pos i with h0 | h0
 · exact .inl (by simp; omega)
 · have hw : IntKind.i64.wrap ((i : Int) - 1) = ((i - 1 : Nat) : Int) := by rw [w64 (by omega) (by omega)]; omega
   have hlt := List.pairwise_iff_getElem.1 h.asc (i - 1) i (by omega) hil (by omega)
   have hxe : l[i] = x := by rw [List.getElem?_eq_getElem hil] at hx; exact Option.some.inj hx
   rw [hxe] at hlt
   exact .inr ⟨l[i - 1], by simp; omega, by omega, by rw [hw, Int.toNat_natCast, List.getElem?_map, List.getElem?_eq_getElem (by omega)]; rfl, by simp; omega, by simp; omega⟩
def plOf (x : TFeature) : TPlace := ⟨x.id, x.points.getD 0 ⟨0, 0⟩, x.rank⟩
def plsTo (l : List TFeature) (i : Nat) : List TPlace := ((l.take i).filter fun x => x.kind == 1).map plOf
def plsOf (l : List TFeature) : List TPlace := (l.filter fun x => x.kind == 1).map plOf
theorem plsTo_all (l : List TFeature) : plsTo l l.length = plsOf l := by rw [plsTo, List.take_length]; rfl
theorem plsTo_y {l : List TFeature} {i : Nat} {x : TFeature} (hx : l[i]? = some x) (h : (x.kind == 1) = true) : (plsTo l (i + 1)).map TPlace.en = (plsTo l i).map TPlace.en ++ [(plOf x).en] ∧ (plsTo l (i + 1)).length = (plsTo l i).length + 1 := by
 unfold plsTo
 rw [take_succ_of hx, List.filter_append]
 simp [List.filter_cons, h]
theorem plsTo_n {l : List TFeature} {i : Nat} {x : TFeature} (hx : l[i]? = some x) (h : (x.kind == 1) = false) : (plsTo l (i + 1)).map TPlace.en = (plsTo l i).map TPlace.en ∧ (plsTo l (i + 1)).length = (plsTo l i).length := by
 unfold plsTo
 rw [take_succ_of hx, List.filter_append]
 simp [List.filter_cons, h]
theorem plsTo_len (l : List TFeature) (i : Nat) : (plsTo l i).length ≤ i := by
 unfold plsTo
 rw [List.length_map]
 exact Nat.le_trans (List.length_filter_le _ _) (by rw [List.length_take]; omega)
theorem pl_point {x : TFeature} (hf : isFeat x = true) (h : (x.kind == 1) = true) : (x.points.map TPoint.en)[(0 : Int).toNat]? = some (plOf x).at_.en ∧ isp (plOf x).at_.x (plOf x).at_.y = true := by
 rcases kind_cases (feat_bd hf).2.2.2 with ⟨_, p, hp, hi⟩ | ⟨h1, _⟩ | ⟨h1, _⟩
 · unfold plOf
   rw [hp]
   exact ⟨rfl, hi⟩
 · rw [h] at h1; cases h1
 · rw [h] at h1; cases h1
theorem plsOf_ok {l : List TFeature} (hS : isSource l = true) : PlOk (plsOf l) := by
 obtain ⟨h1, h2, h3⟩ := (src_iff _).1 (src_filter hS fun x => x.kind == 1)
 refine ⟨by unfold plsOf; rw [List.length_map]; exact h1, fun x hx => ?_, ?_⟩
 · unfold plsOf at hx
   obtain ⟨y, hy, rfl⟩ := List.mem_map.1 hx
   obtain ⟨hm, hk⟩ := List.mem_filter.1 hy
   have hf := h2 y hy
   exact ⟨(feat_bd hf).1, (pl_point hf hk).2, (feat_bd hf).2.1⟩
 · unfold plsOf
   rw [List.pairwise_map]
   exact h3

theorem above_s (a b : TPlace) : VCalls Tryz.prog 227 [.agg a.en, .agg b.en] (fun r M => r = B (above a b) ∧ M = []) := by
 refine VB Tryz.func227 22 (fun E hE => ?_)
 dsimp only [TPlace.en]
 rcases Bool.eq_false_or_eq_true (decide (a.rank > b.rank)) with h1 | h1
 rotate_left 1
 rcases Bool.eq_false_or_eq_true (a.rank == b.rank) with h2 | h2
 repeat' ((first
  | (refine iAL ?_; first | refine AL.any ?_ | refine AL.U ?_ | refine AL.F ?_ | refine AL.T ?_ | refine AL.nil ?_)
  | (refine iAW ?_; (refine AW.c0 ?_; constructor))) <;> (try dsimp only))
 all_goals exact Fin.one rfl (RV.tmp (by rfl)) (clo_c _) ⟨by (unfold above; simp only [*, Bool.true_or, Bool.false_or, Bool.true_and, Bool.false_and]), rfl⟩

theorem far_s (p q : TPoint) (hp : isp p.x p.y = true) (hq : isp q.x q.y = true) : VCalls Tryz.prog 228 [.agg p.en, .agg q.en] (fun r M => r = I (far2 p q) ∧ M = []) := by
 refine VB Tryz.func228 34 (fun E hE => ?_)
 have hw := far_w hp hq
 dsimp only [TPoint.en]
 repeat' ((first
  | (refine iAL ?_; first | refine AL.any ?_ | refine AL.any (h := POp.k Tryz.func170 (hc := by first | exact isp_s_t _ _ (by assumption) | exact isp_s_f _ _ (by assumption) | exact isp_s _ _)) ?_ | refine AL.T ?_ | refine AL.T (h := POp.k Tryz.func170 (hc := by first | exact isp_s_t _ _ (by assumption) | exact isp_s_f _ _ (by assumption) | exact isp_s _ _)) ?_ | refine AL.nil ?_)
  | (refine iAW ?_; first | (refine AW.c0 ?_; constructor) | refine AW.cF ?_)) <;> (try dsimp only))
 all_goals exact Fin.one rfl (RV.tmp (by rfl)) (clo_c _) ⟨by rw [hw], rfl⟩

theorem far_i (p q : TPoint) (hp : isp p.x p.y = true) (hq : isp q.x q.y = true) : VCalls Tryz.prog 162 [.agg p.en, .agg q.en] (fun r M => r = I (far2 p q) ∧ M = []) := by
 refine VB Tryz.func162 30 (fun E hE => ?_)
 have hw := far_w hp hq
 dsimp only [TPoint.en]
 repeat' ((first
  | (refine iAL ?_; first | refine AL.any ?_ | refine AL.any (h := POp.k Tryz.func180 (hc := by first | exact isp_v_t _ _ (by assumption) | exact isp_v_f _ _ (by assumption) | exact isp_v _ _)) ?_ | refine AL.T ?_ | refine AL.T (h := POp.k Tryz.func180 (hc := by first | exact isp_v_t _ _ (by assumption) | exact isp_v_f _ _ (by assumption) | exact isp_v _ _)) ?_ | refine AL.nil ?_)
  | ((with_reducible show DL ..); first | refine DL.any ?_ | refine DL.nil ?_)
  | (refine iAW ?_; first | (refine AW.c0 ?_; constructor) | refine AW.dr (id := 3) 11 ?_ | refine AW.cF ?_)) <;> (try dsimp only))
 all_goals exact Fin.one rfl (RV.tmp (by rfl)) (clo_c _) ⟨by rw [hw], rfl⟩

theorem arePl_s (l : List TPlace) (hp : PlOk l) : VCalls Tryz.prog 268 [.ro 4 (l.map TPlace.en)] (fun r M => r = B true ∧ M = []) := by
 refine VB Tryz.func268 55 (fun E hE => ?_)
 have hclo : Clo (.ro 4 (l.map TPlace.en)) := clo_list TPlace.clo_en
 have hpl := hp.len
 repeat' ((first
  | (refine iAL ?_; first | refine AL.any ?_ | refine AL.F ?_ | refine AL.T ?_ | refine AL.nil ?_)
  | ((with_reducible show DL ..); first | refine DL.any ?_ | refine DL.any (h := POp.k Tryz.func96 (hc := inr_s _ _ _)) ?_ | refine DL.F ?_ | refine DL.T ?_ | refine DL.T (h := POp.k Tryz.func96 (hc := inr_s _ _ _)) ?_ | refine DL.T (h := POp.k Tryz.func170 (hc := by first | exact isp_s_t _ _ (by assumption) | exact isp_s_f _ _ (by assumption) | exact isp_s _ _)) ?_ | refine DL.nil ?_)
  | (refine iAW ?_; first | (refine AW.c0 ?_; constructor) | refine AW.dr (id := 4) 40 ?_ | refine AW.cT ?_ | refine AW.cF ?_)
  | (
 refine AW.loopD hE (fun i : Nat => [.ro 4 (l.map TPlace.en), .any, .any, I (i : Int), .any, .any, .any, .any, .any, .any, .any, .any, .any, .any, .any, .any, .any, .any, .any, .any, .any, .any, .any, .any, .any, .any, .any, .any, .any, .any, .any, .any, .any, .any, .any, .any, .any, .any, .any, .any, .any, .any, .any, .any, .any, .any, .any, .any, .any, .any, .any, .any, .any, .any, .any, .any]) (fun i => []) (fun i => l.length - i) (fun i => i ≤ l.length) 0 (by simp) ?_ (by first | rfl | (simp [fil_zero]; done)) ?_
 (focus (exact wkI))
 intro i hi
 by_cases hlt : i < l.length
 case' pos =>
  have hP := True.intro
  obtain ⟨x, hx⟩ : ∃ x, l[i]? = some x := ⟨_, List.getElem?_eq_getElem hlt⟩
  have hg := map_get (f := TPlace.en) hx
  have ht := lt_true (f := TPlace.en) hlt
  have hn := next_ix hlt (by omega)
  have hxo := hp.ok x (List.mem_of_getElem? hx)
  have hx1 := hxo.1
  have hx2 := hxo.2.1
  have hx3 := hxo.2.2
  rcases pl_cases hp hx with hi0 | ⟨y, hi0, hw0, hgy, hyx, hxy⟩
 case' neg =>
  have hQ := True.intro
  have ht := lt_false (f := TPlace.en) hlt
  have e : i = l.length := by omega
  subst e
  try rw [List.take_length])) <;> (try dsimp only))
 all_goals first
  | (have _ := hP; (refine ⟨i + 1, _, hlt, by omega, ?_, rfl, ?_, ?_⟩; (focus (exact wkH)); (focus (exact fitsA)); (focus (exact FitsM.nil _))))
  | (have _ := hQ; exact Fin.one rfl (RV.tmp (by rfl)) (clo_c _) ⟨by first | rfl | (rw [List.length_map]; simp; omega), rfl⟩)

theorem arePl_i (l : List TPlace) (hp : PlOk l) : VCalls Tryz.prog 288 [.ro 4 (l.map TPlace.en)] (fun r M => r = B true ∧ M = []) := by
 refine VB Tryz.func288 46 (fun E hE => ?_)
 have hclo : Clo (.ro 4 (l.map TPlace.en)) := clo_list TPlace.clo_en
 have hpl := hp.len
 repeat' ((first
  | (refine iAL ?_; first | refine AL.any ?_ | refine AL.F ?_ | refine AL.T ?_ | refine AL.nil ?_)
  | ((with_reducible show DL ..); first | refine DL.any ?_ | refine DL.any (h := POp.k Tryz.func145 (hc := inr_v _ _ _)) ?_ | refine DL.F ?_ | refine DL.T ?_ | refine DL.T (h := POp.k Tryz.func145 (hc := inr_v _ _ _)) ?_ | refine DL.T (h := POp.k Tryz.func180 (hc := by first | exact isp_v_t _ _ (by assumption) | exact isp_v_f _ _ (by assumption) | exact isp_v _ _)) ?_ | refine DL.nil ?_)
  | (refine iAW ?_; first | (refine AW.c0 ?_; constructor) | refine AW.dr (id := 6) 28 ?_ | refine AW.cT ?_ | refine AW.cF ?_ | (refine AW.c2 ?_ ?_ <;> (intro h; try simp only [bT, bF] at h)))
  | (
 refine AW.loopD hE (fun i : Nat => [.ro 4 (l.map TPlace.en), .any, .any, .any, .any, .any, .any, .any, .ro 4 (l.map TPlace.en), I ((l.map TPlace.en).length : Int), I (i : Int), .any, .any, .any, .any, .any, .any, .any, .any, .any, .any, .any, .any, .any, .any, .any, .any, .any, .any, .any, .any, .any, .any, .any, .any, .any, .any, .any, .any, .any, .any, .any, .any, .any, .any, .any, .any]) (fun i => []) (fun i => l.length - i) (fun i => i ≤ l.length) 0 (by simp) ?_ (by first | rfl | (simp [fil_zero]; done)) ?_
 (focus (exact wkI))
 intro i hi
 by_cases hlt : i < l.length
 case' pos =>
  have hP := True.intro
  obtain ⟨x, hx⟩ : ∃ x, l[i]? = some x := ⟨_, List.getElem?_eq_getElem hlt⟩
  have hg := map_get (f := TPlace.en) hx
  have ht := lt_true (f := TPlace.en) hlt
  have hn := next_ix hlt (by omega)
  have hxo := hp.ok x (List.mem_of_getElem? hx)
  have hx1 := hxo.1
  have hx2 := hxo.2.1
  have hx3 := hxo.2.2
  rcases pl_cases hp hx with hi0 | ⟨y, hi0, hw0, hgy, hyx, hxy⟩
 case' neg =>
  have hQ := True.intro
  have ht := lt_false (f := TPlace.en) hlt
  have e : i = l.length := by omega
  subst e
  try rw [List.take_length])) <;> (try dsimp only))
 all_goals first
  | (have _ := hP; (refine ⟨i + 1, _, hlt, by omega, ?_, rfl, ?_, ?_⟩; (focus (exact wkH)); (focus (exact fitsA)); (focus (exact FitsM.nil _))))
  | (have _ := hQ; exact Fin.one rfl (RV.tmp (by rfl)) (clo_c _) ⟨by first | rfl | (rw [List.length_map]; simp; omega), rfl⟩)
  | (exact absurd (by assumption : decide (((l.map TPlace.en).length : Int) > 16) = true) (by rw [List.length_map]; simp; omega))

theorem isSrcT_s (l : List TFeature) (hl : l.length ≤ 1048576) (hp : ∀ x ∈ l, x.gd) (hS : isSource l = true) : VCalls Tryz.prog 78 [.ro 5 (l.map TFeature.en)] (fun r M => r = B true ∧ M = []) := hS ▸ isSource_s l hl hp
theorem isSrcT_i (l : List TFeature) (hl : l.length ≤ 1048576) (hp : ∀ x ∈ l, x.gd) (hS : isSource l = true) : VCalls Tryz.prog 80 [.ro 5 (l.map TFeature.en)] (fun r M => r = B true ∧ M = []) := hS ▸ isSource_i l hl hp
theorem pls_s (l : List TFeature) (hS : isSource l = true) (hg0 : ∀ x ∈ l, x.gd) : VCalls Tryz.prog 201 [.ro 5 (l.map TFeature.en)] (fun r M => r = .ro 4 ((plsOf l).map TPlace.en) ∧ M = []) := by
 refine VB Tryz.func201 43 (fun E hE => ?_)
 have hclo : Clo (.ro 5 (l.map TFeature.en)) := clo_list TFeature.clo_en
 have hsl := src_len hS
 repeat' ((first
  | (refine iAL ?_; first | refine AL.any ?_ | refine AL.F ?_ | refine AL.T ?_ | refine AL.T (h := POp.k Tryz.func78 (hc := isSrcT_s l (by omega) hg0 hS)) ?_ | refine AL.nil ?_)
  | ((with_reducible show DLM ..); first | refine DLM.any ?_ | refine DLM.mk ?_ | refine DLM.nil ?_)
  | (refine iAW ?_; first | (refine AW.freezeRet (t := 2) (id := 0) rfl rfl rfl rfl (clo_rows TPlace.clo_en) ?_; (try simp only [List.take_length]); try dsimp only [dput, List.set, cond_true, cond_false, Nat.zero_add, Nat.add_zero, Nat.reduceAdd, splice, List.take, List.drop, List.length, List.nil_append, List.cons_append, List.append, TPoint.en, TSegment.en, TBox.en, TFeature.en, TMeet.en, TPlace.en, TCover.en, TLabel.en, TPiece.en, TLevel.en, TChart.en, TReason.en, TEdit.en, TEntry.en, TEdition.en, TListing.en, TAtlas.en, TEvent.en, TWindow.en]) | (refine AW.c0 ?_; constructor) | refine AW.drM (id := 6) 20 19 ?_ | refine AW.cT ?_ | refine AW.cF ?_)
  | (
 refine AW.loopD hE (fun i : Nat => [.ro 5 (l.map TFeature.en), .any, .any, .own 0 (plsTo l i).length, I (i : Int), .any, .any, .any, .any, .any, .any, .any, .any, .any, .any, .any, .any, .any, .any, .any, .any, .any, .any, .any, .any, .any, .any, .any, .any, .any, .any, .any, .any, .any, .any, .any, .any, .any, .any, .any, .any, .any, .any, .any]) (fun i => [some ⟨187, 4, (plsTo l i).length, false, (plsTo l i).map TPlace.en⟩]) (fun i => l.length - i) (fun i => i ≤ l.length) 0 (by simp) ?_ (by first | rfl | (simp [fil_zero]; done)) ?_
 (focus (exact wkI))
 intro i hi
 by_cases hlt : i < l.length
 case' pos =>
  have hP := True.intro
  obtain ⟨x, hx⟩ : ∃ x, l[i]? = some x := ⟨_, List.getElem?_eq_getElem hlt⟩
  have hg := map_get (f := TFeature.en) hx
  have ht := lt_true (f := TFeature.en) hlt
  have hn := next_ix hlt (by omega)
  have hgx := hg0 x (List.mem_of_getElem? hx)
  have hfx := src_feat hS hx
  have hcle : Clo (.agg x.en) := Clo.agg x.clo_en
  have hclP : Clo (.ro 2 (x.points.map TPoint.en)) := clo_list TPoint.clo_en
  have hln := plsTo_len l i
  rcases Bool.eq_false_or_eq_true (x.kind == 1) with hk | hk
  case' inl =>
   obtain ⟨hm, hm2⟩ := plsTo_y hx hk
   obtain ⟨hp0, _⟩ := pl_point hfx hk
  case' inr => obtain ⟨hm, hm2⟩ := plsTo_n hx hk
 case' neg =>
  have hQ := True.intro
  have ht := lt_false (f := TFeature.en) hlt
  have e : i = l.length := by omega
  subst e
  try rw [List.take_length]
  rw [plsTo_all])) <;> (try dsimp only))
 all_goals first
  | (have _ := hP; (refine ⟨i + 1, _, hlt, by omega, ?_, by rw [hm, hm2] <;> rfl, ?_, ?_⟩; (focus (exact wkH)); (focus (exact fitsA)); (focus (exact fits_row (clo_rows TPlace.clo_en)))))
  | (have _ := hQ; exact Fin.one rfl (RV.tmp (by rfl)) (clo_list TPlace.clo_en) ⟨rfl, rfl⟩)

theorem pls_i (l : List TFeature) (hS : isSource l = true) (hg0 : ∀ x ∈ l, x.gd) : VCalls Tryz.prog 158 [.ro 5 (l.map TFeature.en)] (fun r M => r = .ro 4 ((plsOf l).map TPlace.en) ∧ M = []) := by
 refine VB Tryz.func158 33 (fun E hE => ?_)
 have hclo : Clo (.ro 5 (l.map TFeature.en)) := clo_list TFeature.clo_en
 have hsl := src_len hS
 repeat' ((first
  | (refine iAL ?_; first | refine AL.any ?_ | refine AL.any (h := POp.k Tryz.func80 (hc := isSrcT_i l (by omega) hg0 hS)) ?_ | refine AL.nil ?_)
  | ((with_reducible show DLM ..); first | refine DLM.any ?_ | refine DLM.mk ?_ | refine DLM.nil ?_)
  | (refine iAW ?_; first | (refine AW.freezeRet (t := 2) (id := 0) rfl rfl rfl rfl (clo_rows TPlace.clo_en) ?_; (try simp only [List.take_length]); try dsimp only [dput, List.set, cond_true, cond_false, Nat.zero_add, Nat.add_zero, Nat.reduceAdd, splice, List.take, List.drop, List.length, List.nil_append, List.cons_append, List.append, TPoint.en, TSegment.en, TBox.en, TFeature.en, TMeet.en, TPlace.en, TCover.en, TLabel.en, TPiece.en, TLevel.en, TChart.en, TReason.en, TEdit.en, TEntry.en, TEdition.en, TListing.en, TAtlas.en, TEvent.en, TWindow.en]) | (refine AW.c0 ?_; constructor) | refine AW.drM (id := 8) 11 10 ?_ | refine AW.cT ?_ | refine AW.cF ?_)
  | (
 refine AW.loopD hE (fun i : Nat => [.any, .any, .any, .own 0 (plsTo l i).length, .any, .any, .any, .any, .any, .any, .any, .ro 5 (l.map TFeature.en), I ((l.map TFeature.en).length : Int), I (i : Int), .any, .any, .any, .any, .any, .any, .any, .any, .any, .any, .any, .any, .any, .any, .any, .any, .any, .any, .any, .any]) (fun i => [some ⟨187, 4, (plsTo l i).length, false, (plsTo l i).map TPlace.en⟩]) (fun i => l.length - i) (fun i => i ≤ l.length) 0 (by simp) ?_ (by first | rfl | (simp [fil_zero]; done)) ?_
 (focus (exact wkI))
 intro i hi
 by_cases hlt : i < l.length
 case' pos =>
  have hP := True.intro
  obtain ⟨x, hx⟩ : ∃ x, l[i]? = some x := ⟨_, List.getElem?_eq_getElem hlt⟩
  have hg := map_get (f := TFeature.en) hx
  have ht := lt_true (f := TFeature.en) hlt
  have hn := next_ix hlt (by omega)
  have hgx := hg0 x (List.mem_of_getElem? hx)
  have hfx := src_feat hS hx
  have hcle : Clo (.agg x.en) := Clo.agg x.clo_en
  have hclP : Clo (.ro 2 (x.points.map TPoint.en)) := clo_list TPoint.clo_en
  have hln := plsTo_len l i
  rcases Bool.eq_false_or_eq_true (x.kind == 1) with hk | hk
  case' inl =>
   obtain ⟨hm, hm2⟩ := plsTo_y hx hk
   obtain ⟨hp0, _⟩ := pl_point hfx hk
  case' inr => obtain ⟨hm, hm2⟩ := plsTo_n hx hk
 case' neg =>
  have hQ := True.intro
  have ht := lt_false (f := TFeature.en) hlt
  have e : i = l.length := by omega
  subst e
  try rw [List.take_length]
  rw [plsTo_all])) <;> (try dsimp only))
 all_goals first
  | (have _ := hP; (refine ⟨i + 1, _, hlt, by omega, ?_, by rw [hm, hm2] <;> rfl, ?_, ?_⟩; (focus (exact wkH)); (focus (exact fitsA)); (focus (exact fits_row (clo_rows TPlace.clo_en)))))
  | (have _ := hQ; exact Fin.one rfl (RV.tmp (by rfl)) (clo_list TPlace.clo_en) ⟨rfl, rfl⟩)

theorem pr_bd {a b : Int} (ha : -200 ≤ a) (ha2 : a ≤ 200) (hb : -200 ≤ b) (hb2 : b ≤ 200) : -40000 ≤ a * b ∧ a * b ≤ 40000 := by
 have h : (a * b).natAbs = a.natAbs * b.natAbs := Int.natAbs_mul a b
 have h2 : a.natAbs * b.natAbs ≤ 200 * 200 := Nat.mul_le_mul (by omega) (by omega)
 omega
theorem tw_step {n : Int} {s : TSegment} (hn : -8000000 ≤ n) (hn2 : n ≤ 8000000) (ha : isp s.a.x s.a.y = true) (hb : isp s.b.x s.b.y = true) :
 twS n s = n + (s.a.x * s.b.y - s.a.y * s.b.x) ∧ -80000 ≤ s.a.x * s.b.y - s.a.y * s.b.x ∧ s.a.x * s.b.y - s.a.y * s.b.x ≤ 80000 := by
 obtain ⟨a1, a2, a3, a4⟩ := isp_bd ha
 obtain ⟨b1, b2, b3, b4⟩ := isp_bd hb
 have h1 := pr_bd (a := s.a.x) (b := s.b.y) (by omega) (by omega) (by omega) (by omega)
 have h2 := pr_bd (a := s.a.y) (b := s.b.x) (by omega) (by omega) (by omega) (by omega)
 refine ⟨?_, by omega, by omega⟩
 show IntKind.i64.wrap (IntKind.i64.wrap (n + IntKind.i64.wrap (s.a.x * s.b.y)) - IntKind.i64.wrap (s.a.y * s.b.x)) = _
 rw [w64 (n := s.a.x * s.b.y) (by omega) (by omega), w64 (n := s.a.y * s.b.x) (by omega) (by omega), w64 (n := n + s.a.x * s.b.y) (by omega) (by omega), w64 (by omega) (by omega)]
 omega
theorem tw_sum {l : List TPoint} (h : isRing l = true) : ∀ i, i ≤ l.length → accF twS (arnd l) i = SI (fun i => (ptA l i).x * (ptA l (nx l.length i)).y - (ptA l i).y * (ptA l (nx l.length i)).x) i ∧ -80000 * (i : Int) ≤ accF twS (arnd l) i ∧ accF twS (arnd l) i ≤ 80000 * (i : Int)
 | 0, _ => ⟨rfl, by simp [accF], by simp [accF]⟩
 | i + 1, hi => by
  obtain ⟨e1, e2, e3⟩ := tw_sum h i (by omega)
  obtain ⟨r1, r2, _⟩ := ring_edges h
  have hlen : l.length ≤ 10 := by
   have h3 := h
   simp only [isRing, Bool.and_eq_true] at h3
   have h4 := h3.1
   unfold inr at h4
   simp at h4
   omega
  obtain ⟨a, b, ha, hb, hs⟩ := arnd_get (l := l) (i := i) (by omega)
  have hsa : sAt l i = ⟨a, b⟩ := sAt_of hs
  rw [sAt_pt (by omega)] at hsa
  have ea : ptA l i = a := congrArg TSegment.a hsa
  have eb : ptA l (nx l.length i) = b := congrArg TSegment.b hsa
  have pa := (r2 i (by omega)).1
  have pb := (r2 (nx l.length i) (Nat.mod_lt _ (by omega))).1
  rw [ea] at pa
  rw [eb] at pb
  obtain ⟨t1, t2, t3⟩ := tw_step (n := accF twS (arnd l) i) (s := ⟨a, b⟩) (by omega) (by omega) pa pb
  rw [accF_succ hs, t1]
  dsimp only at t2 t3 ⊢
  refine ⟨?_, by omega, by omega⟩
  rw [e1]
  show _ = SI _ i + _
  dsimp only
  rw [ea, eb]
theorem twice_ne {l : List TPoint} (h : isRing l = true) : twice l ≠ 0 := by
 have h1 := (tw_sum h l.length (Nat.le_refl _)).1
 have h2 := ring_area h
 unfold area2 at h2
 rw [← h1] at h2
 unfold twice
 rw [ringSegs, if_pos h]
 have e : (arnd l).length = l.length := arnd_len l
 rw [← e, accF_all] at h2
 exact h2
def drp (l : List TPoint) (i : Nat) : List TPoint := l.take i ++ l.drop (i + 1)
theorem drp_len {l : List TPoint} {i : Nat} (h : i < l.length) : (drp l i).length + 1 = l.length := by unfold drp; simp; omega
theorem drp_map (l : List TPoint) (i : Nat) : (l.take i).map TPoint.en ++ (l.drop (i + 1)).map TPoint.en = (drp l i).map TPoint.en := by rw [drp, List.map_append]
abbrev inP (l : List TPoint) (i : Nat) : Bool := inr (i : Int) 1 (IntKind.i64.wrap (((l.map TPoint.en).length : Int) - 2))
abbrev inC (l : List TPoint) (i : Nat) : Bool := inr (i : Int) 0 (IntKind.i64.wrap (((l.map TPoint.en).length : Int) - 1))
theorem inP_t {l : List TPoint} {i : Nat} (hl : l.length ≤ 1048576) (h : inP l i = true) : 1 ≤ i ∧ i + 2 ≤ l.length := by
 unfold inP inr at h
 rw [List.length_map, w64 (by omega) (by omega)] at h
 simp at h
 omega
theorem inC_t {l : List TPoint} {i : Nat} (hl : l.length ≤ 1048576) (h : inC l i = true) : i < l.length := by
 unfold inC inr at h
 rw [List.length_map, w64 (by omega) (by omega)] at h
 simp at h
 omega
def sameT (a b : List TPoint) : Bool := (decide (twice a > 0) && decide (twice b > 0)) || (decide (twice a < 0) && decide (twice b < 0))
def dpOk (l : List TPoint) (i : Nat) : Bool := isLine l && inP l i && isLine (drp l i)
def dpL (l : List TPoint) (i : Nat) : List TPoint := if dpOk l i = true then drp l i else l
def dcOk (l : List TPoint) (i : Nat) : Bool := isRing l && inC l i && isRing (drp l i) && sameT l (drp l i)
def dcL (l : List TPoint) (i : Nat) : List TPoint := if dcOk l i = true then drp l i else l
theorem dp_cases (l : List TPoint) (i : Nat) : (isLine l = false ∧ dpOk l i = false ∧ dpL l i = l) ∨ (isLine l = true ∧ inP l i = false ∧ dpOk l i = false ∧ dpL l i = l) ∨
 (isLine l = true ∧ inP l i = true ∧ isLine (drp l i) = false ∧ dpOk l i = false ∧ dpL l i = l) ∨ (isLine l = true ∧ inP l i = true ∧ isLine (drp l i) = true ∧ dpOk l i = true ∧ dpL l i = drp l i) := by
 unfold dpL dpOk
 cases isLine l <;> cases inP l i <;> cases isLine (drp l i) <;> simp
theorem dc_cases (l : List TPoint) (i : Nat) : (isRing l = false ∧ dcOk l i = false ∧ dcL l i = l) ∨ (isRing l = true ∧ inC l i = false ∧ dcOk l i = false ∧ dcL l i = l) ∨
 (isRing l = true ∧ inC l i = true ∧ isRing (drp l i) = false ∧ dcOk l i = false ∧ dcL l i = l) ∨ (isRing l = true ∧ inC l i = true ∧ isRing (drp l i) = true ∧ sameT l (drp l i) = false ∧ dcOk l i = false ∧ dcL l i = l) ∨
 (isRing l = true ∧ inC l i = true ∧ isRing (drp l i) = true ∧ sameT l (drp l i) = true ∧ dcOk l i = true ∧ dcL l i = drp l i) := by
 unfold dcL dcOk
 cases isRing l <;> cases inC l i <;> cases isRing (drp l i) <;> cases sameT l (drp l i) <;> simp
def triA (a b p : TPoint) : Int := wmax (crW a b p) (IntKind.i64.wrap (-(crW a b p)))
theorem triA_ge {a b p : TPoint} (ha : isp a.x a.y = true) (hb : isp b.x b.y = true) (hp : isp p.x p.y = true) : 0 ≤ triA a b p := by
 unfold triA
 rw [crW_crs ha hb hp]
 obtain ⟨a1, a2, a3, a4⟩ := isp_bd ha
 obtain ⟨b1, b2, b3, b4⟩ := isp_bd hb
 obtain ⟨p1, p2, p3, p4⟩ := isp_bd hp
 have h1 := pr_bd (a := b.x - a.x) (b := p.y - a.y) (by omega) (by omega) (by omega) (by omega)
 have h2 := pr_bd (a := b.y - a.y) (b := p.x - a.x) (by omega) (by omega) (by omega) (by omega)
 have e : crs a b p = (b.x - a.x) * (p.y - a.y) - (b.y - a.y) * (p.x - a.x) := rfl
 have hb1 : -80000 ≤ crs a b p ∧ crs a b p ≤ 80000 := by rw [e]; omega
 rw [w64 (n := -crs a b p) (by omega) (by omega)]
 unfold wmax
 split <;> omega
def ptg (l : List TPoint) (j : Nat) : TPoint := l.getD j ⟨0, 0⟩
theorem ptg_get {l : List TPoint} {j : Nat} (h : j < l.length) : l[j]? = some (ptg l j) := by
 unfold ptg
 rw [List.getD_eq_getElem?_getD, List.getElem?_eq_getElem h]
 rfl
def crnA (l : List TPoint) (i : Nat) : Int := if (isLine l && inP l i) = true then triA (ptg l (i - 1)) (ptg l i) (ptg l (i + 1)) else -1
def crnS (l : List TPoint) (i : Nat) : Int := if (isRing l && inC l i) = true then triA (ptg l ((i + l.length - 1) % l.length)) (ptg l i) (ptg l ((i + 1) % l.length)) else -1
theorem corner_line {l : List TPoint} {i : Nat} (hl : l.length ≤ 1048576) (h1 : isLine l = true) (h2 : inP l i = true) : ∃ a b p : TPoint, crnA l i = triA a b p ∧ 0 ≤ IntKind.i64.wrap ((i : Int) - 1) ∧ (l.map TPoint.en)[(IntKind.i64.wrap ((i : Int) - 1)).toNat]? = some a.en ∧ (l.map TPoint.en)[((i : Int)).toNat]? = some b.en ∧ 0 ≤ IntKind.i64.wrap ((i : Int) + 1) ∧ (l.map TPoint.en)[(IntKind.i64.wrap ((i : Int) + 1)).toNat]? = some p.en := by
 obtain ⟨g1, g2⟩ := inP_t hl h2
 have e1 : IntKind.i64.wrap ((i : Int) - 1) = ((i - 1 : Nat) : Int) := by rw [w64 (by omega) (by omega)]; omega
 have e2 : IntKind.i64.wrap ((i : Int) + 1) = ((i + 1 : Nat) : Int) := by rw [w64 (by omega) (by omega)]; omega
 refine ⟨ptg l (i - 1), ptg l i, ptg l (i + 1), by rw [crnA, if_pos (by rw [h1, h2]; rfl)], by omega, ?_, ?_, by omega, ?_⟩
 · rw [e1, Int.toNat_natCast, List.getElem?_map, ptg_get (by omega)]; rfl
 · rw [Int.toNat_natCast, List.getElem?_map, ptg_get (by omega)]; rfl
 · rw [e2, Int.toNat_natCast, List.getElem?_map, ptg_get (by omega)]; rfl
theorem crnA_n {l : List TPoint} {i : Nat} (h : isLine l = false ∨ inP l i = false) : crnA l i = -1 := by
 rw [crnA, if_neg]
 rcases h with h | h <;> simp [h]
theorem crnS_n {l : List TPoint} {i : Nat} (h : isRing l = false ∨ inC l i = false) : crnS l i = -1 := by
 rw [crnS, if_neg]
 rcases h with h | h <;> simp [h]
theorem corner_ring {l : List TPoint} {i : Nat} (hl : l.length ≤ 1048576) (h1 : isRing l = true) (h2 : inC l i = true) : ∃ a b p : TPoint, crnS l i = triA a b p ∧ ((l.map TPoint.en).length : Int) ≠ 0 ∧
 0 ≤ (IntKind.i64.wrap (IntKind.i64.wrap ((i : Int) + ((l.map TPoint.en).length : Int)) - 1)).tmod ((l.map TPoint.en).length : Int) ∧ (l.map TPoint.en)[((IntKind.i64.wrap (IntKind.i64.wrap ((i : Int) + ((l.map TPoint.en).length : Int)) - 1)).tmod ((l.map TPoint.en).length : Int)).toNat]? = some a.en ∧
 (l.map TPoint.en)[((i : Int)).toNat]? = some b.en ∧ 0 ≤ (IntKind.i64.wrap ((i : Int) + 1)).tmod ((l.map TPoint.en).length : Int) ∧ (l.map TPoint.en)[((IntKind.i64.wrap ((i : Int) + 1)).tmod ((l.map TPoint.en).length : Int)).toNat]? = some p.en := by
 have g := inC_t hl h2
 have e1 : (IntKind.i64.wrap (IntKind.i64.wrap ((i : Int) + ((l.map TPoint.en).length : Int)) - 1)).tmod ((l.map TPoint.en).length : Int) = (((i + l.length - 1) % l.length : Nat) : Int) := by
  rw [List.length_map, w64 (n := (i : Int) + (l.length : Int)) (by omega) (by omega), w64 (by omega) (by omega), show (i : Int) + (l.length : Int) - 1 = ((i + l.length - 1 : Nat) : Int) by omega]
  exact (Int.ofNat_tmod _ _).symm
 have e2 := arnd_ix g hl
 refine ⟨ptg l ((i + l.length - 1) % l.length), ptg l i, ptg l ((i + 1) % l.length), by rw [crnS, if_pos (by rw [h1, h2]; rfl)], by rw [List.length_map]; omega, by rw [e1]; omega, ?_, ?_, by rw [e2]; omega, ?_⟩
 · rw [e1, Int.toNat_natCast, List.getElem?_map, ptg_get (Nat.mod_lt _ (by omega))]; rfl
 · rw [Int.toNat_natCast, List.getElem?_map, ptg_get g]; rfl
 · rw [e2, Int.toNat_natCast, List.getElem?_map, ptg_get (Nat.mod_lt _ (by omega))]; rfl
theorem drp_cut {l : List TPoint} {i : Nat} (h : i < l.length) (hl : l.length ≤ 1048576) :
 (i : Int) ≤ ((l.map TPoint.en).length : Int) ∧ (l.map TPoint.en).take ((i : Int)).toNat = (l.take i).map TPoint.en ∧ 0 ≤ IntKind.i64.wrap ((i : Int) + 1) ∧ IntKind.i64.wrap ((i : Int) + 1) ≤ ((l.map TPoint.en).length : Int) ∧ (l.map TPoint.en).drop (IntKind.i64.wrap ((i : Int) + 1)).toNat = (l.drop (i + 1)).map TPoint.en := by
 have e2 : IntKind.i64.wrap ((i : Int) + 1) = ((i + 1 : Nat) : Int) := by rw [w64 (by omega) (by omega)]; omega
 rw [e2, Int.toNat_natCast, Int.toNat_natCast, List.length_map]
 exact ⟨by omega, by rw [List.map_take], by omega, by omega, by rw [List.map_drop]⟩
theorem turn_cmp {a b : List TPoint} (ha : isRing a = true) (hb : isRing b = true) : (cmpI (twice b) 0 != cmpI (twice a) 0) = !sameT a b := by
 have h1 := twice_ne ha
 have h2 := twice_ne hb
 unfold cmpI sameT
 rcases Int.lt_trichotomy (twice a) 0 with h | h | h
 · rcases Int.lt_trichotomy (twice b) 0 with k | k | k
   · rw [if_pos k, if_pos h]; simp [h, k]
   · exact absurd k h2
   · rw [if_neg (by omega), if_pos (by omega), if_pos h]
     have e1 : decide (twice a > 0) = false := by simp; omega
     have e2 : decide (twice b < 0) = false := by simp; omega
     rw [e1, e2]; simp
 · exact absurd h h1
 · rcases Int.lt_trichotomy (twice b) 0 with k | k | k
   · rw [if_pos k, if_neg (by omega), if_pos (by omega)]
     have e1 : decide (twice b > 0) = false := by simp; omega
     have e2 : decide (twice a < 0) = false := by simp; omega
     rw [e1, e2]; simp
   · exact absurd k h2
   · rw [if_neg (by omega), if_pos (by omega), if_neg (by omega), if_pos (by omega)]
     simp [h, k]

abbrev abv (a b : TPlace) : Prop := above a b = true
theorem above_iff (a b : TPlace) : above a b = true ↔ a.rank > b.rank ∨ (a.rank = b.rank ∧ a.id < b.id) := by unfold above; simp
theorem above_tr {a b c : TPlace} (h : abv a b) (k : abv b c) : abv a c := by
 have h := (above_iff _ _).1 h
 have k := (above_iff _ _).1 k
 exact (above_iff _ _).2 (by omega)
theorem above_tri {a b : TPlace} (h : a.id ≠ b.id) (k : above a b = false) : abv b a := by
 have k : ¬ abv a b := fun e => by rw [show above a b = true from e] at k; cases k
 rw [abv, above_iff] at k
 exact (above_iff _ _).2 (by omega)
theorem above_anti {a b : TPlace} (h : abv a b) (k : abv b a) : False := by
 have h := (above_iff _ _).1 h
 have k := (above_iff _ _).1 k
 omega
def insA (l : List TPlace) (x : TPlace) : List TPlace := insR (fun y => above x y) l x
theorem insA_perm (l : List TPlace) (x : TPlace) : (insA l x).Perm (x :: l) := by
 unfold insA insR
 have h := List.perm_middle (a := x) (l₁ := l.take (posR (fun y => above x y) l)) (l₂ := l.drop (posR (fun y => above x y) l))
 rw [List.take_append_drop] at h
 simpa using h
theorem insA_pw {l : List TPlace} {x : TPlace} (hl : l.Pairwise abv) (hx : ∀ y ∈ l, y.id ≠ x.id) : (insA l x).Pairwise abv := by
 have hk := posR_le (fun y => above x y) l
 have hi : ∀ y ∈ l.drop (posR (fun y => above x y) l), abv x y := fun y hy => by
  obtain ⟨q, hq⟩ := List.getElem?_of_mem hy
  rw [List.getElem?_drop] at hq
  exact posR_ge (p := fun y => above x y) (Nat.le_add_right _ _) hq
 have lo : ∀ y ∈ l.take (posR (fun y => above x y) l), abv y x := fun y hy => by
  obtain ⟨q, hq⟩ := List.getElem?_of_mem hy
  have hql : q < posR (fun y => above x y) l := by
   have := (List.getElem?_eq_some_iff.1 hq).1
   rw [List.length_take] at this
   omega
  rw [List.getElem?_take_of_lt hql] at hq
  have hz := List.getElem?_eq_getElem (l := l) (i := posR (fun y => above x y) l - 1) (by omega)
  have hnz := posR_lt (p := fun y => above x y) (by omega) hz
  have hzx := above_tri (fun e => hx _ (List.getElem_mem _) e.symm) hnz
  rcases Nat.lt_or_ge q (posR (fun y => above x y) l - 1) with h2 | h2
  · have h3 := List.pairwise_iff_getElem.1 hl q (posR (fun y => above x y) l - 1) (by omega) (by omega) h2
    rw [List.getElem?_eq_getElem (by omega)] at hq
    obtain rfl := Option.some.inj hq
    exact above_tr h3 hzx
  · have e : q = posR (fun y => above x y) l - 1 := by omega
    rw [e, hz] at hq
    obtain rfl := Option.some.inj hq
    exact hzx
 have hs : (l.take (posR (fun y => above x y) l) ++ l.drop (posR (fun y => above x y) l)).Pairwise abv := by rw [List.take_append_drop]; exact hl
 obtain ⟨s1, s2, s3⟩ := List.pairwise_append.1 hs
 unfold insA insR
 refine List.pairwise_append.2 ⟨List.pairwise_append.2 ⟨s1, List.pairwise_singleton _ _, fun a ha b hb => ?_⟩, s2, fun a ha b hb => ?_⟩
 · rw [List.mem_singleton.1 hb]; exact lo a ha
 · rcases List.mem_append.1 ha with h | h
   · exact s3 a h b hb
   · rw [List.mem_singleton.1 h]; exact hi b hb
def srtTo (l : List TPlace) (i : Nat) : List TPlace := (l.take i).foldl insA []
def srtA (l : List TPlace) : List TPlace := l.foldl insA []
theorem srtTo_all (l : List TPlace) : srtTo l l.length = srtA l := by rw [srtTo, List.take_length]; rfl
theorem srtTo_succ {l : List TPlace} {i : Nat} {x : TPlace} (h : l[i]? = some x) : srtTo l (i + 1) = insA (srtTo l i) x := by
 unfold srtTo
 rw [take_succ_of h, List.foldl_append]
 rfl
theorem fold_perm : ∀ (l s : List TPlace), (l.foldl insA s).Perm (l ++ s)
 | [], s => List.Perm.refl _
 | x :: l, s => by
  rw [List.foldl_cons]
  exact (fold_perm l (insA s x)).trans (((insA_perm s x).append_left l).trans (List.perm_middle.trans (List.Perm.refl _)))
theorem srtTo_perm (l : List TPlace) (i : Nat) : (srtTo l i).Perm (l.take i) := by
 have := fold_perm (l.take i) []
 rwa [List.append_nil] at this
theorem srtA_perm (l : List TPlace) : (srtA l).Perm l := by
 have := fold_perm l []
 rwa [List.append_nil] at this
theorem srtTo_len {l : List TPlace} {i : Nat} (h : i ≤ l.length) : (srtTo l i).length = i := by rw [(srtTo_perm l i).length_eq, List.length_take, Nat.min_eq_left h]
theorem srtA_len (l : List TPlace) : (srtA l).length = l.length := (srtA_perm l).length_eq
theorem fold_pw : ∀ (l s : List TPlace), s.Pairwise abv → (l ++ s).Pairwise (fun x y => x.id ≠ y.id) → (l.foldl insA s).Pairwise abv
 | [], s, hs, _ => hs
 | x :: l, s, hs, hd => by
  rw [List.foldl_cons]
  have hd2 : (x :: (l ++ s)).Pairwise (fun x y => x.id ≠ y.id) := hd
  obtain ⟨h1, h2⟩ := List.pairwise_cons.1 hd2
  refine fold_pw l (insA s x) (insA_pw hs fun y hy e => h1 y (List.mem_append_right _ hy) e.symm) ?_
  have hp : (l ++ insA s x).Perm (x :: (l ++ s)) := ((insA_perm s x).append_left l).trans List.perm_middle
  exact (hp.pairwise_iff fun h e => h e.symm).2 hd2
theorem srtA_pw {l : List TPlace} (hd : l.Pairwise fun x y => x.id ≠ y.id) : (srtA l).Pairwise abv := fold_pw l [] List.Pairwise.nil (by rwa [List.append_nil])
theorem srtA_uni {l m : List TPlace} (hd : l.Pairwise fun x y => x.id ≠ y.id) (hm : m.Perm l) (hs : m.Pairwise fun x y => above y x = false) : m = srtA l := by
 have hdm : m.Pairwise fun x y => x.id ≠ y.id := (hm.pairwise_iff fun h e => h e.symm).2 hd
 have h2 : m.Pairwise abv := (hdm.and hs).imp fun ⟨h, k⟩ => above_tri (fun e => h e.symm) k
 exact List.Perm.eq_of_pairwise (fun a b _ _ h k => (above_anti h k).elim) h2 (srtA_pw hd) (hm.trans (srtA_perm l).symm)
theorem PlOk.ne {l : List TPlace} (h : PlOk l) : l.Pairwise fun x y => x.id ≠ y.id := h.asc.imp fun h => by omega
def farOk (far : Int) (x y : TPlace) : Bool := decide (far2 y.at_ x.at_ ≥ far * far)
def keptS (far : Int) (out : List TPlace) (x : TPlace) : List TPlace := if out.all (farOk far x) = true then out ++ [x] else out
def keptTo (s : List TPlace) (far : Int) (j : Nat) : List TPlace := (s.take j).foldl (keptS far) []
def kept (s : List TPlace) (far : Int) : List TPlace := s.foldl (keptS far) []
theorem keptTo_all (s : List TPlace) (far : Int) : keptTo s far s.length = kept s far := by rw [keptTo, List.take_length]; rfl
theorem keptTo_succ {s : List TPlace} {far : Int} {j : Nat} {x : TPlace} (h : s[j]? = some x) : keptTo s far (j + 1) = keptS far (keptTo s far j) x := by
 unfold keptTo
 rw [take_succ_of h, List.foldl_append]
 rfl
theorem keptTo_y {s : List TPlace} {far : Int} {j : Nat} {x : TPlace} (h : s[j]? = some x) (ha : (keptTo s far j).all (farOk far x) = true) : (keptTo s far (j + 1)).map TPlace.en = (keptTo s far j).map TPlace.en ++ [x.en] ∧ (keptTo s far (j + 1)).length = (keptTo s far j).length + 1 := by
 rw [keptTo_succ h, keptS, if_pos ha]
 simp
theorem keptTo_n {s : List TPlace} {far : Int} {j : Nat} {x : TPlace} (h : s[j]? = some x) (ha : (keptTo s far j).all (farOk far x) = false) : (keptTo s far (j + 1)).map TPlace.en = (keptTo s far j).map TPlace.en ∧ (keptTo s far (j + 1)).length = (keptTo s far j).length := by
 rw [keptTo_succ h, keptS, if_neg (by rw [ha]; decide)]
 exact ⟨rfl, rfl⟩
theorem fold_sub (far : Int) : ∀ (l s out : List TPlace), out.Sublist s → (l.foldl (keptS far) out).Sublist (s ++ l)
 | [], s, out, h => by rw [List.append_nil]; exact h
 | x :: l, s, out, h => by
  rw [List.foldl_cons]
  have e : s ++ x :: l = (s ++ [x]) ++ l := by simp
  rw [e]
  refine fold_sub far l (s ++ [x]) _ ?_
  unfold keptS
  split
  · exact h.append (List.Sublist.refl _)
  · exact h.trans (List.sublist_append_left _ _)
theorem keptTo_sub (s : List TPlace) (far : Int) (j : Nat) : (keptTo s far j).Sublist (s.take j) := fold_sub far (s.take j) [] [] (List.Sublist.refl _)
theorem kept_sub (s : List TPlace) (far : Int) : (kept s far).Sublist s := fold_sub far s [] [] (List.Sublist.refl _)
theorem keptTo_len (s : List TPlace) (far : Int) (j : Nat) : (keptTo s far j).length ≤ j := Nat.le_trans (keptTo_sub s far j).length_le (by rw [List.length_take]; omega)
theorem keptTo_mem {s : List TPlace} {far : Int} {j : Nat} {y : TPlace} (h : y ∈ keptTo s far j) : y ∈ s := List.mem_of_mem_take ((keptTo_sub s far j).subset h)
theorem far_sq {far : Int} (h : inr far 0 200 = true) : IntKind.i64.wrap (far * far) = far * far ∧ 0 ≤ far * far := by
 unfold inr at h
 simp at h
 have := sq_bd (d := far) (by omega) (by omega)
 exact ⟨w64 (by omega) (by omega), this.1⟩
theorem all_take_y {α : Type} {l : List α} {p : α → Bool} {k : Nat} {y : α} (hy : l[k]? = some y) (ha : (l.take k).all p = true) : (l.take (k + 1)).all p = p y := by
 rw [take_succ_of hy, List.all_append, ha]
 simp
theorem all_take_n {α : Type} {l : List α} {p : α → Bool} {k : Nat} {y : α} (hy : l[k]? = some y) (ha : (l.take k).all p = false) : (l.take (k + 1)).all p = false := by
 rw [take_succ_of hy, List.all_append, ha]
 rfl
theorem insA_map (l : List TPlace) (x : TPlace) : (insA l x).map TPlace.en = (l.take (posR (fun y => above x y) l)).map TPlace.en ++ [x.en] ++ (l.drop (posR (fun y => above x y) l)).map TPlace.en := by
 unfold insA insR
 rw [List.map_append, List.map_append]
 rfl
def thinI (l : List TPlace) (far : Int) : List Int := putIs [] ((kept (srtA l) far).map (·.id))
theorem thin_nodup {l : List TPlace} (h : PlOk l) (far : Int) : ((kept (srtA l) far).map (·.id)).Pairwise (· ≠ ·) := by
 rw [List.pairwise_map]
 have h1 : (srtA l).Pairwise fun x y => x.id ≠ y.id := ((srtA_perm l).pairwise_iff fun h e => h e.symm).2 h.ne
 exact h1.sublist (kept_sub _ _)
theorem merge_asc {xs : List Int} (h : xs.Pairwise (· ≠ ·)) : (xs.mergeSort fun x y => decide (x ≤ y)).Pairwise (· < ·) := by
 have h1 := List.pairwise_mergeSort (le := fun x y : Int => decide (x ≤ y)) (fun a b c h k => by simp at *; omega) (fun a b => by simp; omega) xs
 have h2 : (xs.mergeSort fun x y => decide (x ≤ y)).Pairwise (· ≠ ·) := ((List.mergeSort_perm xs _).pairwise_iff fun h e => h e.symm).2 h
 exact (h1.and h2).imp fun ⟨a, b⟩ => by simp at a; omega
theorem merge_put {xs : List Int} (h : xs.Pairwise (· ≠ ·)) : (xs.mergeSort fun x y => decide (x ≤ y)) = putIs [] xs := by
 obtain ⟨h1, h2⟩ := putIs_asc (xs := xs) (l := []) List.Pairwise.nil
 exact asc_ext sto_int (merge_asc h) h1 fun y => by rw [(List.mergeSort_perm xs _).mem_iff, h2]; simp
theorem thin_len (l : List TPlace) (far : Int) : (kept (srtA l) far).length ≤ l.length := by
 have := (kept_sub (srtA l) far).length_le
 rw [srtA_len] at this
 exact this
theorem putIs_take1 {xs : List Int} {k : Nat} {y : Int} (h : xs[k]? = some y) : putIs [] (xs.take (k + 1)) = putI (putIs [] (xs.take k)) y := by
 rw [take_succ_of h, putIs_app]
 rfl
theorem putI_len (l : List Int) (x : Int) : (putI l x).length ≤ l.length + 1 := by
 unfold putI
 split
 · omega
 · have := posI_le l x
   simp
   omega
theorem putIs_len : ∀ (xs l : List Int), (putIs l xs).length ≤ l.length + xs.length
 | [], l => by simp [putIs]
 | x :: xs, l => by
  have h1 := putIs_len xs (putI l x)
  have h2 := putI_len l x
  rw [putIs, List.length_cons]
  omega

def sizeA (x : TFeature) (i : Nat) : Int := if (x.kind == 2) = true then crnA x.points i else if (x.kind == 3) = true then crnS x.points i else -1
theorem kd_cases (x : TFeature) : ((x.kind == 2) = true) ∨ ((x.kind == 2) = false ∧ (x.kind == 3) = true) ∨ ((x.kind == 2) = false ∧ (x.kind == 3) = false) := by
 cases x.kind == 2 <;> cases x.kind == 3 <;> simp
def dfK (x : TFeature) (i : Nat) : Bool := if (x.kind == 2) = true then dpOk x.points i else if (x.kind == 3) = true then dcOk x.points i else false
def dfP (x : TFeature) (i : Nat) : List TPoint := if (x.kind == 2) = true then dpL x.points i else if (x.kind == 3) = true then dcL x.points i else x.points
def dfX (x : TFeature) (i : Nat) : TFeature := ⟨x.id, x.kind, x.rank, x.name, dfP x i⟩
def dfOk (x : TFeature) (i : Nat) : Bool := dfK x i && isFeat (dfX x i)
def dfF (x : TFeature) (i : Nat) : TFeature := if dfOk x i = true then dfX x i else x
theorem df_cases (x : TFeature) (i : Nat) :
 ((x.kind == 2) = true ∧ dpOk x.points i = false ∧ dfF x i = x ∧ dfOk x i = false) ∨
 ((x.kind == 2) = true ∧ dpOk x.points i = true ∧ isFeat ⟨x.id, x.kind, x.rank, x.name, dpL x.points i⟩ = false ∧ dfF x i = x ∧ dfOk x i = false) ∨
 ((x.kind == 2) = true ∧ dpOk x.points i = true ∧ isFeat ⟨x.id, x.kind, x.rank, x.name, dpL x.points i⟩ = true ∧ dfF x i = ⟨x.id, x.kind, x.rank, x.name, dpL x.points i⟩ ∧ dfOk x i = true) ∨
 ((x.kind == 2) = false ∧ (x.kind == 3) = true ∧ dcOk x.points i = false ∧ dfF x i = x ∧ dfOk x i = false) ∨
 ((x.kind == 2) = false ∧ (x.kind == 3) = true ∧ dcOk x.points i = true ∧ isFeat ⟨x.id, x.kind, x.rank, x.name, dcL x.points i⟩ = false ∧ dfF x i = x ∧ dfOk x i = false) ∨
 ((x.kind == 2) = false ∧ (x.kind == 3) = true ∧ dcOk x.points i = true ∧ isFeat ⟨x.id, x.kind, x.rank, x.name, dcL x.points i⟩ = true ∧ dfF x i = ⟨x.id, x.kind, x.rank, x.name, dcL x.points i⟩ ∧ dfOk x i = true) ∨
 ((x.kind == 2) = false ∧ (x.kind == 3) = false ∧ dfF x i = x ∧ dfOk x i = false) := by
 unfold dfF dfOk dfX dfK dfP
 rcases kd_cases x with h | ⟨h, k⟩ | ⟨h, k⟩
 · simp only [if_pos h]
   cases h2 : dpOk x.points i <;> cases h3 : isFeat ⟨x.id, x.kind, x.rank, x.name, dpL x.points i⟩ <;> simp [h]
 · simp only [if_neg (show ¬ (x.kind == 2) = true by rw [h]; decide), if_pos k]
   cases h2 : dcOk x.points i <;> cases h3 : isFeat ⟨x.id, x.kind, x.rank, x.name, dcL x.points i⟩ <;> simp [h, k]
 · simp only [if_neg (show ¬ (x.kind == 2) = true by rw [h]; decide), if_neg (show ¬ (x.kind == 3) = true by rw [k]; decide)]
   simp [h, k]
theorem line_pt {l : List TPoint} (h : isLine l = true) {j : Nat} (hj : j < l.length) : isp (ptg l j).x (ptg l j).y = true := by
 unfold isLine at h
 rw [Bool.and_eq_true] at h
 have h2 := h.2
 simp only [ptsOk, List.all_eq_true, List.mem_range] at h2
 have h3 := h2 j hj
 unfold okAt at h3
 rw [ptg_get hj] at h3
 simp only [Bool.and_eq_true] at h3
 exact h3.1
theorem dpL_len (l : List TPoint) (i : Nat) : (dpL l i).length ≤ l.length := by
 unfold dpL drp
 split
 · simp; omega
 · exact Nat.le_refl _
theorem dcL_len (l : List TPoint) (i : Nat) : (dcL l i).length ≤ l.length := by
 unfold dcL drp
 split
 · simp; omega
 · exact Nat.le_refl _
theorem dfF_same (x : TFeature) (i : Nat) : (dfF x i).id = x.id ∧ (dfF x i).kind = x.kind ∧ (dfF x i).rank = x.rank ∧ (dfF x i).name = x.name := by
 unfold dfF
 split
 · exact ⟨rfl, rfl, rfl, rfl⟩
 · exact ⟨rfl, rfl, rfl, rfl⟩
theorem dfF_gd {x : TFeature} (h : x.gd) (i : Nat) : (dfF x i).gd := by
 have h1 := dpL_len x.points i
 have h2 := dcL_len x.points i
 rcases df_cases x i with ⟨_, _, e, _⟩ | ⟨_, _, _, e, _⟩ | ⟨_, _, _, e, _⟩ | ⟨_, _, _, e, _⟩ | ⟨_, _, _, _, e, _⟩ | ⟨_, _, _, _, e, _⟩ | ⟨_, _, e, _⟩ <;> rw [e] <;> first | exact h | exact ⟨Nat.le_trans h1 h.1, h.2⟩ | exact ⟨Nat.le_trans h2 h.1, h.2⟩
theorem dfF_feat {x : TFeature} (h : isFeat x = true) (i : Nat) : isFeat (dfF x i) = true := by
 rcases df_cases x i with ⟨_, _, e, _⟩ | ⟨_, _, _, e, _⟩ | ⟨_, _, hf, e, _⟩ | ⟨_, _, _, e, _⟩ | ⟨_, _, _, _, e, _⟩ | ⟨_, _, _, hf, e, _⟩ | ⟨_, _, e, _⟩ <;> rw [e] <;> first | exact h | exact hf
theorem dfF_less {x : TFeature} {i : Nat} (hl : x.points.length ≤ 1048576) (h : dfOk x i = true) : (dfF x i).points.length + 1 = x.points.length ∧ 0 ≤ sizeA x i := by
 rcases df_cases x i with ⟨_, _, _, e⟩ | ⟨_, _, _, _, e⟩ | ⟨k2, ho, _, e, _⟩ | ⟨_, _, _, _, e⟩ | ⟨_, _, _, _, _, e⟩ | ⟨k2, k3, ho, _, e, _⟩ | ⟨_, _, _, e⟩
 · rw [e] at h; cases h
 · rw [e] at h; cases h
 · rw [e]
   have ho2 := ho
   unfold dpOk at ho2
   simp only [Bool.and_eq_true] at ho2
   obtain ⟨⟨g1, g2⟩, g3⟩ := ho2
   have g4 := inP_t hl g2
   refine ⟨?_, ?_⟩
   · show (dpL x.points i).length + 1 = _
     rw [dpL, if_pos ho]
     exact drp_len (by omega)
   · rw [sizeA, if_pos k2, crnA, if_pos (by rw [g1, g2]; rfl)]
     exact triA_ge (line_pt g1 (by omega)) (line_pt g1 (by omega)) (line_pt g1 (by omega))
 · rw [e] at h; cases h
 · rw [e] at h; cases h
 · rw [e]
   have ho2 := ho
   unfold dcOk at ho2
   simp only [Bool.and_eq_true] at ho2
   obtain ⟨⟨⟨g1, g2⟩, g3⟩, _⟩ := ho2
   have g4 := inC_t hl g2
   refine ⟨?_, ?_⟩
   · show (dcL x.points i).length + 1 = _
     rw [dcL, if_pos ho]
     exact drp_len g4
   · rw [sizeA, if_neg (by rw [k2]; decide), if_pos k3, crnS, if_pos (by rw [g1, g2]; rfl)]
     have hr := (ring_edges g1).2.1
     exact triA_ge (hr _ (Nat.mod_lt _ (by omega))).1 (hr _ g4).1 (hr _ (Nat.mod_lt _ (by omega))).1
 · rw [e] at h; cases h
def meetR (s : TSegment) (t : List TSegment) (n : Int) : Int := t.foldl (fun n y => wmax n (hmI s y)) n
def meetF (a b : TFeature) : Int := (partsOf a).foldl (fun n s => meetR s (partsOf b) n) 0
def canP (x : TFeature) (i : Nat) (o : TFeature) : Bool := decide (meetF (dfF x i) o ≤ meetF x o)
def canS (x : TFeature) (i : Nat) (os : List TFeature) : Bool := dfOk x i && os.all (canP x i)
theorem can_ge {x : TFeature} {i : Nat} {os : List TFeature} (hl : x.points.length ≤ 1048576) (h : canS x i os = true) : dfOk x i = true ∧ 0 ≤ sizeA x i := by
 unfold canS at h
 rw [Bool.and_eq_true] at h
 exact ⟨h.1, (dfF_less hl h.1).2⟩
def pickP (x : TFeature) (os : List TFeature) (least b : Int) (i : Nat) : Bool := decide (sizeA x i < least) && (decide (b < 0) || decide (sizeA x i < sizeA x b.toNat)) && canS x i os
def bestTo (x : TFeature) (os : List TFeature) (least : Int) : Nat → Int
 | 0 => -1
 | n + 1 => if pickP x os least (bestTo x os least n) n = true then (n : Int) else bestTo x os least n
abbrev bestF (x : TFeature) (os : List TFeature) (least : Int) : Int := bestTo x os least x.points.length
theorem best_form (x : TFeature) (os : List TFeature) (least : Int) : ∀ n, bestTo x os least n = -1 ∨ ∃ k : Nat, k < n ∧ bestTo x os least n = (k : Int) ∧ canS x k os = true
 | 0 => .inl rfl
 | n + 1 => by
  rw [bestTo]
  split
  · rename_i h
    unfold pickP at h
    simp only [Bool.and_eq_true] at h
    exact .inr ⟨n, by omega, rfl, h.2⟩
  · rcases best_form x os least n with h | ⟨k, h1, h2⟩
    · exact .inl h
    · exact .inr ⟨k, by omega, h2⟩
theorem best_y {x : TFeature} {os : List TFeature} {least : Int} {n : Nat} (h : pickP x os least (bestTo x os least n) n = true) : bestTo x os least (n + 1) = (n : Int) := by rw [bestTo, if_pos h]
theorem best_n {x : TFeature} {os : List TFeature} {least : Int} {n : Nat} (h : pickP x os least (bestTo x os least n) n = false) : bestTo x os least (n + 1) = bestTo x os least n := by rw [bestTo, if_neg (by rw [h]; decide)]
def shr (os : List TFeature) (least : Int) (x : TFeature) : TFeature := if h : 0 ≤ bestF x os least ∧ (dfF x (bestF x os least).toNat).points.length < x.points.length then shr os least (dfF x (bestF x os least).toNat) else x
termination_by x.points.length
decreasing_by exact h.2
theorem shr_step {os : List TFeature} {least : Int} {x : TFeature} {k : Nat} (hl : x.points.length ≤ 1048576) (h : bestF x os least = (k : Int)) (hc : canS x k os = true) : shr os least x = shr os least (dfF x k) ∧ (dfF x k).points.length < x.points.length := by
 have h2 := (dfF_less hl (can_ge hl hc).1).1
 refine ⟨?_, by omega⟩
 have e : (bestF x os least).toNat = k := by rw [h]; rfl
 rw [shr, dif_pos (by rw [e, h]; omega), e]
theorem shr_end {os : List TFeature} {least : Int} {x : TFeature} (h : bestF x os least = -1) : shr os least x = x := by
 rw [shr, dif_neg (by rw [h]; omega)]
def mtTo (S T : List TSegment) (i : Nat) : Int := (S.take i).foldl (fun n s => meetR s T n) 0
def mrTo (s : TSegment) (T : List TSegment) (n : Int) (k : Nat) : Int := (T.take k).foldl (fun n y => wmax n (hmI s y)) n
theorem mtTo_succ {S T : List TSegment} {i : Nat} {s : TSegment} (h : S[i]? = some s) : mtTo S T (i + 1) = mrTo s T (mtTo S T i) T.length := by
 unfold mtTo mrTo
 rw [take_succ_of h, List.foldl_append, List.take_length]
 rfl
theorem mrTo_succ {s : TSegment} {T : List TSegment} {n : Int} {k : Nat} {y : TSegment} (h : T[k]? = some y) : mrTo s T n (k + 1) = wmax (mrTo s T n k) (hmI s y) := by
 unfold mrTo
 rw [take_succ_of h, List.foldl_append]
 rfl
theorem mt_all (a b : TFeature) : mtTo (partsOf a) (partsOf b) (partsOf a).length = meetF a b := by
 unfold mtTo meetF
 rw [List.take_length]
theorem canS_n {x : TFeature} {i : Nat} {os : List TFeature} (h : dfOk x i = false) : canS x i os = false := by rw [canS, h]; rfl
theorem can_all {x : TFeature} {i : Nat} {os : List TFeature} (h : dfOk x i = true) : canS x i os = (os.take os.length).all (canP x i) := by rw [canS, h, List.take_length]; rfl
theorem all_no {α : Type} {l : List α} {p : α → Bool} {k : Nat} (h : (l.take k).all p = false) : l.all p = false := by
 rw [List.all_eq_false] at h ⊢
 obtain ⟨x, hx, hp⟩ := h
 exact ⟨x, List.mem_of_mem_take hx, hp⟩
def canTo (x : TFeature) (j : Nat) (os : List TFeature) (k : Nat) : Bool := dfOk x j && (os.take k).all (canP x j)
theorem canTo_succ {x o : TFeature} {j k : Nat} {os : List TFeature} (ho : os[k]? = some o) (h : canTo x j os k = true) : canTo x j os (k + 1) = decide (meetF (dfF x j) o ≤ meetF x o) := by
 unfold canTo at h ⊢
 rw [Bool.and_eq_true] at h
 rw [h.1, Bool.true_and, all_take_y ho h.2]
 rfl
theorem canTo_end {x : TFeature} {j k : Nat} {os : List TFeature} (h : canTo x j os k = false ∨ k = os.length) : canTo x j os k = canS x j os := by
 rcases h with h | h
 · rw [h]
   unfold canTo at h
   unfold canS
   cases hd : dfOk x j
   · rfl
   · rw [hd, Bool.true_and] at h
     rw [all_no h]
     rfl
 · rw [h]
   unfold canTo canS
   rw [List.take_length]
theorem canS_no {x o : TFeature} {j k : Nat} {os : List TFeature} (ho : os[k]? = some o) (h : canP x j o = false) : canS x j os = false := by
 unfold canS
 have : os.all (canP x j) = false := by
  rw [List.all_eq_false]
  exact ⟨o, List.mem_of_getElem? ho, by rw [h]; decide⟩
 rw [this, Bool.and_false]
theorem pick_cases {x : TFeature} (os : List TFeature) (least : Int) (i : Nat) (hl : x.points.length ≤ 1048576) :
 (decide (sizeA x i ≥ 0) = false ∧ canS x i os = false ∧ bestTo x os least (i + 1) = bestTo x os least i) ∨
 (decide (sizeA x i ≥ 0) = true ∧ decide (sizeA x i < least) = false ∧ bestTo x os least (i + 1) = bestTo x os least i) ∨
 (decide (sizeA x i ≥ 0) = true ∧ decide (sizeA x i < least) = true ∧ decide (bestTo x os least i < 0) = true ∧ canS x i os = false ∧ bestTo x os least (i + 1) = bestTo x os least i) ∨
 (decide (sizeA x i ≥ 0) = true ∧ decide (sizeA x i < least) = true ∧ decide (bestTo x os least i < 0) = true ∧ canS x i os = true ∧ bestTo x os least (i + 1) = (i : Int)) ∨
 (decide (sizeA x i ≥ 0) = true ∧ decide (sizeA x i < least) = true ∧ decide (bestTo x os least i < 0) = false ∧ (∃ k : Nat, bestTo x os least i = (k : Int)) ∧ decide (sizeA x i < sizeA x (bestTo x os least i).toNat) = false ∧ bestTo x os least (i + 1) = bestTo x os least i) ∨
 (decide (sizeA x i ≥ 0) = true ∧ decide (sizeA x i < least) = true ∧ decide (bestTo x os least i < 0) = false ∧ (∃ k : Nat, bestTo x os least i = (k : Int)) ∧ decide (sizeA x i < sizeA x (bestTo x os least i).toNat) = true ∧ canS x i os = false ∧ bestTo x os least (i + 1) = bestTo x os least i) ∨
 (decide (sizeA x i ≥ 0) = true ∧ decide (sizeA x i < least) = true ∧ decide (bestTo x os least i < 0) = false ∧ (∃ k : Nat, bestTo x os least i = (k : Int)) ∧ decide (sizeA x i < sizeA x (bestTo x os least i).toNat) = true ∧ canS x i os = true ∧ bestTo x os least (i + 1) = (i : Int)) := by
 have no : pickP x os least (bestTo x os least i) i = false → bestTo x os least (i + 1) = bestTo x os least i := best_n
 have yes : pickP x os least (bestTo x os least i) i = true → bestTo x os least (i + 1) = (i : Int) := best_y
 have hf := best_form x os least i
 generalize bestTo x os least (i + 1) = b1 at *
 generalize bestTo x os least i = b at *
 unfold pickP at no yes
 cases h0 : decide (sizeA x i ≥ 0)
 · have hc : canS x i os = false := by
    cases hc : canS x i os
    · rfl
    · have := (can_ge hl hc).2
      simp at h0
      omega
   exact .inl ⟨rfl, hc, no (by rw [hc, Bool.and_false])⟩
 · right
   cases h1 : decide (sizeA x i < least)
   · exact .inl ⟨rfl, rfl, no (by rw [h1]; rfl)⟩
   · right
     rcases hf with hb | ⟨k, _, hb, _⟩
     · have h2 : decide (b < 0) = true := by rw [hb]; rfl
       cases hc : canS x i os
       · exact .inl ⟨rfl, rfl, h2, rfl, no (by rw [hc, Bool.and_false])⟩
       · exact .inr (.inl ⟨rfl, rfl, h2, rfl, yes (by rw [h1, h2, hc]; rfl)⟩)
     · have h2 : decide (b < 0) = false := by rw [hb]; simp
       right; right
       cases h3 : decide (sizeA x i < sizeA x b.toNat)
       · exact .inl ⟨rfl, rfl, h2, ⟨k, hb⟩, rfl, no (by rw [h1, h2, h3]; rfl)⟩
       · right
         cases hc : canS x i os
         · exact .inl ⟨rfl, rfl, h2, ⟨k, hb⟩, rfl, rfl, no (by rw [hc, Bool.and_false])⟩
         · exact .inr ⟨rfl, rfl, h2, ⟨k, hb⟩, rfl, rfl, yes (by rw [h1, h2, h3, hc]; rfl)⟩

end Go.Proofs.YtpffahmmklpifaaGreat.Abs

/- A row's trees told as lists that stay; parts of rows lent and copied. -/
namespace Go.Proofs.YtpffahmmklpifaaGreat.Abs
open Go.Proofs Go.RowKit
set_option linter.unusedVariables false
set_option linter.unusedSimpArgs false
set_option maxRecDepth 100000
set_option maxHeartbeats 2000000
section
variable {P : Program} {E : Env} {tm : List AV} {M : Mem} {o : Oper} {w w0 : World} {Fx : Nat → Prop} {β : List Hd} {base : Nat}
theorem HS.ice {id : Nat} {b : Blk} {es2 : List (List AV)} (hh : HS base w0 w Fx β M) (hM : M[id]? = some (some b)) (hb : b.box = false) (hc : DCl b.es) (he : undpR b.es = es2) :
 ∃ (Fx' : Nat → Prop) (β' : List Hd), HS base w0 w Fx' β' (M.set id (some { b with es := es2 })) ∧ Mv w Fx β (gens M) w Fx' β' (gens (M.set id (some { b with es := es2 }))) ∧
  (∀ k, Fx' k → Fx k ∨ ∃ v : Hd, β[id]? = some v ∧ v.has k) ∧ (∀ (i : Nat) (b1 : Blk) (v1 : Hd) (k : Nat), (M.set id (some { b with es := es2 }))[i]? = some (some b1) → β'[i]? = some v1 → v1.has k → ∃ (b0 : Blk) (v0 : Hd), M[i]? = some (some b0) ∧ β[i]? = some v0 ∧ v0.has k) := by
 subst he
 obtain ⟨u, hv, hok⟩ := hh.blk id b hM
 have hok2 := hok.2
 rw [hb] at hok2
 obtain ⟨xs, ho, c1, c2, pc, c3, c4, c5⟩ := hok2
 have hil : id < β.length := (List.getElem?_eq_some_iff.1 hv).1
 have hG : gens (M.set id (some { b with es := undpR b.es })) = gens M := gens_set hM rfl
 have old : ∀ {i : Nat} {b1 : Blk}, (M.set id (some { b with es := undpR b.es }))[i]? = some (some b1) → (i = id ∧ b1 = { b with es := undpR b.es }) ∨ (i ≠ id ∧ M[i]? = some (some b1)) := fun {i b1} h => by
  rcases set_get h with ⟨e, e2, _⟩ | h
  · exact .inl ⟨e, Option.some.inj e2⟩
  · exact .inr h
 have hβ : ∀ {i : Nat}, i ≠ id → (β.set id (Hd.flat u.v))[i]? = β[i]? := fun {i} h => List.getElem?_set_ne (fun e => h e.symm)
 have hβi : (β.set id (Hd.flat u.v))[id]? = some (Hd.flat u.v) := by rw [List.getElem?_set_self hil]
 have m : Mv w Fx β (gens M) w (fun k => Fx k ∨ ∃ i j, pc i j k) (β.set id (Hd.flat u.v)) (gens (M.set id (some { b with es := undpR b.es }))) := by
  rw [hG]
  refine ⟨fun k h => .inl h, fun k h => rfl, Nat.le_refl _, fun i g' hi hg' => ⟨g', hg', Nat.le_refl _, fun _ => ?_⟩⟩
  by_cases e : i = id
  · subst e; rw [hβi, hv]; rfl
  · rw [hβ e]
 have hpc : ∀ i j k, pc i j k → u.has k := fun i j k h => .inr (c3 i j k h).1
 have lift : ∀ {i : Nat} {v1 : Hd} {k : Nat}, (β.set id (Hd.flat u.v))[i]? = some v1 → v1.has k → ∃ v0, β[i]? = some v0 ∧ v0.has k := fun {i v1 k} h hk => by
  by_cases e : i = id
  · subst e
    rw [hβi] at h
    obtain rfl := Option.some.inj h
    exact ⟨u, hv, .inl (Hd.flat_has.1 hk)⟩
  · rw [hβ e] at h
    exact ⟨v1, h, hk⟩
 refine ⟨_, _, ⟨hh.bel, hh.bs, fun k hk => ?_, by simp [hh.len], fun i b1 h1 => ?_, fun i1 i2 b1 b2 v1 v2 k hne h1 h2 hv1 hv2 hk1 hk2 => ?_⟩, m, fun k hk => hk.imp (fun x => x) fun ⟨i, j, hp⟩ => ⟨u, hv, hpc i j k hp⟩, fun i b1 v1 k h1 hv1 hk => ?_⟩
 · rcases hk with hk | ⟨i, j, hp⟩
   · exact hh.fx k hk
   · exact (hok.1 k (hpc i j k hp)).2.1
 · rw [hG]
   rcases old h1 with ⟨rfl, rfl⟩ | ⟨hne, h1⟩
   · refine ⟨_, hβi, fun k hk => ?_, ?_⟩
     · have hk := Hd.flat_has.1 hk
       refine ⟨(hok.1 k (.inl hk)).1, (hok.1 k (.inl hk)).2.1, fun hF => ?_⟩
       rcases hF with hF | ⟨p, q, hp⟩
       · exact (hok.1 k (.inl hk)).2.2 hF
       · exact (c3 p q k hp).2 hk
     · show if b.box = true then _ else _
       rw [if_neg (by rw [hb]; decide)]
       refine ⟨xs, by rw [undpR_length]; exact ho, by rw [undpR_length]; exact c1, fun q r hr => ?_, fun _ _ _ => False, fun _ _ _ h => h.elim, fun _ _ _ _ _ h => h.elim, fun q r j d hr hx => ?_⟩
       · obtain ⟨r0, hr0, rfl⟩ := undpR_get hr
         refine ⟨by rw [List.length_map]; exact (c2 q r0 hr0).1, fun j x hx => ?_⟩
         obtain ⟨x0, hx0, rfl⟩ := map_get_of hx
         obtain ⟨y, hy, h1y, hR⟩ := (c2 q r0 hr0).2 j x0 hx0
         refine ⟨y, hy, h1y, fun _ => ?_⟩
         have hcd := hc r0 (List.mem_of_getElem? hr0) x0 (List.mem_of_getElem? hx0)
         cases x0 with
         | c z => exact (hR rfl).mv (hG ▸ m)
         | dp d =>
          obtain ⟨y', hy', hRD⟩ := c5 q r0 j d hr0 hx0
          rw [hy] at hy'
          obtain rfl := Option.some.inj hy'
          exact (hRD.strip.rep (Fc := fun k => Fx k ∨ ∃ i j, pc i j k) fun k hk => .inr ⟨q, j, hk⟩).of_clo
         | _ => simp [isCD] at hcd
       · obtain ⟨r0, hr0, rfl⟩ := undpR_get hr
         obtain ⟨x0, hx0, e⟩ := map_get_of hx
         have hcd := hc r0 (List.mem_of_getElem? hr0) x0 (List.mem_of_getElem? hx0)
         cases x0 with
         | c z => simp [undp] at e
         | dp d =>
          obtain ⟨y', hy', hRD⟩ := c5 q r0 j d hr0 hx0
          have h2 := hRD.strip
          rw [← e] at h2
          cases h2
         | _ => simp [isCD] at hcd
   · obtain ⟨v1, hv1, hok1⟩ := hh.blk i b1 h1
     refine ⟨v1, (hβ hne).trans hv1, hok1.mv (hG ▸ m) (Nat.le_refl _) (fun k hk => rfl) (fun k hk hF => ?_)⟩
     rcases hF with hF | ⟨p, q, hp⟩
     · exact (hok1.1 k hk).2.2 hF
     · exact hh.inj i id b1 b v1 u k hne h1 hM hv1 hv hk (hpc p q k hp)
 · obtain ⟨v1', g1, k1⟩ := lift hv1 hk1
   obtain ⟨v2', g2, k2⟩ := lift hv2 hk2
   have m1 : ∃ c1, M[i1]? = some (some c1) := by rcases old h1 with ⟨rfl, _⟩ | ⟨_, h⟩ <;> first | exact ⟨_, hM⟩ | exact ⟨_, h⟩
   have m2 : ∃ c2, M[i2]? = some (some c2) := by rcases old h2 with ⟨rfl, _⟩ | ⟨_, h⟩ <;> first | exact ⟨_, hM⟩ | exact ⟨_, h⟩
   obtain ⟨d1, m1⟩ := m1
   obtain ⟨d2, m2⟩ := m2
   exact hh.inj i1 i2 d1 d2 v1' v2' k hne m1 m2 g1 g2 k1 k2
 · obtain ⟨v0, g, k0⟩ := lift hv1 hk
   rcases old h1 with ⟨rfl, _⟩ | ⟨_, h⟩
   · exact ⟨b, v0, hM, g, k0⟩
   · exact ⟨b1, v0, h, g, k0⟩
theorem Sim.ice {a : Act} {id : Nat} {b : Blk} {es2 : List (List AV)} (h : Sim E tm M a w) (hM : M[id]? = some (some b)) (hb : b.box = false) (hc : DCl b.es) (he : undpR b.es = es2) : Sim E tm (M.set id (some { b with es := es2 })) a w := by
 obtain ⟨hd, Fx, β, hh, ho, hsl⟩ := h
 obtain ⟨Fx', β', hh', m, lim, own⟩ := hh.ice hM hb hc he
 refine ⟨hd, Fx', β', hh', ⟨ho.mv.trans m, ho.size, fun k hk => ?_, fun i b1 v1 k g1 g2 g3 => ?_⟩, hsl.1, fun t x u hx hu => (hsl.2 t x u hx hu).mv m⟩
 · rcases lim k hk with hk | ⟨v, hv, hk⟩
   · exact ho.lim k hk
   · exact .inr (ho.own id b v k hM hv hk)
 · obtain ⟨b0, v0, q1, q2, q3⟩ := own i b1 v1 k g1 g2 g3
   exact ho.own i b0 v0 k q1 q2 q3
theorem AW.ice {id : Nat} {b : Blk} {es2 : List (List AV)} {c : Code} {Qx : XPost} (hM : M[id]? = some (some b)) (hb : b.box = false) (hc : DCl b.es) (he : undpR b.es = es2) (h : AW P c E tm (M.set id (some { b with es := es2 })) Qx) : AW P c E tm M Qx :=
 fun a w Q hs k => h a w Q (hs.ice hM hb hc he) k
theorem AL.ice {ops : Array Oper} {rest : List Oper} {N : NPost} {id : Nat} {b : Blk} {es2 : List (List AV)} (hM : M[id]? = some (some b)) (hb : b.box = false) (hc : DCl b.es) (he : undpR b.es = es2) (h : AL P ops rest E tm (M.set id (some { b with es := es2 })) N) : AL P ops rest E tm M N :=
 fun a w Q hs k => h a w Q (hs.ice hM hb hc he) k
theorem View.subC {id g sz i m : Nat} {b : Blk} {es' : List (List AV)} (hM : M[id]? = some (some b)) (hg : b.gen = g) (hb : b.box = false) (hsz : b.sz = sz) (hc : ∀ r ∈ b.es, ∀ x ∈ r, Clo x) (him : i + m ≤ b.es.length) (he : (b.es.drop i).take m = es') : View M (.sub id g sz i m) (.ro sz es') := he ▸ fun base w0 w Fx β Fc u hh hF hown hr => by
 cases hr with
 | sub ho1 hi hg1 h =>
  obtain ⟨v, ad, cap, hvv, rfl, hmc, hm, ha⟩ := h (by rw [← hg]; exact gens_of hM)
  obtain ⟨v', hv', hok⟩ := hh.blk id b hM
  rw [hvv] at hv'
  obtain rfl := Option.some.inj hv'
  have hR := hh.rowRep (Fx' := Fc) hM hb hc hF hvv fun k hk => hown id b v k hM hvv hk
  have hlen : ((b.es.drop i).take m).length = m := by rw [List.length_take, List.length_drop]; omega
  subst hsz
  obtain ⟨_, h2⟩ := hok
  rw [hb] at h2
  obtain ⟨xs, hown', _⟩ := h2
  have get : ∀ {q : Nat} {r : List AV}, ((b.es.drop i).take m)[q]? = some r → q < m ∧ b.es[q + i]? = some r := fun {q r} hq => by
   have hlt : q < m := by rw [← hlen]; exact (List.getElem?_eq_some_iff.1 hq).1
   refine ⟨hlt, ?_⟩
   rw [List.getElem?_take, if_pos hlt, List.getElem?_drop] at hq
   rw [Nat.add_comm q i]
   exact hq
  generalize hvd : v.v = vv at hR ha hown'
  cases hR with
  | @ro _ _ A cap' f hc' hm' hA hl h1c h =>
   have : Rep w Fc [] [] (.ro b.sz ((b.es.drop i).take m)) (.slice ad ((b.es.drop i).take m).length cap) := by
    refine .ro (fun q j => f (q + i) j) (by rw [hlen]; exact hmc) (by rw [hlen]; exact hm) (fun hp => ?_) (fun q r hq => hl (q + i) r (get hq).2) (fun q j => h1c _ _) (fun q r j z hq hz => h (q + i) r j z (get hq).2 hz)
    rw [hlen] at hp
    obtain ⟨bk, hbk, rfl⟩ := ha hp
    obtain ⟨ad0, e0, hF0, hcell⟩ := hA (by omega)
    rcases hown'.2 with ⟨e, _⟩ | ⟨g', cap2, cur, e, _⟩
    · simp only [Value.slice.injEq] at e
      rw [e0] at e
      cases e.1
    · simp only [Value.slice.injEq] at e
      rw [e0] at e
      cases e.1
      rw [e0] at hbk
      simp [blockOf] at hbk
      subst hbk
      refine ⟨_, rfl, hF0, fun q r j hq hj => ?_⟩
      have := hcell (q + i) r j (get hq).2 hj
      rw [Addr.add_mid, Nat.zero_add] at this
      rw [Addr.add_mid, show i * b.sz + (q * b.sz + j) = (q + i) * b.sz + j by rw [Nat.add_mul]; omega]
      exact this
   rwa [hlen] at this
theorem DLR.appendSub {ops : Array Oper} {rest : List Oper} {ch : List (Option Nat)} {Y : Mem} {N : Mem → List AV → Prop} {s x : Operand} {t e : TypeId} {sz bytes i id g id2 g2 i2 m2 : Nat} {zs : List Value} {b b2 : Blk} {es : List (List AV)} (hg0 : o.guard = none) (ho : o.op = .call { callee := .builtin .append, args := #[s, x], argTypes := #[t, t] }) (hr : rwk P t = some (e, sz, bytes, zs))
 (hs : evA (msk (o.looksAt ops) tm) s = some (.own id g)) (hY : Y[i]? = some (some b)) (hid : id = M.length + i) (hg : b.gen = g) (hb : b.box = false) (hty : b.ty = e) (hbs : b.sz = sz) (hx : evA (msk (o.looksAt ops) tm) x = some (.sub id2 g2 sz i2 m2))
 (hM2 : M[id2]? = some (some b2)) (hg2 : b2.gen = g2) (hb2 : b2.box = false) (hs2 : b2.sz = sz) (him : i2 + m2 ≤ b2.es.length) (hnd : ∀ r ∈ b2.es, ∀ x ∈ r, rdb x = true) (hes : ((b2.es.drop i2).take m2).map (·.map Abs.cpy) = es)
 (hlen : (b.es.length + es.length) * bytes ≤ 140737488355328) (hm : b.es.length + es.length ≤ maxLen) (hN : DLR P ops E M rest ch (dput tm o.dst (.own id (g + 1))) (Y.set i (some { b with es := b.es ++ es, gen := b.gen + 1 })) N) : DLR P ops E M (o :: rest) (some i :: ch) tm Y N := by
 subst hid hes
 exact ⟨hg0, _, _, _, hY, fun Y' hY' => set_y (M := M) (Y' := Y') ▸ POp.append ho hr hs (at_y hY') hg hb hty hbs hx (SrcA.sub (by rw [List.getElem?_append_left (List.getElem?_eq_some_iff.1 hM2).1]; exact hM2) hg2 hb2 hs2 him hnd) hlen hm, hN⟩
theorem SrcA.subE {sz id g i m : Nat} {b : Blk} {es : List (List AV)} (hM : M[id]? = some (some b)) (hg : b.gen = g) (hb : b.box = false) (hs : b.sz = sz) (him : i + m ≤ b.es.length) (hnd : ∀ r ∈ b.es, ∀ x ∈ r, rdb x = true) (hes : ((b.es.drop i).take m).map (·.map Abs.cpy) = es) : SrcA M sz (.sub id g sz i m) es := hes ▸ SrcA.sub hM hg hb hs him hnd
end

end Go.Proofs.YtpffahmmklpifaaGreat.Abs

/- All features shrunk: plain. -/
namespace Go.Proofs.YtpffahmmklpifaaGreat.Abs
open Go.Proofs Go.RowKit
set_option linter.unusedVariables false
set_option linter.unusedSimpArgs false
set_option maxRecDepth 100000
set_option maxHeartbeats 2000000
attribute [local irreducible] OpA AL AW DL DLM DLR DLS QOp POp VCalls VCallsI
theorem shr_ind {os : List TFeature} {least : Int} {Q : TFeature → Prop} (h : ∀ x i, Q x → Q (dfF x i)) : ∀ (n : Nat) (x : TFeature), x.points.length ≤ n → Q x → Q (shr os least x)
 | n, x, hn, hx => by
  rw [shr]
  split
  · rename_i hc
    cases n with
    | zero => omega
    | succ n => exact shr_ind h n _ (by omega) (h _ _ hx)
  · exact hx
theorem shr_gd {x : TFeature} (os : List TFeature) (least : Int) (h : x.gd) : (shr os least x).gd := shr_ind (Q := fun x => x.gd) (fun _ i h => dfF_gd h i) _ x (Nat.le_refl _) h
theorem shr_feat {x : TFeature} (os : List TFeature) (least : Int) (h : isFeat x = true) : isFeat (shr os least x) = true := shr_ind (Q := fun x => isFeat x = true) (fun _ i h => dfF_feat h i) _ x (Nat.le_refl _) h
theorem shr_same (x : TFeature) (os : List TFeature) (least : Int) : (shr os least x).id = x.id ∧ (shr os least x).kind = x.kind ∧ (shr os least x).rank = x.rank ∧ (shr os least x).name = x.name :=
 shr_ind (Q := fun y => y.id = x.id ∧ y.kind = x.kind ∧ y.rank = x.rank ∧ y.name = x.name) (fun y i h => by
  obtain ⟨a, b, c, d⟩ := dfF_same y i
  exact ⟨a.trans h.1, b.trans h.2.1, c.trans h.2.2.1, d.trans h.2.2.2⟩) _ x (Nat.le_refl _) ⟨rfl, rfl, rfl, rfl⟩
def oth (s : List TFeature) (i : Nat) : List TFeature := s.take i ++ s.drop (i + 1)
def skA (l : List TFeature) (least : Int) : Nat → List TFeature
 | 0 => l
 | i + 1 => match (skA l least i)[i]? with
  | some x => (skA l least i).set i (shr (oth (skA l least i) i) least x)
  | none => skA l least i
theorem skA_succ {l : List TFeature} {least : Int} {i : Nat} {x : TFeature} (hx : (skA l least i)[i]? = some x) : skA l least (i + 1) = (skA l least i).set i (shr (oth (skA l least i) i) least x) := by rw [skA, hx]
theorem skA_len (l : List TFeature) (least : Int) : ∀ i, (skA l least i).length = l.length
 | 0 => rfl
 | i + 1 => by
  rw [skA]
  split
  · rw [List.length_set]; exact skA_len l least i
  · exact skA_len l least i
theorem skA_all {l : List TFeature} {least : Int} {Q : TFeature → Prop} (h : ∀ x os, Q x → Q (shr os least x)) (h0 : ∀ x ∈ l, Q x) : ∀ i, ∀ x ∈ skA l least i, Q x
 | 0 => h0
 | i + 1 => fun x hx => by
  rw [skA] at hx
  split at hx
  · rename_i y hy
    rcases List.mem_or_eq_of_mem_set hx with hx | rfl
    · exact skA_all h h0 i x hx
    · exact h _ _ (skA_all h h0 i y (List.mem_of_getElem? hy))
  · exact skA_all h h0 i x hx
theorem skA_gd {l : List TFeature} (least : Int) (h : ∀ x ∈ l, x.gd) (i : Nat) : ∀ x ∈ skA l least i, x.gd := skA_all (fun _ os h => shr_gd os least h) h i
theorem skA_feat {l : List TFeature} (least : Int) (h : ∀ x ∈ l, isFeat x = true) (i : Nat) : ∀ x ∈ skA l least i, isFeat x = true := skA_all (Q := fun x => isFeat x = true) (fun _ os h => shr_feat os least h) h i
theorem skA_map {α : Type} (f : TFeature → α) (hf : ∀ x y : TFeature, y.id = x.id → y.kind = x.kind → y.rank = x.rank → y.name = x.name → f y = f x) (l : List TFeature) (least : Int) : ∀ i, (skA l least i).map f = l.map f
 | 0 => rfl
 | i + 1 => by
  rw [skA]
  split
  · rename_i y hy
    rw [List.map_set, ← skA_map f hf l least i]
    obtain ⟨a, b, c, d⟩ := shr_same y (oth (skA l least i) i) least
    rw [hf y _ a b c d]
    refine List.ext_getElem? fun j => ?_
    rw [List.getElem?_set]
    split
    · rename_i e
      subst e
      rw [List.getElem?_map, hy]
      have := (List.getElem?_eq_some_iff.1 hy).1
      rw [List.length_map, if_pos this]; rfl
    · rfl
  · exact skA_map f hf l least i
theorem skA_src {l : List TFeature} (least : Int) (h : isSource l = true) (i : Nat) : isSource (skA l least i) = true := by
 obtain ⟨h1, h2, h3⟩ := (src_iff l).1 h
 refine (src_iff _).2 ⟨by rw [skA_len]; exact h1, skA_feat least h2 i, ?_⟩
 have e := skA_map (·.id) (fun _ _ a _ _ _ => a) l least i
 have h4 : (l.map (·.id)).Pairwise (· < ·) := List.pairwise_map.2 h3
 rw [← e] at h4
 exact List.pairwise_map.1 h4
theorem oth_map (s : List TFeature) (i : Nat) : (s.take i).map TFeature.en ++ (s.drop (i + 1)).map TFeature.en = (oth s i).map TFeature.en := by rw [oth, List.map_append]
theorem oth_mem {s : List TFeature} {i : Nat} {x : TFeature} (h : x ∈ oth s i) : x ∈ s := by
 rw [oth, List.mem_append] at h
 exact h.elim List.mem_of_mem_take List.mem_of_mem_drop
theorem oth_len (s : List TFeature) (i : Nat) : (oth s i).length ≤ s.length := by rw [oth, List.length_append, List.length_take, List.length_drop]; omega
theorem skA_set {l : List TFeature} {least : Int} {i : Nat} {x : TFeature} (hx : (skA l least i)[i]? = some x) : (skA l least (i + 1)).map TFeature.en = ((skA l least i).map TFeature.en).set i (shr (oth (skA l least i) i) least x).en := by
 rw [skA_succ hx, List.map_set]
def shAll (l : List TFeature) (least : Int) : List TFeature := if isSource l = true then skA l least l.length else l
theorem shAll_t {l : List TFeature} {least : Int} (h : isSource l = true) : shAll l least = skA l least l.length := by rw [shAll, if_pos h]
theorem shAll_f {l : List TFeature} {least : Int} (h : isSource l = false) : shAll l least = l := by rw [shAll, if_neg (by rw [h]; decide)]
theorem shAll_src {l : List TFeature} (least : Int) (h : isSource l = true) : isSource (shAll l least) = true := by rw [shAll_t h]; exact skA_src least h _
theorem shAll_gd {l : List TFeature} (least : Int) (h : ∀ x ∈ l, x.gd) : ∀ x ∈ shAll l least, x.gd := by
 unfold shAll
 split
 · exact skA_gd least h _
 · exact h
theorem sub_en0 (s : List TFeature) (m : Nat) : (((s.map TFeature.en).drop 0).take m) = (s.take m).map TFeature.en := by rw [List.drop_zero, List.map_take]
theorem sub_enE (s : List TFeature) (i : Nat) : (((s.map TFeature.en).drop i).take ((s.map TFeature.en).length - i)) = (s.drop i).map TFeature.en := by
 rw [List.map_drop, List.take_of_length_le]
 rw [List.length_drop]; exact Nat.le_refl _
def ctL {α : Type} (ct : α → Nat) : List α → Nat
 | [] => 0
 | x :: l => ct x + ctL ct l
def mkL {α : Type} (mk : Int → α → α) (ct : α → Nat) : Int → List α → List α
 | _, [] => []
 | k, x :: l => mk k x :: mkL mk ct (k + (ct x : Nat)) l
def mkd {α : Type} (mk : Int → α → α) (ct : α → Nat) (k : Int) (l : List α) (i : Nat) : List α := mkL mk ct k (l.take i) ++ l.drop i
section
variable {α : Type} {mk : Int → α → α} {ct : α → Nat} {l : List α} {i : Nat} {x : α}
theorem ctL_app : ∀ (a b : List α), ctL ct (a ++ b) = ctL ct a + ctL ct b
 | [], b => by simp [ctL]
 | x :: a, b => by rw [List.cons_append, ctL, ctL, ctL_app a b]; omega
theorem mkL_len : ∀ (k : Int) (l : List α), (mkL mk ct k l).length = l.length
 | _, [] => rfl
 | k, x :: l => by rw [mkL, List.length_cons, List.length_cons, mkL_len]
theorem mkL_app : ∀ (k : Int) (a b : List α), mkL mk ct k (a ++ b) = mkL mk ct k a ++ mkL mk ct (k + (ctL ct a : Nat)) b
 | k, [], b => by simp [mkL, ctL]
 | k, x :: a, b => by
  rw [List.cons_append, mkL, mkL, mkL_app, List.cons_append, ctL]
  have e : k + ((ct x : Nat) : Int) + ((ctL ct a : Nat) : Int) = k + ((ct x + ctL ct a : Nat) : Int) := by omega
  rw [e]
theorem ctL_take (h : l[i]? = some x) : ctL ct (l.take (i + 1)) = ctL ct (l.take i) + ct x := by rw [take_succ_of h, ctL_app, ctL, ctL]; omega
theorem ctL_le (h : l[i]? = some x) : ctL ct (l.take i) + ct x ≤ ctL ct l := by
 rw [← ctL_take h]
 have := ctL_app (ct := ct) (l.take (i + 1)) (l.drop (i + 1))
 rw [List.take_append_drop] at this
 omega
theorem len_ctL (h1 : ∀ x, 1 ≤ ct x) : ∀ l : List α, l.length ≤ ctL ct l
 | [] => Nat.le_refl _
 | x :: l => by rw [List.length_cons, ctL]; have := len_ctL h1 l; have := h1 x; omega
theorem mkd_zero {k : Int} : mkd mk ct k l 0 = l := by simp [mkd, mkL]
theorem mkd_all {k : Int} : mkd mk ct k l l.length = mkL mk ct k l := by simp [mkd]
theorem mkd_len {k : Int} (h : i ≤ l.length) : (mkd mk ct k l i).length = l.length := by
 simp [mkd, mkL_len]
 omega
theorem mkd_get {k : Int} (h : l[i]? = some x) : (mkd mk ct k l i)[i]? = some x := by
 have hlt : i < l.length := (List.getElem?_eq_some_iff.1 h).1
 rw [mkd, List.getElem?_append_right (by rw [mkL_len, List.length_take]; omega), mkL_len, List.length_take, List.getElem?_drop, ← h]
 congr 1
 omega
theorem mkd_succ {k : Int} (h : l[i]? = some x) : mkd mk ct k l (i + 1) = (mkd mk ct k l i).set i (mk (k + (ctL ct (l.take i) : Nat)) x) := by
 have hlt : i < l.length := (List.getElem?_eq_some_iff.1 h).1
 have hl : (mkL mk ct k (l.take i)).length = i := by rw [mkL_len, List.length_take]; omega
 have hd : l.drop i = x :: l.drop (i + 1) := by
  rw [List.getElem?_eq_getElem hlt] at h
  rw [List.drop_eq_getElem_cons hlt, Option.some.inj h]
 rw [mkd, mkd, List.set_append, if_neg (by omega), hl, Nat.sub_self, hd, List.set_cons_zero, take_succ_of h, mkL_app, mkL, mkL, List.append_assoc]
 rfl
theorem mkL_get {k : Int} (h : l[i]? = some x) : (mkL mk ct k l)[i]? = some (mk (k + (ctL ct (l.take i) : Nat)) x) := by
 have hlt : i < l.length := (List.getElem?_eq_some_iff.1 h).1
 have e : mkL mk ct k l = mkd mk ct k l l.length := mkd_all.symm
 have e2 := mkL_app (mk := mk) (ct := ct) k (l.take (i + 1)) (l.drop (i + 1))
 rw [List.take_append_drop] at e2
 rw [e2, take_succ_of h, mkL_app, List.append_assoc, List.getElem?_append_right (by rw [mkL_len, List.length_take]; omega), mkL_len, List.length_take]
 have e3 : i - min i l.length = 0 := by omega
 rw [e3, mkL]
 rfl
end
theorem ctL_bd {α : Type} {ct : α → Nat} {c : Nat} : ∀ {l : List α}, (∀ x ∈ l, ct x ≤ c) → ctL ct l ≤ l.length * c
 | [], _ => by simp [ctL]
 | x :: l, h => by
  rw [ctL, List.length_cons, Nat.add_mul]
  have h1 := h x List.mem_cons_self
  have h2 := ctL_bd (ct := ct) (c := c) (l := l) (fun y hy => h y (List.mem_cons_of_mem _ hy))
  omega
theorem set_self_of {α : Type} {A : List α} {i : Nat} {r : α} (h : A[i]? = some r) : A.set i r = A := by
 obtain ⟨hlt, rfl⟩ := List.getElem?_eq_some_iff.1 h
 exact List.set_getElem_self hlt
theorem toNat_ix (i : Nat) : ((i : Int)).toNat = i := Int.toNat_natCast i
def dgt (n : Nat) : UInt8 := UInt8.ofNat (48 + n % 10)
def dgs (n : Nat) (out : ByteArray) : ByteArray := if h : n = 0 then out else dgs (n / 10) (⟨#[dgt n]⟩ ++ out)
termination_by n
decreasing_by omega
def mtx (k : Int) : ByteArray := if k ≤ 0 then ⟨#[109, 48]⟩ else ⟨#[109]⟩ ++ dgs k.toNat ⟨#[]⟩
theorem dgs_zero (out : ByteArray) : dgs 0 out = out := by unfold dgs; simp
theorem dgs_pos {n : Nat} (h : n ≠ 0) (out : ByteArray) : dgs n out = dgs (n / 10) (⟨#[dgt n]⟩ ++ out) := by rw [dgs]; simp [h]
theorem dgt_val (n : Nat) : (((dgt n).toNat : Nat) : Int) = 48 + ((n % 10 : Nat) : Int) := by
 unfold dgt
 have h1 : n % 10 < 10 := Nat.mod_lt _ (by omega)
 have h2 : (UInt8.ofNat (48 + n % 10)).toNat = 48 + n % 10 := by simp; omega
 rw [h2]
 omega
theorem dcl_fil {α : Type} {en : α → List AV} {z : List AV} {l : List α} {i : Nat} (h : ∀ a, (en a).all isCD = true) (hz : z.all isCD = true) : DCl (fil en z l i) := DCl.app (DCl.map h) (DCl.rep hz)
theorem toPointS_o (l : List TPoint) (hl : l.length ≤ 1048576) : VCalls Tryz.prog 138 [.ro 2 (l.map TPoint.en)] (fun r M => r = .own 0 0 ∧ M = [some ⟨141, 2, 0, false, l.map TPoint.en⟩]) := by
 refine VB Tryz.func138 22 (fun E hE => ?_)
 repeat' ((first
  | (refine iAL ?_; first | refine AL.any ?_ | refine AL.any (h := POp.k Tryz.func207 (hc := toPoint x)) ?_ | refine AL.nil ?_)
  | (refine iAW ?_; first | (refine AW.c0 ?_; constructor) | refine AW.cT ?_ | refine AW.cF ?_)
  | (
 refine AW.loopD hE (fun i : Nat => [.ro 2 (l.map TPoint.en), .any, .any, .own 0 0, I i, .any, .any, .any, .any, .any, .any, .any, .any, .any, .any, .any, .any, .any, .any, .any, .any, .any, .any]) (fun i => [some ⟨141, 2, 0, false, fil TPoint.en [I 0, I 0] l i⟩]) (fun i => l.length - i) (fun i => i ≤ l.length) 0 (by simp) ?_ (by first | rfl | (simp [fil_zero]; done)) ?_
 (focus (exact wkI))
 intro i hi
 have hclo : Clo (.ro 2 (l.map TPoint.en)) := clo_list TPoint.clo_en
 by_cases hlt : i < l.length
 case' pos =>
  have hP := True.intro
  obtain ⟨x, hx⟩ : ∃ x, l[i]? = some x := ⟨_, List.getElem?_eq_getElem hlt⟩
  have hg := map_get (f := TPoint.en) hx
  have ht := lt_true (f := TPoint.en) hlt
  have hn := next_ix hlt (by omega)
  have hz := fil_get (en := TPoint.en) (z := [I 0, I 0]) hlt
  have ha := fil_at (en := TPoint.en) (z := [I 0, I 0]) hlt
  have hs := fil_set (en := TPoint.en) (z := [I 0, I 0]) hx
 case' neg =>
  have hQ := True.intro
  have ht := lt_false (f := TPoint.en) hlt
  have e : i = l.length := by omega
  subst e
  try rw [List.take_length])) <;> (try dsimp only))
 all_goals first
  | (have _ := hP; (refine ⟨i + 1, [], hlt, by omega, ?_, by rw [← hs] <;> rfl, ?_, ?_⟩; (focus (exact wkN)); (focus (exact fitsA)); (focus (exact fits_dcl (dcl_fil (fun _ => rfl) rfl)))))
  | (have _ := hQ; (simp only [fil_all]; exact Fin.r1 [0] rfl (RV.tmp (by rfl)) ⟨rfl, rfl⟩))

def TFeature.eo (a : TFeature) : List AV := [I a.id, I a.kind, I a.rank, S a.name, .own 0 0]
def TFeature.rw (a : TFeature) : Mem := [some ⟨141, 2, 0, false, a.points.map TPoint.en⟩]
theorem toFeature_o (x : TFeature) (hs : x.sm) : VCalls Tryz.prog 73 [.agg x.en] (fun r M => r = .agg x.eo ∧ M = x.rw) := by
 refine VB Tryz.func73 20 (fun E hE => ?_)
 have hclo0 : Clo (.ro 2 (x.points.map TPoint.en)) := clo_list TPoint.clo_en
 have hcle : Clo (.agg x.en) := Clo.agg x.clo_en
 have hs' := hs
 obtain hs4 := hs
 dsimp only [TFeature.en]
 repeat' ((first
  | (refine iAL ?_; first | refine AL.any ?_ | refine AL.any (h := POp.O Tryz.func138 (hc := toPointS_o _ (by assumption))) ?_ | refine AL.nil ?_)
  | (refine iAW ?_; (refine AW.c0 ?_; constructor))) <;> (try dsimp only))
 all_goals exact Fin.r1 [3] rfl (RV.cell (QOp.quietA TT_ok (by rfl))) ⟨rfl, rfl⟩

theorem toFeatureS_o (l : List TFeature) (hl : l.length ≤ 1048576) (hp : ∀ x ∈ l, x.sm) : VCalls Tryz.prog 19 [.ro 5 (l.map TFeature.en)] (fun r M => r = .own 0 0 ∧ M = [some ⟨81, 5, 0, false, l.map TFeature.ed⟩]) := by
 refine VB Tryz.func19 22 (fun E hE => ?_)
 repeat' ((first
  | (refine iAL ?_; first | refine AL.any (h := POp.gh POp.mk (Gh.absorbS (q := 0) (id := 1) (j := 4) rfl (by assumption) rfl rfl rfl rfl rfl (DCl.map (fun _ => rfl)) TPoint.und)) ?_ | refine AL.any ?_ | refine AL.any (h := POp.O Tryz.func73 (hc := toFeature_o x (by assumption))) ?_ | refine AL.nil ?_)
  | (refine iAW ?_; first | (refine AW.c0 ?_; constructor) | refine AW.cT ?_ | refine AW.cF ?_)
  | (
 refine AW.loopD hE (fun i : Nat => [.ro 5 (l.map TFeature.en), .any, .any, .own 0 0, I i, .any, .any, .any, .any, .any, .any, .any, .any, .any, .any, .any, .any, .any, .any, .any, .any, .any, .any]) (fun i => [some ⟨81, 5, 0, false, fil TFeature.ed [I 0, I 0, I 0, S ⟨#[]⟩, .c (.slice none 0 0)] l i⟩]) (fun i => l.length - i) (fun i => i ≤ l.length) 0 (by simp) ?_ (by first | rfl | (simp [fil_zero]; done)) ?_
 (focus (exact wkI))
 intro i hi
 have hclo : Clo (.ro 5 (l.map TFeature.en)) := clo_list TFeature.clo_en
 by_cases hlt : i < l.length
 case' pos =>
  have hP := True.intro
  obtain ⟨x, hx⟩ : ∃ x, l[i]? = some x := ⟨_, List.getElem?_eq_getElem hlt⟩
  have hg := map_get (f := TFeature.en) hx
  have ht := lt_true (f := TFeature.en) hlt
  have hn := next_ix hlt (by omega)
  have hz := fil_get (en := TFeature.ed) (z := [I 0, I 0, I 0, S ⟨#[]⟩, .c (.slice none 0 0)]) hlt
  have ha := fil_at (en := TFeature.ed) (z := [I 0, I 0, I 0, S ⟨#[]⟩, .c (.slice none 0 0)]) hlt
  have hs := fil_set (en := TFeature.ed) (z := [I 0, I 0, I 0, S ⟨#[]⟩, .c (.slice none 0 0)]) hx
  have hpx := hp x (List.mem_of_getElem? hx)
  have hclo0 : Clo (.ro 2 (x.points.map TPoint.en)) := clo_list TPoint.clo_en
  have hcle : Clo (.agg x.en) := Clo.agg x.clo_en
 case' neg =>
  have hQ := True.intro
  have ht := lt_false (f := TFeature.en) hlt
  have e : i = l.length := by omega
  subst e
  try rw [List.take_length])) <;> (try dsimp only))
 all_goals first
  | (have _ := hP; (refine ⟨i + 1, [none], hlt, by omega, ?_, by rw [← hs] <;> rfl, ?_, ?_⟩; (focus (exact wkN)); (focus (exact fitsA)); (focus (exact fits_dcl (dcl_fil (fun _ => rfl) rfl)))))
  | (have _ := hQ; (simp only [fil_all]; exact Fin.r1 [0] rfl (RV.tmp (by rfl)) ⟨rfl, rfl⟩))

theorem toLevelS_o (l : List TLevel) (hl : l.length ≤ 1048576) : VCalls Tryz.prog 25 [.ro 3 (l.map TLevel.en)] (fun r M => r = .own 0 0 ∧ M = [some ⟨47, 3, 0, false, l.map TLevel.en⟩]) := by
 refine VB Tryz.func25 22 (fun E hE => ?_)
 repeat' ((first
  | (refine iAL ?_; first | refine AL.any ?_ | refine AL.any (h := POp.k Tryz.func20 (hc := toLevel x)) ?_ | refine AL.nil ?_)
  | (refine iAW ?_; first | (refine AW.c0 ?_; constructor) | refine AW.cT ?_ | refine AW.cF ?_)
  | (
 refine AW.loopD hE (fun i : Nat => [.ro 3 (l.map TLevel.en), .any, .any, .own 0 0, I i, .any, .any, .any, .any, .any, .any, .any, .any, .any, .any, .any, .any, .any, .any, .any, .any, .any, .any]) (fun i => [some ⟨47, 3, 0, false, fil TLevel.en [I 0, I 0, I 0] l i⟩]) (fun i => l.length - i) (fun i => i ≤ l.length) 0 (by simp) ?_ (by first | rfl | (simp [fil_zero]; done)) ?_
 (focus (exact wkI))
 intro i hi
 have hclo : Clo (.ro 3 (l.map TLevel.en)) := clo_list TLevel.clo_en
 by_cases hlt : i < l.length
 case' pos =>
  have hP := True.intro
  obtain ⟨x, hx⟩ : ∃ x, l[i]? = some x := ⟨_, List.getElem?_eq_getElem hlt⟩
  have hg := map_get (f := TLevel.en) hx
  have ht := lt_true (f := TLevel.en) hlt
  have hn := next_ix hlt (by omega)
  have hz := fil_get (en := TLevel.en) (z := [I 0, I 0, I 0]) hlt
  have ha := fil_at (en := TLevel.en) (z := [I 0, I 0, I 0]) hlt
  have hs := fil_set (en := TLevel.en) (z := [I 0, I 0, I 0]) hx
 case' neg =>
  have hQ := True.intro
  have ht := lt_false (f := TLevel.en) hlt
  have e : i = l.length := by omega
  subst e
  try rw [List.take_length])) <;> (try dsimp only))
 all_goals first
  | (have _ := hP; (refine ⟨i + 1, [], hlt, by omega, ?_, by rw [← hs] <;> rfl, ?_, ?_⟩; (focus (exact wkN)); (focus (exact fitsA)); (focus (exact fits_dcl (dcl_fil (fun _ => rfl) rfl)))))
  | (have _ := hQ; (simp only [fil_all]; exact Fin.r1 [0] rfl (RV.tmp (by rfl)) ⟨rfl, rfl⟩))

def TEntry.eo (a : TEntry) : List AV := [I a.feature.id, I a.feature.kind, I a.feature.rank, S a.feature.name, .own 0 0, I a.tick, I a.who, B a.gone]
def TEntry.rw (a : TEntry) : Mem := [some ⟨141, 2, 0, false, a.feature.points.map TPoint.en⟩]
theorem toEntry_o (x : TEntry) (hs : x.sm) : VCalls Tryz.prog 115 [.agg x.en] (fun r M => r = .agg x.eo ∧ M = x.rw) := by
 refine VB Tryz.func115 17 (fun E hE => ?_)
 have hclo0 : Clo (.ro 2 (x.feature.points.map TPoint.en)) := clo_list TPoint.clo_en
 have hcls0 : Clo (.agg x.feature.en) := Clo.agg x.feature.clo_en
 have hcle : Clo (.agg x.en) := Clo.agg x.clo_en
 have hs' := hs
 obtain hs0 := hs
 dsimp only [TEntry.en]
 repeat' ((first
  | (refine iAL ?_; first | refine AL.any ?_ | refine AL.any (h := POp.O Tryz.func73 (hc := toFeature_o x.feature (by assumption))) ?_ | refine AL.nil ?_)
  | (refine iAW ?_; (refine AW.c0 ?_; constructor))) <;> (try dsimp only))
 all_goals exact Fin.r1 [3] rfl (RV.cell (QOp.quietA TT_ok (by rfl))) ⟨rfl, rfl⟩

theorem toEntryS_o (l : List TEntry) (hl : l.length ≤ 1048576) (hp : ∀ x ∈ l, x.sm) : VCalls Tryz.prog 57 [.ro 8 (l.map TEntry.en)] (fun r M => r = .own 0 0 ∧ M = [some ⟨135, 8, 0, false, l.map TEntry.ed⟩]) := by
 refine VB Tryz.func57 22 (fun E hE => ?_)
 repeat' ((first
  | (refine iAL ?_; first | refine AL.any (h := POp.gh POp.mk (Gh.absorbS (q := 0) (id := 1) (j := 4) rfl (by assumption) rfl rfl rfl rfl rfl (DCl.map (fun _ => rfl)) TPoint.und)) ?_ | refine AL.any ?_ | refine AL.any (h := POp.O Tryz.func115 (hc := toEntry_o x (by assumption))) ?_ | refine AL.nil ?_)
  | (refine iAW ?_; first | (refine AW.c0 ?_; constructor) | refine AW.cT ?_ | refine AW.cF ?_)
  | (
 refine AW.loopD hE (fun i : Nat => [.ro 8 (l.map TEntry.en), .any, .any, .own 0 0, I i, .any, .any, .any, .any, .any, .any, .any, .any, .any, .any, .any, .any, .any, .any, .any, .any, .any, .any]) (fun i => [some ⟨135, 8, 0, false, fil TEntry.ed [I 0, I 0, I 0, S ⟨#[]⟩, .c (.slice none 0 0), I 0, I 0, B false] l i⟩]) (fun i => l.length - i) (fun i => i ≤ l.length) 0 (by simp) ?_ (by first | rfl | (simp [fil_zero]; done)) ?_
 (focus (exact wkI))
 intro i hi
 have hclo : Clo (.ro 8 (l.map TEntry.en)) := clo_list TEntry.clo_en
 by_cases hlt : i < l.length
 case' pos =>
  have hP := True.intro
  obtain ⟨x, hx⟩ : ∃ x, l[i]? = some x := ⟨_, List.getElem?_eq_getElem hlt⟩
  have hg := map_get (f := TEntry.en) hx
  have ht := lt_true (f := TEntry.en) hlt
  have hn := next_ix hlt (by omega)
  have hz := fil_get (en := TEntry.ed) (z := [I 0, I 0, I 0, S ⟨#[]⟩, .c (.slice none 0 0), I 0, I 0, B false]) hlt
  have ha := fil_at (en := TEntry.ed) (z := [I 0, I 0, I 0, S ⟨#[]⟩, .c (.slice none 0 0), I 0, I 0, B false]) hlt
  have hs := fil_set (en := TEntry.ed) (z := [I 0, I 0, I 0, S ⟨#[]⟩, .c (.slice none 0 0), I 0, I 0, B false]) hx
  have hpx := hp x (List.mem_of_getElem? hx)
  have hclo0 : Clo (.ro 2 (x.feature.points.map TPoint.en)) := clo_list TPoint.clo_en
  have hcls0 : Clo (.agg x.feature.en) := Clo.agg x.feature.clo_en
  have hcle : Clo (.agg x.en) := Clo.agg x.clo_en
 case' neg =>
  have hQ := True.intro
  have ht := lt_false (f := TEntry.en) hlt
  have e : i = l.length := by omega
  subst e
  try rw [List.take_length])) <;> (try dsimp only))
 all_goals first
  | (have _ := hP; (refine ⟨i + 1, [none], hlt, by omega, ?_, by rw [← hs] <;> rfl, ?_, ?_⟩; (focus (exact wkN)); (focus (exact fitsA)); (focus (exact fits_dcl (dcl_fil (fun _ => rfl) rfl)))))
  | (have _ := hQ; (simp only [fil_all]; exact Fin.r1 [0] rfl (RV.tmp (by rfl)) ⟨rfl, rfl⟩))

def TEdition.eo (a : TEdition) : List AV := [I a.tick, .own 0 0, I a.seal_]
def TEdition.rw (a : TEdition) : Mem := [some ⟨81, 5, 0, false, a.source.map TFeature.ed⟩]
theorem toEdition_o (x : TEdition) (hs : x.sm) : VCalls Tryz.prog 116 [.agg x.en] (fun r M => r = .agg x.eo ∧ M = x.rw) := by
 refine VB Tryz.func116 14 (fun E hE => ?_)
 have hclo0 : Clo (.ro 5 (x.source.map TFeature.en)) := clo_list TFeature.clo_en
 have hcle : Clo (.agg x.en) := Clo.agg x.clo_en
 have hs' := hs
 obtain ⟨hs1, hs1'⟩ := hs
 dsimp only [TEdition.en]
 repeat' ((first
  | (refine iAL ?_; first | refine AL.any ?_ | refine AL.any (h := POp.O Tryz.func19 (hc := toFeatureS_o _ (by assumption) (by assumption))) ?_ | refine AL.nil ?_)
  | (refine iAW ?_; (refine AW.c0 ?_; constructor))) <;> (try dsimp only))
 all_goals exact Fin.r1 [3] rfl (RV.cell (QOp.quietA TT_ok (by rfl))) ⟨rfl, rfl⟩

theorem toEditionS_o (l : List TEdition) (hl : l.length ≤ 1048576) (hp : ∀ x ∈ l, x.sm) : VCalls Tryz.prog 58 [.ro 3 (l.map TEdition.en)] (fun r M => r = .own 0 0 ∧ M = [some ⟨151, 3, 0, false, l.map TEdition.ed⟩]) := by
 refine VB Tryz.func58 22 (fun E hE => ?_)
 repeat' ((first
  | (refine iAL ?_; first | refine AL.any (h := POp.gh POp.mk (Gh.absorbS (q := 0) (id := 1) (j := 1) rfl (by assumption) rfl rfl rfl rfl rfl (DCl.map (fun _ => rfl)) TFeature.und)) ?_ | refine AL.any ?_ | refine AL.any (h := POp.O Tryz.func116 (hc := toEdition_o x (by assumption))) ?_ | refine AL.nil ?_)
  | (refine iAW ?_; first | (refine AW.c0 ?_; constructor) | refine AW.cT ?_ | refine AW.cF ?_)
  | (
 refine AW.loopD hE (fun i : Nat => [.ro 3 (l.map TEdition.en), .any, .any, .own 0 0, I i, .any, .any, .any, .any, .any, .any, .any, .any, .any, .any, .any, .any, .any, .any, .any, .any, .any, .any]) (fun i => [some ⟨151, 3, 0, false, fil TEdition.ed [I 0, .c (.slice none 0 0), I 0] l i⟩]) (fun i => l.length - i) (fun i => i ≤ l.length) 0 (by simp) ?_ (by first | rfl | (simp [fil_zero]; done)) ?_
 (focus (exact wkI))
 intro i hi
 have hclo : Clo (.ro 3 (l.map TEdition.en)) := clo_list TEdition.clo_en
 by_cases hlt : i < l.length
 case' pos =>
  have hP := True.intro
  obtain ⟨x, hx⟩ : ∃ x, l[i]? = some x := ⟨_, List.getElem?_eq_getElem hlt⟩
  have hg := map_get (f := TEdition.en) hx
  have ht := lt_true (f := TEdition.en) hlt
  have hn := next_ix hlt (by omega)
  have hz := fil_get (en := TEdition.ed) (z := [I 0, .c (.slice none 0 0), I 0]) hlt
  have ha := fil_at (en := TEdition.ed) (z := [I 0, .c (.slice none 0 0), I 0]) hlt
  have hs := fil_set (en := TEdition.ed) (z := [I 0, .c (.slice none 0 0), I 0]) hx
  have hpx := hp x (List.mem_of_getElem? hx)
  have hclo0 : Clo (.ro 5 (x.source.map TFeature.en)) := clo_list TFeature.clo_en
  have hcle : Clo (.agg x.en) := Clo.agg x.clo_en
 case' neg =>
  have hQ := True.intro
  have ht := lt_false (f := TEdition.en) hlt
  have e : i = l.length := by omega
  subst e
  try rw [List.take_length])) <;> (try dsimp only))
 all_goals first
  | (have _ := hP; (refine ⟨i + 1, [none], hlt, by omega, ?_, by rw [← hs] <;> rfl, ?_, ?_⟩; (focus (exact wkN)); (focus (exact fitsA)); (focus (exact fits_dcl (dcl_fil (fun _ => rfl) rfl)))))
  | (have _ := hQ; (simp only [fil_all]; exact Fin.r1 [0] rfl (RV.tmp (by rfl)) ⟨rfl, rfl⟩))

def TAtlas.eo (a : TAtlas) : List AV := [.own 0 0, .own 1 0, .own 2 0, I a.cover.w, I a.cover.h, S a.cover.cells, I a.now]
def TAtlas.rw (a : TAtlas) : Mem := [some ⟨135, 8, 0, false, a.log.map TEntry.ed⟩, some ⟨47, 3, 0, false, a.levels.map TLevel.en⟩, some ⟨151, 3, 0, false, a.editions.map TEdition.ed⟩]
theorem toAtlas_o (x : TAtlas) (hs : x.sm) : VCalls Tryz.prog 14 [.agg x.en] (fun r M => r = .agg x.eo ∧ M = x.rw) := by
 refine VB Tryz.func14 23 (fun E hE => ?_)
 have hclo0 : Clo (.ro 8 (x.log.map TEntry.en)) := clo_list TEntry.clo_en
 have hclo1 : Clo (.ro 3 (x.levels.map TLevel.en)) := clo_list TLevel.clo_en
 have hclo2 : Clo (.ro 3 (x.editions.map TEdition.en)) := clo_list TEdition.clo_en
 have hcle : Clo (.agg x.en) := Clo.agg x.clo_en
 have hs' := hs
 obtain ⟨⟨hs0, hs0'⟩, hs1, ⟨hs2, hs2'⟩⟩ := hs
 dsimp only [TAtlas.en]
 repeat' ((first
  | (refine iAL ?_; first | refine AL.any ?_ | refine AL.any (h := POp.O Tryz.func25 (hc := toLevelS_o _ (by assumption))) ?_ | refine AL.any (h := POp.O Tryz.func57 (hc := toEntryS_o _ (by assumption) (by assumption))) ?_ | refine AL.any (h := POp.O Tryz.func58 (hc := toEditionS_o _ (by assumption) (by assumption))) ?_ | refine AL.any (h := POp.k Tryz.func59 (hc := toCover x.cover)) ?_ | refine AL.nil ?_)
  | (refine iAW ?_; (refine AW.c0 ?_; constructor))) <;> (try dsimp only))
 all_goals exact Fin.r1 [3, 4, 5] rfl (RV.cell (QOp.quietA TT_ok (by rfl))) ⟨rfl, rfl⟩

end Go.Proofs.YtpffahmmklpifaaGreat.Abs

/- Owned trees with names. -/
namespace Go.Proofs.YtpffahmmklpifaaGreat.Abs
open Go.Proofs Go.RowKit
set_option linter.unusedVariables false
set_option linter.unusedSimpArgs false
set_option maxRecDepth 100000
set_option maxHeartbeats 2000000
section
variable {P : Program} {E : Env} {tm : List AV} {M : Mem} {o : Oper} {w w0 : World} {Fx : Nat → Prop} {β : List Hd} {base : Nat}
theorem HS.retell {id : Nat} {b b' : Blk} (hh : HS base w0 w Fx β M) (hM : M[id]? = some (some b)) (hg : b'.gen = b.gen) (h : ∀ v, β[id]? = some v → BlkOk w Fx β (gens M) base b v → BlkOk w Fx β (gens M) base b' v) : HS base w0 w Fx β (M.set id (some b')) := by
 have hG := gens_set hM hg
 have old : ∀ {i : Nat} {b1 : Blk}, (M.set id (some b'))[i]? = some (some b1) → (i = id ∧ b1 = b') ∨ (i ≠ id ∧ M[i]? = some (some b1)) := fun {i b1} h => by
  rcases set_get h with ⟨e, e2, _⟩ | h
  · exact .inl ⟨e, Option.some.inj e2⟩
  · exact .inr h
 have any : ∀ {i : Nat} {b1 : Blk}, (M.set id (some b'))[i]? = some (some b1) → ∃ b0, M[i]? = some (some b0) := fun {i b1} h => by
  rcases old h with ⟨rfl, _⟩ | ⟨_, h⟩
  · exact ⟨_, hM⟩
  · exact ⟨_, h⟩
 refine ⟨hh.bel, hh.bs, hh.fx, by simp [hh.len], fun i b1 h1 => ?_, fun i1 i2 b1 b2 v1 v2 k hne h1 h2 hv1 hv2 hk1 hk2 => ?_⟩
 · rw [hG]
   rcases old h1 with ⟨rfl, rfl⟩ | ⟨_, h1⟩
   · obtain ⟨v, hv, hok⟩ := hh.blk _ b hM
     exact ⟨v, hv, h v hv hok⟩
   · exact hh.blk i b1 h1
 · obtain ⟨c1, g1⟩ := any h1
   obtain ⟨c2, g2⟩ := any h2
   exact hh.inj i1 i2 c1 c2 v1 v2 k hne g1 g2 hv1 hv2 hk1 hk2
theorem Sim.retell {a : Act} {id : Nat} {b b' : Blk} (hs : Sim E tm M a w) (hM : M[id]? = some (some b)) (hg : b'.gen = b.gen) (hx : ∀ Fx β, HS E.base E.w0 w Fx β M → HS E.base E.w0 w Fx β (M.set id (some b'))) : Sim E tm (M.set id (some b')) a w := by
 obtain ⟨hd, Fx, β, hh, ho, hsl⟩ := hs
 have hG := gens_set hM hg
 refine ⟨hd, Fx, β, hx Fx β hh, ⟨by rw [hG]; exact ho.mv, ho.size, ho.lim, fun i b1 v k h1 h2 h3 => ?_⟩, by rw [hG]; exact hsl⟩
 rcases set_get h1 with ⟨rfl, e2, _⟩ | ⟨_, h1⟩
 · exact ho.own _ b v k hM h2 h3
 · exact ho.own i b1 v k h1 h2 h3
def nmV (u : Value) : AV → AV
 | .dp (.is v x) => .dp (.is v x)
 | .dp x => .dp (.is u x)
 | x => x
def nmR (us : Nat → Value) (r : List AV) : List AV := r.mapIdx fun j x => nmV (us j) x
def nmE (us : Nat → Nat → Value) (es : List (List AV)) : List (List AV) := es.mapIdx fun i r => nmR (us i) r
def fgV : AV → AV
 | .dp (.is _ x) => .dp x
 | x => x
def fgE (es : List (List AV)) : List (List AV) := es.map (·.map fgV)
theorem nmE_len (us : Nat → Nat → Value) (es : List (List AV)) : (nmE us es).length = es.length := by simp [nmE]
theorem nmE_get {us : Nat → Nat → Value} {es : List (List AV)} {i : Nat} {r : List AV} (h : (nmE us es)[i]? = some r) : ∃ r0, es[i]? = some r0 ∧ r = nmR (us i) r0 := by
 simp only [nmE, List.getElem?_mapIdx, Option.map_eq_some_iff] at h
 obtain ⟨r0, h1, h2⟩ := h
 exact ⟨r0, h1, h2.symm⟩
theorem nmR_get {us : Nat → Value} {r : List AV} {j : Nat} {x : AV} (h : (nmR us r)[j]? = some x) : ∃ x0, r[j]? = some x0 ∧ x = nmV (us j) x0 := by
 simp only [nmR, List.getElem?_mapIdx, Option.map_eq_some_iff] at h
 obtain ⟨x0, h1, h2⟩ := h
 exact ⟨x0, h1, h2.symm⟩
theorem nmE_at {us : Nat → Nat → Value} {es : List (List AV)} {i : Nat} {r : List AV} (h : es[i]? = some r) : (nmE us es)[i]? = some (nmR (us i) r) := by simp [nmE, List.getElem?_mapIdx, h]
theorem nmV_nodp {u : Value} {x : AV} (h : nodp (nmV u x) = true) : nmV u x = x := by
 cases x with
 | dp d => cases d <;> simp [nmV, nodp] at h
 | _ => rfl
theorem CellsD.named {G : List (Option Nat)} {pv : Nat → Prop} {hb : Option Nat} {sz : Nat} {es : List (List AV)} {xs : List Value} (h : CellsD w Fx β G pv hb sz es xs) : CellsD w Fx β G pv hb sz (nmE (fun i j => (xs[i * sz + j]?).getD undef) es) xs := by
 obtain ⟨h1, h2, pc, h3, h4, h5⟩ := h
 refine ⟨by rw [nmE_len]; exact h1, fun i r hr => ?_, pc, h3, h4, fun i r j d hr hx => ?_⟩
 · obtain ⟨r0, hr0, rfl⟩ := nmE_get hr
   refine ⟨by rw [nmR, List.length_mapIdx]; exact (h2 i r0 hr0).1, fun j x hx => ?_⟩
   obtain ⟨x0, hx0, rfl⟩ := nmR_get hx
   obtain ⟨u, hu, ho, hR⟩ := (h2 i r0 hr0).2 j x0 hx0
   exact ⟨u, hu, ho, fun hn => by have e := nmV_nodp hn; rw [e] at hn ⊢; exact hR hn⟩
 · obtain ⟨r0, hr0, rfl⟩ := nmE_get hr
   obtain ⟨x0, hx0, e⟩ := nmR_get hx
   cases x0 with
   | dp y =>
    obtain ⟨u, hu, hD⟩ := h5 i r0 j y hr0 hx0
    refine ⟨u, hu, ?_⟩
    rw [hu] at e
    cases y with
    | is v z =>
     simp [nmV] at e
     rw [e]
     exact hD
    | _ =>
     simp [nmV] at e
     rw [e]
     exact .is hD
   | _ => simp [nmV] at e
theorem fgE_get {es : List (List AV)} {i : Nat} {r : List AV} (h : (fgE es)[i]? = some r) : ∃ r0, es[i]? = some r0 ∧ r = r0.map fgV := by
 simp only [fgE, List.getElem?_map, Option.map_eq_some_iff] at h
 obtain ⟨r0, h1, h2⟩ := h
 exact ⟨r0, h1, h2.symm⟩
theorem fgV_nodp {x : AV} (h : nodp (fgV x) = true) : fgV x = x := by
 cases x with
 | dp d => cases d <;> simp [fgV, nodp] at h
 | _ => rfl
theorem CellsD.forget {G : List (Option Nat)} {pv : Nat → Prop} {hb : Option Nat} {sz : Nat} {es : List (List AV)} {xs : List Value} (h : CellsD w Fx β G pv hb sz es xs) : CellsD w Fx β G pv hb sz (fgE es) xs := by
 obtain ⟨h1, h2, pc, h3, h4, h5⟩ := h
 refine ⟨by simp only [fgE, List.length_map]; exact h1, fun i r hr => ?_, pc, h3, h4, fun i r j d hr hx => ?_⟩
 · obtain ⟨r0, hr0, rfl⟩ := fgE_get hr
   refine ⟨by rw [List.length_map]; exact (h2 i r0 hr0).1, fun j x hx => ?_⟩
   obtain ⟨x0, hx0, rfl⟩ := map_get_of hx
   obtain ⟨u, hu, ho, hR⟩ := (h2 i r0 hr0).2 j x0 hx0
   exact ⟨u, hu, ho, fun hn => by have e := fgV_nodp hn; rw [e] at hn ⊢; exact hR hn⟩
 · obtain ⟨r0, hr0, rfl⟩ := fgE_get hr
   obtain ⟨x0, hx0, e⟩ := map_get_of hx
   cases x0 with
   | dp y =>
    obtain ⟨u, hu, hD⟩ := h5 i r0 j y hr0 hx0
    refine ⟨u, hu, ?_⟩
    cases y with
    | is v z =>
     simp [fgV] at e
     rw [e]
     cases hD with
     | is h => exact h
    | _ =>
     simp [fgV] at e
     rw [e]
     exact hD
   | _ => simp [fgV] at e
theorem BlkOk.recell {G : List (Option Nat)} {b : Blk} {es : List (List AV)} {v : Hd} (hb : b.box = false) (hl : es.length = b.es.length) (h : BlkOk w Fx β G base b v) (hc : ∀ xs, CellsD w Fx β G v.pv (blockOf v.v) b.sz b.es xs → CellsD w Fx β G v.pv (blockOf v.v) b.sz es xs) : BlkOk w Fx β G base { b with es := es } v := by
 obtain ⟨h1, h2⟩ := h
 rw [hb] at h2
 obtain ⟨xs, ho, cd⟩ := h2
 refine ⟨h1, ?_⟩
 show if b.box = true then _ else _
 rw [if_neg (by rw [hb]; decide)]
 exact ⟨xs, by show w.ownsRow base b.ty b.sz v.v es.length xs; rw [hl]; exact ho, hc xs cd⟩
theorem AW.name {id : Nat} {b : Blk} {c : Code} {Qx : XPost} (hM : M[id]? = some (some b)) (hb : b.box = false) (h : ∀ us, AW P c E tm (M.set id (some { b with es := nmE us b.es })) Qx) : AW P c E tm M Qx := fun a w Q hs k => by
 obtain ⟨hd, Fx, β, hh, ho, hsl⟩ := hs
 obtain ⟨v, hv, hok⟩ := hh.blk id b hM
 obtain ⟨h1, h2⟩ := hok
 rw [hb] at h2
 obtain ⟨xs, hown, cd⟩ := h2
 have hh2 : HS E.base E.w0 w Fx β (M.set id (some { b with es := nmE (fun i j => (xs[i * b.sz + j]?).getD undef) b.es })) := hh.retell hM rfl fun v' hv' hok' => by
  rw [hv] at hv'
  obtain rfl := Option.some.inj hv'
  refine ⟨h1, ?_⟩
  show if b.box = true then _ else _
  rw [if_neg (by rw [hb]; decide)]
  exact ⟨xs, by show w.ownsRow E.base b.ty b.sz v.v (nmE _ b.es).length xs; rw [nmE_len]; exact hown, cd.named⟩
 have hG := (gens_set (M := M) (id := id) (b := b) (b' := { b with es := nmE (fun i j => (xs[i * b.sz + j]?).getD undef) b.es }) hM rfl).symm
 exact h _ a w Q ⟨hd, Fx, β, hh2, ⟨hG ▸ ho.mv, ho.size, ho.lim, fun i b1 v1 k1 g1 g2 g3 => by
  rcases set_get g1 with ⟨rfl, _, _⟩ | ⟨_, g1⟩
  · exact ho.own _ b v1 k1 hM g2 g3
  · exact ho.own i b1 v1 k1 g1 g2 g3⟩, hG ▸ hsl⟩ k
theorem Gh.forget {id : Nat} {b : Blk} {es2 : List (List AV)} (hM : M[id]? = some (some b)) (hb : b.box = false) (he : fgE b.es = es2) : Gh M (M.set id (some { b with es := es2 })) := fun base w0 w Fx β hh => by
 subst he
 refine ⟨β, hh.retell hM rfl fun v hv hok => hok.recell hb (by simp [fgE]) fun xs h => h.forget, ?_, fun i b1 v k h1 h2 h3 => ?_⟩
 · have hG : gens (M.set id (some { b with es := fgE b.es })) = gens M := gens_set hM rfl
   rw [hG]; exact Mv.refl
 · rcases set_get h1 with ⟨rfl, _, _⟩ | ⟨_, h1⟩
   · exact ⟨_, b, v, hM, h2, h3⟩
   · exact ⟨i, b1, v, h1, h2, h3⟩
theorem HS.cellC (h : HS base w0 w Fx β M) {id : Nat} {b : Blk} (hM : M[id]? = some (some b)) {i j : Nat} {r : List AV} {x : AV} (hr : b.es[i]? = some r) (hx : r[j]? = some x) (hd : rdb x = true) :
 ∃ v k u, β[id]? = some v ∧ blockOf v.v = some k ∧ k < w.heap.size ∧ w.cell? ⟨k, i * b.sz + j, none⟩ = some u ∧ u.oneCell' = true ∧ Rep w Fx β (gens M) (Abs.cpy x) u := by
 obtain ⟨⟨v, pv⟩, hv, h1, h2⟩ := h.blk id b hM
 cases hb : b.box with
 | true =>
  rw [hb] at h2
  obtain ⟨k, xs, hvk, hk, hl, hc⟩ := h2
  obtain rfl : v = _ := hvk
  obtain ⟨u, hu, ho, hR⟩ := hc.cpy hr hx hd
  refine ⟨_, k, u, hv, rfl, (h1 k (.inl rfl)).2.1, ?_, ho, hR⟩
  rw [cell_of_row w k _ xs b.ty (0, 0) hk]
  simpa using hu
 | false =>
  rw [hb] at h2
  obtain ⟨xs, ⟨hx1, ho⟩, hc⟩ := h2
  obtain ⟨u, hu, ho1, hR⟩ := hc.cpy hr hx hd
  rcases ho with ⟨hv0, hn⟩ | ⟨k, cap, cur, hv0, hg, hk, hcap, hm, hsz, htake⟩ <;> obtain rfl : v = _ := hv0
  · have : i < b.es.length := (List.getElem?_eq_some_iff.1 hr).1
    omega
  · refine ⟨_, k, u, hv, rfl, (h1 k (.inl rfl)).2.1, ?_, ho1, hR⟩
    rw [cell_of_row w k _ cur b.ty (0, 0) hk]
    have hlt : i * b.sz + j < xs.length := (List.getElem?_eq_some_iff.1 hu).1
    rw [← htake, List.getElem?_take] at hu
    split at hu
    · simpa using hu
    · cases hu
theorem QOp.ldr_cpy {x : Operand} {id g sz i n : Nat} {b : Blk} {t : TypeId} {r cs : List AV} (ho : o.op = .load t x) (hx : evA tm x = some (.ref id g sz i 0)) (hM : M[id]? = some (some b)) (hg : b.gen = g) (hb : b.sz = sz)
 (hr : b.es[i]? = some r) (hl : ldk P t = some (true, n)) (hj : n = r.length) (hnd : r.all rdb = true) (hcs : r.map Abs.cpy = cs) : QOp P o tm M (.agg cs) := by
 obtain ⟨d, hu, hd, hn⟩ := ldk_inv hl
 subst hcs hj
 intro base w0 a w Fx β hh hs
 have hrep := hs.ev hx
 generalize hu' : a.eval x = u at hrep
 cases hrep with
 | ref h1 hi hgg h =>
  obtain ⟨v, k, hv, hk, rfl⟩ := h (by rw [← hg]; exact gens_of hM)
  subst hb
  obtain ⟨us, hul, huq⟩ := list_of r.length (fun q (u : Value) => w.cell? ⟨k, i * b.sz + q, none⟩ = some u ∧ u.oneCell' = true ∧ ∀ y, r[q]? = some y → Rep w Fx β (gens M) (Abs.cpy y) u) (fun q hq => by
   obtain ⟨v', k', u, hv', hk', _, hc, h1, hR⟩ := hh.cellC hM hr (List.getElem?_eq_getElem hq) (List.all_eq_true.1 hnd _ (List.getElem_mem hq))
   rw [hv] at hv'
   obtain rfl := Option.some.inj hv'
   rw [hk] at hk'
   obtain rfl := Option.some.inj hk'
   refine ⟨u, hc, h1, fun y hy => ?_⟩
   rw [List.getElem?_eq_getElem hq] at hy
   obtain rfl := Option.some.inj hy
   exact hR)
  have hkl : k < w.heap.size := by
   obtain ⟨v', hv', hok⟩ := hh.blk id b hM
   rw [hv] at hv'
   obtain rfl := Option.some.inj hv'
   exact (hok.1 k (.inl hk)).2.1
  refine ⟨.agg us.toArray, fun w' hw => ?_, ?_⟩
  · have := run_loadAt_mid (P := P) w' k (i * b.sz + 0) t us d (fun q u hq => cell_stays hw hkl (huq q u hq).1) hu hd (by rw [hul]; exact hn)
    simp at this
    simp [execOp, ho, hu', this]
  · refine Rep.agg (by simp [hul]) (fun u hmem => ?_) (fun q y u hy hq => ?_)
    · obtain ⟨q, hq⟩ := List.getElem?_of_mem hmem
      exact (huq q u hq).2.1
    · obtain ⟨y0, hy0, rfl⟩ := map_get_of hy
      exact (huq q u hq).2.2 y0 hy0
end

def nmf (us : Nat → Nat → Value) (s : List TFeature) : List (List AV) := nmE us (s.map TFeature.ed)
def cpf (us : Nat → Nat → Value) (s : List TFeature) : List (List AV) := (nmf us s).map (·.map Abs.cpy)
theorem nmf_len (us : Nat → Nat → Value) (s : List TFeature) : (nmf us s).length = s.length := by rw [nmf, nmE_len, List.length_map]
theorem cpf_len (us : Nat → Nat → Value) (s : List TFeature) : (cpf us s).length = s.length := by rw [cpf, List.length_map, nmf_len]
theorem nmf_at {us : Nat → Nat → Value} {s : List TFeature} {i : Nat} {x : TFeature} (h : s[i]? = some x) : (nmf us s)[i]? = some [I x.id, I x.kind, I x.rank, S x.name, .dp (.is (us i 4) (.ro 2 (x.points.map TPoint.en)))] := by
 rw [nmf, nmE_at (r := x.ed) (by rw [List.getElem?_map, h]; rfl)]
 rfl
theorem nmf_get {us : Nat → Nat → Value} {s : List TFeature} {i : Nat} {r : List AV} (h : (nmf us s)[i]? = some r) : ∃ x, s[i]? = some x ∧ r = [I x.id, I x.kind, I x.rank, S x.name, .dp (.is (us i 4) (.ro 2 (x.points.map TPoint.en)))] := by
 have hi : i < s.length := by rw [← nmf_len us s]; exact (List.getElem?_eq_some_iff.1 h).1
 refine ⟨s[i], List.getElem?_eq_getElem hi, ?_⟩
 rw [nmf_at (List.getElem?_eq_getElem hi)] at h
 exact (Option.some.inj h).symm
theorem cpf_at {us : Nat → Nat → Value} {s : List TFeature} {i : Nat} {x : TFeature} (h : s[i]? = some x) : (cpf us s)[i]? = some [I x.id, I x.kind, I x.rank, S x.name, .c (us i 4)] := by
 rw [cpf, List.getElem?_map, nmf_at h]
 rfl
theorem rdb_nmf {us : Nat → Nat → Value} {s : List TFeature} : ∀ r ∈ nmf us s, ∀ x ∈ r, rdb x = true := fun r hr x hx => by
 obtain ⟨i, hi⟩ := List.getElem?_of_mem hr
 obtain ⟨y, _, rfl⟩ := nmf_get hi
 simp only [List.mem_cons, List.not_mem_nil, or_false] at hx
 rcases hx with rfl | rfl | rfl | rfl | rfl <;> rfl
theorem sub_cpf0 (us : Nat → Nat → Value) (s : List TFeature) (m : Nat) : ((((nmf us s).drop 0).take m).map (·.map Abs.cpy)) = (cpf us s).take m := by rw [List.drop_zero, cpf, List.map_take]
theorem sub_cpfE (us : Nat → Nat → Value) (s : List TFeature) (i : Nat) : ((((nmf us s).drop i).take ((nmf us s).length - i)).map (·.map Abs.cpy)) = (cpf us s).drop i := by
 rw [List.take_of_length_le (by rw [List.length_drop]; exact Nat.le_refl _), cpf, List.map_drop]
theorem cpf_oth {us : Nat → Nat → Value} {s : List TFeature} {i q : Nat} (hi : i < s.length) {r : List AV} (h : ((cpf us s).take i ++ (cpf us s).drop (i + 1))[q]? = some r) : ∃ p x, s[p]? = some x ∧ (oth s i)[q]? = some x ∧ r = [I x.id, I x.kind, I x.rank, S x.name, .c (us p 4)] := by
 have hl := cpf_len us s
 have key : ∀ p, (cpf us s)[p]? = some r → ∃ x, s[p]? = some x ∧ r = [I x.id, I x.kind, I x.rank, S x.name, .c (us p 4)] := fun p hp => by
  have hlt : p < s.length := by rw [← hl]; exact (List.getElem?_eq_some_iff.1 hp).1
  refine ⟨s[p], List.getElem?_eq_getElem hlt, ?_⟩
  rw [cpf_at (List.getElem?_eq_getElem hlt)] at hp
  exact (Option.some.inj hp).symm
 have h1 : ((cpf us s).take i).length = i := by rw [List.length_take]; omega
 have h2 : (s.take i).length = i := by rw [List.length_take]; omega
 rcases Nat.lt_or_ge q i with hq | hq
 · rw [List.getElem?_append_left (by omega), List.getElem?_take_of_lt hq] at h
   obtain ⟨x, a, b⟩ := key q h
   exact ⟨q, x, a, by rw [oth, List.getElem?_append_left (by omega), List.getElem?_take_of_lt hq]; exact a, b⟩
 · rw [List.getElem?_append_right (by omega), h1, List.getElem?_drop] at h
   obtain ⟨x, a, b⟩ := key _ h
   exact ⟨_, x, a, by rw [oth, List.getElem?_append_right (by omega), h2, List.getElem?_drop]; exact a, b⟩
theorem viewOth {M : Mem} {id k g g0 : Nat} {ty ty' : TypeId} {us : Nat → Nat → Value} {s : List TFeature} {i : Nat} (hi : i < s.length) (h0 : M[id]? = some (some ⟨ty, 5, g0, false, nmf us s⟩)) (hk : M[k]? = some (some ⟨ty', 5, g, false, (cpf us s).take i ++ (cpf us s).drop (i + 1)⟩)) : View M (.own k g) (.ro 5 ((oth s i).map TFeature.en)) := by
 have hl : ((oth s i).map TFeature.en).length = ((cpf us s).take i ++ (cpf us s).drop (i + 1)).length := by
  have := cpf_len us s
  simp [Abs.oth, this]
 refine View.rows hk rfl rfl rfl (fun r hr x hx => ?_) hl fun q r r' hr hr' => ?_
 · obtain ⟨q, hq⟩ := List.getElem?_of_mem hr
   obtain ⟨p, y, _, _, rfl⟩ := cpf_oth hi hq
   simp only [List.mem_cons, List.not_mem_nil, or_false] at hx
   rcases hx with rfl | rfl | rfl | rfl | rfl <;> rfl
 · obtain ⟨p, y, hp, hq, rfl⟩ := cpf_oth hi hr
   rw [List.getElem?_map, hq] at hr'
   obtain rfl := Option.some.inj hr'
   refine ⟨rfl, fun j x x' hx hx' => ?_⟩
   match j with
   | 0 => simp [TFeature.en] at hx hx'; subst hx hx'; exact View.same (clo_c _)
   | 1 => simp [TFeature.en] at hx hx'; subst hx hx'; exact View.same (clo_c _)
   | 2 => simp [TFeature.en] at hx hx'; subst hx hx'; exact View.same (clo_c _)
   | 3 => simp [TFeature.en] at hx hx'; subst hx hx'; exact View.same (clo_c _)
   | 4 =>
    simp [TFeature.en] at hx hx'
    subst hx hx'
    exact View.is (j := 4) h0 (nmf_at hp) rfl
   | j + 5 => simp at hx
theorem fg_nmf (us : Nat → Nat → Value) (s : List TFeature) : fgE (nmf us s) = s.map TFeature.ed := by
 apply List.ext_getElem?
 intro i
 rcases Nat.lt_or_ge i s.length with h | h
 · rw [fgE, List.getElem?_map, nmf_at (List.getElem?_eq_getElem h), List.getElem?_map, List.getElem?_eq_getElem h]
   rfl
 · rw [List.getElem?_eq_none (by simp only [fgE, List.length_map, nmf_len]; exact h), List.getElem?_eq_none (by simpa using h)]
theorem fg_set (us : Nat → Nat → Value) (s : List TFeature) (i : Nat) (y : TFeature) : fgE ((nmf us s).set i [I y.id, I y.kind, I y.rank, S y.name, .dp (.ro 2 (y.points.map TPoint.en))]) = (s.set i y).map TFeature.ed := by
 have h := fg_nmf us s
 unfold fgE at h ⊢
 rw [List.map_set, h, List.map_set]
 rfl
theorem skA_setE {l : List TFeature} {least : Int} {i : Nat} {x : TFeature} (us : Nat → Nat → Value) (hx : (skA l least i)[i]? = some x) : fgE ((nmf us (skA l least i)).set i [I (shr (oth (skA l least i) i) least x).id, I (shr (oth (skA l least i) i) least x).kind, I (shr (oth (skA l least i) i) least x).rank, S (shr (oth (skA l least i) i) least x).name, .dp (.ro 2 ((shr (oth (skA l least i) i) least x).points.map TPoint.en))]) = (skA l least (i + 1)).map TFeature.ed := by
 rw [fg_set, skA_succ hx]
theorem AW.nameF {P : Program} {E : Env} {tm : List AV} {M : Mem} {id sz gen : Nat} {ty : TypeId} {s : List TFeature} {c : Code} {Qx : XPost} (hM : M[id]? = some (some ⟨ty, sz, gen, false, s.map TFeature.ed⟩)) (h : ∀ us, AW P c E tm (M.set id (some ⟨ty, sz, gen, false, nmf us s⟩)) Qx) : AW P c E tm M Qx := AW.name hM rfl h

section
variable {w w0 : World} {Fx : Nat → Prop} {β β' : List Hd} {G G' : List (Option Nat)} {M : Mem} {base : Nat}
theorem CellsD.reset {pv : Nat → Prop} {hb : Option Nat} {sz : Nat} {es : List (List AV)} {xs : List Value} (h : CellsD w Fx β G pv hb sz es xs) {i j : Nat} {r : List AV} {y y' : AV} (hr : es[i]? = some r) (hj : r[j]? = some y) (hyn : nodp y = true) (hn : nodp y' = true)
 (hy : ∀ u, Rep w Fx β G y u → Rep w Fx β' G' y' u) (m : Mv w Fx β G w Fx β' G') : CellsD w Fx β' G' pv hb sz (es.set i (r.set j y')) xs := by
 have hcel := h.cel
 obtain ⟨h1, h2, pc, h3, h4, h5⟩ := h.mv m (fun _ _ _ => rfl)
 refine ⟨by rw [h1, List.length_set], fun i' r' hr' => ?_, pc, h3, h4, fun i' r' j' d' hr' hd => ?_⟩
 · rcases set_get hr' with ⟨rfl, rfl, _⟩ | ⟨hne, hr0⟩
   · refine ⟨by rw [List.length_set]; exact (h2 _ r hr).1, fun j' x hx => ?_⟩
     rcases set_get hx with ⟨rfl, rfl, _⟩ | ⟨hne, hx0⟩
     · obtain ⟨u, hu, ho, hR⟩ := (hcel _ r hr).2 _ y hj
       exact ⟨u, hu, ho, fun _ => hy u (hR hyn)⟩
     · exact (h2 _ r hr).2 _ x hx0
   · exact h2 i' r' hr0
 · rcases set_get hr' with ⟨rfl, rfl, _⟩ | ⟨hne, hr0⟩
   · rcases set_get hd with ⟨rfl, e, _⟩ | ⟨hne, hx0⟩
     · rw [← e] at hn
       cases hn
     · exact h5 _ r _ d' hr hx0
   · exact h5 i' r' j' d' hr0 hd
theorem Gh.reown {q id id2 i j g2 : Nat} {bo b b2 : Blk} {r : List AV} (ho : M[q]? = some (some bo)) (hM : M[id]? = some (some b)) (hM2 : M[id2]? = some (some b2)) (hq : Nat.beq q id = false) (hq2 : Nat.beq q id2 = false) (hne : Nat.beq id id2 = false) (hr : bo.es[i]? = some r) (hc : r[j]? = some (.own id2 g2)) (hg : b2.gen = g2) (hd : DCl b2.es) :
 Gh M (((M.set id2 none).set id (some { b2 with gen := b.gen + 1 })).set q (some { bo with es := bo.es.set i (r.set j (.own id (b.gen + 1))) })) := by
 intro base w0 w Fx β hh
 have hq := Nat.ne_of_beq_eq_false hq
 have hq2 := Nat.ne_of_beq_eq_false hq2
 have hne := Nat.ne_of_beq_eq_false hne
 obtain ⟨vo, hvo, hoko⟩ := hh.blk q bo ho
 obtain ⟨u, hu, hok⟩ := hh.blk id b hM
 obtain ⟨u2, hu2, hok2⟩ := hh.blk id2 b2 hM2
 obtain ⟨M2, hM2e⟩ : ∃ M2, M2 = ((M.set id2 none).set id (some { b2 with gen := b.gen + 1 })).set q (some { bo with es := bo.es.set i (r.set j (.own id (b.gen + 1))) }) := ⟨_, rfl⟩
 rw [← hM2e]
 have hl : M2.length = M.length := by rw [hM2e]; simp
 have hidl : id < M.length := (List.getElem?_eq_some_iff.1 hM).1
 have get : ∀ {p : Nat} {b1 : Blk}, M2[p]? = some (some b1) → (p = q ∧ b1 = { bo with es := bo.es.set i (r.set j (.own id (b.gen + 1))) }) ∨ (p = id ∧ b1 = { b2 with gen := b.gen + 1 }) ∨ (p ≠ q ∧ p ≠ id ∧ p ≠ id2 ∧ M[p]? = some (some b1)) := fun {p b1} h => by
  rw [hM2e] at h
  rcases set_get h with ⟨e, e2, _⟩ | ⟨n1, h⟩
  · exact .inl ⟨e, Option.some.inj e2⟩
  · rcases set_get h with ⟨e, e2, _⟩ | ⟨n2, h⟩
    · exact .inr (.inl ⟨e, Option.some.inj e2⟩)
    · rcases set_get h with ⟨_, e2, _⟩ | ⟨n3, h⟩
      · cases e2
      · exact .inr (.inr ⟨n1, n2, n3, h⟩)
 have bne : ∀ {p : Nat}, p ≠ id → (β.set id u2)[p]? = β[p]? := fun {p} h => by rw [List.getElem?_set, if_neg (Ne.symm h)]
 have bid : (β.set id u2)[id]? = some u2 := by rw [List.getElem?_set, if_pos rfl, if_pos (by rw [hh.len]; exact hidl)]
 have gid : (gens M2)[id]? = some (some (b.gen + 1)) := gens_of (b := { b2 with gen := b.gen + 1 }) (by rw [hM2e, List.getElem?_set, if_neg hq, List.getElem?_set, if_pos rfl, if_pos (by simpa using hidl)])
 have m : Mv w Fx β (gens M) w Fx (β.set id u2) (gens M2) := ⟨fun _ h => h, fun _ _ => rfl, by rw [gens_length, gens_length, hl]; exact Nat.le_refl _, fun p g' _ hg' => by
  obtain ⟨b1, hb1, rfl⟩ := gens_get hg'
  rcases get hb1 with ⟨rfl, rfl⟩ | ⟨rfl, rfl⟩ | ⟨n1, n2, n3, h1⟩
  · exact ⟨bo.gen, gens_of ho, Nat.le_refl _, fun _ => by rw [bne hq]⟩
  · exact ⟨b.gen, gens_of hM, Nat.le_succ _, fun e => absurd e (Nat.ne_of_lt (Nat.lt_succ_self _))⟩
  · exact ⟨b1.gen, gens_of h1, Nat.le_refl _, fun _ => by rw [bne n2]⟩⟩
 have old : ∀ {p : Nat} {b1 : Blk} {v : Hd}, M2[p]? = some (some b1) → (β.set id u2)[p]? = some v → ∃ (p' : Nat) (b' : Blk), M[p']? = some (some b') ∧ β[p']? = some v ∧ ((p = id ∧ p' = id2) ∨ (p ≠ id ∧ p ≠ id2 ∧ p' = p)) := fun {p b1 v} h hv => by
  rcases get h with ⟨rfl, rfl⟩ | ⟨rfl, rfl⟩ | ⟨n1, n2, n3, h1⟩
  · exact ⟨p, bo, ho, by rw [← bne hq]; exact hv, .inr ⟨hq, hq2, rfl⟩⟩
  · rw [bid] at hv
    exact ⟨id2, b2, hM2, hu2.trans hv, .inl ⟨rfl, rfl⟩⟩
  · exact ⟨p, b1, h1, by rw [← bne n2]; exact hv, .inr ⟨n2, n3, rfl⟩⟩
 refine ⟨β.set id u2, ⟨hh.bel, hh.bs, hh.fx, by rw [List.length_set, hl]; exact hh.len, fun p b1 h1 => ?_, fun i1 i2 b1 c2 v1 v2 k hne2 h1 h2 hv1 hv2 hk1 hk2 => ?_⟩, m, fun p b1 v k h1 hv hk => ?_⟩
 · rcases get h1 with ⟨rfl, rfl⟩ | ⟨rfl, rfl⟩ | ⟨n1, n2, n3, h1⟩
   · obtain ⟨xs, hcd, mk⟩ := hoko.open
     refine ⟨vo, by rw [bne hq]; exact hvo, mk _ vo _ _ rfl rfl rfl rfl (by simp) hoko.1 (hcd.reset hr hc rfl rfl (fun x hx => ?_) m)⟩
     cases hx with
     | own ho1 hi hg1 h =>
      obtain ⟨hd1, e1, e2⟩ := h (by rw [← hg]; exact gens_of hM2)
      rw [hu2] at e1
      obtain rfl := Option.some.inj e1
      exact .own ho1 (by rw [gens_length, hl]; exact hidl) (fun g' hg' => by rw [gid] at hg'; simp at hg'; omega) (fun _ => ⟨_, bid, e2⟩)
   · exact ⟨u2, bid, hok2.clo hd rfl fun k hk => ⟨(hok2.1 k hk).1, (hok2.1 k hk).2.2⟩⟩
   · obtain ⟨v, hv, hk⟩ := hh.blk p b1 h1
     exact ⟨v, by rw [bne n2]; exact hv, hk.mv m (Nat.le_refl _) (fun _ _ => rfl) (fun k hk' => (hk.1 k hk').2.2)⟩
 · obtain ⟨p1, c1, a1, a2, a3⟩ := old h1 hv1
   obtain ⟨p2, d1, b1', b2', b3⟩ := old h2 hv2
   refine hh.inj p1 p2 _ _ _ _ k (fun e => ?_) a1 b1' a2 b2' hk1 hk2
   rcases a3 with ⟨x1, x2⟩ | ⟨x1, x2, x3⟩ <;> rcases b3 with ⟨y1, y2⟩ | ⟨y1, y2, y3⟩
   · exact hne2 (x1.trans y1.symm)
   · exact y2 (by rw [← y3, ← e, x2])
   · exact x2 (by rw [← x3, e, y2])
   · exact hne2 (by rw [← x3, ← y3, e])
 · obtain ⟨p', b', a1, a2, _⟩ := old h1 hv
   exact ⟨p', b', v, a1, a2, hk⟩
end

end Go.Proofs.YtpffahmmklpifaaGreat.Abs

/- A nil slice grown: what slices.Grow gives. -/
namespace Go.Proofs.YtpffahmmklpifaaGreat.Abs
open Go.Proofs Go.RowKit
set_option linter.unusedVariables false
set_option linter.unusedSimpArgs false
set_option maxRecDepth 100000
set_option maxHeartbeats 2000000
open Go.Shelf Go.Lib
set_option maxHeartbeats 4000000 in
set_option maxRecDepth 100000 in
theorem growP (m : Nat) (h0 : 0 < m) (hm : m ≤ 1048576) (w : World) : Calls Tryz.prog 340 #[.slice none 0 0, .int .i64 (m : Int)] w fun e w' => ∃ G cur, e = .returned (.slice (some ⟨w.heap.size, 0, none⟩) 0 G) ∧ w' = w.drew.alloc (.cells cur 141) ∧ cur.size = G * 2 ∧ G ≤ maxLen := by
 have mixed : Tryz.prog.follows .mixedOrders = true := by kernel_rfl
 obtain ⟨i0, z, hsl, hi0, hz0, hsz, hby, hzc, _, _, hs0⟩ := rwk_inv rwk79
 have u3 : Tryz.prog.underlying 3 = some (.int .i64) := Tryz.underlying3
 have h1 : ¬ ((m : Int) < 0) := by omega
 have h2 : wrap64 ((0 : Int) - (0 : Int)) = 0 := by unfold wrap64; omega
 have h3 : wrap64 ((m : Int) - 0) = (m : Int) := by unfold wrap64; omega
 have h4 : (m : Int) > 0 := by omega
 have hG := grownCap_ge w m 0 141
 have hG2 := grownCap_le_maxLen w m 0 141 (by rw [maxLen_eq]; omega)
 have hrz : ∀ ty, (Builtin.append_ #[79, 3] ty #[.slice none 0 0, .int .i64 (m : Int)]).run Tryz.prog w = .ok (.slice (some ⟨w.heap.size, 0, none⟩) m (grownCap w m 0 141)) (w.drew.alloc (.cells ((#[] : Array Value) ++ Builtin.zeroCells z.cells m ++ Builtin.zeroCells z.cells (grownCap w m 0 141 - m)) 141)) := fun ty => by
  have h := Lib.run_append_grow_zeros w 79 3 ty 141 i0 z .i64 .i64 hsl u3 hi0 hz0 none 0 0 [] (run_firstCells_none w.drew i0.size 0 0 0) m h0 (by omega) (by omega) (by omega) (by rw [hby]; omega) (by rw [Nat.zero_add]; exact growslice_fits h0 (by rw [hby]; omega))
  simp only [Nat.zero_add] at h
  exact h
 obtain ⟨G, hGe⟩ : ∃ G, G = grownCap w m 0 141 := ⟨_, rfl⟩
 obtain ⟨cur, hcu⟩ : ∃ cur, cur = (#[] : Array Value) ++ Builtin.zeroCells z.cells m ++ Builtin.zeroCells z.cells (G - m) := ⟨_, rfl⟩
 rw [← hGe] at hrz hG hG2
 have hcs : cur.size = G * 2 := by
  rw [hcu]
  simp only [Array.size_append, size_zeroCells, hzc, Array.size_empty, Nat.zero_add]
  omega
 rw [← hcu] at hrz
 have hG63 : G ≤ 9223372036854775807 := by rw [maxLen_eq] at hG2; exact hG2
 clear hGe hcu hzc hby hsz
 go_enter Tryz.func340, Tryz.ntmps340
 go_wp2_with (at_builtin; refine Lib.wpList_append_run _ rfl _ _ _ _ rfl _ _ rfl rfl _ _ (hrz _) ?_)
 all_goals (go_ret; exact ⟨G, rfl, cur, rfl, hcs, hG2⟩)
theorem grow_v (m : Nat) (h0 : 0 < m) (hm : m ≤ 1048576) : VCalls Tryz.prog 340 [.c (.slice none 0 0), I (m : Int)] (fun r M => r = .own 0 0 ∧ M = [some ⟨141, 2, 0, false, []⟩]) := by
 intro E vals hM hh hsl
 obtain rfl := Slots.plain (vs := [.slice none 0 0, .int .i64 (m : Int)]) hsl
 refine (growP m h0 hm E.win).mono ?_
 rintro e w' ⟨G, cur, rfl, rfl, hcs, hG⟩
 have hg : E.win.grownBy (E.win.drew.alloc (.cells cur 141)) none := by
  have g := World.grownBy_alloc E.win.drew (.cells cur 141) none
  exact ⟨g.1, g.2, g.3, g.4, g.5⟩
 have hβ : E.β = [] := List.length_eq_zero_iff.1 hh.len
 have hrow := hh.addRow hg (t := 141) (sz := 2) (v := .slice (some ⟨E.win.heap.size, 0, none⟩) 0 G) (es := []) (xs := [])
  ⟨rfl, .inr ⟨E.win.heap.size, G, cur, rfl, hh.bs, heap_alloc_new E.win.drew _, Nat.zero_le _, hG, hcs, by simp⟩⟩ (fun k hk => by simp [blockOf] at hk; omega) ⟨rfl, fun i r hr => by simp at hr⟩
 refine ⟨_, .own 0 0, _, E.Fx, _, rfl, ⟨rfl, rfl⟩, hrow.1, ⟨?_, hrow.2.size, fun k hk => .inl hk, ?_⟩, ?_⟩
 · rw [hM]; exact hrow.2.mv
 · intro id bk v k g1 g2 g3
   rcases hrow.2.own id bk v k g1 g2 g3 with h | ⟨_, _, _, h, _⟩
   · exact .inl h
   · simp at h
 · refine .own rfl (by simp [gens]) (fun g1 hg => by simp [gens] at hg; omega) (fun _ => ⟨Hd.flat _, ?_, rfl⟩)
   rw [hβ]
   rfl

end Go.Proofs.YtpffahmmklpifaaGreat.Abs
