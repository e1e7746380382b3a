/- Part A of the walk over abstract states and of the functions' walks. -/
import Derived.Test.YtpffahmmklpifaaGreatWkStep
import Derived.Test.YtpffahmmklpifaaGreatGeo
/- The walks of the size tests, and that what is left bounds the lengths. -/
namespace Go.Proofs.YtpffahmmklpifaaGreat.Abs
open Go.Proofs Go.RowKit
set_option linter.unusedVariables false
set_option linter.unusedSimpArgs false
set_option maxRecDepth 100000
set_option maxHeartbeats 2000000
attribute [local irreducible] OpA AL AW DL DLM DLR DLS QOp POp VCalls VCallsI
abbrev wsub (a b : Int) : Int := IntKind.i64.wrap (a - b)
def thenS (a : Int) (k : Int → Int) : Int := if a < 0 then -1 else k a
def szN (n : Nat) (left : Int) : Int := thenS (wsub left n) fun a => a
def szAcc {α : Type} (f : α → Int → Int) (l : List α) (left : Int) (i : Nat) : Int := (l.take i).foldl (fun acc x => if acc < 0 then -1 else f x acc) left
def szL {α : Type} (f : α → Int → Int) (l : List α) (left : Int) : Int := thenS (wsub left l.length) fun a => szAcc f l a l.length
theorem szAcc_succ {α : Type} {f : α → Int → Int} {l : List α} {left : Int} {i : Nat} {x : α} (h : l[i]? = some x) (h0 : 0 ≤ szAcc f l left i) : szAcc f l left (i + 1) = f x (szAcc f l left i) := by
 unfold szAcc at *
 rw [take_succ_of h, List.foldl_append]
 simp only [List.foldl_cons, List.foldl_nil]
 rw [if_neg (by omega)]
theorem sz_stuck {α : Type} (f : α → Int → Int) : ∀ (l : List α) (a : Int), a < 0 → l.foldl (fun acc x => if acc < 0 then -1 else f x acc) a = -1 ∨ l.foldl (fun acc x => if acc < 0 then -1 else f x acc) a = a
 | [], a, h => .inr rfl
 | x :: l, a, h => by
  rw [List.foldl_cons, if_pos h]
  rcases sz_stuck f l (-1) (by omega) with e | e <;> exact .inl e
theorem szAcc_lt {α : Type} {f : α → Int → Int} {l : List α} {left : Int} {i : Nat} {x : α} (hf : f x (szAcc f l left i) < 0 → f x (szAcc f l left i) = -1) (hx : l[i]? = some x) (h0 : 0 ≤ szAcc f l left i) (h : f x (szAcc f l left i) < 0) : szAcc f l left l.length = -1 := by
 have e : szAcc f l left l.length = (l.drop (i + 1)).foldl (fun acc x => if acc < 0 then -1 else f x acc) (szAcc f l left (i + 1)) := by
  unfold szAcc
  rw [← List.foldl_append, List.take_append_drop, List.take_length]
 rw [e, szAcc_succ hx h0, hf h]
 rcases sz_stuck f (l.drop (i + 1)) (-1) (by omega) with e | e <;> exact e
theorem thenS_lt {a : Int} {k : Int → Int} (hk : k a < 0 → k a = -1) (h : thenS a k < 0) : thenS a k = -1 := by
 unfold thenS at *
 split
 · rfl
 · rename_i h1; rw [if_neg h1] at h; exact hk h
theorem thenS_id {a : Int} (h : thenS a (fun a => a) < 0) : thenS a (fun a => a) = -1 := by
 unfold thenS at *
 split
 · rfl
 · rename_i h1; rw [if_neg h1] at h; exact absurd h h1
theorem thenS_ge {a : Int} {k : Int → Int} (h : 0 ≤ thenS a k) : 0 ≤ a ∧ thenS a k = k a := by
 unfold thenS at *
 split
 · rename_i h1; rw [if_pos h1] at h; omega
 · rename_i h1; exact ⟨by omega, rfl⟩
theorem maxLen_eq : maxLen = 9223372036854775807 := by decide
theorem wsub_ge {left : Int} {n : Nat} (hn : n ≤ maxLen) (h0 : 0 ≤ left) (h1 : left ≤ 1048576) : wsub left n = left - n := by
 rw [maxLen_eq] at hn
 exact w64 (by omega) (by omega)
def Szs {α : Type} (f : α → Int → Int) (ok sm : α → Prop) : Prop := ∀ x left, ok x → 0 ≤ left → left ≤ 1048576 → 0 ≤ f x left → sm x ∧ f x left ≤ left
theorem Szs.mem {α : Type} {f : α → Int → Int} {ok sm : α → Prop} (h : Szs f ok sm) : ∀ (l : List α) (a : Int), (∀ x ∈ l, ok x) → 0 ≤ a → a ≤ 1048576 → 0 ≤ l.foldl (fun acc x => if acc < 0 then -1 else f x acc) a → (∀ x ∈ l, sm x) ∧ l.foldl (fun acc x => if acc < 0 then -1 else f x acc) a ≤ a
 | [], a, _, _, _, _ => ⟨fun x hx => by simp at hx, Int.le_refl _⟩
 | x :: l, a, hk, h0, h1, hp => by
  rw [List.foldl_cons, if_neg (by omega)] at hp ⊢
  have hx0 : 0 ≤ f x a := by
   rcases (by omega : f x a < 0 ∨ 0 ≤ f x a) with hn | hn
   · rcases sz_stuck f l (f x a) hn with e | e <;> rw [e] at hp <;> omega
   · exact hn
  obtain ⟨s1, s2⟩ := h x a (hk x (List.mem_cons_self ..)) h0 h1 hx0
  obtain ⟨t1, t2⟩ := Szs.mem h l (f x a) (fun y hy => hk y (List.mem_cons_of_mem _ hy)) hx0 (by omega) hp
  exact ⟨fun y hy => by rcases List.mem_cons.1 hy with rfl | hy <;> first | exact s1 | exact t1 y hy, by omega⟩
theorem Szs.list {α : Type} {f : α → Int → Int} {ok sm : α → Prop} (h : Szs f ok sm) : Szs (szL f) (fun l : List α => l.length ≤ maxLen ∧ ∀ x ∈ l, ok x) (fun l => l.length ≤ 1048576 ∧ ∀ x ∈ l, sm x) := by
 intro l left hk h0 h1 hp
 obtain ⟨a, b⟩ := thenS_ge hp
 have e := wsub_ge hk.1 h0 h1
 rw [show szL f l left = _ from b] at hp ⊢
 unfold szAcc at hp ⊢
 rw [List.take_length] at hp ⊢
 obtain ⟨s, t⟩ := h.mem l _ hk.2 a (by omega) hp
 exact ⟨⟨by omega, s⟩, by omega⟩
theorem Szs.flat {α : Type} {ok : α → Prop} : Szs (fun (l : List α) => szN l.length) (fun l : List α => l.length ≤ maxLen ∧ ∀ x ∈ l, ok x) (fun l => l.length ≤ 1048576) := by
 intro l left hk h0 h1 hp
 obtain ⟨a, b⟩ := thenS_ge (show 0 ≤ szN l.length left from hp)
 have e := wsub_ge hk.1 h0 h1
 change _ ∧ szN l.length left ≤ left
 rw [show szN l.length left = _ from b]
 exact ⟨by omega, by omega⟩
theorem Szs.split {α : Type} {f : α → Int → Int} {ok sm : α → Prop} (h : Szs f ok sm) (x : α) (left : Int) (hk : ok x) (h0 : 0 ≤ left) (h1 : left ≤ 1048576) : decide (f x left < 0) = true ∨ (decide (f x left < 0) = false ∧ sm x ∧ 0 ≤ f x left ∧ f x left ≤ 1048576) := by
 rcases (by omega : f x left < 0 ∨ 0 ≤ f x left) with hz | hz
 · exact .inl (decide_eq_true hz)
 · obtain ⟨a, b⟩ := h x left hk h0 h1 hz
   exact .inr ⟨decide_eq_false (by omega), a, hz, by omega⟩

def TFeature.sm (x : TFeature) : Prop := (x.points.length ≤ 1048576)
def TFeature.sz (x : TFeature) (left : Int) : Int := thenS (wsub left x.name.size) fun a0 => thenS (szN x.points.length a0) fun a1 => a1
theorem TFeature.sz_lt (x : TFeature) (left : Int) (h : x.sz left < 0) : x.sz left = -1 := by
 unfold TFeature.sz at *
 with_reducible refine thenS_lt (fun h => ?_) h
 with_reducible exact thenS_id h
theorem TFeature.szs : Szs TFeature.sz TFeature.ok (fun x => x.sm) := by
 intro x left hk h0 h1 hp
 obtain ⟨k0, k1, k2, k3, k4⟩ := hk
 unfold TFeature.sz at *
 obtain ⟨p0, e0⟩ := thenS_ge hp
 rw [e0] at hp ⊢
 have s0 := wsub_ge k3 h0 h1
 have u0 := Int.le_trans (Int.le_of_eq s0) (by omega : _ ≤ (1048576 : Int))
 have q0 := Int.le_trans (Int.le_of_eq s0) (by omega : _ ≤ left)
 obtain ⟨p1, e1⟩ := thenS_ge hp
 rw [e1] at hp ⊢
 have s1 := Szs.flat (ok := TPoint.ok) _ _ k4 p0 u0 p1
 try dsimp only at s1
 have u1 := Int.le_trans s1.2 u0
 have q1 := Int.le_trans s1.2 q0
 exact ⟨s1.1, q1⟩
def TCover.sz (x : TCover) (left : Int) : Int := thenS (wsub left x.cells.size) fun a0 => a0
theorem TCover.sz_lt (x : TCover) (left : Int) (h : x.sz left < 0) : x.sz left = -1 := by
 unfold TCover.sz at *
 with_reducible exact thenS_id h
theorem TCover.szs : Szs TCover.sz TCover.ok (fun x => True) := by
 intro x left hk h0 h1 hp
 obtain ⟨k0, k1, k2⟩ := hk
 unfold TCover.sz at *
 obtain ⟨p0, e0⟩ := thenS_ge hp
 rw [e0] at hp ⊢
 have s0 := wsub_ge k2 h0 h1
 have u0 := Int.le_trans (Int.le_of_eq s0) (by omega : _ ≤ (1048576 : Int))
 have q0 := Int.le_trans (Int.le_of_eq s0) (by omega : _ ≤ left)
 exact ⟨trivial, q0⟩
def TLabel.sz (x : TLabel) (left : Int) : Int := thenS (wsub left x.name.size) fun a0 => a0
theorem TLabel.sz_lt (x : TLabel) (left : Int) (h : x.sz left < 0) : x.sz left = -1 := by
 unfold TLabel.sz at *
 with_reducible exact thenS_id h
theorem TLabel.szs : Szs TLabel.sz TLabel.ok (fun x => True) := by
 intro x left hk h0 h1 hp
 obtain ⟨k0, k1, k2⟩ := hk
 unfold TLabel.sz at *
 obtain ⟨p0, e0⟩ := thenS_ge hp
 rw [e0] at hp ⊢
 have s0 := wsub_ge k1 h0 h1
 have u0 := Int.le_trans (Int.le_of_eq s0) (by omega : _ ≤ (1048576 : Int))
 have q0 := Int.le_trans (Int.le_of_eq s0) (by omega : _ ≤ left)
 exact ⟨trivial, q0⟩
def TChart.sm (x : TChart) : Prop := (x.features.length ≤ 1048576 ∧ ∀ y ∈ x.features, y.sm) ∧ (x.labels.length ≤ 1048576)
def TChart.sz (x : TChart) (left : Int) : Int := thenS (szL TFeature.sz x.features left) fun a0 => thenS (szL TLabel.sz x.labels a0) fun a1 => a1
theorem TChart.sz_lt (x : TChart) (left : Int) (h : x.sz left < 0) : x.sz left = -1 := by
 unfold TChart.sz at *
 with_reducible refine thenS_lt (fun h => ?_) h
 with_reducible exact thenS_id h
theorem TChart.szs : Szs TChart.sz TChart.ok (fun x => x.sm) := by
 intro x left hk h0 h1 hp
 obtain ⟨k0, k1⟩ := hk
 unfold TChart.sz at *
 obtain ⟨p0, e0⟩ := thenS_ge hp
 rw [e0] at hp ⊢
 have s0 := TFeature.szs.list _ _ k0 h0 h1 p0
 try dsimp only at s0
 have u0 := Int.le_trans s0.2 h1
 have q0 := Int.le_trans s0.2 (Int.le_refl _)
 obtain ⟨p1, e1⟩ := thenS_ge hp
 rw [e1] at hp ⊢
 have s1 := TLabel.szs.list _ _ k1 p0 u0 p1
 try dsimp only at s1
 have u1 := Int.le_trans s1.2 u0
 have q1 := Int.le_trans s1.2 q0
 exact ⟨⟨s0.1, s1.1.1⟩, q1⟩
def TEntry.sm (x : TEntry) : Prop := x.feature.sm
def TEntry.sz (x : TEntry) (left : Int) : Int := thenS (x.feature.sz left) fun a0 => a0
theorem TEntry.sz_lt (x : TEntry) (left : Int) (h : x.sz left < 0) : x.sz left = -1 := by
 unfold TEntry.sz at *
 with_reducible exact thenS_id h
theorem TEntry.szs : Szs TEntry.sz TEntry.ok (fun x => x.sm) := by
 intro x left hk h0 h1 hp
 obtain ⟨k0, k1, k2, k3⟩ := hk
 unfold TEntry.sz at *
 obtain ⟨p0, e0⟩ := thenS_ge hp
 rw [e0] at hp ⊢
 have s0 := TFeature.szs _ _ k0 h0 h1 p0
 try dsimp only at s0
 have u0 := Int.le_trans s0.2 h1
 have q0 := Int.le_trans s0.2 (Int.le_refl _)
 exact ⟨s0.1, q0⟩
def TEdition.sm (x : TEdition) : Prop := (x.source.length ≤ 1048576 ∧ ∀ y ∈ x.source, y.sm)
def TEdition.sz (x : TEdition) (left : Int) : Int := thenS (szL TFeature.sz x.source left) fun a0 => a0
theorem TEdition.sz_lt (x : TEdition) (left : Int) (h : x.sz left < 0) : x.sz left = -1 := by
 unfold TEdition.sz at *
 with_reducible exact thenS_id h
theorem TEdition.szs : Szs TEdition.sz TEdition.ok (fun x => x.sm) := by
 intro x left hk h0 h1 hp
 obtain ⟨k0, k1, k2⟩ := hk
 unfold TEdition.sz at *
 obtain ⟨p0, e0⟩ := thenS_ge hp
 rw [e0] at hp ⊢
 have s0 := TFeature.szs.list _ _ k1 h0 h1 p0
 try dsimp only at s0
 have u0 := Int.le_trans s0.2 h1
 have q0 := Int.le_trans s0.2 (Int.le_refl _)
 exact ⟨s0.1, q0⟩
def TAtlas.sm (x : TAtlas) : Prop := (x.log.length ≤ 1048576 ∧ ∀ y ∈ x.log, y.sm) ∧ (x.levels.length ≤ 1048576) ∧ (x.editions.length ≤ 1048576 ∧ ∀ y ∈ x.editions, y.sm)
def TAtlas.sz (x : TAtlas) (left : Int) : Int := thenS (szL TEntry.sz x.log left) fun a0 => thenS (szN x.levels.length a0) fun a1 => thenS (szL TEdition.sz x.editions a1) fun a2 => thenS (x.cover.sz a2) fun a3 => a3
theorem TAtlas.sz_lt (x : TAtlas) (left : Int) (h : x.sz left < 0) : x.sz left = -1 := by
 unfold TAtlas.sz at *
 with_reducible refine thenS_lt (fun h => ?_) h
 with_reducible refine thenS_lt (fun h => ?_) h
 with_reducible refine thenS_lt (fun h => ?_) h
 with_reducible exact thenS_id h
theorem TAtlas.szs : Szs TAtlas.sz TAtlas.ok (fun x => x.sm) := by
 intro x left hk h0 h1 hp
 obtain ⟨k0, k1, k2, k3, k4⟩ := hk
 unfold TAtlas.sz at *
 obtain ⟨p0, e0⟩ := thenS_ge hp
 rw [e0] at hp ⊢
 have s0 := TEntry.szs.list _ _ k0 h0 h1 p0
 try dsimp only at s0
 have u0 := Int.le_trans s0.2 h1
 have q0 := Int.le_trans s0.2 (Int.le_refl _)
 obtain ⟨p1, e1⟩ := thenS_ge hp
 rw [e1] at hp ⊢
 have s1 := Szs.flat (ok := TLevel.ok) _ _ k1 p0 u0 p1
 try dsimp only at s1
 have u1 := Int.le_trans s1.2 u0
 have q1 := Int.le_trans s1.2 q0
 obtain ⟨p2, e2⟩ := thenS_ge hp
 rw [e2] at hp ⊢
 have s2 := TEdition.szs.list _ _ k2 p1 u1 p2
 try dsimp only at s2
 have u2 := Int.le_trans s2.2 u1
 have q2 := Int.le_trans s2.2 q1
 obtain ⟨p3, e3⟩ := thenS_ge hp
 rw [e3] at hp ⊢
 have s3 := TCover.szs _ _ k3 p2 u2 p3
 try dsimp only at s3
 have u3 := Int.le_trans s3.2 u2
 have q3 := Int.le_trans s3.2 q2
 exact ⟨⟨s0.1, s1.1, s2.1⟩, q3⟩
theorem szPointS (l : List TPoint) (left : Int) : VCalls Tryz.prog 132 [.ro 2 (l.map TPoint.en), I left] (fun r M => r = I (szN l.length left) ∧ M = []) := by
 refine VB Tryz.func132 10 (fun E hE => ?_)
 repeat' ((first
  | (refine iAL ?_; first | refine AL.any ?_ | refine AL.nil ?_)
  | (refine iAW ?_; first | (refine AW.c0 ?_; constructor) | (refine AW.c2 ?_ ?_ <;> (intro h; try simp only [bT, bF] at h)))) <;> (try dsimp only))
 all_goals exact Fin.one rfl (RV.tmp (by rfl)) (clo_c _) ⟨by first | rfl | ((try simp only [List.length_map] at *); simp only [szN, thenS]; (repeat' split) <;> (try simp_all [thenS, szN]) <;> (try omega)), rfl⟩

theorem szFeature (x : TFeature) (left : Int) (hk : x.ok) : VCalls Tryz.prog 70 [.agg x.en, I left] (fun r M => r = I (x.sz left) ∧ M = []) := by
 refine VB Tryz.func70 17 (fun E hE => ?_)
 have hclo0 : Clo (.ro 2 (x.points.map TPoint.en)) := clo_list TPoint.clo_en
 have hcle : Clo (.agg x.en) := Clo.agg x.clo_en
 have hk' := hk
 obtain ⟨k0, k1, k2, k3, k4⟩ := hk
 obtain ⟨k4, k4'⟩ := k4
 rw [maxLen_eq] at k4
 dsimp only [TFeature.en]
 repeat' ((first
  | (refine iAL ?_; first | refine AL.any ?_ | refine AL.any (h := POp.k Tryz.func132 (hc := szPointS _ _)) ?_ | refine AL.nil ?_)
  | (refine iAW ?_; first | (refine AW.c0 ?_; constructor) | (refine AW.c2 ?_ ?_ <;> (intro h; try simp only [bT, bF] at h)))) <;> (try dsimp only))
 all_goals exact Fin.one rfl (RV.tmp (by rfl)) (clo_c _) ⟨by first | rfl | ((try simp only [List.length_map] at *); simp only [TFeature.sz, thenS, szN]; (repeat' split) <;> (try simp_all [thenS, szN]) <;> (try omega)), rfl⟩

theorem szFeatureS (l : List TFeature) (left : Int) (hl : l.length ≤ 9223372036854775807) (hp : ∀ x ∈ l, x.ok) : VCalls Tryz.prog 17 [.ro 5 (l.map TFeature.en), I left] (fun r M => r = I (szL TFeature.sz l left) ∧ M = []) := by
 refine VB Tryz.func17 25 (fun E hE => ?_)
 repeat' ((first
  | (refine iAL ?_; first | refine AL.any ?_ | refine AL.any (h := POp.k Tryz.func70 (hc := szFeature x _ (by assumption))) ?_ | refine AL.nil ?_)
  | (refine iAW ?_; first | (refine AW.c0 ?_; constructor) | refine AW.cT ?_ | refine AW.cF ?_ | (refine AW.c2 ?_ ?_ <;> (intro h; try simp only [bT, bF] at h)))
  | (
 refine AW.loopD hE (fun i : Nat => [.ro 5 (l.map TFeature.en), I (szAcc TFeature.sz l (wsub left l.length) i), .any, .any, .any, I i, .any, .any, .any, .any, .any, .any, .any, .any, .any, .any, .any, .any, .any, .any, .any, .any, .any, .any, .any, .any, .any]) (fun i => []) (fun i => l.length - i) (fun i => i ≤ l.length ∧ 0 ≤ szAcc TFeature.sz l (wsub left l.length) i) 0 (by simp_all [szAcc, wsub]) ?_ (by first | rfl | (simp [fil_zero]; done)) ?_
 (focus ((refine wkj ?_; repeat' with_reducible constructor) <;> first | rfl | (simp [szAcc, wsub])))
 intro i hi
 have hclo : Clo (.ro 5 (l.map TFeature.en)) := clo_list TFeature.clo_en
 by_cases hlt : i < l.length
 case' pos =>
  have hP := True.intro
  obtain ⟨x, hx⟩ : ∃ x, l[i]? = some x := ⟨_, List.getElem?_eq_getElem hlt⟩
  have hg := map_get (f := TFeature.en) hx
  have ht := lt_true (f := TFeature.en) hlt
  have hn := next_ix hlt (by omega)
  have hpx := hp x (List.mem_of_getElem? hx)
  have hcle : Clo (.agg x.en) := Clo.agg x.clo_en
  have hs := szAcc_succ (f := TFeature.sz) (left := wsub left l.length) hx hi.2
 case' neg =>
  have hQ := True.intro
  have ht := lt_false (f := TFeature.en) hlt
  have e : i = l.length := by omega
  subst e
  try rw [List.take_length])) <;> (try dsimp only))
 all_goals first
  | (have _ := hP; (refine ⟨i + 1, _, ⟨hlt, by rw [hs]; simp_all⟩, by omega, ?_, rfl, ?_, ?_⟩; (focus ((refine wkj ?_; repeat' with_reducible constructor) <;> (first | (rw [hs]; done) | simp_all [szAcc, wsub]))); (focus (exact fitsA)); (focus (exact FitsM.nil _))))
  | (have _ := hP; exact Fin.one rfl (RV.tmp (by rfl)) (clo_c _) ⟨by have e := szAcc_lt (TFeature.sz_lt x _) hx hi.2 (by simp_all); simp_all [szL, thenS, wsub], rfl⟩)
  | (have _ := hQ; exact Fin.one rfl (RV.tmp (by rfl)) (clo_c _) ⟨by have e := hi.2; simp_all [szL, thenS, wsub] <;> omega, rfl⟩)
  | (exact Fin.one rfl (RV.tmp (by rfl)) (clo_c _) ⟨by simp_all [szL, thenS, wsub], rfl⟩)

theorem szCover (x : TCover) (left : Int) (hk : x.ok) : VCalls Tryz.prog 51 [.agg x.en, I left] (fun r M => r = I (x.sz left) ∧ M = []) := by
 refine VB Tryz.func51 11 (fun E hE => ?_)
 have hk' := hk
 obtain ⟨k0, k1, k2⟩ := hk
 dsimp only [TCover.en]
 repeat' ((first
  | (refine iAL ?_; first | refine AL.any ?_ | refine AL.nil ?_)
  | (refine iAW ?_; first | (refine AW.c0 ?_; constructor) | (refine AW.c2 ?_ ?_ <;> (intro h; try simp only [bT, bF] at h)))) <;> (try dsimp only))
 all_goals exact Fin.one rfl (RV.tmp (by rfl)) (clo_c _) ⟨by first | rfl | ((try simp only [List.length_map] at *); simp only [TCover.sz, thenS, szN]; (repeat' split) <;> (try simp_all [thenS, szN]) <;> (try omega)), rfl⟩

theorem szLevelS (l : List TLevel) (left : Int) : VCalls Tryz.prog 23 [.ro 3 (l.map TLevel.en), I left] (fun r M => r = I (szN l.length left) ∧ M = []) := by
 refine VB Tryz.func23 10 (fun E hE => ?_)
 repeat' ((first
  | (refine iAL ?_; first | refine AL.any ?_ | refine AL.nil ?_)
  | (refine iAW ?_; first | (refine AW.c0 ?_; constructor) | (refine AW.c2 ?_ ?_ <;> (intro h; try simp only [bT, bF] at h)))) <;> (try dsimp only))
 all_goals exact Fin.one rfl (RV.tmp (by rfl)) (clo_c _) ⟨by first | rfl | ((try simp only [List.length_map] at *); simp only [szN, thenS]; (repeat' split) <;> (try simp_all [thenS, szN]) <;> (try omega)), rfl⟩

theorem szEntry (x : TEntry) (left : Int) (hk : x.ok) : VCalls Tryz.prog 105 [.agg x.en, I left] (fun r M => r = I (x.sz left) ∧ M = []) := by
 refine VB Tryz.func105 10 (fun E hE => ?_)
 have hclo0 : Clo (.ro 2 (x.feature.points.map TPoint.en)) := clo_list TPoint.clo_en
 have hcls0 : Clo (.agg x.feature.en) := Clo.agg x.feature.clo_en
 have hcle : Clo (.agg x.en) := Clo.agg x.clo_en
 have hk' := hk
 obtain ⟨k0, k1, k2, k3⟩ := hk
 dsimp only [TEntry.en]
 repeat' ((first
  | (refine iAL ?_; first | refine AL.any ?_ | refine AL.any (h := POp.k Tryz.func70 (hc := szFeature x.feature _ (by assumption))) ?_ | refine AL.nil ?_)
  | (refine iAW ?_; first | (refine AW.c0 ?_; constructor) | (refine AW.c2 ?_ ?_ <;> (intro h; try simp only [bT, bF] at h)))) <;> (try dsimp only))
 all_goals exact Fin.one rfl (RV.tmp (by rfl)) (clo_c _) ⟨by first | rfl | ((try simp only [List.length_map] at *); simp only [TEntry.sz, thenS, szN]; (repeat' split) <;> (try simp_all [thenS, szN]) <;> (try omega)), rfl⟩

theorem szEntryS (l : List TEntry) (left : Int) (hl : l.length ≤ 9223372036854775807) (hp : ∀ x ∈ l, x.ok) : VCalls Tryz.prog 49 [.ro 8 (l.map TEntry.en), I left] (fun r M => r = I (szL TEntry.sz l left) ∧ M = []) := by
 refine VB Tryz.func49 25 (fun E hE => ?_)
 repeat' ((first
  | (refine iAL ?_; first | refine AL.any ?_ | refine AL.any (h := POp.k Tryz.func105 (hc := szEntry x _ (by assumption))) ?_ | refine AL.nil ?_)
  | (refine iAW ?_; first | (refine AW.c0 ?_; constructor) | refine AW.cT ?_ | refine AW.cF ?_ | (refine AW.c2 ?_ ?_ <;> (intro h; try simp only [bT, bF] at h)))
  | (
 refine AW.loopD hE (fun i : Nat => [.ro 8 (l.map TEntry.en), I (szAcc TEntry.sz l (wsub left l.length) i), .any, .any, .any, I i, .any, .any, .any, .any, .any, .any, .any, .any, .any, .any, .any, .any, .any, .any, .any, .any, .any, .any, .any, .any, .any]) (fun i => []) (fun i => l.length - i) (fun i => i ≤ l.length ∧ 0 ≤ szAcc TEntry.sz l (wsub left l.length) i) 0 (by simp_all [szAcc, wsub]) ?_ (by first | rfl | (simp [fil_zero]; done)) ?_
 (focus ((refine wkj ?_; repeat' with_reducible constructor) <;> first | rfl | (simp [szAcc, wsub])))
 intro i hi
 have hclo : Clo (.ro 8 (l.map TEntry.en)) := clo_list TEntry.clo_en
 by_cases hlt : i < l.length
 case' pos =>
  have hP := True.intro
  obtain ⟨x, hx⟩ : ∃ x, l[i]? = some x := ⟨_, List.getElem?_eq_getElem hlt⟩
  have hg := map_get (f := TEntry.en) hx
  have ht := lt_true (f := TEntry.en) hlt
  have hn := next_ix hlt (by omega)
  have hpx := hp x (List.mem_of_getElem? hx)
  have hcle : Clo (.agg x.en) := Clo.agg x.clo_en
  have hs := szAcc_succ (f := TEntry.sz) (left := wsub left l.length) hx hi.2
 case' neg =>
  have hQ := True.intro
  have ht := lt_false (f := TEntry.en) hlt
  have e : i = l.length := by omega
  subst e
  try rw [List.take_length])) <;> (try dsimp only))
 all_goals first
  | (have _ := hP; (refine ⟨i + 1, _, ⟨hlt, by rw [hs]; simp_all⟩, by omega, ?_, rfl, ?_, ?_⟩; (focus ((refine wkj ?_; repeat' with_reducible constructor) <;> (first | (rw [hs]; done) | simp_all [szAcc, wsub]))); (focus (exact fitsA)); (focus (exact FitsM.nil _))))
  | (have _ := hP; exact Fin.one rfl (RV.tmp (by rfl)) (clo_c _) ⟨by have e := szAcc_lt (TEntry.sz_lt x _) hx hi.2 (by simp_all); simp_all [szL, thenS, wsub], rfl⟩)
  | (have _ := hQ; exact Fin.one rfl (RV.tmp (by rfl)) (clo_c _) ⟨by have e := hi.2; simp_all [szL, thenS, wsub] <;> omega, rfl⟩)
  | (exact Fin.one rfl (RV.tmp (by rfl)) (clo_c _) ⟨by simp_all [szL, thenS, wsub], rfl⟩)

theorem szEdition (x : TEdition) (left : Int) (hk : x.ok) : VCalls Tryz.prog 106 [.agg x.en, I left] (fun r M => r = I (x.sz left) ∧ M = []) := by
 refine VB Tryz.func106 10 (fun E hE => ?_)
 have hclo0 : Clo (.ro 5 (x.source.map TFeature.en)) := clo_list TFeature.clo_en
 have hcle : Clo (.agg x.en) := Clo.agg x.clo_en
 have hk' := hk
 obtain ⟨k0, k1, k2⟩ := hk
 obtain ⟨k1, k1'⟩ := k1
 rw [maxLen_eq] at k1
 dsimp only [TEdition.en]
 repeat' ((first
  | (refine iAL ?_; first | refine AL.any ?_ | refine AL.any (h := POp.k Tryz.func17 (hc := szFeatureS _ _ (by assumption) (by assumption))) ?_ | refine AL.nil ?_)
  | (refine iAW ?_; first | (refine AW.c0 ?_; constructor) | (refine AW.c2 ?_ ?_ <;> (intro h; try simp only [bT, bF] at h)))) <;> (try dsimp only))
 all_goals exact Fin.one rfl (RV.tmp (by rfl)) (clo_c _) ⟨by first | rfl | ((try simp only [List.length_map] at *); simp only [TEdition.sz, thenS, szN]; (repeat' split) <;> (try simp_all [thenS, szN]) <;> (try omega)), rfl⟩

theorem szEditionS (l : List TEdition) (left : Int) (hl : l.length ≤ 9223372036854775807) (hp : ∀ x ∈ l, x.ok) : VCalls Tryz.prog 50 [.ro 3 (l.map TEdition.en), I left] (fun r M => r = I (szL TEdition.sz l left) ∧ M = []) := by
 refine VB Tryz.func50 25 (fun E hE => ?_)
 repeat' ((first
  | (refine iAL ?_; first | refine AL.any ?_ | refine AL.any (h := POp.k Tryz.func106 (hc := szEdition x _ (by assumption))) ?_ | refine AL.nil ?_)
  | (refine iAW ?_; first | (refine AW.c0 ?_; constructor) | refine AW.cT ?_ | refine AW.cF ?_ | (refine AW.c2 ?_ ?_ <;> (intro h; try simp only [bT, bF] at h)))
  | (
 refine AW.loopD hE (fun i : Nat => [.ro 3 (l.map TEdition.en), I (szAcc TEdition.sz l (wsub left l.length) i), .any, .any, .any, I i, .any, .any, .any, .any, .any, .any, .any, .any, .any, .any, .any, .any, .any, .any, .any, .any, .any, .any, .any, .any, .any]) (fun i => []) (fun i => l.length - i) (fun i => i ≤ l.length ∧ 0 ≤ szAcc TEdition.sz l (wsub left l.length) i) 0 (by simp_all [szAcc, wsub]) ?_ (by first | rfl | (simp [fil_zero]; done)) ?_
 (focus ((refine wkj ?_; repeat' with_reducible constructor) <;> first | rfl | (simp [szAcc, wsub])))
 intro i hi
 have hclo : Clo (.ro 3 (l.map TEdition.en)) := clo_list TEdition.clo_en
 by_cases hlt : i < l.length
 case' pos =>
  have hP := True.intro
  obtain ⟨x, hx⟩ : ∃ x, l[i]? = some x := ⟨_, List.getElem?_eq_getElem hlt⟩
  have hg := map_get (f := TEdition.en) hx
  have ht := lt_true (f := TEdition.en) hlt
  have hn := next_ix hlt (by omega)
  have hpx := hp x (List.mem_of_getElem? hx)
  have hcle : Clo (.agg x.en) := Clo.agg x.clo_en
  have hs := szAcc_succ (f := TEdition.sz) (left := wsub left l.length) hx hi.2
 case' neg =>
  have hQ := True.intro
  have ht := lt_false (f := TEdition.en) hlt
  have e : i = l.length := by omega
  subst e
  try rw [List.take_length])) <;> (try dsimp only))
 all_goals first
  | (have _ := hP; (refine ⟨i + 1, _, ⟨hlt, by rw [hs]; simp_all⟩, by omega, ?_, rfl, ?_, ?_⟩; (focus ((refine wkj ?_; repeat' with_reducible constructor) <;> (first | (rw [hs]; done) | simp_all [szAcc, wsub]))); (focus (exact fitsA)); (focus (exact FitsM.nil _))))
  | (have _ := hP; exact Fin.one rfl (RV.tmp (by rfl)) (clo_c _) ⟨by have e := szAcc_lt (TEdition.sz_lt x _) hx hi.2 (by simp_all); simp_all [szL, thenS, wsub], rfl⟩)
  | (have _ := hQ; exact Fin.one rfl (RV.tmp (by rfl)) (clo_c _) ⟨by have e := hi.2; simp_all [szL, thenS, wsub] <;> omega, rfl⟩)
  | (exact Fin.one rfl (RV.tmp (by rfl)) (clo_c _) ⟨by simp_all [szL, thenS, wsub], rfl⟩)

theorem szAtlas (x : TAtlas) (left : Int) (hk : x.ok) : VCalls Tryz.prog 12 [.agg x.en, I left] (fun r M => r = I (x.sz left) ∧ M = []) := by
 refine VB Tryz.func12 28 (fun E hE => ?_)
 have hclo0 : Clo (.ro 8 (x.log.map TEntry.en)) := clo_list TEntry.clo_en
 have hclo1 : Clo (.ro 3 (x.levels.map TLevel.en)) := clo_list TLevel.clo_en
 have hclo2 : Clo (.ro 3 (x.editions.map TEdition.en)) := clo_list TEdition.clo_en
 have hcle : Clo (.agg x.en) := Clo.agg x.clo_en
 have hk' := hk
 obtain ⟨k0, k1, k2, k3, k4⟩ := hk
 obtain ⟨k0, k0'⟩ := k0
 rw [maxLen_eq] at k0
 obtain ⟨k1, k1'⟩ := k1
 rw [maxLen_eq] at k1
 obtain ⟨k2, k2'⟩ := k2
 rw [maxLen_eq] at k2
 dsimp only [TAtlas.en]
 repeat' ((first
  | (refine iAL ?_; first | refine AL.any ?_ | refine AL.any (h := POp.k Tryz.func23 (hc := szLevelS _ _)) ?_ | refine AL.any (h := POp.k Tryz.func49 (hc := szEntryS _ _ (by assumption) (by assumption))) ?_ | refine AL.any (h := POp.k Tryz.func50 (hc := szEditionS _ _ (by assumption) (by assumption))) ?_ | refine AL.any (h := POp.k Tryz.func51 (hc := szCover x.cover _ (by assumption))) ?_ | refine AL.nil ?_)
  | (refine iAW ?_; first | (refine AW.c0 ?_; constructor) | (refine AW.c2 ?_ ?_ <;> (intro h; try simp only [bT, bF] at h)))) <;> (try dsimp only))
 all_goals exact Fin.one rfl (RV.tmp (by rfl)) (clo_c _) ⟨by first | rfl | ((try simp only [List.length_map] at *); simp only [TAtlas.sz, thenS, szN]; (repeat' split) <;> (try simp_all [thenS, szN]) <;> (try omega)), rfl⟩

theorem toPoint (x : TPoint) : VCalls Tryz.prog 207 [.agg x.en] (fun r M => r = .agg x.en ∧ M = []) := by
 refine VB Tryz.func207 10 (fun E hE => ?_)
 dsimp only [TPoint.en]
 repeat' ((first
  | (refine iAL ?_; first | refine AL.any ?_ | refine AL.nil ?_)
  | (refine iAW ?_; (refine AW.c0 ?_; constructor))) <;> (try dsimp only))
 all_goals exact Fin.one rfl (RV.cell (QOp.quietA TT_ok (by rfl))) (Clo.agg x.clo_en) ⟨by rfl, rfl⟩

theorem toPointS (l : List TPoint) (hl : l.length ≤ 1048576) : VCalls Tryz.prog 138 [.ro 2 (l.map TPoint.en)] (fun r M => r = .ro 2 (l.map TPoint.en) ∧ M = []) := by
 refine VB Tryz.func138 22 (fun E hE => ?_)
 repeat' ((first
  | (refine iAL ?_; first | refine AL.any ?_ | refine AL.any (h := POp.k Tryz.func207 (hc := toPoint x)) ?_ | refine AL.nil ?_)
  | (refine iAW ?_; first | (refine AW.freezeRet (t := 2) (id := 0) rfl rfl rfl rfl (fil_clo (clo_all (by rfl)) TPoint.clo_en) ?_; simp only [fil_all]; try dsimp only [dput, List.set, cond_true, cond_false, Nat.zero_add, Nat.add_zero, Nat.reduceAdd, splice, List.take, List.drop, List.length, List.nil_append, List.cons_append, List.append, TPoint.en, TSegment.en, TBox.en, TFeature.en, TMeet.en, TPlace.en, TCover.en, TLabel.en, TPiece.en, TLevel.en, TChart.en, TReason.en, TEdit.en, TEntry.en, TEdition.en, TListing.en, TAtlas.en, TEvent.en, TWindow.en]) | (refine AW.c0 ?_; constructor) | refine AW.cT ?_ | refine AW.cF ?_)
  | (
 refine AW.loopD hE (fun i : Nat => [.ro 2 (l.map TPoint.en), .any, .any, .own 0 0, I i, .any, .any, .any, .any, .any, .any, .any, .any, .any, .any, .any, .any, .any, .any, .any, .any, .any, .any]) (fun i => [some ⟨141, 2, 0, false, fil TPoint.en [I 0, I 0] l i⟩]) (fun i => l.length - i) (fun i => i ≤ l.length) 0 (by simp) ?_ (by first | rfl | (simp [fil_zero]; done)) ?_
 (focus (exact wkI))
 intro i hi
 have hclo : Clo (.ro 2 (l.map TPoint.en)) := clo_list TPoint.clo_en
 by_cases hlt : i < l.length
 case' pos =>
  have hP := True.intro
  obtain ⟨x, hx⟩ : ∃ x, l[i]? = some x := ⟨_, List.getElem?_eq_getElem hlt⟩
  have hg := map_get (f := TPoint.en) hx
  have ht := lt_true (f := TPoint.en) hlt
  have hn := next_ix hlt (by omega)
  have hz := fil_get (en := TPoint.en) (z := [I 0, I 0]) hlt
  have ha := fil_at (en := TPoint.en) (z := [I 0, I 0]) hlt
  have hs := fil_set (en := TPoint.en) (z := [I 0, I 0]) hx
 case' neg =>
  have hQ := True.intro
  have ht := lt_false (f := TPoint.en) hlt
  have e : i = l.length := by omega
  subst e
  try rw [List.take_length])) <;> (try dsimp only))
 all_goals first
  | (have _ := hP; (refine ⟨i + 1, [], hlt, by omega, ?_, by rw [← hs] <;> rfl, ?_, ?_⟩; (focus (exact wkN)); (focus (exact fitsA)); (focus (exact fits_row (fil_clo (clo_all (by rfl)) TPoint.clo_en)))))
  | (have _ := hQ; exact Fin.one rfl (RV.tmp (by rfl)) hclo ⟨rfl, rfl⟩)

theorem toFeature (x : TFeature) (hs : x.sm) : VCalls Tryz.prog 73 [.agg x.en] (fun r M => r = .agg x.en ∧ M = []) := by
 refine VB Tryz.func73 20 (fun E hE => ?_)
 have hclo0 : Clo (.ro 2 (x.points.map TPoint.en)) := clo_list TPoint.clo_en
 have hcle : Clo (.agg x.en) := Clo.agg x.clo_en
 have hs' := hs
 obtain hs4 := hs
 dsimp only [TFeature.en]
 repeat' ((first
  | (refine iAL ?_; first | refine AL.any ?_ | refine AL.any (h := POp.k Tryz.func138 (hc := toPointS _ (by assumption))) ?_ | refine AL.nil ?_)
  | (refine iAW ?_; (refine AW.c0 ?_; constructor))) <;> (try dsimp only))
 all_goals exact Fin.one rfl (RV.cell (QOp.quietA TT_ok (by rfl))) (Clo.agg x.clo_en) ⟨by rfl, rfl⟩

theorem toFeatureS (l : List TFeature) (hl : l.length ≤ 1048576) (hp : ∀ x ∈ l, x.sm) : VCalls Tryz.prog 19 [.ro 5 (l.map TFeature.en)] (fun r M => r = .ro 5 (l.map TFeature.en) ∧ M = []) := by
 refine VB Tryz.func19 22 (fun E hE => ?_)
 repeat' ((first
  | (refine iAL ?_; first | refine AL.any ?_ | refine AL.any (h := POp.k Tryz.func73 (hc := toFeature x (by assumption))) ?_ | refine AL.nil ?_)
  | (refine iAW ?_; first | (refine AW.freezeRet (t := 2) (id := 0) rfl rfl rfl rfl (fil_clo (clo_all (by rfl)) TFeature.clo_en) ?_; simp only [fil_all]; try dsimp only [dput, List.set, cond_true, cond_false, Nat.zero_add, Nat.add_zero, Nat.reduceAdd, splice, List.take, List.drop, List.length, List.nil_append, List.cons_append, List.append, TPoint.en, TSegment.en, TBox.en, TFeature.en, TMeet.en, TPlace.en, TCover.en, TLabel.en, TPiece.en, TLevel.en, TChart.en, TReason.en, TEdit.en, TEntry.en, TEdition.en, TListing.en, TAtlas.en, TEvent.en, TWindow.en]) | (refine AW.c0 ?_; constructor) | refine AW.cT ?_ | refine AW.cF ?_)
  | (
 refine AW.loopD hE (fun i : Nat => [.ro 5 (l.map TFeature.en), .any, .any, .own 0 0, I i, .any, .any, .any, .any, .any, .any, .any, .any, .any, .any, .any, .any, .any, .any, .any, .any, .any, .any]) (fun i => [some ⟨81, 5, 0, false, fil TFeature.en [I 0, I 0, I 0, S ⟨#[]⟩, .c (.slice none 0 0)] l i⟩]) (fun i => l.length - i) (fun i => i ≤ l.length) 0 (by simp) ?_ (by first | rfl | (simp [fil_zero]; done)) ?_
 (focus (exact wkI))
 intro i hi
 have hclo : Clo (.ro 5 (l.map TFeature.en)) := clo_list TFeature.clo_en
 by_cases hlt : i < l.length
 case' pos =>
  have hP := True.intro
  obtain ⟨x, hx⟩ : ∃ x, l[i]? = some x := ⟨_, List.getElem?_eq_getElem hlt⟩
  have hg := map_get (f := TFeature.en) hx
  have ht := lt_true (f := TFeature.en) hlt
  have hn := next_ix hlt (by omega)
  have hz := fil_get (en := TFeature.en) (z := [I 0, I 0, I 0, S ⟨#[]⟩, .c (.slice none 0 0)]) hlt
  have ha := fil_at (en := TFeature.en) (z := [I 0, I 0, I 0, S ⟨#[]⟩, .c (.slice none 0 0)]) hlt
  have hs := fil_set (en := TFeature.en) (z := [I 0, I 0, I 0, S ⟨#[]⟩, .c (.slice none 0 0)]) hx
  have hpx := hp x (List.mem_of_getElem? hx)
  have hclo0 : Clo (.ro 2 (x.points.map TPoint.en)) := clo_list TPoint.clo_en
  have hcle : Clo (.agg x.en) := Clo.agg x.clo_en
 case' neg =>
  have hQ := True.intro
  have ht := lt_false (f := TFeature.en) hlt
  have e : i = l.length := by omega
  subst e
  try rw [List.take_length])) <;> (try dsimp only))
 all_goals first
  | (have _ := hP; (refine ⟨i + 1, [], hlt, by omega, ?_, by rw [← hs] <;> rfl, ?_, ?_⟩; (focus (exact wkN)); (focus (exact fitsA)); (focus (exact fits_row (fil_clo (clo_all (by rfl)) TFeature.clo_en)))))
  | (have _ := hQ; exact Fin.one rfl (RV.tmp (by rfl)) hclo ⟨rfl, rfl⟩)

theorem toCover (x : TCover) : VCalls Tryz.prog 59 [.agg x.en] (fun r M => r = .agg x.en ∧ M = []) := by
 refine VB Tryz.func59 13 (fun E hE => ?_)
 dsimp only [TCover.en]
 repeat' ((first
  | (refine iAL ?_; first | refine AL.any ?_ | refine AL.nil ?_)
  | (refine iAW ?_; (refine AW.c0 ?_; constructor))) <;> (try dsimp only))
 all_goals exact Fin.one rfl (RV.cell (QOp.quietA TT_ok (by rfl))) (Clo.agg x.clo_en) ⟨by rfl, rfl⟩

theorem toLevel (x : TLevel) : VCalls Tryz.prog 20 [.agg x.en] (fun r M => r = .agg x.en ∧ M = []) := by
 refine VB Tryz.func20 13 (fun E hE => ?_)
 dsimp only [TLevel.en]
 repeat' ((first
  | (refine iAL ?_; first | refine AL.any ?_ | refine AL.nil ?_)
  | (refine iAW ?_; (refine AW.c0 ?_; constructor))) <;> (try dsimp only))
 all_goals exact Fin.one rfl (RV.cell (QOp.quietA TT_ok (by rfl))) (Clo.agg x.clo_en) ⟨by rfl, rfl⟩

theorem toLevelS (l : List TLevel) (hl : l.length ≤ 1048576) : VCalls Tryz.prog 25 [.ro 3 (l.map TLevel.en)] (fun r M => r = .ro 3 (l.map TLevel.en) ∧ M = []) := by
 refine VB Tryz.func25 22 (fun E hE => ?_)
 repeat' ((first
  | (refine iAL ?_; first | refine AL.any ?_ | refine AL.any (h := POp.k Tryz.func20 (hc := toLevel x)) ?_ | refine AL.nil ?_)
  | (refine iAW ?_; first | (refine AW.freezeRet (t := 2) (id := 0) rfl rfl rfl rfl (fil_clo (clo_all (by rfl)) TLevel.clo_en) ?_; simp only [fil_all]; try dsimp only [dput, List.set, cond_true, cond_false, Nat.zero_add, Nat.add_zero, Nat.reduceAdd, splice, List.take, List.drop, List.length, List.nil_append, List.cons_append, List.append, TPoint.en, TSegment.en, TBox.en, TFeature.en, TMeet.en, TPlace.en, TCover.en, TLabel.en, TPiece.en, TLevel.en, TChart.en, TReason.en, TEdit.en, TEntry.en, TEdition.en, TListing.en, TAtlas.en, TEvent.en, TWindow.en]) | (refine AW.c0 ?_; constructor) | refine AW.cT ?_ | refine AW.cF ?_)
  | (
 refine AW.loopD hE (fun i : Nat => [.ro 3 (l.map TLevel.en), .any, .any, .own 0 0, I i, .any, .any, .any, .any, .any, .any, .any, .any, .any, .any, .any, .any, .any, .any, .any, .any, .any, .any]) (fun i => [some ⟨47, 3, 0, false, fil TLevel.en [I 0, I 0, I 0] l i⟩]) (fun i => l.length - i) (fun i => i ≤ l.length) 0 (by simp) ?_ (by first | rfl | (simp [fil_zero]; done)) ?_
 (focus (exact wkI))
 intro i hi
 have hclo : Clo (.ro 3 (l.map TLevel.en)) := clo_list TLevel.clo_en
 by_cases hlt : i < l.length
 case' pos =>
  have hP := True.intro
  obtain ⟨x, hx⟩ : ∃ x, l[i]? = some x := ⟨_, List.getElem?_eq_getElem hlt⟩
  have hg := map_get (f := TLevel.en) hx
  have ht := lt_true (f := TLevel.en) hlt
  have hn := next_ix hlt (by omega)
  have hz := fil_get (en := TLevel.en) (z := [I 0, I 0, I 0]) hlt
  have ha := fil_at (en := TLevel.en) (z := [I 0, I 0, I 0]) hlt
  have hs := fil_set (en := TLevel.en) (z := [I 0, I 0, I 0]) hx
 case' neg =>
  have hQ := True.intro
  have ht := lt_false (f := TLevel.en) hlt
  have e : i = l.length := by omega
  subst e
  try rw [List.take_length])) <;> (try dsimp only))
 all_goals first
  | (have _ := hP; (refine ⟨i + 1, [], hlt, by omega, ?_, by rw [← hs] <;> rfl, ?_, ?_⟩; (focus (exact wkN)); (focus (exact fitsA)); (focus (exact fits_row (fil_clo (clo_all (by rfl)) TLevel.clo_en)))))
  | (have _ := hQ; exact Fin.one rfl (RV.tmp (by rfl)) hclo ⟨rfl, rfl⟩)

theorem toEntry (x : TEntry) (hs : x.sm) : VCalls Tryz.prog 115 [.agg x.en] (fun r M => r = .agg x.en ∧ M = []) := by
 refine VB Tryz.func115 17 (fun E hE => ?_)
 have hclo0 : Clo (.ro 2 (x.feature.points.map TPoint.en)) := clo_list TPoint.clo_en
 have hcls0 : Clo (.agg x.feature.en) := Clo.agg x.feature.clo_en
 have hcle : Clo (.agg x.en) := Clo.agg x.clo_en
 have hs' := hs
 obtain hs0 := hs
 dsimp only [TEntry.en]
 repeat' ((first
  | (refine iAL ?_; first | refine AL.any ?_ | refine AL.any (h := POp.k Tryz.func73 (hc := toFeature x.feature (by assumption))) ?_ | refine AL.nil ?_)
  | (refine iAW ?_; (refine AW.c0 ?_; constructor))) <;> (try dsimp only))
 all_goals exact Fin.one rfl (RV.cell (QOp.quietA TT_ok (by rfl))) (Clo.agg x.clo_en) ⟨by rfl, rfl⟩

theorem toEntryS (l : List TEntry) (hl : l.length ≤ 1048576) (hp : ∀ x ∈ l, x.sm) : VCalls Tryz.prog 57 [.ro 8 (l.map TEntry.en)] (fun r M => r = .ro 8 (l.map TEntry.en) ∧ M = []) := by
 refine VB Tryz.func57 22 (fun E hE => ?_)
 repeat' ((first
  | (refine iAL ?_; first | refine AL.any ?_ | refine AL.any (h := POp.k Tryz.func115 (hc := toEntry x (by assumption))) ?_ | refine AL.nil ?_)
  | (refine iAW ?_; first | (refine AW.freezeRet (t := 2) (id := 0) rfl rfl rfl rfl (fil_clo (clo_all (by rfl)) TEntry.clo_en) ?_; simp only [fil_all]; try dsimp only [dput, List.set, cond_true, cond_false, Nat.zero_add, Nat.add_zero, Nat.reduceAdd, splice, List.take, List.drop, List.length, List.nil_append, List.cons_append, List.append, TPoint.en, TSegment.en, TBox.en, TFeature.en, TMeet.en, TPlace.en, TCover.en, TLabel.en, TPiece.en, TLevel.en, TChart.en, TReason.en, TEdit.en, TEntry.en, TEdition.en, TListing.en, TAtlas.en, TEvent.en, TWindow.en]) | (refine AW.c0 ?_; constructor) | refine AW.cT ?_ | refine AW.cF ?_)
  | (
 refine AW.loopD hE (fun i : Nat => [.ro 8 (l.map TEntry.en), .any, .any, .own 0 0, I i, .any, .any, .any, .any, .any, .any, .any, .any, .any, .any, .any, .any, .any, .any, .any, .any, .any, .any]) (fun i => [some ⟨135, 8, 0, false, fil TEntry.en [I 0, I 0, I 0, S ⟨#[]⟩, .c (.slice none 0 0), I 0, I 0, B false] l i⟩]) (fun i => l.length - i) (fun i => i ≤ l.length) 0 (by simp) ?_ (by first | rfl | (simp [fil_zero]; done)) ?_
 (focus (exact wkI))
 intro i hi
 have hclo : Clo (.ro 8 (l.map TEntry.en)) := clo_list TEntry.clo_en
 by_cases hlt : i < l.length
 case' pos =>
  have hP := True.intro
  obtain ⟨x, hx⟩ : ∃ x, l[i]? = some x := ⟨_, List.getElem?_eq_getElem hlt⟩
  have hg := map_get (f := TEntry.en) hx
  have ht := lt_true (f := TEntry.en) hlt
  have hn := next_ix hlt (by omega)
  have hz := fil_get (en := TEntry.en) (z := [I 0, I 0, I 0, S ⟨#[]⟩, .c (.slice none 0 0), I 0, I 0, B false]) hlt
  have ha := fil_at (en := TEntry.en) (z := [I 0, I 0, I 0, S ⟨#[]⟩, .c (.slice none 0 0), I 0, I 0, B false]) hlt
  have hs := fil_set (en := TEntry.en) (z := [I 0, I 0, I 0, S ⟨#[]⟩, .c (.slice none 0 0), I 0, I 0, B false]) hx
  have hpx := hp x (List.mem_of_getElem? hx)
  have hclo0 : Clo (.ro 2 (x.feature.points.map TPoint.en)) := clo_list TPoint.clo_en
  have hcls0 : Clo (.agg x.feature.en) := Clo.agg x.feature.clo_en
  have hcle : Clo (.agg x.en) := Clo.agg x.clo_en
 case' neg =>
  have hQ := True.intro
  have ht := lt_false (f := TEntry.en) hlt
  have e : i = l.length := by omega
  subst e
  try rw [List.take_length])) <;> (try dsimp only))
 all_goals first
  | (have _ := hP; (refine ⟨i + 1, [], hlt, by omega, ?_, by rw [← hs] <;> rfl, ?_, ?_⟩; (focus (exact wkN)); (focus (exact fitsA)); (focus (exact fits_row (fil_clo (clo_all (by rfl)) TEntry.clo_en)))))
  | (have _ := hQ; exact Fin.one rfl (RV.tmp (by rfl)) hclo ⟨rfl, rfl⟩)

theorem toEdition (x : TEdition) (hs : x.sm) : VCalls Tryz.prog 116 [.agg x.en] (fun r M => r = .agg x.en ∧ M = []) := by
 refine VB Tryz.func116 14 (fun E hE => ?_)
 have hclo0 : Clo (.ro 5 (x.source.map TFeature.en)) := clo_list TFeature.clo_en
 have hcle : Clo (.agg x.en) := Clo.agg x.clo_en
 have hs' := hs
 obtain ⟨hs1, hs1'⟩ := hs
 dsimp only [TEdition.en]
 repeat' ((first
  | (refine iAL ?_; first | refine AL.any ?_ | refine AL.any (h := POp.k Tryz.func19 (hc := toFeatureS _ (by assumption) (by assumption))) ?_ | refine AL.nil ?_)
  | (refine iAW ?_; (refine AW.c0 ?_; constructor))) <;> (try dsimp only))
 all_goals exact Fin.one rfl (RV.cell (QOp.quietA TT_ok (by rfl))) (Clo.agg x.clo_en) ⟨by rfl, rfl⟩

theorem toEditionS (l : List TEdition) (hl : l.length ≤ 1048576) (hp : ∀ x ∈ l, x.sm) : VCalls Tryz.prog 58 [.ro 3 (l.map TEdition.en)] (fun r M => r = .ro 3 (l.map TEdition.en) ∧ M = []) := by
 refine VB Tryz.func58 22 (fun E hE => ?_)
 repeat' ((first
  | (refine iAL ?_; first | refine AL.any ?_ | refine AL.any (h := POp.k Tryz.func116 (hc := toEdition x (by assumption))) ?_ | refine AL.nil ?_)
  | (refine iAW ?_; first | (refine AW.freezeRet (t := 2) (id := 0) rfl rfl rfl rfl (fil_clo (clo_all (by rfl)) TEdition.clo_en) ?_; simp only [fil_all]; try dsimp only [dput, List.set, cond_true, cond_false, Nat.zero_add, Nat.add_zero, Nat.reduceAdd, splice, List.take, List.drop, List.length, List.nil_append, List.cons_append, List.append, TPoint.en, TSegment.en, TBox.en, TFeature.en, TMeet.en, TPlace.en, TCover.en, TLabel.en, TPiece.en, TLevel.en, TChart.en, TReason.en, TEdit.en, TEntry.en, TEdition.en, TListing.en, TAtlas.en, TEvent.en, TWindow.en]) | (refine AW.c0 ?_; constructor) | refine AW.cT ?_ | refine AW.cF ?_)
  | (
 refine AW.loopD hE (fun i : Nat => [.ro 3 (l.map TEdition.en), .any, .any, .own 0 0, I i, .any, .any, .any, .any, .any, .any, .any, .any, .any, .any, .any, .any, .any, .any, .any, .any, .any, .any]) (fun i => [some ⟨151, 3, 0, false, fil TEdition.en [I 0, .c (.slice none 0 0), I 0] l i⟩]) (fun i => l.length - i) (fun i => i ≤ l.length) 0 (by simp) ?_ (by first | rfl | (simp [fil_zero]; done)) ?_
 (focus (exact wkI))
 intro i hi
 have hclo : Clo (.ro 3 (l.map TEdition.en)) := clo_list TEdition.clo_en
 by_cases hlt : i < l.length
 case' pos =>
  have hP := True.intro
  obtain ⟨x, hx⟩ : ∃ x, l[i]? = some x := ⟨_, List.getElem?_eq_getElem hlt⟩
  have hg := map_get (f := TEdition.en) hx
  have ht := lt_true (f := TEdition.en) hlt
  have hn := next_ix hlt (by omega)
  have hz := fil_get (en := TEdition.en) (z := [I 0, .c (.slice none 0 0), I 0]) hlt
  have ha := fil_at (en := TEdition.en) (z := [I 0, .c (.slice none 0 0), I 0]) hlt
  have hs := fil_set (en := TEdition.en) (z := [I 0, .c (.slice none 0 0), I 0]) hx
  have hpx := hp x (List.mem_of_getElem? hx)
  have hclo0 : Clo (.ro 5 (x.source.map TFeature.en)) := clo_list TFeature.clo_en
  have hcle : Clo (.agg x.en) := Clo.agg x.clo_en
 case' neg =>
  have hQ := True.intro
  have ht := lt_false (f := TEdition.en) hlt
  have e : i = l.length := by omega
  subst e
  try rw [List.take_length])) <;> (try dsimp only))
 all_goals first
  | (have _ := hP; (refine ⟨i + 1, [], hlt, by omega, ?_, by rw [← hs] <;> rfl, ?_, ?_⟩; (focus (exact wkN)); (focus (exact fitsA)); (focus (exact fits_row (fil_clo (clo_all (by rfl)) TEdition.clo_en)))))
  | (have _ := hQ; exact Fin.one rfl (RV.tmp (by rfl)) hclo ⟨rfl, rfl⟩)

theorem toAtlas (x : TAtlas) (hs : x.sm) : VCalls Tryz.prog 14 [.agg x.en] (fun r M => r = .agg x.en ∧ M = []) := by
 refine VB Tryz.func14 23 (fun E hE => ?_)
 have hclo0 : Clo (.ro 8 (x.log.map TEntry.en)) := clo_list TEntry.clo_en
 have hclo1 : Clo (.ro 3 (x.levels.map TLevel.en)) := clo_list TLevel.clo_en
 have hclo2 : Clo (.ro 3 (x.editions.map TEdition.en)) := clo_list TEdition.clo_en
 have hcle : Clo (.agg x.en) := Clo.agg x.clo_en
 have hs' := hs
 obtain ⟨⟨hs0, hs0'⟩, hs1, ⟨hs2, hs2'⟩⟩ := hs
 dsimp only [TAtlas.en]
 repeat' ((first
  | (refine iAL ?_; first | refine AL.any ?_ | refine AL.any (h := POp.k Tryz.func25 (hc := toLevelS _ (by assumption))) ?_ | refine AL.any (h := POp.k Tryz.func57 (hc := toEntryS _ (by assumption) (by assumption))) ?_ | refine AL.any (h := POp.k Tryz.func58 (hc := toEditionS _ (by assumption) (by assumption))) ?_ | refine AL.any (h := POp.k Tryz.func59 (hc := toCover x.cover)) ?_ | refine AL.nil ?_)
  | (refine iAW ?_; (refine AW.c0 ?_; constructor))) <;> (try dsimp only))
 all_goals exact Fin.one rfl (RV.cell (QOp.quietA TT_ok (by rfl))) (Clo.agg x.clo_en) ⟨by rfl, rfl⟩

theorem eqPoint_self (x : TPoint) : VCalls Tryz.prog 217 [.agg x.en, .agg x.en] (fun r M => r = B true ∧ M = []) := by
 refine VB Tryz.func217 13 (fun E hE => ?_)
 dsimp only [TPoint.en]
 repeat' ((first
  | (refine iAL ?_; first | refine AL.any ?_ | refine AL.nil ?_)
  | (refine iAW ?_; first | (refine AW.c0 ?_; constructor) | refine AW.cF ?_)) <;> (try dsimp only))
 all_goals exact Fin.one rfl (RV.tmp (by rfl)) (clo_c _) ⟨by simp_all, rfl⟩

theorem eqPointS_self (l : List TPoint) (hl : l.length ≤ 1048576) : VCalls Tryz.prog 144 [.ro 2 (l.map TPoint.en), .ro 2 (l.map TPoint.en)] (fun r M => r = B true ∧ M = []) := by
 refine VB Tryz.func144 25 (fun E hE => ?_)
 repeat' ((first
  | (refine iAL ?_; first | refine AL.any ?_ | refine AL.any (h := POp.k Tryz.func217 (hc := eqPoint_self x)) ?_ | refine AL.nil ?_)
  | ((with_reducible show DL ..); first | refine DL.any ?_ | refine DL.nil ?_)
  | (refine iAW ?_; first | (refine AW.c0 ?_; constructor) | refine AW.dr (id := 6) 8 ?_ | refine AW.cT ?_ | refine AW.cF ?_)
  | (
 refine AW.loopD hE (fun i : Nat => [.ro 2 (l.map TPoint.en), .ro 2 (l.map TPoint.en), .any, .any, .any, I i, .any, .any, .any, .any, .any, .any, .any, .any, .any, .any, .any, .any, .any, .any, .any, .any, .any, .any, .any, .any, .any]) (fun i => []) (fun i => l.length - i) (fun i => i ≤ l.length) 0 (by simp) ?_ (by first | rfl | (simp [fil_zero]; done)) ?_
 (focus (exact wkI))
 intro i hi
 have hclo : Clo (.ro 2 (l.map TPoint.en)) := clo_list TPoint.clo_en
 by_cases hlt : i < l.length
 case' pos =>
  have hP := True.intro
  obtain ⟨x, hx⟩ : ∃ x, l[i]? = some x := ⟨_, List.getElem?_eq_getElem hlt⟩
  have hg := map_get (f := TPoint.en) hx
  have ht := lt_true (f := TPoint.en) hlt
  have hn := next_ix hlt (by omega)
 case' neg =>
  have hQ := True.intro
  have ht := lt_false (f := TPoint.en) hlt
  have e : i = l.length := by omega
  subst e
  try rw [List.take_length])) <;> (try dsimp only))
 all_goals first
  | (have _ := hP; (refine ⟨i + 1, _, hlt, by omega, ?_, rfl, ?_, ?_⟩; (focus (exact wkN)); (focus (exact fitsA)); (focus (exact FitsM.nil _))))
  | (have _ := hQ; exact Fin.one rfl (RV.tmp (by rfl)) (clo_c _) ⟨by rfl, rfl⟩)

theorem eqBox_self (x : TBox) : VCalls Tryz.prog 235 [.agg x.en, .agg x.en] (fun r M => r = B true ∧ M = []) := by
 refine VB Tryz.func235 15 (fun E hE => ?_)
 dsimp only [TBox.en]
 repeat' ((first
  | (refine iAL ?_; first | refine AL.any ?_ | refine AL.any (h := POp.k Tryz.func217 (hc := by first | exact eqPoint_self x.low | exact eqPoint_self x.high)) ?_ | refine AL.nil ?_)
  | (refine iAW ?_; first | (refine AW.c0 ?_; constructor) | refine AW.cF ?_)) <;> (try dsimp only))
 all_goals exact Fin.one rfl (RV.tmp (by rfl)) (clo_c _) ⟨by simp_all, rfl⟩

theorem eqFeature_self (x : TFeature) (hs : x.sm) : VCalls Tryz.prog 76 [.agg x.en, .agg x.en] (fun r M => r = B true ∧ M = []) := by
 refine VB Tryz.func76 29 (fun E hE => ?_)
 have hclo0 : Clo (.ro 2 (x.points.map TPoint.en)) := clo_list TPoint.clo_en
 have hcle : Clo (.agg x.en) := Clo.agg x.clo_en
 have hs' := hs
 obtain hs4 := hs
 dsimp only [TFeature.en]
 repeat' ((first
  | (refine iAL ?_; first | refine AL.any ?_ | refine AL.any (h := POp.k Tryz.func144 (hc := eqPointS_self _ (by assumption))) ?_ | refine AL.nil ?_)
  | (refine iAW ?_; first | (refine AW.c0 ?_; constructor) | refine AW.cF ?_)) <;> (try dsimp only))
 all_goals exact Fin.one rfl (RV.tmp (by rfl)) (clo_c _) ⟨by simp_all, rfl⟩

theorem eqFeatureS_self (l : List TFeature) (hl : l.length ≤ 1048576) (hp : ∀ x ∈ l, x.sm) : VCalls Tryz.prog 22 [.ro 5 (l.map TFeature.en), .ro 5 (l.map TFeature.en)] (fun r M => r = B true ∧ M = []) := by
 refine VB Tryz.func22 25 (fun E hE => ?_)
 repeat' ((first
  | (refine iAL ?_; first | refine AL.any ?_ | refine AL.any (h := POp.k Tryz.func76 (hc := eqFeature_self x (by assumption))) ?_ | refine AL.nil ?_)
  | ((with_reducible show DL ..); first | refine DL.any ?_ | refine DL.nil ?_)
  | (refine iAW ?_; first | (refine AW.c0 ?_; constructor) | refine AW.dr (id := 6) 8 ?_ | refine AW.cT ?_ | refine AW.cF ?_)
  | (
 refine AW.loopD hE (fun i : Nat => [.ro 5 (l.map TFeature.en), .ro 5 (l.map TFeature.en), .any, .any, .any, I i, .any, .any, .any, .any, .any, .any, .any, .any, .any, .any, .any, .any, .any, .any, .any, .any, .any, .any, .any, .any, .any]) (fun i => []) (fun i => l.length - i) (fun i => i ≤ l.length) 0 (by simp) ?_ (by first | rfl | (simp [fil_zero]; done)) ?_
 (focus (exact wkI))
 intro i hi
 have hclo : Clo (.ro 5 (l.map TFeature.en)) := clo_list TFeature.clo_en
 by_cases hlt : i < l.length
 case' pos =>
  have hP := True.intro
  obtain ⟨x, hx⟩ : ∃ x, l[i]? = some x := ⟨_, List.getElem?_eq_getElem hlt⟩
  have hg := map_get (f := TFeature.en) hx
  have ht := lt_true (f := TFeature.en) hlt
  have hn := next_ix hlt (by omega)
  have hpx := hp x (List.mem_of_getElem? hx)
  have hclo0 : Clo (.ro 2 (x.points.map TPoint.en)) := clo_list TPoint.clo_en
  have hcle : Clo (.agg x.en) := Clo.agg x.clo_en
 case' neg =>
  have hQ := True.intro
  have ht := lt_false (f := TFeature.en) hlt
  have e : i = l.length := by omega
  subst e
  try rw [List.take_length])) <;> (try dsimp only))
 all_goals first
  | (have _ := hP; (refine ⟨i + 1, _, hlt, by omega, ?_, rfl, ?_, ?_⟩; (focus (exact wkN)); (focus (exact fitsA)); (focus (exact FitsM.nil _))))
  | (have _ := hQ; exact Fin.one rfl (RV.tmp (by rfl)) (clo_c _) ⟨by rfl, rfl⟩)

theorem eqCover_self (x : TCover) : VCalls Tryz.prog 69 [.agg x.en, .agg x.en] (fun r M => r = B true ∧ M = []) := by
 refine VB Tryz.func69 18 (fun E hE => ?_)
 dsimp only [TCover.en]
 repeat' ((first
  | (refine iAL ?_; first | refine AL.any ?_ | refine AL.nil ?_)
  | (refine iAW ?_; first | (refine AW.c0 ?_; constructor) | refine AW.cF ?_)) <;> (try dsimp only))
 all_goals exact Fin.one rfl (RV.tmp (by rfl)) (clo_c _) ⟨by simp_all, rfl⟩

theorem eqLabel_self (x : TLabel) : VCalls Tryz.prog 163 [.agg x.en, .agg x.en] (fun r M => r = B true ∧ M = []) := by
 refine VB Tryz.func163 19 (fun E hE => ?_)
 dsimp only [TLabel.en]
 repeat' ((first
  | (refine iAL ?_; first | refine AL.any ?_ | refine AL.any (h := POp.k Tryz.func235 (hc := eqBox_self x.box)) ?_ | refine AL.nil ?_)
  | (refine iAW ?_; first | (refine AW.c0 ?_; constructor) | refine AW.cF ?_)) <;> (try dsimp only))
 all_goals exact Fin.one rfl (RV.tmp (by rfl)) (clo_c _) ⟨by simp_all, rfl⟩

theorem eqLabelS_self (l : List TLabel) (hl : l.length ≤ 1048576) : VCalls Tryz.prog 97 [.ro 6 (l.map TLabel.en), .ro 6 (l.map TLabel.en)] (fun r M => r = B true ∧ M = []) := by
 refine VB Tryz.func97 25 (fun E hE => ?_)
 repeat' ((first
  | (refine iAL ?_; first | refine AL.any ?_ | refine AL.any (h := POp.k Tryz.func163 (hc := eqLabel_self x)) ?_ | refine AL.nil ?_)
  | ((with_reducible show DL ..); first | refine DL.any ?_ | refine DL.nil ?_)
  | (refine iAW ?_; first | (refine AW.c0 ?_; constructor) | refine AW.dr (id := 6) 8 ?_ | refine AW.cT ?_ | refine AW.cF ?_)
  | (
 refine AW.loopD hE (fun i : Nat => [.ro 6 (l.map TLabel.en), .ro 6 (l.map TLabel.en), .any, .any, .any, I i, .any, .any, .any, .any, .any, .any, .any, .any, .any, .any, .any, .any, .any, .any, .any, .any, .any, .any, .any, .any, .any]) (fun i => []) (fun i => l.length - i) (fun i => i ≤ l.length) 0 (by simp) ?_ (by first | rfl | (simp [fil_zero]; done)) ?_
 (focus (exact wkI))
 intro i hi
 have hclo : Clo (.ro 6 (l.map TLabel.en)) := clo_list TLabel.clo_en
 by_cases hlt : i < l.length
 case' pos =>
  have hP := True.intro
  obtain ⟨x, hx⟩ : ∃ x, l[i]? = some x := ⟨_, List.getElem?_eq_getElem hlt⟩
  have hg := map_get (f := TLabel.en) hx
  have ht := lt_true (f := TLabel.en) hlt
  have hn := next_ix hlt (by omega)
 case' neg =>
  have hQ := True.intro
  have ht := lt_false (f := TLabel.en) hlt
  have e : i = l.length := by omega
  subst e
  try rw [List.take_length])) <;> (try dsimp only))
 all_goals first
  | (have _ := hP; (refine ⟨i + 1, _, hlt, by omega, ?_, rfl, ?_, ?_⟩; (focus (exact wkN)); (focus (exact fitsA)); (focus (exact FitsM.nil _))))
  | (have _ := hQ; exact Fin.one rfl (RV.tmp (by rfl)) (clo_c _) ⟨by rfl, rfl⟩)

theorem eqLevel_self (x : TLevel) : VCalls Tryz.prog 81 [.agg x.en, .agg x.en] (fun r M => r = B true ∧ M = []) := by
 refine VB Tryz.func81 18 (fun E hE => ?_)
 dsimp only [TLevel.en]
 repeat' ((first
  | (refine iAL ?_; first | refine AL.any ?_ | refine AL.nil ?_)
  | (refine iAW ?_; first | (refine AW.c0 ?_; constructor) | refine AW.cF ?_)) <;> (try dsimp only))
 all_goals exact Fin.one rfl (RV.tmp (by rfl)) (clo_c _) ⟨by simp_all, rfl⟩

theorem eqLevelS_self (l : List TLevel) (hl : l.length ≤ 1048576) : VCalls Tryz.prog 27 [.ro 3 (l.map TLevel.en), .ro 3 (l.map TLevel.en)] (fun r M => r = B true ∧ M = []) := by
 refine VB Tryz.func27 25 (fun E hE => ?_)
 repeat' ((first
  | (refine iAL ?_; first | refine AL.any ?_ | refine AL.any (h := POp.k Tryz.func81 (hc := eqLevel_self x)) ?_ | refine AL.nil ?_)
  | ((with_reducible show DL ..); first | refine DL.any ?_ | refine DL.nil ?_)
  | (refine iAW ?_; first | (refine AW.c0 ?_; constructor) | refine AW.dr (id := 6) 8 ?_ | refine AW.cT ?_ | refine AW.cF ?_)
  | (
 refine AW.loopD hE (fun i : Nat => [.ro 3 (l.map TLevel.en), .ro 3 (l.map TLevel.en), .any, .any, .any, I i, .any, .any, .any, .any, .any, .any, .any, .any, .any, .any, .any, .any, .any, .any, .any, .any, .any, .any, .any, .any, .any]) (fun i => []) (fun i => l.length - i) (fun i => i ≤ l.length) 0 (by simp) ?_ (by first | rfl | (simp [fil_zero]; done)) ?_
 (focus (exact wkI))
 intro i hi
 have hclo : Clo (.ro 3 (l.map TLevel.en)) := clo_list TLevel.clo_en
 by_cases hlt : i < l.length
 case' pos =>
  have hP := True.intro
  obtain ⟨x, hx⟩ : ∃ x, l[i]? = some x := ⟨_, List.getElem?_eq_getElem hlt⟩
  have hg := map_get (f := TLevel.en) hx
  have ht := lt_true (f := TLevel.en) hlt
  have hn := next_ix hlt (by omega)
 case' neg =>
  have hQ := True.intro
  have ht := lt_false (f := TLevel.en) hlt
  have e : i = l.length := by omega
  subst e
  try rw [List.take_length])) <;> (try dsimp only))
 all_goals first
  | (have _ := hP; (refine ⟨i + 1, _, hlt, by omega, ?_, rfl, ?_, ?_⟩; (focus (exact wkN)); (focus (exact fitsA)); (focus (exact FitsM.nil _))))
  | (have _ := hQ; exact Fin.one rfl (RV.tmp (by rfl)) (clo_c _) ⟨by rfl, rfl⟩)

theorem eqChart_self (x : TChart) (hs : x.sm) : VCalls Tryz.prog 43 [.agg x.en, .agg x.en] (fun r M => r = B true ∧ M = []) := by
 refine VB Tryz.func43 15 (fun E hE => ?_)
 have hclo0 : Clo (.ro 5 (x.features.map TFeature.en)) := clo_list TFeature.clo_en
 have hclo1 : Clo (.ro 6 (x.labels.map TLabel.en)) := clo_list TLabel.clo_en
 have hcle : Clo (.agg x.en) := Clo.agg x.clo_en
 have hs' := hs
 obtain ⟨⟨hs0, hs0'⟩, hs1⟩ := hs
 dsimp only [TChart.en]
 repeat' ((first
  | (refine iAL ?_; first | refine AL.any ?_ | refine AL.any (h := POp.k Tryz.func22 (hc := eqFeatureS_self _ (by assumption) (by assumption))) ?_ | refine AL.any (h := POp.k Tryz.func97 (hc := eqLabelS_self _ (by assumption))) ?_ | refine AL.nil ?_)
  | (refine iAW ?_; first | (refine AW.c0 ?_; constructor) | refine AW.cF ?_)) <;> (try dsimp only))
 all_goals exact Fin.one rfl (RV.tmp (by rfl)) (clo_c _) ⟨by simp_all, rfl⟩

theorem eqEntry_self (x : TEntry) (hs : x.sm) : VCalls Tryz.prog 130 [.agg x.en, .agg x.en] (fun r M => r = B true ∧ M = []) := by
 refine VB Tryz.func130 24 (fun E hE => ?_)
 have hclo0 : Clo (.ro 2 (x.feature.points.map TPoint.en)) := clo_list TPoint.clo_en
 have hcls0 : Clo (.agg x.feature.en) := Clo.agg x.feature.clo_en
 have hcle : Clo (.agg x.en) := Clo.agg x.clo_en
 have hs' := hs
 obtain hs0 := hs
 dsimp only [TEntry.en]
 repeat' ((first
  | (refine iAL ?_; first | refine AL.any ?_ | refine AL.any (h := POp.k Tryz.func76 (hc := eqFeature_self x.feature (by assumption))) ?_ | refine AL.nil ?_)
  | (refine iAW ?_; first | (refine AW.c0 ?_; constructor) | refine AW.cF ?_)) <;> (try dsimp only))
 all_goals exact Fin.one rfl (RV.tmp (by rfl)) (clo_c _) ⟨by simp_all, rfl⟩

theorem eqEntryS_self (l : List TEntry) (hl : l.length ≤ 1048576) (hp : ∀ x ∈ l, x.sm) : VCalls Tryz.prog 67 [.ro 8 (l.map TEntry.en), .ro 8 (l.map TEntry.en)] (fun r M => r = B true ∧ M = []) := by
 refine VB Tryz.func67 25 (fun E hE => ?_)
 repeat' ((first
  | (refine iAL ?_; first | refine AL.any ?_ | refine AL.any (h := POp.k Tryz.func130 (hc := eqEntry_self x (by assumption))) ?_ | refine AL.nil ?_)
  | ((with_reducible show DL ..); first | refine DL.any ?_ | refine DL.nil ?_)
  | (refine iAW ?_; first | (refine AW.c0 ?_; constructor) | refine AW.dr (id := 6) 8 ?_ | refine AW.cT ?_ | refine AW.cF ?_)
  | (
 refine AW.loopD hE (fun i : Nat => [.ro 8 (l.map TEntry.en), .ro 8 (l.map TEntry.en), .any, .any, .any, I i, .any, .any, .any, .any, .any, .any, .any, .any, .any, .any, .any, .any, .any, .any, .any, .any, .any, .any, .any, .any, .any]) (fun i => []) (fun i => l.length - i) (fun i => i ≤ l.length) 0 (by simp) ?_ (by first | rfl | (simp [fil_zero]; done)) ?_
 (focus (exact wkI))
 intro i hi
 have hclo : Clo (.ro 8 (l.map TEntry.en)) := clo_list TEntry.clo_en
 by_cases hlt : i < l.length
 case' pos =>
  have hP := True.intro
  obtain ⟨x, hx⟩ : ∃ x, l[i]? = some x := ⟨_, List.getElem?_eq_getElem hlt⟩
  have hg := map_get (f := TEntry.en) hx
  have ht := lt_true (f := TEntry.en) hlt
  have hn := next_ix hlt (by omega)
  have hpx := hp x (List.mem_of_getElem? hx)
  have hclo0 : Clo (.ro 2 (x.feature.points.map TPoint.en)) := clo_list TPoint.clo_en
  have hcls0 : Clo (.agg x.feature.en) := Clo.agg x.feature.clo_en
  have hcle : Clo (.agg x.en) := Clo.agg x.clo_en
 case' neg =>
  have hQ := True.intro
  have ht := lt_false (f := TEntry.en) hlt
  have e : i = l.length := by omega
  subst e
  try rw [List.take_length])) <;> (try dsimp only))
 all_goals first
  | (have _ := hP; (refine ⟨i + 1, _, hlt, by omega, ?_, rfl, ?_, ?_⟩; (focus (exact wkN)); (focus (exact fitsA)); (focus (exact FitsM.nil _))))
  | (have _ := hQ; exact Fin.one rfl (RV.tmp (by rfl)) (clo_c _) ⟨by rfl, rfl⟩)

theorem eqEdition_self (x : TEdition) (hs : x.sm) : VCalls Tryz.prog 131 [.agg x.en, .agg x.en] (fun r M => r = B true ∧ M = []) := by
 refine VB Tryz.func131 19 (fun E hE => ?_)
 have hclo0 : Clo (.ro 5 (x.source.map TFeature.en)) := clo_list TFeature.clo_en
 have hcle : Clo (.agg x.en) := Clo.agg x.clo_en
 have hs' := hs
 obtain ⟨hs1, hs1'⟩ := hs
 dsimp only [TEdition.en]
 repeat' ((first
  | (refine iAL ?_; first | refine AL.any ?_ | refine AL.any (h := POp.k Tryz.func22 (hc := eqFeatureS_self _ (by assumption) (by assumption))) ?_ | refine AL.nil ?_)
  | (refine iAW ?_; first | (refine AW.c0 ?_; constructor) | refine AW.cF ?_)) <;> (try dsimp only))
 all_goals exact Fin.one rfl (RV.tmp (by rfl)) (clo_c _) ⟨by simp_all, rfl⟩

theorem eqEditionS_self (l : List TEdition) (hl : l.length ≤ 1048576) (hp : ∀ x ∈ l, x.sm) : VCalls Tryz.prog 68 [.ro 3 (l.map TEdition.en), .ro 3 (l.map TEdition.en)] (fun r M => r = B true ∧ M = []) := by
 refine VB Tryz.func68 25 (fun E hE => ?_)
 repeat' ((first
  | (refine iAL ?_; first | refine AL.any ?_ | refine AL.any (h := POp.k Tryz.func131 (hc := eqEdition_self x (by assumption))) ?_ | refine AL.nil ?_)
  | ((with_reducible show DL ..); first | refine DL.any ?_ | refine DL.nil ?_)
  | (refine iAW ?_; first | (refine AW.c0 ?_; constructor) | refine AW.dr (id := 6) 8 ?_ | refine AW.cT ?_ | refine AW.cF ?_)
  | (
 refine AW.loopD hE (fun i : Nat => [.ro 3 (l.map TEdition.en), .ro 3 (l.map TEdition.en), .any, .any, .any, I i, .any, .any, .any, .any, .any, .any, .any, .any, .any, .any, .any, .any, .any, .any, .any, .any, .any, .any, .any, .any, .any]) (fun i => []) (fun i => l.length - i) (fun i => i ≤ l.length) 0 (by simp) ?_ (by first | rfl | (simp [fil_zero]; done)) ?_
 (focus (exact wkI))
 intro i hi
 have hclo : Clo (.ro 3 (l.map TEdition.en)) := clo_list TEdition.clo_en
 by_cases hlt : i < l.length
 case' pos =>
  have hP := True.intro
  obtain ⟨x, hx⟩ : ∃ x, l[i]? = some x := ⟨_, List.getElem?_eq_getElem hlt⟩
  have hg := map_get (f := TEdition.en) hx
  have ht := lt_true (f := TEdition.en) hlt
  have hn := next_ix hlt (by omega)
  have hpx := hp x (List.mem_of_getElem? hx)
  have hclo0 : Clo (.ro 5 (x.source.map TFeature.en)) := clo_list TFeature.clo_en
  have hcle : Clo (.agg x.en) := Clo.agg x.clo_en
 case' neg =>
  have hQ := True.intro
  have ht := lt_false (f := TEdition.en) hlt
  have e : i = l.length := by omega
  subst e
  try rw [List.take_length])) <;> (try dsimp only))
 all_goals first
  | (have _ := hP; (refine ⟨i + 1, _, hlt, by omega, ?_, rfl, ?_, ?_⟩; (focus (exact wkN)); (focus (exact fitsA)); (focus (exact FitsM.nil _))))
  | (have _ := hQ; exact Fin.one rfl (RV.tmp (by rfl)) (clo_c _) ⟨by rfl, rfl⟩)

theorem eqAtlas_self (x : TAtlas) (hs : x.sm) : VCalls Tryz.prog 16 [.agg x.en, .agg x.en] (fun r M => r = B true ∧ M = []) := by
 refine VB Tryz.func16 32 (fun E hE => ?_)
 have hclo0 : Clo (.ro 8 (x.log.map TEntry.en)) := clo_list TEntry.clo_en
 have hclo1 : Clo (.ro 3 (x.levels.map TLevel.en)) := clo_list TLevel.clo_en
 have hclo2 : Clo (.ro 3 (x.editions.map TEdition.en)) := clo_list TEdition.clo_en
 have hcle : Clo (.agg x.en) := Clo.agg x.clo_en
 have hs' := hs
 obtain ⟨⟨hs0, hs0'⟩, hs1, ⟨hs2, hs2'⟩⟩ := hs
 dsimp only [TAtlas.en]
 repeat' ((first
  | (refine iAL ?_; first | refine AL.any ?_ | refine AL.any (h := POp.k Tryz.func27 (hc := eqLevelS_self _ (by assumption))) ?_ | refine AL.any (h := POp.k Tryz.func67 (hc := eqEntryS_self _ (by assumption) (by assumption))) ?_ | refine AL.any (h := POp.k Tryz.func68 (hc := eqEditionS_self _ (by assumption) (by assumption))) ?_ | refine AL.any (h := POp.k Tryz.func69 (hc := eqCover_self x.cover)) ?_ | refine AL.nil ?_)
  | (refine iAW ?_; first | (refine AW.c0 ?_; constructor) | refine AW.cF ?_)) <;> (try dsimp only))
 all_goals exact Fin.one rfl (RV.tmp (by rfl)) (clo_c _) ⟨by simp_all, rfl⟩

def inr (a b c : Int) : Bool := decide (b ≤ a) && decide (a ≤ c)
def isp (x y : Int) : Bool := inr x 0 200 && inr y 0 200
abbrev wadd (a b : Int) : Int := IntKind.i64.wrap (a + b)
def wmax (a b : Int) : Int := if b > a then b else a
abbrev ptE (a b : TPoint) : Bool := eqVs [.int .i64 a.x, .int .i64 a.y] [.int .i64 b.x, .int .i64 b.y]
theorem ptE_comm (a b : TPoint) : ptE a b = ptE b a := by simp [ptE, eqVs, eqV, Bool.beq_comm, BEq.comm]
def prevP (l : List TPoint) (i : Nat) : TPoint := l.getD (i - 1) ⟨0, 0⟩
def okAt (l : List TPoint) (i : Nat) : Bool := match l[i]? with
 | none => false
 | some x => isp x.x x.y && (i == 0 || !ptE (prevP l i) x)
def ptsOk (l : List TPoint) (n : Nat) : Bool := (List.range n).all (okAt l)
theorem ptsOk_succ (l : List TPoint) (i : Nat) : ptsOk l (i + 1) = (ptsOk l i && okAt l i) := by simp [ptsOk, List.range_succ]
theorem ptsOk_not {l : List TPoint} {i n : Nat} (h : okAt l i = false) (hi : i < n) : ptsOk l n = false := by
 simp only [ptsOk, List.all_eq_false, List.mem_range]
 exact ⟨i, hi, by simp [h]⟩
def isLine (l : List TPoint) : Bool := inr l.length 2 10 && ptsOk l l.length
theorem ln_cases {l : List TPoint} {i : Nat} {x : TPoint} (hx : l[i]? = some x) (hl : l.length ≤ 1048576) :
 (isp x.x x.y = false ∧ okAt l i = false) ∨ (isp x.x x.y = true ∧ decide ((i : Int) > 0) = false ∧ okAt l i = true) ∨
 (isp x.x x.y = true ∧ decide ((i : Int) > 0) = true ∧ 0 ≤ IntKind.i64.wrap ((i : Int) - 1) ∧ (l.map TPoint.en)[(IntKind.i64.wrap ((i : Int) - 1)).toNat]? = some (prevP l i).en ∧ okAt l i = !ptE (prevP l i) x) := by
 have hi := (List.getElem?_eq_some_iff.1 hx).1
 cases hI : isp x.x x.y
 · exact .inl ⟨rfl, by simp [okAt, hx, hI]⟩
 · rcases Nat.eq_zero_or_pos i with h0 | h0
   · subst h0
     exact .inr (.inl ⟨rfl, by simp, by simp [okAt, hx, hI]⟩)
   · have e : IntKind.i64.wrap ((i : Int) - 1) = ((i - 1 : Nat) : Int) := by rw [w64 (by omega) (by omega)]; omega
     refine .inr (.inr ⟨rfl, decide_eq_true (by omega), by omega, ?_, ?_⟩)
     · rw [e, Int.toNat_natCast, List.getElem?_map, List.getElem?_eq_getElem (show i - 1 < l.length by omega)]
       simp [prevP, List.getD_eq_getElem?_getD, List.getElem?_eq_getElem (show i - 1 < l.length by omega)]
     · have : (i == 0) = false := by simp; omega
       simp [okAt, hx, hI, this]
def segs (l : List TPoint) : List TSegment := if isLine l then List.zipWith TSegment.mk l l.tail else []
theorem isLine_len {l : List TPoint} (h : isLine l = true) : 2 ≤ l.length ∧ l.length ≤ 10 := by
 simp only [isLine, inr, Bool.and_eq_true, decide_eq_true_eq] at h
 omega
theorem segs_len {l : List TPoint} (h : isLine l = true) : (segs l).length = l.length - 1 := by simp [segs, h]
theorem segs_nil {l : List TPoint} (h : isLine l = false) : segs l = [] := by simp [segs, h]
theorem segs_le (l : List TPoint) : (segs l).length ≤ 9 := by
 cases h : isLine l
 · simp [segs_nil h]
 · have := isLine_len h; rw [segs_len h]; omega
theorem segs_get {l : List TPoint} {i : Nat} (h : i < (segs l).length) : ∃ a b, isLine l = true ∧ i + 1 < l.length ∧ l[i]? = some a ∧ l[i + 1]? = some b ∧ (segs l)[i]? = some ⟨a, b⟩ := by
 cases hL : isLine l
 · simp [segs_nil hL] at h
 · have h1 := h
   rw [segs_len hL] at h1
   refine ⟨l[i], l[i + 1], rfl, by omega, List.getElem?_eq_getElem (by omega), List.getElem?_eq_getElem (by omega), ?_⟩
   simp [segs, hL, List.getElem?_zipWith, List.getElem?_eq_getElem (show i < l.length by omega), List.getElem?_tail, List.getElem?_eq_getElem (show i + 1 < l.length by omega)]
theorem clo_rows {α : Type} {en : α → List AV} (h : ∀ a, ∀ x ∈ en a, Clo x) {l : List α} : ∀ r ∈ l.map en, ∀ x ∈ r, Clo x := fun r hr x hx => by
 obtain ⟨a, _, rfl⟩ := List.mem_map.1 hr
 exact h a x hx
theorem clo_rows_nil : ∀ r ∈ ([] : List (List AV)), ∀ x ∈ r, Clo x := fun r hr => by simp at hr
theorem map_take_succ {α β : Type} {f : α → β} {l : List α} {i : Nat} {x : α} (h : l[i]? = some x) : (l.take (i + 1)).map f = (l.take i).map f ++ [f x] := by rw [take_succ_of h]; simp
def accF {α : Type} (f : Int → α → Int) (l : List α) (i : Nat) : Int := (l.take i).foldl f 0
theorem accF_succ {α : Type} {f : Int → α → Int} {l : List α} {i : Nat} {x : α} (h : l[i]? = some x) : accF f l (i + 1) = f (accF f l i) x := by simp [accF, take_succ_of h]
theorem accF_all {α : Type} {f : Int → α → Int} {l : List α} : accF f l l.length = l.foldl f 0 := by simp [accF]
theorem inr_v (a b c : Int) : VCalls Tryz.prog 145 [I a, I b, I c] (fun r M => r = B (inr a b c) ∧ M = []) := by
 refine VB Tryz.func145 12 (fun E hE => ?_)
 repeat' ((first
  | (refine iAL ?_; first | refine AL.any ?_ | refine AL.W ?_ | refine AL.nil ?_)
  | (refine iAW ?_; (refine AW.c0 ?_; constructor))) <;> (try dsimp only))
 all_goals exact Fin.one rfl (RV.tmp (by rfl)) (clo_c _) ⟨by first | rfl | (simp_all [inr]; done) | (simp only [inr]; split <;> simp_all <;> omega), rfl⟩

theorem inr_s (a b c : Int) : VCalls Tryz.prog 96 [I a, I b, I c] (fun r M => r = B (inr a b c) ∧ M = []) := by
 refine VB Tryz.func96 12 (fun E hE => ?_)
 repeat' ((first
  | (refine iAL ?_; first | refine AL.any ?_ | refine AL.W ?_ | refine AL.nil ?_)
  | (refine iAW ?_; (refine AW.c0 ?_; constructor))) <;> (try dsimp only))
 all_goals exact Fin.one rfl (RV.tmp (by rfl)) (clo_c _) ⟨by first | rfl | (simp_all [inr]; done) | (simp only [inr]; split <;> simp_all <;> omega), rfl⟩

theorem isp_v (x y : Int) : VCalls Tryz.prog 180 [.agg [I x, I y]] (fun r M => r = B (isp x y) ∧ M = []) := by
 refine VB Tryz.func180 10 (fun E hE => ?_)
 repeat' ((first
  | (refine iAL ?_; first | refine AL.any ?_ | refine AL.any (h := POp.k Tryz.func145 (hc := inr_v _ _ _)) ?_ | refine AL.W ?_ | refine AL.W (h := fun h => by (try rw [h]); exact POp.k Tryz.func145 (hc := inr_v _ _ _)) ?_ | refine AL.nil ?_)
  | (refine iAW ?_; (refine AW.c0 ?_; constructor))) <;> (try dsimp only))
 all_goals exact Fin.one rfl (RV.tmp (by rfl)) (clo_c _) ⟨by first | rfl | (simp_all [isp]; done) | (simp only [isp]; split <;> simp_all <;> omega), rfl⟩

theorem isp_v_t (x y : Int) (h : isp x y = true) : VCalls Tryz.prog 180 [.agg [I x, I y]] (fun r M => r = B true ∧ M = []) := h ▸ isp_v x y
theorem isp_v_f (x y : Int) (h : isp x y = false) : VCalls Tryz.prog 180 [.agg [I x, I y]] (fun r M => r = B false ∧ M = []) := h ▸ isp_v x y
theorem isp_s (x y : Int) : VCalls Tryz.prog 170 [.agg [I x, I y]] (fun r M => r = B (isp x y) ∧ M = []) := by
 refine VB Tryz.func170 10 (fun E hE => ?_)
 repeat' ((first
  | (refine iAL ?_; first | refine AL.any ?_ | refine AL.any (h := POp.k Tryz.func96 (hc := inr_s _ _ _)) ?_ | refine AL.W ?_ | refine AL.W (h := fun h => by (try rw [h]); exact POp.k Tryz.func96 (hc := inr_s _ _ _)) ?_ | refine AL.nil ?_)
  | (refine iAW ?_; (refine AW.c0 ?_; constructor))) <;> (try dsimp only))
 all_goals exact Fin.one rfl (RV.tmp (by rfl)) (clo_c _) ⟨by first | rfl | (simp_all [isp]; done) | (simp only [isp]; split <;> simp_all <;> omega), rfl⟩

theorem isp_s_t (x y : Int) (h : isp x y = true) : VCalls Tryz.prog 170 [.agg [I x, I y]] (fun r M => r = B true ∧ M = []) := h ▸ isp_s x y
theorem isp_s_f (x y : Int) (h : isp x y = false) : VCalls Tryz.prog 170 [.agg [I x, I y]] (fun r M => r = B false ∧ M = []) := h ▸ isp_s x y
theorem isLine_s (l : List TPoint) (hl : l.length ≤ 1048576) : VCalls Tryz.prog 238 [.ro 2 (l.map TPoint.en)] (fun r M => r = B (isLine l) ∧ M = []) := by
 refine VB Tryz.func238 34 (fun E hE => ?_)
 repeat' ((first
  | (refine iAL ?_; first | refine AL.any ?_ | refine AL.any (h := POp.k Tryz.func96 (hc := inr_s _ _ _)) ?_ | refine AL.U ?_ | refine AL.F ?_ | refine AL.T ?_ | refine AL.nil ?_)
  | ((with_reducible show DL ..); first | refine DL.any ?_ | refine DL.any (h := POp.k Tryz.func170 (hc := by first | exact isp_s_t _ _ (by assumption) | exact isp_s_f _ _ (by assumption) | exact isp_s _ _)) ?_ | refine DL.U ?_ | refine DL.F ?_ | refine DL.T ?_ | refine DL.nil ?_)
  | (refine iAW ?_; first | (refine AW.c0 ?_; constructor) | refine AW.dr (id := 4) 19 ?_ | refine AW.cT ?_ | refine AW.cF ?_ | (refine AW.c2 ?_ ?_ <;> (intro h; try simp only [bT, bF] at h)))
  | (
 refine AW.loopD hE (fun i : Nat => [.ro 2 (l.map TPoint.en), .any, .any, I i, .any, .any, .any, .any, .any, .any, .any, .any, .any, .any, .any, .any, .any, .any, .any, .any, .any, .any, .any, .any, .any, .any, .any, .any, .any, .any, .any, .any, .any, .any, .any]) (fun i => []) (fun i => l.length - i) (fun i => i ≤ l.length ∧ ptsOk l i = true) 0 (by simp [ptsOk]) ?_ (by first | rfl | (simp [fil_zero]; done)) ?_
 (focus (exact wkI))
 intro i hi
 have hclo : Clo (.ro 2 (l.map TPoint.en)) := clo_list TPoint.clo_en
 by_cases hlt : i < l.length
 case' pos =>
  have hP := True.intro
  obtain ⟨x, hx⟩ : ∃ x, l[i]? = some x := ⟨_, List.getElem?_eq_getElem hlt⟩
  have hg := map_get (f := TPoint.en) hx
  have ht := lt_true (f := TPoint.en) hlt
  have hn := next_ix hlt (by omega)
  have hsu := ptsOk_succ l i
  have hpc := ptE_comm x (prevP l i)
  rcases ln_cases hx hl with ⟨hI, hk⟩ | ⟨hI, hz, hk⟩ | ⟨hI, hz, h0, hp, hk⟩
 case' neg =>
  have hQ := True.intro
  have ht := lt_false (f := TPoint.en) hlt
  have e : i = l.length := by omega
  subst e
  try rw [List.take_length])) <;> (try dsimp only))
 all_goals first
  | (have _ := hP; (refine ⟨i + 1, _, ⟨hlt, by simp_all⟩, by omega, ?_, rfl, ?_, ?_⟩; (focus (exact wkN)); (focus (exact fitsA)); (focus (exact FitsM.nil _))))
  | (have _ := hP; exact Fin.one rfl (RV.tmp (by rfl)) (clo_c _) ⟨by have hn := ptsOk_not (n := l.length) (by simp_all : okAt l i = false) hlt; simp_all [isLine], rfl⟩)
  | (have _ := hQ; exact Fin.one rfl (RV.tmp (by rfl)) (clo_c _) ⟨by simp_all [isLine], rfl⟩)

theorem isLine_i (l : List TPoint) (hl : l.length ≤ 1048576) : VCalls Tryz.prog 245 [.ro 2 (l.map TPoint.en)] (fun r M => r = B (isLine l) ∧ M = []) := by
 refine VB Tryz.func245 36 (fun E hE => ?_)
 repeat' ((first
  | (refine iAL ?_; first | refine AL.any ?_ | refine AL.U ?_ | refine AL.F ?_ | refine AL.T ?_ | refine AL.W ?_ | refine AL.nil ?_)
  | ((with_reducible show DL ..); first | refine DL.any ?_ | refine DL.any (h := POp.k Tryz.func180 (hc := by first | exact isp_v_t _ _ (by assumption) | exact isp_v_f _ _ (by assumption) | exact isp_v _ _)) ?_ | refine DL.U ?_ | refine DL.F ?_ | refine DL.T ?_ | refine DL.nil ?_)
  | (refine iAW ?_; first | (refine AW.c0 ?_; constructor) | refine AW.dr (id := 6) 13 ?_ | refine AW.cT ?_ | refine AW.cF ?_ | (refine AW.c2 ?_ ?_ <;> (intro h; try simp only [bT, bF] at h)))
  | (
 refine AW.loopD hE (fun i : Nat => [.ro 2 (l.map TPoint.en), .any, .any, .any, .any, .any, .any, .any, .any, .any, .any, .any, .any, .ro 2 (l.map TPoint.en), I (l.map TPoint.en).length, I i, .any, .any, .any, .any, .any, .any, .any, .any, .any, .any, .any, .any, .any, .any, .any, .any, .any, .any, .any, .any, .any]) (fun i => []) (fun i => l.length - i) (fun i => i ≤ l.length ∧ ptsOk l i = true) 0 (by simp [ptsOk]) ?_ (by first | rfl | (simp [fil_zero]; done)) ?_
 (focus (exact wkI))
 intro i hi
 have hclo : Clo (.ro 2 (l.map TPoint.en)) := clo_list TPoint.clo_en
 by_cases hlt : i < l.length
 case' pos =>
  have hP := True.intro
  obtain ⟨x, hx⟩ : ∃ x, l[i]? = some x := ⟨_, List.getElem?_eq_getElem hlt⟩
  have hg := map_get (f := TPoint.en) hx
  have ht := lt_true (f := TPoint.en) hlt
  have hn := next_ix hlt (by omega)
  have hsu := ptsOk_succ l i
  have hpc := ptE_comm x (prevP l i)
  rcases ln_cases hx hl with ⟨hI, hk⟩ | ⟨hI, hz, hk⟩ | ⟨hI, hz, h0, hp, hk⟩
 case' neg =>
  have hQ := True.intro
  have ht := lt_false (f := TPoint.en) hlt
  have e : i = l.length := by omega
  subst e
  try rw [List.take_length])) <;> (try dsimp only))
 all_goals first
  | (have _ := hP; (refine ⟨i + 1, _, ⟨hlt, by simp_all⟩, by omega, ?_, rfl, ?_, ?_⟩; (focus (exact wkN)); (focus (exact fitsA)); (focus (exact FitsM.nil _))))
  | (have _ := hP; exact Fin.one rfl (RV.tmp (by rfl)) (clo_c _) ⟨by have hn := ptsOk_not (n := l.length) (by simp_all : okAt l i = false) hlt; simp_all [isLine], rfl⟩)
  | (have _ := hQ; exact Fin.one rfl (RV.tmp (by rfl)) (clo_c _) ⟨by simp_all [isLine, inr] <;> omega, rfl⟩)
  | (exact Fin.one rfl (RV.tmp (by rfl)) (clo_c _) ⟨by simp_all [isLine, inr] <;> omega, rfl⟩)

theorem max_s (a b : Int) : VCalls Tryz.prog 222 [I a, I b] (fun r M => r = I (wmax a b) ∧ M = []) := by
 refine VB Tryz.func222 8 (fun E hE => ?_)
 repeat' ((first
  | (refine iAL ?_; first | refine AL.any ?_ | refine AL.nil ?_)
  | (refine iAW ?_; first | (refine AW.c0 ?_; constructor) | (refine AW.c2 ?_ ?_ <;> (intro h; try simp only [bT, bF] at h)))) <;> (try dsimp only))
 all_goals exact Fin.one rfl (RV.tmp (by rfl)) (clo_c _) ⟨by first | rfl | (simp_all [wmax]; done) | (simp only [wmax]; split <;> simp_all <;> omega), rfl⟩

abbrev wmul (a b : Int) : Int := IntKind.i64.wrap (a * b)
def wmin (a b : Int) : Int := if b < a then b else a
def isSeg (s : TSegment) : Bool := isp s.a.x s.a.y && isp s.b.x s.b.y && !ptE s.a s.b
def crW (a b p : TPoint) : Int := wsub (wmul (wsub b.x a.x) (wsub p.y a.y)) (wmul (wsub b.y a.y) (wsub p.x a.x))
def sdW (a b p : TPoint) : Int := if isp a.x a.y && isp b.x b.y && isp p.x p.y then sg (crW a b p) else 0
def cmpI (x y : Int) : Int := if x < y then -1 else if x > y then 1 else 0
def onW (s : TSegment) (p : TPoint) : Bool := isSeg s && isp p.x p.y && (crW s.a s.b p == 0) && inr p.x (wmin s.a.x s.b.x) (wmax s.a.x s.b.x) && inr p.y (wmin s.a.y s.b.y) (wmax s.a.y s.b.y)
theorem sdW_zero {a b p : TPoint} (h1 : isp a.x a.y = true) (h2 : isp b.x b.y = true) (h3 : isp p.x p.y = true) : (sdW a b p == 0) = (crW a b p == 0) := by
 unfold sdW
 rw [h1, h2, h3]
 simp only [Bool.and_self, if_true]
 have := sg_zero (n := crW a b p)
 cases h : (crW a b p == 0)
 · simp at h ⊢; omega
 · simp at h ⊢; omega
def onWI (s : TSegment) (p : TPoint) : Bool := isSeg s && isp p.x p.y && (sdW s.a s.b p == 0) && inr p.x (if s.b.x < s.a.x then s.b.x else s.a.x) (if s.b.x > s.a.x then s.b.x else s.a.x) && inr p.y (if s.b.y < s.a.y then s.b.y else s.a.y) (if s.b.y > s.a.y then s.b.y else s.a.y)
theorem onWI_eq (s : TSegment) (p : TPoint) : onWI s p = onW s p := by
 unfold onWI onW
 cases h1 : isSeg s
 · simp
 · cases h2 : isp p.x p.y
   · simp
   · have h3 := h1
     unfold isSeg at h3
     simp only [Bool.and_eq_true] at h3
     rw [sdW_zero h3.1.1 h3.1.2 h2]
     rfl
theorem bef_cases (a b : TPoint) : decide (a.y < b.y) = true ∨ (decide (a.y < b.y) = false ∧ (a.y == b.y) = false) ∨ (decide (a.y < b.y) = false ∧ (a.y == b.y) = true) := by
 cases decide (a.y < b.y) <;> cases (a.y == b.y) <;> simp
def fwdW (s : TSegment) : TSegment := if bef s.b s.a = true then ⟨s.b, s.a⟩ else s

theorem min_s (a b : Int) : VCalls Tryz.prog 175 [I a, I b] (fun r M => r = I (wmin a b) ∧ M = []) := by
 refine VB Tryz.func175 8 (fun E hE => ?_)
 repeat' ((first
  | (refine iAL ?_; first | refine AL.any ?_ | refine AL.nil ?_)
  | (refine iAW ?_; first | (refine AW.c0 ?_; constructor) | (refine AW.c2 ?_ ?_ <;> (intro h; try simp only [bT, bF] at h)))) <;> (try dsimp only))
 all_goals exact Fin.one rfl (RV.tmp (by rfl)) (clo_c _) ⟨by first | rfl | (simp_all [wmin]; done) | (simp only [wmin]; (repeat' split) <;> simp_all <;> omega), rfl⟩

theorem isNaN_v (n : Int) : VCalls Tryz.prog 198 [I n] (fun r M => r = B false ∧ M = []) := by
 refine VB Tryz.func198 5 (fun E hE => ?_)
 repeat' ((first
  | (refine iAL ?_; first | refine AL.any ?_ | refine AL.nil ?_)
  | (refine iAW ?_; (refine AW.c0 ?_; constructor))) <;> (try dsimp only))
 all_goals exact Fin.one rfl (RV.tmp (by rfl)) (clo_c _) ⟨by simp, rfl⟩

theorem cmp_v (x y : Int) : VCalls Tryz.prog 128 [I x, I y] (fun r M => r = I (cmpI x y) ∧ M = []) := by
 refine VB Tryz.func128 18 (fun E hE => ?_)
 repeat' ((first
  | (refine iAL ?_; first | refine AL.any ?_ | refine AL.any (h := POp.k Tryz.func198 (hc := isNaN_v _)) ?_ | refine AL.nil ?_)
  | (refine iAW ?_; first | (refine AW.c0 ?_; constructor) | refine AW.cF ?_ | (refine AW.c2 ?_ ?_ <;> (intro h; try simp only [bT, bF] at h)))) <;> (try dsimp only))
 all_goals exact Fin.one rfl (RV.tmp (by rfl)) (clo_c _) ⟨by first | rfl | (simp_all [cmpI]; done) | (simp only [cmpI]; (repeat' split) <;> simp_all <;> omega), rfl⟩

theorem crs_s (a b p : TPoint) : VCalls Tryz.prog 294 [.agg a.en, .agg b.en, .agg p.en] (fun r M => r = I (crW a b p) ∧ M = []) := by
 refine VB Tryz.func294 27 (fun E hE => ?_)
 dsimp only [TPoint.en, TSegment.en]
 repeat' ((first
  | (refine iAL ?_; first | refine AL.any ?_ | refine AL.nil ?_)
  | (refine iAW ?_; (refine AW.c0 ?_; constructor))) <;> (try dsimp only))
 all_goals exact Fin.one rfl (RV.tmp (by rfl)) (clo_c _) ⟨by first | rfl | (simp_all [crW]; done) | (simp only [crW]; (repeat' split) <;> simp_all <;> omega), rfl⟩

theorem isSeg_s (s : TSegment) : VCalls Tryz.prog 240 [.agg s.en] (fun r M => r = B (isSeg s) ∧ M = []) := by
 refine VB Tryz.func240 17 (fun E hE => ?_)
 dsimp only [TPoint.en, TSegment.en]
 repeat' ((first
  | (refine iAL ?_; first | refine AL.any ?_ | refine AL.any (h := POp.k Tryz.func170 (hc := by first | exact isp_s_t _ _ (by assumption) | exact isp_s_f _ _ (by assumption) | exact isp_s _ _)) ?_ | refine AL.W ?_ | refine AL.W (h := fun h => by (try rw [h]); exact POp.k Tryz.func170 (hc := by first | exact isp_s_t _ _ (by assumption) | exact isp_s_f _ _ (by assumption) | exact isp_s _ _)) ?_ | refine AL.nil ?_)
  | (refine iAW ?_; (refine AW.c0 ?_; constructor))) <;> (try dsimp only))
 all_goals exact Fin.one rfl (RV.tmp (by rfl)) (clo_c _) ⟨by first | rfl | (simp_all [isSeg]; done) | (simp only [isSeg]; (repeat' split) <;> simp_all <;> omega), rfl⟩

theorem side_s (a b p : TPoint) : VCalls Tryz.prog 244 [.agg a.en, .agg b.en, .agg p.en] (fun r M => r = I (sdW a b p) ∧ M = []) := by
 refine VB Tryz.func244 28 (fun E hE => ?_)
 dsimp only [TPoint.en, TSegment.en]
 repeat' ((first
  | (refine iAL ?_; first | refine AL.any ?_ | refine AL.any (h := POp.k Tryz.func170 (hc := by first | exact isp_s_t _ _ (by assumption) | exact isp_s_f _ _ (by assumption) | exact isp_s _ _)) ?_ | refine AL.any (h := POp.k Tryz.func294 (hc := by first | exact crs_s a b p | exact crs_s s.a s.b p)) ?_ | refine AL.W ?_ | refine AL.W (h := fun h => by (try rw [h]); exact POp.k Tryz.func170 (hc := by first | exact isp_s_t _ _ (by assumption) | exact isp_s_f _ _ (by assumption) | exact isp_s _ _)) ?_ | refine AL.nil ?_)
  | (refine iAW ?_; first | (refine AW.c0 ?_; constructor) | (refine AW.c2 ?_ ?_ <;> (intro h; try simp only [bT, bF] at h)))) <;> (try dsimp only))
 all_goals exact Fin.one rfl (RV.tmp (by rfl)) (clo_c _) ⟨by first | rfl | (simp_all [sdW, sg, cmpI]; done) | (simp only [sdW, sg, cmpI]; (repeat' split) <;> simp_all <;> omega), rfl⟩

theorem isOn_s (s : TSegment) (p : TPoint) : VCalls Tryz.prog 320 [.agg s.en, .agg p.en] (fun r M => r = B (onW s p) ∧ M = []) := by
 refine VB Tryz.func320 56 (fun E hE => ?_)
 dsimp only [TPoint.en, TSegment.en]
 repeat' ((first
  | (refine iAL ?_; first | refine AL.any ?_ | refine AL.W (h := fun h => by (try rw [h]); exact POp.k Tryz.func96 (hc := inr_s _ _ _)) ?_ | refine AL.nil ?_)
  | ((with_reducible show DL ..); first | refine DL.any ?_ | refine DL.any (h := POp.k Tryz.func240 (hc := isSeg_s s)) ?_ | refine DL.W ?_ | refine DL.W (h := fun h => by (try rw [h]); exact POp.k Tryz.func96 (hc := inr_s _ _ _)) ?_ | refine DL.W (h := fun h => by (try rw [h]); exact POp.k Tryz.func170 (hc := by first | exact isp_s_t _ _ (by assumption) | exact isp_s_f _ _ (by assumption) | exact isp_s _ _)) ?_ | refine DL.W (h := fun h => by (try rw [h]); exact POp.k Tryz.func175 (hc := min_s _ _)) ?_ | refine DL.W (h := fun h => by (try rw [h]); exact POp.k Tryz.func222 (hc := max_s _ _)) ?_ | refine DL.W (h := fun h => by (try rw [h]); exact POp.k Tryz.func294 (hc := by first | exact crs_s a b p | exact crs_s s.a s.b p)) ?_ | refine DL.nil ?_)
  | (refine iAW ?_; first | (refine AW.c0 ?_; constructor) | refine AW.dr (id := 1) 51 ?_)) <;> (try dsimp only))
 all_goals exact Fin.one rfl (RV.tmp (by rfl)) (clo_c _) ⟨by first | rfl | (simp_all [onW, wmin, wmax]; done) | (simp only [onW, wmin, wmax]; (repeat' split) <;> simp_all <;> omega), rfl⟩

theorem crs_i (a b p : TPoint) : VCalls Tryz.prog 298 [.agg a.en, .agg b.en, .agg p.en] (fun r M => r = I (crW a b p) ∧ M = []) := by
 refine VB Tryz.func298 27 (fun E hE => ?_)
 dsimp only [TPoint.en, TSegment.en]
 repeat' ((first
  | (refine iAL ?_; first | refine AL.any ?_ | refine AL.nil ?_)
  | (refine iAW ?_; (refine AW.c0 ?_; constructor))) <;> (try dsimp only))
 all_goals exact Fin.one rfl (RV.tmp (by rfl)) (clo_c _) ⟨by first | rfl | (simp_all [crW]; done) | (simp only [crW]; (repeat' split) <;> simp_all <;> omega), rfl⟩

theorem isSeg_i (s : TSegment) : VCalls Tryz.prog 249 [.agg s.en] (fun r M => r = B (isSeg s) ∧ M = []) := by
 refine VB Tryz.func249 17 (fun E hE => ?_)
 dsimp only [TPoint.en, TSegment.en]
 repeat' ((first
  | (refine iAL ?_; first | refine AL.any ?_ | refine AL.any (h := POp.k Tryz.func180 (hc := by first | exact isp_v_t _ _ (by assumption) | exact isp_v_f _ _ (by assumption) | exact isp_v _ _)) ?_ | refine AL.W ?_ | refine AL.W (h := fun h => by (try rw [h]); exact POp.k Tryz.func180 (hc := by first | exact isp_v_t _ _ (by assumption) | exact isp_v_f _ _ (by assumption) | exact isp_v _ _)) ?_ | refine AL.nil ?_)
  | (refine iAW ?_; (refine AW.c0 ?_; constructor))) <;> (try dsimp only))
 all_goals exact Fin.one rfl (RV.tmp (by rfl)) (clo_c _) ⟨by first | rfl | (simp_all [isSeg]; done) | (simp only [isSeg]; (repeat' split) <;> simp_all <;> omega), rfl⟩

theorem side_i (a b p : TPoint) : VCalls Tryz.prog 254 [.agg a.en, .agg b.en, .agg p.en] (fun r M => r = I (sdW a b p) ∧ M = []) := by
 refine VB Tryz.func254 22 (fun E hE => ?_)
 dsimp only [TPoint.en, TSegment.en]
 repeat' ((first
  | (refine iAL ?_; first | refine AL.any ?_ | refine AL.any (h := POp.k Tryz.func128 (hc := cmp_v _ _)) ?_ | refine AL.any (h := POp.k Tryz.func180 (hc := by first | exact isp_v_t _ _ (by assumption) | exact isp_v_f _ _ (by assumption) | exact isp_v _ _)) ?_ | refine AL.any (h := POp.k Tryz.func298 (hc := by first | exact crs_i a b p | exact crs_i s.a s.b p)) ?_ | refine AL.W ?_ | refine AL.W (h := fun h => by (try rw [h]); exact POp.k Tryz.func180 (hc := by first | exact isp_v_t _ _ (by assumption) | exact isp_v_f _ _ (by assumption) | exact isp_v _ _)) ?_ | refine AL.nil ?_)
  | (refine iAW ?_; first | (refine AW.c0 ?_; constructor) | (refine AW.c2 ?_ ?_ <;> (intro h; try simp only [bT, bF] at h)))) <;> (try dsimp only))
 all_goals exact Fin.one rfl (RV.tmp (by rfl)) (clo_c _) ⟨by first | rfl | (simp_all [sdW, sg, cmpI]; done) | (simp only [sdW, sg, cmpI]; (repeat' split) <;> simp_all <;> omega), rfl⟩

theorem isOn_i0 (s : TSegment) (p : TPoint) : VCalls Tryz.prog 297 [.agg s.en, .agg p.en] (fun r M => r = B (onWI s p) ∧ M = []) := by
 refine VB Tryz.func297 56 (fun E hE => ?_)
 dsimp only [TPoint.en, TSegment.en]
 repeat' ((first
  | (refine iAL ?_; first | refine AL.any ?_ | refine AL.any (h := POp.k Tryz.func249 (hc := isSeg_i s)) ?_ | refine AL.W ?_ | refine AL.W (h := fun h => by (try rw [h]); exact POp.k Tryz.func145 (hc := inr_v _ _ _)) ?_ | refine AL.W (h := fun h => by (try rw [h]); exact POp.k Tryz.func180 (hc := by first | exact isp_v_t _ _ (by assumption) | exact isp_v_f _ _ (by assumption) | exact isp_v _ _)) ?_ | refine AL.W (h := fun h => by (try rw [h]); exact POp.k Tryz.func254 (hc := by first | exact side_i a b p | exact side_i s.a s.b p)) ?_ | refine AL.nil ?_)
  | (refine iAW ?_; (refine AW.c0 ?_; constructor))) <;> (try dsimp only))
 all_goals exact Fin.one rfl (RV.tmp (by rfl)) (clo_c _) ⟨by first | rfl | (simp only [onWI, Bool.and_assoc]; done), rfl⟩

theorem isOn_i (s : TSegment) (p : TPoint) : VCalls Tryz.prog 297 [.agg s.en, .agg p.en] (fun r M => r = B (onW s p) ∧ M = []) := onWI_eq s p ▸ isOn_i0 s p
theorem bef_i (a b : TPoint) : VCalls Tryz.prog 296 [.agg a.en, .agg b.en] (fun r M => r = B (bef a b) ∧ M = []) := by
 refine VB Tryz.func296 22 (fun E hE => ?_)
 dsimp only [TPoint.en, TSegment.en]
 rcases bef_cases a b with h1 | ⟨h1, h2⟩ | ⟨h1, h2⟩
 repeat' ((first
  | (refine iAL ?_; first | refine AL.any ?_ | refine AL.U ?_ | refine AL.F ?_ | refine AL.T ?_ | refine AL.nil ?_)
  | (refine iAW ?_; (refine AW.c0 ?_; constructor))) <;> (try dsimp only))
 all_goals exact Fin.one rfl (RV.tmp (by rfl)) (clo_c _) ⟨by first | rfl | (simp_all [bef]; done) | (simp only [bef]; (repeat' split) <;> simp_all <;> omega), rfl⟩

theorem turn_i (s : TSegment) : VCalls Tryz.prog 324 [.agg s.en] (fun r M => r = .agg [I s.b.x, I s.b.y, I s.a.x, I s.a.y] ∧ M = []) := by
 refine VB Tryz.func324 7 (fun E hE => ?_)
 dsimp only [TPoint.en, TSegment.en]
 repeat' ((first
  | (refine iAL ?_; first | refine AL.any ?_ | refine AL.nil ?_)
  | (refine iAW ?_; (refine AW.c0 ?_; constructor))) <;> (try dsimp only))
 all_goals exact Fin.one rfl (RV.cell (QOp.quietA TT_ok (by rfl))) (clo_of (by rfl)) ⟨by rfl, rfl⟩

theorem fwd_i (s : TSegment) : VCalls Tryz.prog 295 [.agg s.en] (fun r M => r = .agg (fwdW s).en ∧ M = []) := by
 refine VB Tryz.func295 10 (fun E hE => ?_)
 dsimp only [TPoint.en, TSegment.en]
 repeat' ((first
  | (refine iAL ?_; first | refine AL.any ?_ | refine AL.any (h := POp.k Tryz.func296 (hc := by first | exact bef_i a b | exact bef_i s.b s.a)) ?_ | refine AL.any (h := POp.k Tryz.func324 (hc := turn_i s)) ?_ | refine AL.nil ?_)
  | (refine iAW ?_; first | (refine AW.c0 ?_; constructor) | (refine AW.c2 ?_ ?_ <;> (intro h; try simp only [bT, bF] at h)))) <;> (try dsimp only))
 all_goals exact Fin.one rfl (RV.cell (QOp.quietA TT_ok (by rfl))) (clo_of (by rfl)) ⟨by first | (simp only [fwdW]; simp_all; done) | (simp [fwdW, *]; done), rfl⟩

def hmI (s t : TSegment) : Int :=
 if (!isSeg s || !isSeg t) = true then 0 else
 if ((sdW s.a s.b t.a == 0) && (sdW s.a s.b t.b == 0)) = true then
  if bef (if bef (fwdW t).b (fwdW s).b = true then (fwdW t).b else (fwdW s).b) (if bef (fwdW s).a (fwdW t).a = true then (fwdW t).a else (fwdW s).a) = true then 0
  else if ptE (if bef (fwdW s).a (fwdW t).a = true then (fwdW t).a else (fwdW s).a) (if bef (fwdW t).b (fwdW s).b = true then (fwdW t).b else (fwdW s).b) = true then 1 else 3
 else if (decide (wmul (sdW s.a s.b t.a) (sdW s.a s.b t.b) < 0) && decide (wmul (sdW t.a t.b s.a) (sdW t.a t.b s.b) < 0)) = true then 2
 else if (onW s t.a || onW s t.b || onW t s.a || onW t s.b) = true then 1 else 0
theorem mul_small {u v : Int} (h1 : -200 ≤ u ∧ u ≤ 200) (h2 : -200 ≤ v ∧ v ≤ 200) : -40000 ≤ u * v ∧ u * v ≤ 40000 := by
 have a1 := Int.mul_nonneg (show 0 ≤ 200 - u by omega) (show 0 ≤ 200 + v by omega)
 have a2 := Int.mul_nonneg (show 0 ≤ 200 + u by omega) (show 0 ≤ 200 - v by omega)
 have a3 := Int.mul_nonneg (show 0 ≤ 200 - u by omega) (show 0 ≤ 200 - v by omega)
 have a4 := Int.mul_nonneg (show 0 ≤ 200 + u by omega) (show 0 ≤ 200 + v by omega)
 have e1 : (200 - u) * (200 + v) + (200 + u) * (200 - v) = 80000 - 2 * (u * v) := by grind
 have e2 : (200 - u) * (200 - v) + (200 + u) * (200 + v) = 80000 + 2 * (u * v) := by grind
 omega
theorem isp_bd {x y : Int} (h : isp x y = true) : 0 ≤ x ∧ x ≤ 200 ∧ 0 ≤ y ∧ y ≤ 200 := by
 simp only [isp, inr, Bool.and_eq_true, decide_eq_true_eq] at h
 omega
theorem crW_crs {a b p : TPoint} (ha : isp a.x a.y = true) (hb : isp b.x b.y = true) (hp : isp p.x p.y = true) : crW a b p = crs a b p := by
 have ha := isp_bd ha
 have hb := isp_bd hb
 have hp := isp_bd hp
 have m1 := mul_small (u := b.x - a.x) (v := p.y - a.y) (by omega) (by omega)
 have m2 := mul_small (u := b.y - a.y) (v := p.x - a.x) (by omega) (by omega)
 unfold crW crs wmul wsub
 rw [w64 (n := b.x - a.x) (by omega) (by omega), w64 (n := p.y - a.y) (by omega) (by omega), w64 (n := b.y - a.y) (by omega) (by omega), w64 (n := p.x - a.x) (by omega) (by omega)]
 rw [w64 (n := (b.x - a.x) * (p.y - a.y)) (by omega) (by omega), w64 (n := (b.y - a.y) * (p.x - a.x)) (by omega) (by omega), w64 (by omega) (by omega)]
theorem sdW_sg {a b p : TPoint} (ha : isp a.x a.y = true) (hb : isp b.x b.y = true) (hp : isp p.x p.y = true) : sdW a b p = sg (crs a b p) := by
 unfold sdW
 rw [ha, hb, hp, crW_crs ha hb hp]
 rfl
theorem sg_bd (n : Int) : -1 ≤ sg n ∧ sg n ≤ 1 := by unfold sg; split <;> (try split) <;> omega
theorem wmul_sg (m n : Int) : wmul (sg m) (sg n) = sg m * sg n := by
 have h1 := sg_bd m
 have h2 := sg_bd n
 have := mul_small (u := sg m) (v := sg n) (by omega) (by omega)
 exact w64 (by omega) (by omega)
theorem isSeg_bd {s : TSegment} (h : isSeg s = true) : isp s.a.x s.a.y = true ∧ isp s.b.x s.b.y = true ∧ ptE s.a s.b = false := by
 simp only [isSeg, Bool.and_eq_true, Bool.not_eq_true'] at h
 exact ⟨h.1.1, h.1.2, h.2⟩
theorem ptE_eqP (a b : TPoint) : ptE a b = eqP a b := by
 rw [Bool.eq_iff_iff]
 simp [ptE, eqVs, eqV, eqP]
theorem isSeg_ne {s : TSegment} (h : isSeg s = true) : s.a ≠ s.b := fun e => by
 have := (isSeg_bd h).2.2
 rw [ptE_eqP, e] at this
 simp [eqP] at this
theorem inr_btw (a b p : Int) : inr p (wmin a b) (wmax a b) = btwB a b p := by
 rw [Bool.eq_iff_iff]
 unfold inr wmin wmax btwB
 simp only [Bool.and_eq_true, Bool.or_eq_true, decide_eq_true_eq]
 split <;> split <;> omega
theorem onW_onB {s : TSegment} {p : TPoint} (hs : isSeg s = true) (hp : isp p.x p.y = true) : onW s p = onB s.a s.b p := by
 unfold onW onB
 rw [hs, hp, crW_crs (isSeg_bd hs).1 (isSeg_bd hs).2.1 hp, inr_btw, inr_btw]
 rfl
theorem fwdW_ends (s : TSegment) : (fwdW s).a = lowE s.a s.b ∧ (fwdW s).b = highE s.a s.b := by
 unfold fwdW lowE highE
 split <;> exact ⟨rfl, rfl⟩
theorem hmI_eq {s t : TSegment} (hs : isSeg s = true) (ht : isSeg t = true) : hmI s t = meetI s.a s.b t.a t.b := by
 obtain ⟨h1, h2, h3⟩ := isSeg_bd hs
 obtain ⟨g1, g2, g3⟩ := isSeg_bd ht
 unfold hmI meetI crossB
 rw [hs, ht]
 rw [onW_onB hs g1, onW_onB hs g2, onW_onB ht h1, onW_onB ht h2]
 rw [sdW_sg h1 h2 g1, sdW_sg h1 h2 g2, sdW_sg g1 g2 h1, sdW_sg g1 g2 h2, wmul_sg, wmul_sg]
 rw [(fwdW_ends s).1, (fwdW_ends s).2, (fwdW_ends t).1, (fwdW_ends t).2, ptE_eqP]
 simp only [Bool.not_true, Bool.or_self, Bool.false_eq_true, if_false, Bool.and_eq_true, beq_iff_eq]
def endsL (s t : TSegment) : List TPoint := [s.a, s.b, t.a, t.b]
def endE (s t : TSegment) (i : Nat) : TPoint := (endsL s t).getD i ⟨0, 0⟩
def onE (s t : TSegment) (i : Nat) : Bool := if i < 2 then onW t (endE s t i) else onW s (endE s t i)
def addW (on : Bool) (e : TPoint) (l : List TPoint) : List TPoint := if (on && l.all fun q => !ptE q e) = true then l ++ [e] else l
def shK (s t : TSegment) : Nat → List TPoint
 | 0 => []
 | i + 1 => addW (onE s t i) (endE s t i) (shK s t i)
theorem shK_succ (s t : TSegment) (i : Nat) : shK s t (i + 1) = addW (onE s t i) (endE s t i) (shK s t i) := rfl
theorem shK_len (s t : TSegment) (i : Nat) : (shK s t i).length ≤ i := by
 induction i with
 | zero => simp [shK]
 | succ i ih =>
  rw [shK_succ]
  unfold addW
  split
  · simp; omega
  · omega
def onK (s t : TSegment) (i k : Nat) : Bool := onE s t i && ((shK s t i).take k).all fun q => !ptE q (endE s t i)
theorem onK_zero (s t : TSegment) (i : Nat) : onK s t i 0 = onE s t i := by simp [onK]
theorem onK_succ {s t : TSegment} {i k : Nat} {q : TPoint} (h : (shK s t i)[k]? = some q) : onK s t i (k + 1) = (onK s t i k && !ptE q (endE s t i)) := by
 unfold onK
 rw [take_succ_of h, List.all_append, Bool.and_assoc]
 simp
theorem sh_add {s t : TSegment} {i : Nat} (h : onK s t i (shK s t i).length = true) : (shK s t (i + 1)).map TPoint.en = (shK s t i).map TPoint.en ++ [(endE s t i).en] ∧ (shK s t (i + 1)).length = (shK s t i).length + 1 := by
 unfold onK at h
 rw [List.take_length] at h
 rw [shK_succ, addW, if_pos h]
 simp
theorem sh_not {s t : TSegment} {i : Nat} (h : onK s t i (shK s t i).length = false) : (shK s t (i + 1)).map TPoint.en = (shK s t i).map TPoint.en ∧ (shK s t (i + 1)).length = (shK s t i).length := by
 unfold onK at h
 rw [List.take_length] at h
 rw [shK_succ, addW, if_neg (by rw [h]; simp)]
 simp
theorem end_get {s t : TSegment} {i : Nat} (h : i < 4) : ((endsL s t).map TPoint.en)[((i : Int)).toNat]? = some (endE s t i).en := by
 refine map_get ?_
 rw [endE, List.getD_eq_getElem?_getD, List.getElem?_eq_getElem (show i < (endsL s t).length from h)]
 rfl
theorem fitsM_cons {n : Nat} {b : Blk} {M : Mem} (h : ∀ r ∈ b.es, ∀ y ∈ r, Clo y) (hm : FitsM n M) : FitsM n (some b :: M) := fun b' hb r hr x hx => by
 rcases List.mem_cons.1 hb with e | hb
 · cases e; exact Fits.clo (h r hr x hx)
 · exact hm b' hb r hr x hx
theorem clo_one {l : List AV} (h : ∀ x ∈ l, Clo x) : ∀ r ∈ [l], ∀ x ∈ r, Clo x := fun r hr => by
 rw [List.mem_singleton.1 hr]
 exact h
def apW (s t : TSegment) : Bool := decide (wmax s.a.x s.b.x < wmin t.a.x t.b.x) || decide (wmax t.a.x t.b.x < wmin s.a.x s.b.x) || decide (wmax s.a.y s.b.y < wmin t.a.y t.b.y) || decide (wmax t.a.y t.b.y < wmin s.a.y s.b.y)
def hmS (s t : TSegment) : Int :=
 if (!isSeg s || !isSeg t) = true then 0 else if apW s t = true then 0 else
 if (((shK s t 4).length : Int) == 0) = true then (if (decide (wmul (sdW s.a s.b t.a) (sdW s.a s.b t.b) < 0) && decide (wmul (sdW t.a t.b s.a) (sdW t.a t.b s.b) < 0)) = true then 2 else 0)
 else if (((shK s t 4).length : Int) == 1) = true then 1 else 3
theorem addW_addE (on : Bool) (e : TPoint) (l : List TPoint) : addW on e l = addE on e l := by
 unfold addW addE
 simp only [ptE_eqP]
theorem shK_shrd {s t : TSegment} (hs : isSeg s = true) (ht : isSeg t = true) : shK s t 4 = shrd s.a s.b t.a t.b := by
 obtain ⟨h1, h2, h3⟩ := isSeg_bd hs
 obtain ⟨g1, g2, g3⟩ := isSeg_bd ht
 unfold shrd
 rw [shK_succ, shK_succ, shK_succ, shK_succ]
 simp only [addW_addE, onE, endE, endsL, List.getD_cons_zero, List.getD_cons_succ, shK]
 rw [onW_onB hs g1, onW_onB hs g2, onW_onB ht h1, onW_onB ht h2]
 simp
theorem apW_apart {s t : TSegment} (h : apW s t = true) : apart s.a s.b t.a t.b := by
 unfold apW wmin wmax at h
 simp only [Bool.or_eq_true, decide_eq_true_eq] at h
 unfold apart
 rcases h with ((h | h) | h) | h
 · left; split at h <;> split at h <;> omega
 · right; left; split at h <;> split at h <;> omega
 · right; right; left; split at h <;> split at h <;> omega
 · right; right; right; split at h <;> split at h <;> omega
theorem hmS_eq (s t : TSegment) : hmS s t = hmI s t := by
 cases hs : isSeg s
 · simp [hmS, hmI, hs]
 · cases ht : isSeg t
   · simp [hmS, hmI, ht]
   · rw [hmI_eq hs ht]
     cases ha : apW s t
     · rw [← meet_eq (isSeg_ne hs) (isSeg_ne ht)]
       obtain ⟨h1, h2, h3⟩ := isSeg_bd hs
       obtain ⟨g1, g2, g3⟩ := isSeg_bd ht
       have e0 : ∀ n : Nat, ((n : Int) == 0) = decide (n = 0) := fun n => by rw [Bool.eq_iff_iff]; simp
       have e1 : ∀ n : Nat, ((n : Int) == 1) = decide (n = 1) := fun n => by rw [Bool.eq_iff_iff]; simp; omega
       unfold hmS meetS crossB
       simp only [e0, e1, decide_eq_true_eq]
       rw [hs, ht, ha, shK_shrd hs ht, sdW_sg h1 h2 g1, sdW_sg h1 h2 g2, sdW_sg g1 g2 h1, sdW_sg g1 g2 h2, wmul_sg, wmul_sg]
       rfl
     · rw [meet_eq_boxes (isSeg_ne hs) (isSeg_ne ht) (apW_apart ha)]
       simp [hmS, hs, ht, ha]

def arnd (l : List TPoint) : List TSegment := List.zipWith TSegment.mk l (l.tail ++ l.take 1)
theorem arnd_len (l : List TPoint) : (arnd l).length = l.length := by
 cases l
 · simp [arnd]
 · simp [arnd]
theorem arnd_get {l : List TPoint} {i : Nat} (h : i < l.length) : ∃ a b, l[i]? = some a ∧ l[(i + 1) % l.length]? = some b ∧ (arnd l)[i]? = some ⟨a, b⟩ := by
 refine ⟨l[i], l[(i + 1) % l.length]'(Nat.mod_lt _ (by omega)), List.getElem?_eq_getElem _, List.getElem?_eq_getElem _, ?_⟩
 unfold arnd
 rw [List.getElem?_zipWith]
 by_cases h1 : i + 1 < l.length
 · have e : (i + 1) % l.length = i + 1 := Nat.mod_eq_of_lt h1
   rw [List.getElem?_append_left (by simp; omega), List.getElem?_tail]
   simp [e, List.getElem?_eq_getElem h, List.getElem?_eq_getElem h1]
 · have e : (i + 1) % l.length = 0 := by rw [show i + 1 = l.length by omega, Nat.mod_self]
   rw [List.getElem?_append_right (by simp; omega)]
   have e2 : i - l.tail.length = 0 := by simp; omega
   rw [e2]
   simp [e, List.getElem?_eq_getElem h, List.getElem?_take, List.getElem?_eq_getElem (show 0 < l.length by omega)]
def wantN (n i k : Nat) : Int := if k + 1 = i ∨ (k = 0 ∧ i + 1 = n) then 1 else 0
theorem arnd_ix {l : List TPoint} {i : Nat} (h : i < l.length) (hl : l.length ≤ 1048576) : (IntKind.i64.wrap ((i : Int) + 1)).tmod ((l.map TPoint.en).length : Int) = (((i + 1) % l.length : Nat) : Int) := by
 rw [w64 (by omega) (by omega), List.length_map, show (i : Int) + 1 = ((i + 1 : Nat) : Int) by omega]
 exact (Int.ofNat_tmod _ _).symm
theorem want_s {n i k : Nat} (hi : i < n) (hk : k < i) (hn : n ≤ 1048576) :
 ((IntKind.i64.wrap ((k : Int) + 1) == (i : Int)) = true ∧ wantN n i k = 1) ∨
 ((IntKind.i64.wrap ((k : Int) + 1) == (i : Int)) = false ∧ ((k : Int) == 0) = false ∧ wantN n i k = 0) ∨
 ((IntKind.i64.wrap ((k : Int) + 1) == (i : Int)) = false ∧ ((k : Int) == 0) = true ∧ (IntKind.i64.wrap ((i : Int) + 1) == (n : Int)) = true ∧ wantN n i k = 1) ∨
 ((IntKind.i64.wrap ((k : Int) + 1) == (i : Int)) = false ∧ ((k : Int) == 0) = true ∧ (IntKind.i64.wrap ((i : Int) + 1) == (n : Int)) = false ∧ wantN n i k = 0) := by
 rw [w64 (n := (k : Int) + 1) (by omega) (by omega), w64 (n := (i : Int) + 1) (by omega) (by omega)]
 unfold wantN
 simp only [beq_iff_eq, beq_eq_false_iff_ne, ne_eq]
 by_cases q1 : k + 1 = i
 · exact .inl ⟨by omega, by simp [q1]⟩
 · by_cases q2 : k = 0
   · by_cases q3 : i + 1 = n
     · exact .inr (.inr (.inl ⟨by omega, by omega, by omega, by simp [q2, q3]⟩))
     · exact .inr (.inr (.inr ⟨by omega, by omega, by omega, by simp [q1, q2, q3] <;> omega⟩))
   · exact .inr (.inl ⟨by omega, by omega, by simp [q1, q2]⟩)
theorem want_i {n i k : Nat} (hi : i < n) (hk : k < i) (hn : n ≤ 1048576) :
 (((k : Int) == IntKind.i64.wrap ((i : Int) - 1)) = true ∧ wantN n i k = 1) ∨
 (((k : Int) == IntKind.i64.wrap ((i : Int) - 1)) = false ∧ ((k : Int) == 0) = false ∧ wantN n i k = 0) ∨
 (((k : Int) == IntKind.i64.wrap ((i : Int) - 1)) = false ∧ ((k : Int) == 0) = true ∧ ((i : Int) == IntKind.i64.wrap ((n : Int) - 1)) = true ∧ wantN n i k = 1) ∨
 (((k : Int) == IntKind.i64.wrap ((i : Int) - 1)) = false ∧ ((k : Int) == 0) = true ∧ ((i : Int) == IntKind.i64.wrap ((n : Int) - 1)) = false ∧ wantN n i k = 0) := by
 have e1 : ((k : Int) == IntKind.i64.wrap ((i : Int) - 1)) = (IntKind.i64.wrap ((k : Int) + 1) == (i : Int)) := by
  rw [w64 (n := (k : Int) + 1) (by omega) (by omega), w64 (n := (i : Int) - 1) (by omega) (by omega), Bool.eq_iff_iff]
  simp only [beq_iff_eq]
  omega
 have e2 : ((i : Int) == IntKind.i64.wrap ((n : Int) - 1)) = (IntKind.i64.wrap ((i : Int) + 1) == (n : Int)) := by
  rw [w64 (n := (i : Int) + 1) (by omega) (by omega), w64 (n := (n : Int) - 1) (by omega) (by omega), Bool.eq_iff_iff]
  simp only [beq_iff_eq]
  omega
 rw [e1, e2]
 exact want_s hi hk hn
def sAt (l : List TPoint) (i : Nat) : TSegment := (arnd l).getD i ⟨⟨0, 0⟩, ⟨0, 0⟩⟩
theorem sAt_of {l : List TPoint} {i : Nat} {x : TSegment} (h : (arnd l)[i]? = some x) : sAt l i = x := by simp [sAt, List.getD_eq_getElem?_getD, h]
def rgIn (l : List TPoint) (i n : Nat) : Bool := (List.range n).all fun k => hmI (sAt l i) (sAt l k) == wantN l.length i k
def rgAt (l : List TPoint) (i : Nat) : Bool := isSeg (sAt l i) && rgIn l i i
def rgOk (l : List TPoint) (n : Nat) : Bool := (List.range n).all (rgAt l)
theorem rgIn_succ (l : List TPoint) (i k : Nat) : rgIn l i (k + 1) = (rgIn l i k && (hmI (sAt l i) (sAt l k) == wantN l.length i k)) := by simp [rgIn, List.range_succ]
theorem rgOk_succ (l : List TPoint) (i : Nat) : rgOk l (i + 1) = (rgOk l i && rgAt l i) := by simp [rgOk, List.range_succ]
theorem rgIn_not {l : List TPoint} {i k n : Nat} (h : (hmI (sAt l i) (sAt l k) == wantN l.length i k) = false) (hk : k < n) : rgIn l i n = false := by
 simp only [rgIn, List.all_eq_false, List.mem_range]
 exact ⟨k, hk, by simp [h]⟩
theorem rgOk_not {l : List TPoint} {i n : Nat} (h : rgAt l i = false) (hi : i < n) : rgOk l n = false := by
 simp only [rgOk, List.all_eq_false, List.mem_range]
 exact ⟨i, hi, by simp [h]⟩
def isRing (l : List TPoint) : Bool := inr l.length 3 10 && rgOk l l.length
theorem isRing_len {l : List TPoint} (h : isRing l = true) : 3 ≤ l.length ∧ l.length ≤ 10 := by
 simp only [isRing, inr, Bool.and_eq_true, decide_eq_true_eq] at h
 omega
def ringSegs (l : List TPoint) : List TSegment := if isRing l then arnd l else []
theorem ringSegs_t {l : List TPoint} (h : isRing l = true) : ringSegs l = arnd l := by simp [ringSegs, h]
theorem ringSegs_f {l : List TPoint} (h : isRing l = false) : ringSegs l = [] := by simp [ringSegs, h]
theorem ringSegs_le (l : List TPoint) : (ringSegs l).length ≤ 10 := by
 unfold ringSegs
 split
 · have := isRing_len (by assumption); rw [arnd_len]; omega
 · simp
abbrev twS (n : Int) (s : TSegment) : Int := wsub (wadd n (wmul s.a.x s.b.y)) (wmul s.a.y s.b.x)
abbrev twI (n : Int) (s : TSegment) : Int := wadd n (wsub (wmul s.a.x s.b.y) (wmul s.a.y s.b.x))
theorem tw_eq (n : Int) (s : TSegment) : twI n s = twS n s := by
 unfold twI twS wadd wsub
 generalize wmul s.a.x s.b.y = p
 generalize wmul s.a.y s.b.x = q
 unfold IntKind.wrap
 simp [IntKind.bits, IntKind.signed]
 repeat' split
 all_goals omega
theorem tw_fun : twI = twS := by
 funext n s
 exact tw_eq n s
def twice (l : List TPoint) : Int := (ringSegs l).foldl twS 0
theorem arnd_s (l : List TPoint) (hl : l.length ≤ 1048576) : VCalls Tryz.prog 239 [.ro 2 (l.map TPoint.en)] (fun r M => r = .ro 4 ((arnd l).map TSegment.en) ∧ M = []) := by
 refine VB Tryz.func239 28 (fun E hE => ?_)
 have hclo : Clo (.ro 2 (l.map TPoint.en)) := clo_list TPoint.clo_en
 have hclA : Clo (.ro 4 ((arnd l).map TSegment.en)) := clo_list TSegment.clo_en
 have hal := arnd_len l
 repeat' ((first
  | (refine iAL ?_; first | refine AL.any ?_ | refine AL.nil ?_)
  | ((with_reducible show DLM ..); first | refine DLM.any ?_ | refine DLM.mk ?_ | refine DLM.nil ?_)
  | (refine iAW ?_; first | (refine AW.freezeRet (t := 2) (id := 0) rfl rfl rfl rfl (clo_rows TSegment.clo_en) ?_; (try simp only [List.take_length]); try dsimp only [dput, List.set, cond_true, cond_false, Nat.zero_add, Nat.add_zero, Nat.reduceAdd, splice, List.take, List.drop, List.length, List.nil_append, List.cons_append, List.append, TPoint.en, TSegment.en, TBox.en, TFeature.en, TMeet.en, TPlace.en, TCover.en, TLabel.en, TPiece.en, TLevel.en, TChart.en, TReason.en, TEdit.en, TEntry.en, TEdition.en, TListing.en, TAtlas.en, TEvent.en, TWindow.en]) | (refine AW.c0 ?_; constructor) | refine AW.drM (id := 5) 15 14 ?_ | refine AW.cT ?_ | refine AW.cF ?_)
  | (
 refine AW.loopD hE (fun i : Nat => [.ro 2 (l.map TPoint.en), .any, .any, .own 0 i, I (i : Int), .any, .any, .any, .any, .any, .any, .any, .any, .any, .any, .any, .any, .any, .any, .any, .any, .any, .any, .any, .any, .any, .any, .any, .any]) (fun i => [some ⟨200, 4, i, false, ((arnd l).take i).map TSegment.en⟩]) (fun i => (arnd l).length - i) (fun i => i ≤ (arnd l).length) 0 (Nat.zero_le _) ?_ (by first | rfl | (simp [fil_zero]; done)) ?_
 (focus (exact wkI))
 intro i hi
 by_cases hlt : i < (arnd l).length
 case' pos =>
  have hP := True.intro
  obtain ⟨a, b, ha, hb, hs⟩ := arnd_get (l := l) (i := i) (by omega)
  have ht : decide ((i : Int) < ((l.map TPoint.en).length : Int)) = true := by simp; omega
  have hn := next_ix hlt (by omega)
  have hix := arnd_ix (l := l) (i := i) (by omega) hl
  have hz : ((l.map TPoint.en).length : Int) ≠ 0 := by rw [List.length_map]; omega
  have h0 : 0 ≤ (IntKind.i64.wrap ((i : Int) + 1)).tmod ((l.map TPoint.en).length : Int) := by rw [hix]; omega
  have hga := map_get (f := TPoint.en) ha
  have hgb : (l.map TPoint.en)[((IntKind.i64.wrap ((i : Int) + 1)).tmod ((l.map TPoint.en).length : Int)).toNat]? = some b.en := by rw [hix]; exact map_get hb
  have hm := map_take_succ (f := TSegment.en) hs
 case' neg =>
  have hQ := True.intro
  have e : i = (arnd l).length := by omega
  have ht : decide ((i : Int) < ((l.map TPoint.en).length : Int)) = false := by simp; omega
  subst e)) <;> (try dsimp only))
 all_goals first
  | (have _ := hP; (refine ⟨i + 1, _, hlt, by omega, ?_, by rw [hm] <;> rfl, ?_, ?_⟩; (focus (exact wkN)); (focus (exact fitsA)); (focus (exact fits_row (clo_rows TSegment.clo_en)))))
  | (have _ := hQ; exact Fin.one rfl (RV.tmp (by rfl)) (clo_list TSegment.clo_en) ⟨rfl, rfl⟩)

theorem arnd_i (l : List TPoint) (hl : l.length ≤ 1048576) : VCalls Tryz.prog 248 [.ro 2 (l.map TPoint.en)] (fun r M => r = .ro 4 ((arnd l).map TSegment.en) ∧ M = []) := by
 refine VB Tryz.func248 28 (fun E hE => ?_)
 have hclo : Clo (.ro 2 (l.map TPoint.en)) := clo_list TPoint.clo_en
 have hclA : Clo (.ro 4 ((arnd l).map TSegment.en)) := clo_list TSegment.clo_en
 have hal := arnd_len l
 repeat' ((first
  | (refine iAL ?_; first | refine AL.any ?_ | refine AL.nil ?_)
  | ((with_reducible show DLM ..); first | refine DLM.any ?_ | refine DLM.mk ?_ | refine DLM.nil ?_)
  | (refine iAW ?_; first | (refine AW.freezeRet (t := 2) (id := 0) rfl rfl rfl rfl (clo_rows TSegment.clo_en) ?_; (try simp only [List.take_length]); try dsimp only [dput, List.set, cond_true, cond_false, Nat.zero_add, Nat.add_zero, Nat.reduceAdd, splice, List.take, List.drop, List.length, List.nil_append, List.cons_append, List.append, TPoint.en, TSegment.en, TBox.en, TFeature.en, TMeet.en, TPlace.en, TCover.en, TLabel.en, TPiece.en, TLevel.en, TChart.en, TReason.en, TEdit.en, TEntry.en, TEdition.en, TListing.en, TAtlas.en, TEvent.en, TWindow.en]) | (refine AW.c0 ?_; constructor) | refine AW.drM (id := 5) 12 11 ?_ | refine AW.cT ?_ | refine AW.cF ?_)
  | (
 refine AW.loopD hE (fun i : Nat => [.ro 2 (l.map TPoint.en), .any, .any, .own 0 i, .any, .any, .any, .ro 2 (l.map TPoint.en), I (l.map TPoint.en).length, I (i : Int), .any, .any, .any, .any, .any, .any, .any, .any, .any, .any, .any, .any, .any, .any, .any, .any, .any, .any, .any]) (fun i => [some ⟨200, 4, i, false, ((arnd l).take i).map TSegment.en⟩]) (fun i => (arnd l).length - i) (fun i => i ≤ (arnd l).length) 0 (Nat.zero_le _) ?_ (by first | rfl | (simp [fil_zero]; done)) ?_
 (focus (exact wkI))
 intro i hi
 by_cases hlt : i < (arnd l).length
 case' pos =>
  have hP := True.intro
  obtain ⟨a, b, ha, hb, hs⟩ := arnd_get (l := l) (i := i) (by omega)
  have ht : decide ((i : Int) < ((l.map TPoint.en).length : Int)) = true := by simp; omega
  have hn := next_ix hlt (by omega)
  have hix := arnd_ix (l := l) (i := i) (by omega) hl
  have hz : ((l.map TPoint.en).length : Int) ≠ 0 := by rw [List.length_map]; omega
  have h0 : 0 ≤ (IntKind.i64.wrap ((i : Int) + 1)).tmod ((l.map TPoint.en).length : Int) := by rw [hix]; omega
  have hga := map_get (f := TPoint.en) ha
  have hgb : (l.map TPoint.en)[((IntKind.i64.wrap ((i : Int) + 1)).tmod ((l.map TPoint.en).length : Int)).toNat]? = some b.en := by rw [hix]; exact map_get hb
  have hm := map_take_succ (f := TSegment.en) hs
 case' neg =>
  have hQ := True.intro
  have e : i = (arnd l).length := by omega
  have ht : decide ((i : Int) < ((l.map TPoint.en).length : Int)) = false := by simp; omega
  subst e)) <;> (try dsimp only))
 all_goals first
  | (have _ := hP; (refine ⟨i + 1, _, hlt, by omega, ?_, by rw [hm] <;> rfl, ?_, ?_⟩; (focus (exact wkN)); (focus (exact fitsA)); (focus (exact fits_row (clo_rows TSegment.clo_en)))))
  | (have _ := hQ; exact Fin.one rfl (RV.tmp (by rfl)) (clo_list TSegment.clo_en) ⟨rfl, rfl⟩)

theorem meet_i (s t : TSegment) : VCalls Tryz.prog 247 [.agg s.en, .agg t.en] (fun r M => r = I (hmI s t) ∧ M = []) := by
 refine VB Tryz.func247 107 (fun E hE => ?_)
 dsimp only [TPoint.en, TSegment.en]
 repeat' ((first
  | (refine iAL ?_; first | refine AL.any ?_ | refine AL.any (h := POp.k Tryz.func249 (hc := by first | exact isSeg_i s | exact isSeg_i t)) ?_ | refine AL.any (h := POp.k Tryz.func254 (hc := by first | exact side_i s.a s.b t.a | exact side_i s.a s.b t.b | exact side_i t.a t.b s.a | exact side_i t.a t.b s.b)) ?_ | refine AL.any (h := POp.k Tryz.func295 (hc := by first | exact fwd_i s | exact fwd_i t)) ?_ | refine AL.any (h := POp.k Tryz.func296 (hc := by first | exact bef_i (fwdW s).a (fwdW t).a | exact bef_i (fwdW t).b (fwdW s).b | exact bef_i (fwdW s).b (fwdW s).a | exact bef_i (fwdW s).b (fwdW t).a | exact bef_i (fwdW t).b (fwdW s).a | exact bef_i (fwdW t).b (fwdW t).a)) ?_ | refine AL.any (h := POp.k Tryz.func297 (hc := by first | exact isOn_i s t.a | exact isOn_i s t.b | exact isOn_i t s.a | exact isOn_i t s.b)) ?_ | refine AL.W ?_ | refine AL.W (h := fun h => by (try rw [h]); exact POp.k Tryz.func249 (hc := by first | exact isSeg_i s | exact isSeg_i t)) ?_ | refine AL.W (h := fun h => by (try rw [h]); exact POp.k Tryz.func254 (hc := by first | exact side_i s.a s.b t.a | exact side_i s.a s.b t.b | exact side_i t.a t.b s.a | exact side_i t.a t.b s.b)) ?_ | refine AL.W (h := fun h => by (try rw [h]); exact POp.k Tryz.func297 (hc := by first | exact isOn_i s t.a | exact isOn_i s t.b | exact isOn_i t s.a | exact isOn_i t s.b)) ?_ | refine AL.nil ?_)
  | ((with_reducible show DL ..); first | refine DL.any ?_ | refine DL.any (h := POp.k Tryz.func254 (hc := by first | exact side_i s.a s.b t.a | exact side_i s.a s.b t.b | exact side_i t.a t.b s.a | exact side_i t.a t.b s.b)) ?_ | refine DL.any (h := POp.k Tryz.func295 (hc := by first | exact fwd_i s | exact fwd_i t)) ?_ | refine DL.W ?_ | refine DL.W (h := fun h => by (try rw [h]); exact POp.k Tryz.func254 (hc := by first | exact side_i s.a s.b t.a | exact side_i s.a s.b t.b | exact side_i t.a t.b s.a | exact side_i t.a t.b s.b)) ?_ | refine DL.nil ?_)
  | ((with_reducible show DLR ..); first | refine DLR.any ?_ | refine DLR.alloc rfl rfl (by first | exact ze2 | exact ze3 | exact ze4 | exact ze5 | exact ze6 | exact ze7 | exact ze8 | exact ze9 | exact ze10 | exact ze11 | exact ze12 | exact ze14 | exact ze17 | exact ze19 | exact ze21 | exact ze22 | exact ze23 | exact ze24 | exact ze26 | exact ze28 | exact ze31 | exact ze32 | exact ze33 | exact ze34 | exact ze35 | exact ze40 | exact ze41 | exact ze42 | exact ze45 | exact ze47 | exact ze56 | exact ze63 | exact ze64 | exact ze65 | exact ze79 | exact ze81 | exact ze83 | exact ze87 | exact ze98 | exact ze99 | exact ze100 | exact ze132 | exact ze135 | exact ze141 | exact ze151 | exact ze174 | exact ze200) rfl rfl ?_ | refine DLR.store rfl rfl (by rfl) rfl rfl rfl rfl rfl (by rfl) (by rfl) (TT_ok.ld _ _ (by rfl)) (by rfl) (by rfl) rfl ?_ | refine DLR.nil ?_)
  | (refine iAW ?_; first | (refine AW.c0 ?_; constructor) | refine AW.dr (id := 3) 13 ?_ | refine AW.dr (id := 5) 3 ?_ | refine AW.drawnR (id := 6) 7 2 [none, none, none, none, some 0, some 1, some 0] [some Rsv, some Rsv] rfl (by kernel_rfl) (by kernel_rfl) (by kernel_rfl) (by rfl) ?_ | refine AW.dr (id := 16) 18 ?_ | (refine AW.c2 ?_ ?_ <;> (intro h; try simp only [bT, bF] at h)))) <;> (try dsimp only))
 all_goals exact Fin.one rfl (RV.tmp (by rfl)) (clo_c _) ⟨by first | (simp only [hmI]; simp_all; done) | (unfold hmI wmul; simp only [*, Bool.false_eq_true, if_false, if_true]; done), rfl⟩

theorem shared_s (s t : TSegment) : VCalls Tryz.prog 287 [.agg s.en, .agg t.en] (fun r M => r = I ((shK s t 4).length) ∧ M = []) := by
 refine VB Tryz.func287 72 (fun E hE => ?_)
 repeat' ((first
  | (refine iAL ?_; first | refine AL.any ?_ | refine AL.nil ?_)
  | (refine iAW ?_; first | (refine AW.c0 ?_; constructor) | (refine AW.loopD hE (fun i : Nat => (.any :: .any :: .ref 0 0 4 0 0 :: .ref 1 0 4 0 0 :: .any :: .own 2 (shK s t i).length :: .own 3 0 :: I (i : Int) :: .any :: .any :: .any :: .any :: .any :: .any :: .any :: .any :: .any :: .any :: .any :: .any :: .any :: .any :: .any :: .any :: .any :: .any :: .any :: .any :: .any :: .any :: .any :: .any :: .any :: .any :: .any :: .any :: .any :: .any :: .any :: .any :: .any :: .any :: .any :: .any :: .any :: .any :: .any :: .any :: .any :: .any :: .any :: .any :: .any :: .any :: .any :: .any :: .any :: .any :: .any :: .any :: .any :: .any :: .any :: .any :: .any :: .any :: .any :: .any :: .any :: .any :: .any :: .any :: .any :: .any :: [])) (fun i => [some ⟨200, 4, 0, true, [s.en]⟩, some ⟨200, 4, 0, true, [t.en]⟩, some ⟨141, 2, (shK s t i).length, false, (shK s t i).map TPoint.en⟩, some ⟨141, 2, 0, false, (endsL s t).map TPoint.en⟩]) (fun i => 4 - i) (fun i => i ≤ 4) 0 (Nat.zero_le _) ?_ (by first | rfl | (simp; done)) ?_))) <;> (try dsimp only))
 · (refine wkj ?_; repeat' with_reducible constructor) <;> first | rfl | (simp; done)
 · intro i hv_i
   by_cases hlt_i : i < 4
   · skip
     have hti : decide ((i : Int) < 4) = true := by simp; omega
     have hni : IntKind.i64.wrap ((i : Int) + 1) = ((i + 1 : Nat) : Int) := by rw [w64 (by omega) (by omega)]; omega
     have hge := end_get (s := s) (t := t) hlt_i
     have hix : ((i : Int)).toNat < ((endsL s t).map TPoint.en).length := by simp [endsL]; omega
     have hln := shK_len s t i
     have hz := onK_zero s t i
     have hm1 := sh_add (s := s) (t := t) (i := i)
     have hm0 := sh_not (s := s) (t := t) (i := i)
     have hc2 : (decide ((i : Int) < 2) = true ∧ decide ((i : Int) ≥ 2) = false ∧ onE s t i = onW t (endE s t i)) ∨ (decide ((i : Int) < 2) = false ∧ decide ((i : Int) ≥ 2) = true ∧ onE s t i = onW s (endE s t i)) := by
      rcases Nat.lt_or_ge i 2 with h2 | h2
      · exact .inl ⟨by simp; omega, by simp; omega, by simp [onE, h2]⟩
      · exact .inr ⟨by simp; omega, by simp; omega, by simp [onE]; omega⟩
     rcases hc2 with ⟨hA, hB, hon⟩ | ⟨hA, hB, hon⟩
     cases hw : onW t (endE s t i)
     all_goals
      repeat' ((first
       | (refine iAL ?_; first | refine AL.any ?_ | refine AL.U ?_ | refine AL.F ?_ | refine AL.T ?_ | refine AL.T (h := POp.k Tryz.func320 (hc := by first | exact isOn_s s (endE s t i) | exact isOn_s t (endE s t i))) ?_ | refine AL.W ?_ | refine AL.W (h := fun h => by (try rw [h]); exact POp.k Tryz.func320 (hc := by first | exact isOn_s s (endE s t i) | exact isOn_s t (endE s t i))) ?_ | refine AL.nil ?_)
       | ((with_reducible show DL ..); first | refine DL.any ?_ | refine DL.U ?_ | refine DL.F ?_ | refine DL.T ?_ | refine DL.T (h := POp.k Tryz.func320 (hc := by first | exact isOn_s s (endE s t i) | exact isOn_s t (endE s t i))) ?_ | refine DL.W ?_ | refine DL.W (h := fun h => by (try rw [h]); exact POp.k Tryz.func320 (hc := by first | exact isOn_s s (endE s t i) | exact isOn_s t (endE s t i))) ?_ | refine DL.nil ?_)
       | (refine iAW ?_; first | (refine AW.c0 ?_; constructor) | (refine AW.loopD hE (fun k : Nat => (.any :: .any :: .ref 0 0 4 0 0 :: .ref 1 0 4 0 0 :: .any :: .own 2 (shK s t i).length :: .own 3 0 :: I (i : Int) :: B (onK s t i k) :: I (k : Int) :: .any :: .any :: .any :: .any :: .any :: .any :: .any :: .any :: .any :: .any :: .any :: .any :: .any :: .any :: .any :: .any :: .any :: .any :: .any :: .any :: .any :: .any :: .any :: .any :: .any :: .any :: .any :: .any :: .any :: .any :: .any :: .any :: .any :: .any :: .any :: .any :: .any :: .any :: .any :: .any :: .any :: .any :: .any :: .any :: .any :: .any :: .any :: .any :: .any :: .any :: .any :: .any :: .any :: .any :: .any :: .any :: .any :: .any :: .any :: .any :: .any :: .any :: .any :: .any :: [])) (fun k => [some ⟨200, 4, 0, true, [s.en]⟩, some ⟨200, 4, 0, true, [t.en]⟩, some ⟨141, 2, (shK s t i).length, false, (shK s t i).map TPoint.en⟩, some ⟨141, 2, 0, false, (endsL s t).map TPoint.en⟩]) (fun k => (shK s t i).length - k) (fun k => k ≤ (shK s t i).length) 0 (Nat.zero_le _) ?_ (by first | rfl | (simp; done)) ?_) | refine AW.dr (id := 6) 19 ?_ | refine AW.dr (id := 10) 10 ?_ | refine AW.cT ?_ | refine AW.cF ?_ | (refine AW.c2 ?_ ?_ <;> (intro h; try simp only [bT, bF] at h)))
       | with_reducible refine ifP ?_
       | with_reducible refine ifN ?_) <;> (try dsimp only))
      · (refine wkj ?_; repeat' with_reducible constructor) <;> first | rfl | (simp_all)
      · intro k hv_k
        by_cases hlt_k : k < (shK s t i).length
        · skip
          obtain ⟨q, hq⟩ : ∃ q, (shK s t i)[k]? = some q := ⟨_, List.getElem?_eq_getElem hlt_k⟩
          have hgk := map_get (f := TPoint.en) hq
          have htk := lt_true (f := TPoint.en) hlt_k
          have hnk := next_ix hlt_k (by omega)
          have hkx : ((k : Int)).toNat < ((shK s t i).map TPoint.en).length := by simp; omega
          have hks := onK_succ hq
          repeat' ((first
           | (refine iAL ?_; first | refine AL.any ?_ | refine AL.U ?_ | refine AL.F ?_ | refine AL.T ?_ | refine AL.T (h := POp.k Tryz.func320 (hc := by first | exact isOn_s s (endE s t i) | exact isOn_s t (endE s t i))) ?_ | refine AL.W ?_ | refine AL.W (h := fun h => by (try rw [h]); exact POp.k Tryz.func320 (hc := by first | exact isOn_s s (endE s t i) | exact isOn_s t (endE s t i))) ?_ | refine AL.nil ?_)
           | ((with_reducible show DL ..); first | refine DL.any ?_ | refine DL.U ?_ | refine DL.F ?_ | refine DL.T ?_ | refine DL.T (h := POp.k Tryz.func320 (hc := by first | exact isOn_s s (endE s t i) | exact isOn_s t (endE s t i))) ?_ | refine DL.W ?_ | refine DL.W (h := fun h => by (try rw [h]); exact POp.k Tryz.func320 (hc := by first | exact isOn_s s (endE s t i) | exact isOn_s t (endE s t i))) ?_ | refine DL.nil ?_)
           | (refine iAW ?_; first | (refine AW.c0 ?_; constructor) | refine AW.dr (id := 6) 19 ?_ | refine AW.dr (id := 10) 10 ?_ | refine AW.cT ?_ | refine AW.cF ?_ | (refine AW.c2 ?_ ?_ <;> (intro h; try simp only [bT, bF] at h)))
           | with_reducible refine ifP ?_
           | with_reducible refine ifN ?_) <;> (try dsimp only))
          all_goals first
           | (refine ⟨k + 1, _, hlt_k, by omega, ?_, rfl, ?_, ?_⟩; (focus ((refine wkj ?_; repeat' with_reducible constructor) <;> (simp_all))); (focus (exact fitsA)); (focus (exact fitsM_cons (clo_one s.clo_en) (fitsM_cons (clo_one t.clo_en) (fitsM_cons (clo_rows TPoint.clo_en) (fitsM_cons (clo_rows TPoint.clo_en) (FitsM.nil _)))))))
        · have e_k : k = (shK s t i).length := by omega
          have htk := lt_false (f := TPoint.en) (show ¬ k < (shK s t i).length by omega)
          subst e_k
          repeat' ((first
           | (refine iAL ?_; first | refine AL.any ?_ | refine AL.U ?_ | refine AL.F ?_ | refine AL.T ?_ | refine AL.T (h := POp.k Tryz.func320 (hc := by first | exact isOn_s s (endE s t i) | exact isOn_s t (endE s t i))) ?_ | refine AL.W ?_ | refine AL.W (h := fun h => by (try rw [h]); exact POp.k Tryz.func320 (hc := by first | exact isOn_s s (endE s t i) | exact isOn_s t (endE s t i))) ?_ | refine AL.nil ?_)
           | ((with_reducible show DL ..); first | refine DL.any ?_ | refine DL.U ?_ | refine DL.F ?_ | refine DL.T ?_ | refine DL.T (h := POp.k Tryz.func320 (hc := by first | exact isOn_s s (endE s t i) | exact isOn_s t (endE s t i))) ?_ | refine DL.W ?_ | refine DL.W (h := fun h => by (try rw [h]); exact POp.k Tryz.func320 (hc := by first | exact isOn_s s (endE s t i) | exact isOn_s t (endE s t i))) ?_ | refine DL.nil ?_)
           | (refine iAW ?_; first | (refine AW.c0 ?_; constructor) | refine AW.dr (id := 6) 19 ?_ | refine AW.dr (id := 10) 10 ?_ | refine AW.cT ?_ | refine AW.cF ?_ | (refine AW.c2 ?_ ?_ <;> (intro h; try simp only [bT, bF] at h)))
           | with_reducible refine ifP ?_
           | with_reducible refine ifN ?_) <;> (try dsimp only))
          all_goals first
           | (refine ⟨i + 1, _, hlt_i, by omega, ?_, by rw [(hm1 (by assumption)).1, (hm1 (by assumption)).2] <;> rfl, ?_, ?_⟩; (focus ((refine wkj ?_; repeat' with_reducible constructor) <;> (simp_all))); (focus (exact fitsA)); (focus (exact fitsM_cons (clo_one s.clo_en) (fitsM_cons (clo_one t.clo_en) (fitsM_cons (clo_rows TPoint.clo_en) (fitsM_cons (clo_rows TPoint.clo_en) (FitsM.nil _)))))))
           | (refine ⟨i + 1, _, hlt_i, by omega, ?_, by rw [(hm0 (by assumption)).1, (hm0 (by assumption)).2] <;> rfl, ?_, ?_⟩; (focus ((refine wkj ?_; repeat' with_reducible constructor) <;> (simp_all))); (focus (exact fitsA)); (focus (exact fitsM_cons (clo_one s.clo_en) (fitsM_cons (clo_one t.clo_en) (fitsM_cons (clo_rows TPoint.clo_en) (fitsM_cons (clo_rows TPoint.clo_en) (FitsM.nil _)))))))
   · have e_i : i = 4 := by omega
     have hti : decide ((i : Int) < 4) = false := by simp; omega
     subst e_i
     repeat' ((first
      | (refine iAL ?_; first | refine AL.any ?_ | refine AL.U ?_ | refine AL.F ?_ | refine AL.T ?_ | refine AL.T (h := POp.k Tryz.func320 (hc := by first | exact isOn_s s (endE s t i) | exact isOn_s t (endE s t i))) ?_ | refine AL.W ?_ | refine AL.W (h := fun h => by (try rw [h]); exact POp.k Tryz.func320 (hc := by first | exact isOn_s s (endE s t i) | exact isOn_s t (endE s t i))) ?_ | refine AL.nil ?_)
      | ((with_reducible show DL ..); first | refine DL.any ?_ | refine DL.U ?_ | refine DL.F ?_ | refine DL.T ?_ | refine DL.T (h := POp.k Tryz.func320 (hc := by first | exact isOn_s s (endE s t i) | exact isOn_s t (endE s t i))) ?_ | refine DL.W ?_ | refine DL.W (h := fun h => by (try rw [h]); exact POp.k Tryz.func320 (hc := by first | exact isOn_s s (endE s t i) | exact isOn_s t (endE s t i))) ?_ | refine DL.nil ?_)
      | (refine iAW ?_; first | (refine AW.c0 ?_; constructor) | refine AW.dr (id := 6) 19 ?_ | refine AW.dr (id := 10) 10 ?_ | refine AW.cT ?_ | refine AW.cF ?_ | (refine AW.c2 ?_ ?_ <;> (intro h; try simp only [bT, bF] at h)))
      | with_reducible refine ifP ?_
      | with_reducible refine ifN ?_) <;> (try dsimp only))
     all_goals first
      | exact Fin.one rfl (RV.tmp (by rfl)) (clo_c _) ⟨by first | rfl | (simp_all; done), rfl⟩

theorem meet_s0 (s t : TSegment) : VCalls Tryz.prog 223 [.agg s.en, .agg t.en] (fun r M => r = I (hmS s t) ∧ M = []) := by
 refine VB Tryz.func223 118 (fun E hE => ?_)
 dsimp only [TPoint.en, TSegment.en]
 repeat' ((first
  | (refine iAL ?_; first | refine AL.any ?_ | refine AL.any (h := POp.k Tryz.func240 (hc := by first | exact isSeg_s s | exact isSeg_s t)) ?_ | refine AL.any (h := POp.k Tryz.func287 (hc := shared_s s t)) ?_ | refine AL.W ?_ | refine AL.W (h := fun h => by (try rw [h]); exact POp.k Tryz.func175 (hc := min_s _ _)) ?_ | refine AL.W (h := fun h => by (try rw [h]); exact POp.k Tryz.func240 (hc := by first | exact isSeg_s s | exact isSeg_s t)) ?_ | refine AL.W (h := fun h => by (try rw [h]); exact POp.k Tryz.func244 (hc := by first | exact side_s s.a s.b t.a | exact side_s s.a s.b t.b | exact side_s t.a t.b s.a | exact side_s t.a t.b s.b)) ?_ | refine AL.nil ?_)
  | ((with_reducible show DL ..); first | refine DL.any ?_ | refine DL.any (h := POp.k Tryz.func175 (hc := min_s _ _)) ?_ | refine DL.any (h := POp.k Tryz.func222 (hc := max_s _ _)) ?_ | refine DL.any (h := POp.k Tryz.func244 (hc := by first | exact side_s s.a s.b t.a | exact side_s s.a s.b t.b | exact side_s t.a t.b s.a | exact side_s t.a t.b s.b)) ?_ | refine DL.W ?_ | refine DL.W (h := fun h => by (try rw [h]); exact POp.k Tryz.func175 (hc := min_s _ _)) ?_ | refine DL.W (h := fun h => by (try rw [h]); exact POp.k Tryz.func222 (hc := max_s _ _)) ?_ | refine DL.W (h := fun h => by (try rw [h]); exact POp.k Tryz.func244 (hc := by first | exact side_s s.a s.b t.a | exact side_s s.a s.b t.b | exact side_s t.a t.b s.a | exact side_s t.a t.b s.b)) ?_ | refine DL.nil ?_)
  | (refine iAW ?_; first | (refine AW.c0 ?_; constructor) | refine AW.dr (id := 3) 63 ?_ | refine AW.dr (id := 7) 30 ?_ | (refine AW.c2 ?_ ?_ <;> (intro h; try simp only [bT, bF] at h)))) <;> (try dsimp only))
 all_goals exact Fin.one rfl (RV.tmp (by rfl)) (clo_c _) ⟨by first | (simp only [hmS, apW]; simp_all; done) | (unfold hmS apW wmul; simp only [*, Bool.false_eq_true, if_false, if_true]; done), rfl⟩

theorem meet_s (s t : TSegment) : VCalls Tryz.prog 223 [.agg s.en, .agg t.en] (fun r M => r = I (hmI s t) ∧ M = []) := hmS_eq s t ▸ meet_s0 s t
theorem isRing_s (l : List TPoint) (hl : l.length ≤ 1048576) : VCalls Tryz.prog 172 [.ro 2 (l.map TPoint.en)] (fun r M => r = B (isRing l) ∧ M = []) := by
 refine VB Tryz.func172 55 (fun E hE => ?_)
 have hclo : Clo (.ro 2 (l.map TPoint.en)) := clo_list TPoint.clo_en
 have hclA : Clo (.ro 4 ((arnd l).map TSegment.en)) := clo_list TSegment.clo_en
 have hal := arnd_len l
 have hclo : Clo (.ro 2 (l.map TPoint.en)) := clo_list TPoint.clo_en
 have hclA : Clo (.ro 4 ((arnd l).map TSegment.en)) := clo_list TSegment.clo_en
 have hal := arnd_len l
 repeat' ((first
  | (refine iAL ?_; first | refine AL.any ?_ | refine AL.any (h := POp.k Tryz.func96 (hc := inr_s _ _ _)) ?_ | refine AL.any (h := POp.k Tryz.func239 (hc := arnd_s _ (by assumption))) ?_ | refine AL.nil ?_)
  | (refine iAW ?_; first | (refine AW.c0 ?_; constructor) | (refine AW.loopD hE (fun i : Nat => [.ro 2 (l.map TPoint.en), .any, .any, .ro 4 ((arnd l).map TSegment.en), I (i : Int), .any, .any, .any, .any, .any, .any, .any, .any, .any, .any, .any, .any, .any, .any, .any, .any, .any, .any, .any, .any, .any, .any, .any, .any, .any, .any, .any, .any, .any, .any, .any, .any, .any, .any, .any, .any, .any, .any, .any, .any, .any, .any, .any, .any, .any, .any, .any, .any, .any, .any, .any]) (fun i => []) (fun i => (arnd l).length - i) (fun i => i ≤ (arnd l).length ∧ rgOk l i = true) 0 ⟨Nat.zero_le _, by simp [rgOk]⟩ ?_ (by first | rfl | (simp; done)) ?_) | (refine AW.c2 ?_ ?_ <;> (intro h; try simp only [bT, bF] at h)))) <;> (try dsimp only))
 any_goals first | exact Fin.one rfl (RV.tmp (by rfl)) (clo_c _) ⟨by simp_all [isRing, inr] <;> omega, rfl⟩
 · (refine wkj ?_; repeat' with_reducible constructor) <;> first | rfl | (simp; done)
 · intro i hv_i
   have hclo : Clo (.ro 2 (l.map TPoint.en)) := clo_list TPoint.clo_en
   have hclA : Clo (.ro 4 ((arnd l).map TSegment.en)) := clo_list TSegment.clo_en
   have hal := arnd_len l
   by_cases hlt_i : i < (arnd l).length
   · skip
     obtain ⟨x, hx⟩ : ∃ x, (arnd l)[i]? = some x := ⟨_, List.getElem?_eq_getElem hlt_i⟩
     have hgx := map_get (f := TSegment.en) hx
     have hti := lt_true (f := TSegment.en) hlt_i
     have hni := next_ix hlt_i (by omega)
     have hro := rgOk_succ l i
     have hsx := sAt_of hx
     have hra : rgAt l i = (isSeg x && rgIn l i i) := by unfold rgAt; rw [hsx]
     repeat' ((first
      | (refine iAL ?_; first | refine AL.any ?_ | refine AL.any (h := POp.k Tryz.func96 (hc := inr_s _ _ _)) ?_ | refine AL.any (h := POp.k Tryz.func239 (hc := arnd_s _ (by assumption))) ?_ | refine AL.any (h := POp.k Tryz.func240 (hc := isSeg_s x)) ?_ | refine AL.U ?_ | refine AL.F ?_ | refine AL.T ?_ | refine AL.W ?_ | refine AL.nil ?_)
      | ((with_reducible show DL ..); first | refine DL.any ?_ | refine DL.any (h := POp.k Tryz.func223 (hc := meet_s x y)) ?_ | refine DL.nil ?_)
      | (refine iAW ?_; first | (refine AW.c0 ?_; constructor) | (refine AW.loopD hE (fun k : Nat => [.ro 2 (l.map TPoint.en), .any, .any, .ro 4 ((arnd l).map TSegment.en), I (i : Int), I (k : Int), .any, .any, .any, .any, .any, .any, .any, .any, .any, .any, .any, .any, .any, .any, .any, .any, .any, .any, .any, .any, .any, .any, .any, .any, .any, .any, .any, .any, .any, .any, .any, .any, .any, .any, .any, .any, .any, .any, .any, .any, .any, .any, .any, .any, .any, .any, .any, .any, .any, .any]) (fun k => []) (fun k => i - k) (fun k => k ≤ i ∧ rgIn l i k = true) 0 ⟨Nat.zero_le _, by simp [rgIn]⟩ ?_ (by first | rfl | (simp; done)) ?_) | refine AW.dr (id := 15) 10 ?_ | refine AW.cT ?_ | refine AW.cF ?_ | (refine AW.c2 ?_ ?_ <;> (intro h; try simp only [bT, bF] at h)))
      | with_reducible refine ifP ?_
      | with_reducible refine ifN ?_) <;> (try dsimp only))
     any_goals first | exact Fin.one rfl (RV.tmp (by rfl)) (clo_c _) ⟨by have e2 := rgOk_not (l := l) (i := i) (n := l.length) (by simp_all) (by omega); simp_all [isRing], rfl⟩
     · (refine wkj ?_; repeat' with_reducible constructor) <;> first | rfl | (simp; done)
     · intro k hv_k
       have hclo : Clo (.ro 2 (l.map TPoint.en)) := clo_list TPoint.clo_en
       have hclA : Clo (.ro 4 ((arnd l).map TSegment.en)) := clo_list TSegment.clo_en
       have hal := arnd_len l
       by_cases hlt_k : k < i
       · skip
         obtain ⟨y, hy⟩ : ∃ y, (arnd l)[k]? = some y := ⟨_, List.getElem?_eq_getElem (by omega)⟩
         have hgy := map_get (f := TSegment.en) hy
         have htk : decide ((k : Int) < (i : Int)) = true := by simp; omega
         have hnk := next_ix hlt_k (by omega)
         have hsy := sAt_of hy
         have hrk : rgIn l i (k + 1) = (rgIn l i k && (hmI x y == wantN l.length i k)) := by rw [rgIn_succ, hsx, hsy]
         have hen : ((arnd l).map TSegment.en).length = l.length := by simp [hal]
         rcases want_s (n := l.length) (i := i) (k := k) (by omega) hlt_k hl with ⟨w1, wN⟩ | ⟨w1, w2, wN⟩ | ⟨w1, w2, w3, wN⟩ | ⟨w1, w2, w3, wN⟩
         all_goals try rw [← hen] at w3
         all_goals
          repeat' ((first
           | (refine iAL ?_; first | refine AL.any ?_ | refine AL.any (h := POp.k Tryz.func96 (hc := inr_s _ _ _)) ?_ | refine AL.any (h := POp.k Tryz.func239 (hc := arnd_s _ (by assumption))) ?_ | refine AL.any (h := POp.k Tryz.func240 (hc := isSeg_s x)) ?_ | refine AL.U ?_ | refine AL.F ?_ | refine AL.T ?_ | refine AL.W ?_ | refine AL.nil ?_)
           | ((with_reducible show DL ..); first | refine DL.any ?_ | refine DL.any (h := POp.k Tryz.func223 (hc := meet_s x y)) ?_ | refine DL.nil ?_)
           | (refine iAW ?_; first | (refine AW.c0 ?_; constructor) | refine AW.dr (id := 15) 10 ?_ | refine AW.cT ?_ | refine AW.cF ?_ | (refine AW.c2 ?_ ?_ <;> (intro h; try simp only [bT, bF] at h)))
           | with_reducible refine ifP ?_
           | with_reducible refine ifN ?_) <;> (try dsimp only))
          all_goals first
           | (refine ⟨k + 1, _, ⟨hlt_k, by simp_all⟩, by omega, ?_, rfl, ?_, ?_⟩; (focus ((refine wkj ?_; repeat' with_reducible constructor) <;> (simp_all))); (focus (exact fitsA)); (focus (exact FitsM.nil _)))
           | exact Fin.one rfl (RV.tmp (by rfl)) (clo_c _) ⟨by have e1 := rgIn_not (l := l) (i := i) (k := k) (n := i) (by simp_all) hlt_k; have e2 := rgOk_not (l := l) (i := i) (n := l.length) (by simp_all) (by omega); simp_all [isRing], rfl⟩
       · have e_k : k = i := by omega
         have htk : decide ((k : Int) < (i : Int)) = false := by simp; omega
         have e2 := e_k.symm
         subst e2
         repeat' ((first
          | (refine iAL ?_; first | refine AL.any ?_ | refine AL.any (h := POp.k Tryz.func96 (hc := inr_s _ _ _)) ?_ | refine AL.any (h := POp.k Tryz.func239 (hc := arnd_s _ (by assumption))) ?_ | refine AL.any (h := POp.k Tryz.func240 (hc := isSeg_s x)) ?_ | refine AL.U ?_ | refine AL.F ?_ | refine AL.T ?_ | refine AL.W ?_ | refine AL.nil ?_)
          | ((with_reducible show DL ..); first | refine DL.any ?_ | refine DL.any (h := POp.k Tryz.func223 (hc := meet_s x y)) ?_ | refine DL.nil ?_)
          | (refine iAW ?_; first | (refine AW.c0 ?_; constructor) | refine AW.dr (id := 15) 10 ?_ | refine AW.cT ?_ | refine AW.cF ?_ | (refine AW.c2 ?_ ?_ <;> (intro h; try simp only [bT, bF] at h)))
          | with_reducible refine ifP ?_
          | with_reducible refine ifN ?_) <;> (try dsimp only))
         all_goals first
          | (refine ⟨i + 1, _, ⟨hlt_i, by simp_all⟩, by omega, ?_, rfl, ?_, ?_⟩; (focus ((refine wkj ?_; repeat' with_reducible constructor) <;> (simp_all))); (focus (exact fitsA)); (focus (exact FitsM.nil _)))
   · have e_i : i = (arnd l).length := by omega
     have hti := lt_false (f := TSegment.en) (show ¬ i < (arnd l).length by omega)
     subst e_i
     repeat' ((first
      | (refine iAL ?_; first | refine AL.any ?_ | refine AL.any (h := POp.k Tryz.func96 (hc := inr_s _ _ _)) ?_ | refine AL.any (h := POp.k Tryz.func239 (hc := arnd_s _ (by assumption))) ?_ | refine AL.any (h := POp.k Tryz.func240 (hc := isSeg_s x)) ?_ | refine AL.U ?_ | refine AL.F ?_ | refine AL.T ?_ | refine AL.W ?_ | refine AL.nil ?_)
      | ((with_reducible show DL ..); first | refine DL.any ?_ | refine DL.any (h := POp.k Tryz.func223 (hc := meet_s x y)) ?_ | refine DL.nil ?_)
      | (refine iAW ?_; first | (refine AW.c0 ?_; constructor) | refine AW.dr (id := 15) 10 ?_ | refine AW.cT ?_ | refine AW.cF ?_ | (refine AW.c2 ?_ ?_ <;> (intro h; try simp only [bT, bF] at h)))
      | with_reducible refine ifP ?_
      | with_reducible refine ifN ?_) <;> (try dsimp only))
     all_goals first
      | exact Fin.one rfl (RV.tmp (by rfl)) (clo_c _) ⟨by first | (simp_all [isRing]; done) | (simp_all [isRing, inr] <;> omega), rfl⟩

theorem isRing_i (l : List TPoint) (hl : l.length ≤ 1048576) : VCalls Tryz.prog 182 [.ro 2 (l.map TPoint.en)] (fun r M => r = B (isRing l) ∧ M = []) := by
 refine VB Tryz.func182 59 (fun E hE => ?_)
 have hclo : Clo (.ro 2 (l.map TPoint.en)) := clo_list TPoint.clo_en
 have hclA : Clo (.ro 4 ((arnd l).map TSegment.en)) := clo_list TSegment.clo_en
 have hal := arnd_len l
 have hclo : Clo (.ro 2 (l.map TPoint.en)) := clo_list TPoint.clo_en
 have hclA : Clo (.ro 4 ((arnd l).map TSegment.en)) := clo_list TSegment.clo_en
 have hal := arnd_len l
 repeat' ((first
  | (refine iAL ?_; first | refine AL.any ?_ | refine AL.any (h := POp.k Tryz.func248 (hc := arnd_i _ (by assumption))) ?_ | refine AL.W ?_ | refine AL.nil ?_)
  | (refine iAW ?_; first | (refine AW.c0 ?_; constructor) | (refine AW.loopD hE (fun i : Nat => [.ro 2 (l.map TPoint.en), .any, .any, .ro 4 ((arnd l).map TSegment.en), .any, .any, .any, .any, .any, .any, .any, .any, .any, .any, .any, .any, .any, .any, I (((arnd l).map TSegment.en).length : Int), I (i : Int), .any, .any, .any, .any, .any, .any, .any, .any, .any, .any, .any, .any, .any, .any, .any, .any, .any, .any, .any, .any, .any, .any, .any, .any, .any, .any, .any, .any, .any, .any, .any, .any, .any, .any, .any, .any, .any, .any, .any, .any]) (fun i => []) (fun i => (arnd l).length - i) (fun i => i ≤ (arnd l).length ∧ rgOk l i = true) 0 ⟨Nat.zero_le _, by simp [rgOk]⟩ ?_ (by first | rfl | (simp; done)) ?_) | (refine AW.c2 ?_ ?_ <;> (intro h; try simp only [bT, bF] at h)))) <;> (try dsimp only))
 any_goals first | exact Fin.one rfl (RV.tmp (by rfl)) (clo_c _) ⟨by simp_all [isRing, inr] <;> omega, rfl⟩
 · (refine wkj ?_; repeat' with_reducible constructor) <;> first | rfl | (simp; done)
 · intro i hv_i
   have hclo : Clo (.ro 2 (l.map TPoint.en)) := clo_list TPoint.clo_en
   have hclA : Clo (.ro 4 ((arnd l).map TSegment.en)) := clo_list TSegment.clo_en
   have hal := arnd_len l
   by_cases hlt_i : i < (arnd l).length
   · skip
     obtain ⟨x, hx⟩ : ∃ x, (arnd l)[i]? = some x := ⟨_, List.getElem?_eq_getElem hlt_i⟩
     have hgx := map_get (f := TSegment.en) hx
     have hti := lt_true (f := TSegment.en) hlt_i
     have hni := next_ix hlt_i (by omega)
     have hro := rgOk_succ l i
     have hsx := sAt_of hx
     have hra : rgAt l i = (isSeg x && rgIn l i i) := by unfold rgAt; rw [hsx]
     repeat' ((first
      | (refine iAL ?_; first | refine AL.any ?_ | refine AL.any (h := POp.k Tryz.func248 (hc := arnd_i _ (by assumption))) ?_ | refine AL.any (h := POp.k Tryz.func249 (hc := isSeg_i x)) ?_ | refine AL.U ?_ | refine AL.F ?_ | refine AL.T ?_ | refine AL.W ?_ | refine AL.nil ?_)
      | ((with_reducible show DL ..); first | refine DL.any ?_ | refine DL.any (h := POp.k Tryz.func247 (hc := meet_i x y)) ?_ | refine DL.nil ?_)
      | (refine iAW ?_; first | (refine AW.c0 ?_; constructor) | (refine AW.loopD hE (fun k : Nat => [.ro 2 (l.map TPoint.en), .any, .any, .ro 4 ((arnd l).map TSegment.en), I (i : Int), .any, .any, .any, .any, .any, .any, .any, .any, .any, .any, .any, .any, .any, I (((arnd l).map TSegment.en).length : Int), I (i : Int), .any, .any, .any, .any, .any, .any, .any, .any, I (i : Int), I (k : Int), .any, .any, .any, .any, .any, .any, .any, .any, .any, .any, .any, .any, .any, .any, .any, .any, .any, .any, .any, .any, .any, .any, .any, .any, .any, .any, .any, .any, .any, .any]) (fun k => []) (fun k => i - k) (fun k => k ≤ i ∧ rgIn l i k = true) 0 ⟨Nat.zero_le _, by simp [rgIn]⟩ ?_ (by first | rfl | (simp; done)) ?_) | refine AW.dr (id := 15) 10 ?_ | refine AW.cT ?_ | refine AW.cF ?_ | (refine AW.c2 ?_ ?_ <;> (intro h; try simp only [bT, bF] at h)))
      | with_reducible refine ifP ?_
      | with_reducible refine ifN ?_) <;> (try dsimp only))
     any_goals first | exact Fin.one rfl (RV.tmp (by rfl)) (clo_c _) ⟨by have e2 := rgOk_not (l := l) (i := i) (n := l.length) (by simp_all) (by omega); simp_all [isRing], rfl⟩
     · (refine wkj ?_; repeat' with_reducible constructor) <;> first | rfl | (simp; done)
     · intro k hv_k
       have hclo : Clo (.ro 2 (l.map TPoint.en)) := clo_list TPoint.clo_en
       have hclA : Clo (.ro 4 ((arnd l).map TSegment.en)) := clo_list TSegment.clo_en
       have hal := arnd_len l
       by_cases hlt_k : k < i
       · skip
         obtain ⟨y, hy⟩ : ∃ y, (arnd l)[k]? = some y := ⟨_, List.getElem?_eq_getElem (by omega)⟩
         have hgy := map_get (f := TSegment.en) hy
         have htk : decide ((k : Int) < (i : Int)) = true := by simp; omega
         have hnk := next_ix hlt_k (by omega)
         have hsy := sAt_of hy
         have hrk : rgIn l i (k + 1) = (rgIn l i k && (hmI x y == wantN l.length i k)) := by rw [rgIn_succ, hsx, hsy]
         have hen : ((arnd l).map TSegment.en).length = l.length := by simp [hal]
         rcases want_i (n := l.length) (i := i) (k := k) (by omega) hlt_k hl with ⟨w1, wN⟩ | ⟨w1, w2, wN⟩ | ⟨w1, w2, w3, wN⟩ | ⟨w1, w2, w3, wN⟩
         all_goals try rw [← hen] at w3
         all_goals
          repeat' ((first
           | (refine iAL ?_; first | refine AL.any ?_ | refine AL.any (h := POp.k Tryz.func248 (hc := arnd_i _ (by assumption))) ?_ | refine AL.any (h := POp.k Tryz.func249 (hc := isSeg_i x)) ?_ | refine AL.U ?_ | refine AL.F ?_ | refine AL.T ?_ | refine AL.W ?_ | refine AL.nil ?_)
           | ((with_reducible show DL ..); first | refine DL.any ?_ | refine DL.any (h := POp.k Tryz.func247 (hc := meet_i x y)) ?_ | refine DL.nil ?_)
           | (refine iAW ?_; first | (refine AW.c0 ?_; constructor) | refine AW.dr (id := 15) 10 ?_ | refine AW.cT ?_ | refine AW.cF ?_ | (refine AW.c2 ?_ ?_ <;> (intro h; try simp only [bT, bF] at h)))
           | with_reducible refine ifP ?_
           | with_reducible refine ifN ?_) <;> (try dsimp only))
          all_goals first
           | (refine ⟨k + 1, _, ⟨hlt_k, by simp_all⟩, by omega, ?_, rfl, ?_, ?_⟩; (focus ((refine wkj ?_; repeat' with_reducible constructor) <;> (simp_all))); (focus (exact fitsA)); (focus (exact FitsM.nil _)))
           | exact Fin.one rfl (RV.tmp (by rfl)) (clo_c _) ⟨by have e1 := rgIn_not (l := l) (i := i) (k := k) (n := i) (by simp_all) hlt_k; have e2 := rgOk_not (l := l) (i := i) (n := l.length) (by simp_all) (by omega); simp_all [isRing], rfl⟩
       · have e_k : k = i := by omega
         have htk : decide ((k : Int) < (i : Int)) = false := by simp; omega
         have e2 := e_k.symm
         subst e2
         repeat' ((first
          | (refine iAL ?_; first | refine AL.any ?_ | refine AL.any (h := POp.k Tryz.func248 (hc := arnd_i _ (by assumption))) ?_ | refine AL.any (h := POp.k Tryz.func249 (hc := isSeg_i x)) ?_ | refine AL.U ?_ | refine AL.F ?_ | refine AL.T ?_ | refine AL.W ?_ | refine AL.nil ?_)
          | ((with_reducible show DL ..); first | refine DL.any ?_ | refine DL.any (h := POp.k Tryz.func247 (hc := meet_i x y)) ?_ | refine DL.nil ?_)
          | (refine iAW ?_; first | (refine AW.c0 ?_; constructor) | refine AW.dr (id := 15) 10 ?_ | refine AW.cT ?_ | refine AW.cF ?_ | (refine AW.c2 ?_ ?_ <;> (intro h; try simp only [bT, bF] at h)))
          | with_reducible refine ifP ?_
          | with_reducible refine ifN ?_) <;> (try dsimp only))
         all_goals first
          | (refine ⟨i + 1, _, ⟨hlt_i, by simp_all⟩, by omega, ?_, rfl, ?_, ?_⟩; (focus ((refine wkj ?_; repeat' with_reducible constructor) <;> (simp_all))); (focus (exact fitsA)); (focus (exact FitsM.nil _)))
   · have e_i : i = (arnd l).length := by omega
     have hti := lt_false (f := TSegment.en) (show ¬ i < (arnd l).length by omega)
     subst e_i
     repeat' ((first
      | (refine iAL ?_; first | refine AL.any ?_ | refine AL.any (h := POp.k Tryz.func248 (hc := arnd_i _ (by assumption))) ?_ | refine AL.any (h := POp.k Tryz.func249 (hc := isSeg_i x)) ?_ | refine AL.U ?_ | refine AL.F ?_ | refine AL.T ?_ | refine AL.W ?_ | refine AL.nil ?_)
      | ((with_reducible show DL ..); first | refine DL.any ?_ | refine DL.any (h := POp.k Tryz.func247 (hc := meet_i x y)) ?_ | refine DL.nil ?_)
      | (refine iAW ?_; first | (refine AW.c0 ?_; constructor) | refine AW.dr (id := 15) 10 ?_ | refine AW.cT ?_ | refine AW.cF ?_ | (refine AW.c2 ?_ ?_ <;> (intro h; try simp only [bT, bF] at h)))
      | with_reducible refine ifP ?_
      | with_reducible refine ifN ?_) <;> (try dsimp only))
     all_goals first
      | exact Fin.one rfl (RV.tmp (by rfl)) (clo_c _) ⟨by first | (simp_all [isRing]; done) | (simp_all [isRing, inr] <;> omega), rfl⟩

end Go.Proofs.YtpffahmmklpifaaGreat.Abs
