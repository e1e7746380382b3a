/- The walks of the size tests, and that what is left bounds the lengths. -/
import Derived.Test.YtfbanjdfihdngaaDoorWkStep
namespace Go.Proofs.YtfbanjdfihdngaaDoor.Abs
open Go.Proofs Go.RowKit
set_option linter.unusedVariables false
set_option linter.unusedSimpArgs false
set_option maxRecDepth 100000
set_option maxHeartbeats 2000000
attribute [local irreducible] OpA AL AW DL DLM DLR DLS QOp POp VCalls VCallsI
abbrev wsub (a b : Int) : Int := IntKind.i64.wrap (a - b)
def thenS (a : Int) (k : Int → Int) : Int := if a < 0 then -1 else k a
def szN (n : Nat) (left : Int) : Int := thenS (wsub left n) fun a => a
def szAcc {α : Type} (f : α → Int → Int) (l : List α) (left : Int) (i : Nat) : Int := (l.take i).foldl (fun acc x => if acc < 0 then -1 else f x acc) left
def szL {α : Type} (f : α → Int → Int) (l : List α) (left : Int) : Int := thenS (wsub left l.length) fun a => szAcc f l a l.length
theorem sz_stuck {α : Type} (f : α → Int → Int) : ∀ (l : List α) (a : Int), a < 0 → l.foldl (fun acc x => if acc < 0 then -1 else f x acc) a = -1 ∨ l.foldl (fun acc x => if acc < 0 then -1 else f x acc) a = a
  | [], a, h => .inr rfl
  | x :: l, a, h => by
    rw [List.foldl_cons, if_pos h]
    rcases sz_stuck f l (-1) (by omega) with e | e <;> exact .inl e
theorem thenS_ge {a : Int} {k : Int → Int} (h : 0 ≤ thenS a k) : 0 ≤ a ∧ thenS a k = k a := by
  unfold thenS at *
  split
  · rename_i h1; rw [if_pos h1] at h; omega
  · rename_i h1; exact ⟨by omega, rfl⟩
theorem maxLen_eq : maxLen = 9223372036854775807 := by decide
theorem wsub_ge {left : Int} {n : Nat} (hn : n ≤ maxLen) (h0 : 0 ≤ left) (h1 : left ≤ 1048576) : wsub left n = left - n := by
  rw [maxLen_eq] at hn
  exact w64 (by omega) (by omega)
def Szs {α : Type} (f : α → Int → Int) (ok sm : α → Prop) : Prop := ∀ x left, ok x → 0 ≤ left → left ≤ 1048576 → 0 ≤ f x left → sm x ∧ f x left ≤ left
theorem Szs.mem {α : Type} {f : α → Int → Int} {ok sm : α → Prop} (h : Szs f ok sm) : ∀ (l : List α) (a : Int), (∀ x ∈ l, ok x) → 0 ≤ a → a ≤ 1048576 → 0 ≤ l.foldl (fun acc x => if acc < 0 then -1 else f x acc) a → (∀ x ∈ l, sm x) ∧ l.foldl (fun acc x => if acc < 0 then -1 else f x acc) a ≤ a
  | [], a, _, _, _, _ => ⟨fun x hx => by simp at hx, Int.le_refl _⟩
  | x :: l, a, hk, h0, h1, hp => by
    rw [List.foldl_cons, if_neg (by omega)] at hp ⊢
    have hx0 : 0 ≤ f x a := by
      rcases (by omega : f x a < 0 ∨ 0 ≤ f x a) with hn | hn
      · rcases sz_stuck f l (f x a) hn with e | e <;> rw [e] at hp <;> omega
      · exact hn
    obtain ⟨s1, s2⟩ := h x a (hk x (List.mem_cons_self ..)) h0 h1 hx0
    obtain ⟨t1, t2⟩ := Szs.mem h l (f x a) (fun y hy => hk y (List.mem_cons_of_mem _ hy)) hx0 (by omega) hp
    exact ⟨fun y hy => by rcases List.mem_cons.1 hy with rfl | hy <;> first | exact s1 | exact t1 y hy, by omega⟩
theorem Szs.list {α : Type} {f : α → Int → Int} {ok sm : α → Prop} (h : Szs f ok sm) : Szs (szL f) (fun l : List α => l.length ≤ maxLen ∧ ∀ x ∈ l, ok x) (fun l => l.length ≤ 1048576 ∧ ∀ x ∈ l, sm x) := by
  intro l left hk h0 h1 hp
  obtain ⟨a, b⟩ := thenS_ge hp
  have e := wsub_ge hk.1 h0 h1
  rw [show szL f l left = _ from b] at hp ⊢
  unfold szAcc at hp ⊢
  rw [List.take_length] at hp ⊢
  obtain ⟨s, t⟩ := h.mem l _ hk.2 a (by omega) hp
  exact ⟨⟨by omega, s⟩, by omega⟩
theorem Szs.flat {α : Type} {ok : α → Prop} : Szs (fun (l : List α) => szN l.length) (fun l : List α => l.length ≤ maxLen ∧ ∀ x ∈ l, ok x) (fun l => l.length ≤ 1048576) := by
  intro l left hk h0 h1 hp
  obtain ⟨a, b⟩ := thenS_ge (show 0 ≤ szN l.length left from hp)
  have e := wsub_ge hk.1 h0 h1
  change _ ∧ szN l.length left ≤ left
  rw [show szN l.length left = _ from b]
  exact ⟨by omega, by omega⟩
theorem Szs.split {α : Type} {f : α → Int → Int} {ok sm : α → Prop} (h : Szs f ok sm) (x : α) (left : Int) (hk : ok x) (h0 : 0 ≤ left) (h1 : left ≤ 1048576) : decide (f x left < 0) = true ∨ (decide (f x left < 0) = false ∧ sm x ∧ 0 ≤ f x left ∧ f x left ≤ 1048576) := by
  rcases (by omega : f x left < 0 ∨ 0 ≤ f x left) with hz | hz
  · exact .inl (decide_eq_true hz)
  · obtain ⟨a, b⟩ := h x left hk h0 h1 hz
    exact .inr ⟨decide_eq_false (by omega), a, hz, by omega⟩

end Go.Proofs.YtfbanjdfihdngaaDoor.Abs
