/- Plain lemmas on whole numbers, lists and rounds that the pure laws of this program use. -/
import Derived.Test.YtmbdjcmfclgieaaWWords
import Derived.Test.YtmbdjcmfclgieaaWMore
namespace Go.Proofs.Ytmbdjcmfclgieaa.Kit
open Go.RowKit Go.Proofs.YtmbdjcmfclgieaaW.PrintWords Go.Proofs.YtmbdjcmfclgieaaW.PrintLast
set_option linter.unusedVariables false

theorem w64 {x : Int} (h : -9223372036854775808 ≤ x) (h2 : x ≤ 9223372036854775807) : wrap64 x = x := by
  unfold wrap64
  omega

theorem wsucc {i n : Nat} (h : i < n) (hn : n ≤ 9223372036854775807) : wrap64 ((i : Int) + 1) = ((i + 1 : Nat) : Int) := by
  rw [w64 (by omega) (by omega)]
  omega

/-- From the end to the begin. -/
theorem back {P : Nat → Prop} (n : Nat) (h0 : P n) (hs : ∀ i, i < n → P (i + 1) → P i) : ∀ i, i ≤ n → P i := by
  intro i hi
  obtain ⟨d, hd⟩ : ∃ d, d = n - i := ⟨_, rfl⟩
  induction d generalizing i with
  | zero => have : i = n := by omega
            subst this
            exact h0
  | succ d ih => exact hs i (by omega) (ih (i + 1) (by omega) (by omega))

theorem cast_lt {i n : Nat} (h : i < n) : (i : Int) < (n : Int) := by omega
theorem cast_nlt (n : Nat) : ¬ (n : Int) < (n : Int) := by omega
theorem cast_pos (i : Nat) : (0 : Int) ≤ (i : Int) := by omega

/-- A list that is filled index by index. -/
def filled {α β : Type} (f : α → β) (z : β) (l : List α) (i : Nat) : List β := (l.take i).map f ++ List.replicate (l.length - i) z
theorem filled_zero {α β : Type} (f : α → β) (z : β) (l : List α) : filled f z l 0 = List.replicate l.length z := by simp [filled]
theorem filled_all {α β : Type} (f : α → β) (z : β) (l : List α) : filled f z l l.length = l.map f := by simp [filled]
theorem filled_length {α β : Type} (f : α → β) (z : β) (l : List α) (i : Nat) (h : i ≤ l.length) : (filled f z l i).length = l.length := by
  simp only [filled, List.length_append, List.length_map, List.length_take, List.length_replicate]
  omega
theorem filled_set {α β : Type} (f : α → β) (z : β) (l : List α) (i : Nat) (h : i < l.length) (v : β) (hv : v = f l[i]) : (filled f z l i).set i v = filled f z l (i + 1) := by
  subst hv
  apply List.ext_getElem?
  intro j
  have hlen := filled_length f z l i (by omega)
  rw [List.getElem?_set]
  unfold filled at hlen ⊢
  by_cases hj : i = j
  · subst hj
    rw [if_pos rfl, if_pos (by omega), List.getElem?_append_left (by simp; omega)]
    simp [h]
  · rw [if_neg hj]
    rcases Nat.lt_or_ge j i with hlt | hge
    · rw [List.getElem?_append_left (by simp; omega), List.getElem?_append_left (by simp; omega)]
      simp [hlt, Nat.lt_succ_of_lt hlt]
    · rw [List.getElem?_append_right (by simp; omega), List.getElem?_append_right (by simp; omega)]
      simp only [List.length_map, List.length_take, List.getElem?_replicate]
      have e1 : min i l.length = i := by omega
      have e2 : min (i + 1) l.length = i + 1 := by omega
      rw [e1, e2]
      by_cases hq : j < l.length
      · rw [if_pos (by omega), if_pos (by omega)]
      · rw [if_neg (by omega), if_neg (by omega)]

theorem getD_lt {α : Type} (l : List α) (i : Nat) (z : α) (h : i < l.length) : l.getD ((i : Int)).toNat z = l[i] := by
  rw [Int.toNat_natCast, List.getD_eq_getElem?_getD, List.getElem?_eq_getElem h]
  rfl

theorem Ev_some {α : Type} {g : Nat → Option α} {r : α} (h : ∀ k, g k = some r) : Ev g r := ⟨0, fun k _ => h k⟩
theorem Ev_one {α : Type} {g : Nat → Option α} {r : α} (h : ∀ k, g (k + 1) = some r) : Ev g r := ⟨1, fun k hk => by
  obtain ⟨m, rfl⟩ : ∃ m, k = m + 1 := ⟨k - 1, by omega⟩
  exact h m⟩
theorem Ev_bind {α β : Type} {g : Nat → Option α} {f : Nat → α → Option β} {a : α} {r : β} (h : Ev g a) (k : Ev (fun n => f n a) r) : Ev (fun n => (g n).bind (f n)) r := Ev.bind h k
/-- A callee that needs rounds, and what follows. -/
theorem Ev_rw {α β : Type} {g : Nat → Option α} {a : α} (h : Ev g a) {F : Nat → Option α → Option β} {r : β} (k : Ev (fun n => F n (some a)) r) : Ev (fun n => F n (g n)) r := by
  obtain ⟨K, hK⟩ := h
  obtain ⟨L, hL⟩ := k
  exact ⟨K + L, fun n hn => by show F n (g n) = _; rw [hK n (by omega)]; exact hL n (by omega)⟩
end Go.Proofs.Ytmbdjcmfclgieaa.Kit
