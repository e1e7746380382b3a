/- A made row that is filled from its begin on. -/
import Derived.Test.YtpffahmmklpifaaGreatAbsV
namespace Go.Proofs.YtpffahmmklpifaaGreat.Abs
open Go.RowKit
set_option linter.unusedVariables false
set_option linter.unusedSimpArgs false

def fil {α : Type} (en : α → List AV) (z : List AV) (l : List α) (i : Nat) : List (List AV) := (l.take i).map en ++ List.replicate (l.length - i) z
section
variable {α : Type} {en : α → List AV} {z : List AV} {l : List α} {i : Nat} {x : α}
theorem fil_zero : fil en z l 0 = List.replicate l.length z := by simp [fil]
theorem fil_all : fil en z l l.length = l.map en := by simp [fil]
theorem fil_length (h : i ≤ l.length) : (fil en z l i).length = l.length := by
 simp [fil, List.length_take]
 omega
theorem fil_get (h : i < l.length) : (fil en z l i)[((i : Int)).toNat]? = some z := by
 rw [Int.toNat_natCast, fil, List.getElem?_append_right (by simp [List.length_take]; omega), List.getElem?_replicate, if_pos]
 simp [List.length_take]
 omega
theorem fil_set (h : l[i]? = some x) : (fil en z l i).set ((i : Int)).toNat (en x) = fil en z l (i + 1) := by
 have hlt : i < l.length := (List.getElem?_eq_some_iff.1 h).1
 have hl : ((l.take i).map en).length = i := by simp [List.length_take]; omega
 have e : l.length - i = (l.length - (i + 1)) + 1 := by omega
 rw [Int.toNat_natCast, fil, fil, List.set_append, if_neg (by omega), hl, Nat.sub_self, e, List.replicate_succ, List.set_cons_zero, take_succ_of h, List.map_append, List.append_assoc]
 rfl
theorem fil_at (h : i < l.length) : ((i : Int)).toNat < (fil en z l i).length := by
 rw [fil_length (by omega), Int.toNat_natCast]
 exact h
theorem fil_clo (hz : ∀ y ∈ z, Clo y) (he : ∀ a, ∀ y ∈ en a, Clo y) : ∀ r ∈ fil en z l i, ∀ y ∈ r, Clo y := fun r hr y hy => by
 rcases List.mem_append.1 hr with hr | hr
 · obtain ⟨a, _, rfl⟩ := List.mem_map.1 hr
   exact he a y hy
 · obtain ⟨_, rfl⟩ := List.mem_replicate.1 hr
   exact hz y hy
theorem fits_row {n : Nat} {b : Blk} (h : ∀ r ∈ b.es, ∀ y ∈ r, Clo y) : FitsM n [some b] := fun b' hb r hr x hx => by
 simp at hb
 subst hb
 exact Fits.clo (h r hr x hx)
end
end Go.Proofs.YtpffahmmklpifaaGreat.Abs
