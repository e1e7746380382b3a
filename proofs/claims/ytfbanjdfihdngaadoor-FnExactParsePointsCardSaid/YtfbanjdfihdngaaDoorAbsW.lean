/- A made row that is filled from its begin on. -/
import Derived.Test.YtfbanjdfihdngaaDoorAbsV
namespace Go.Proofs.YtfbanjdfihdngaaDoor.Abs
open Go.RowKit
set_option linter.unusedVariables false
set_option linter.unusedSimpArgs false

def fil {α : Type} (en : α → List AV) (z : List AV) (l : List α) (i : Nat) : List (List AV) := (l.take i).map en ++ List.replicate (l.length - i) z
section
variable {α : Type} {en : α → List AV} {z : List AV} {l : List α} {i : Nat} {x : α}
theorem fil_zero : fil en z l 0 = List.replicate l.length z := by simp [fil]
theorem fits_row {n : Nat} {b : Blk} (h : ∀ r ∈ b.es, ∀ y ∈ r, Clo y) : FitsM n [some b] := fun b' hb r hr x hx => by
  simp at hb
  subst hb
  exact Fits.clo (h r hr x hx)
end
end Go.Proofs.YtfbanjdfihdngaaDoor.Abs
