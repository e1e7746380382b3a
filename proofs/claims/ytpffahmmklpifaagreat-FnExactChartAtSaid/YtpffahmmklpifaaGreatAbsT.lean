/- Small things for loops. -/
import Derived.Test.YtpffahmmklpifaaGreatAbsS
namespace Go.Proofs.YtpffahmmklpifaaGreat.Abs
open Go.RowKit
set_option linter.unusedVariables false
set_option linter.unusedSimpArgs false

theorem Wk.of {x y : AV} {a b : List AV} (h : x = y) (hw : Wk a b) : Wk (x :: a) (y :: b) := h ▸ Wk.same hw
theorem w64 {n : Int} (h1 : -9223372036854775808 ≤ n) (h2 : n ≤ 9223372036854775807) : IntKind.i64.wrap n = n := by
 unfold IntKind.wrap
 simp [IntKind.bits, IntKind.signed]
 split <;> omega
theorem map_get {α β : Type} {f : α → β} {l : List α} {i : Nat} {x : α} (h : l[i]? = some x) : (l.map f)[((i : Int)).toNat]? = some (f x) := by
 rw [Int.toNat_natCast, List.getElem?_map, h]
 rfl
theorem lt_true {α β : Type} {f : α → β} {l : List α} {i : Nat} (h : i < l.length) : decide ((i : Int) < ((l.map f).length : Int)) = true := by
 simp
 omega
theorem lt_false {α β : Type} {f : α → β} {l : List α} {i : Nat} (h : ¬ i < l.length) : decide ((i : Int) < ((l.map f).length : Int)) = false := by
 simp
 omega
theorem take_succ_of {α : Type} {l : List α} {i : Nat} {x : α} (h : l[i]? = some x) : l.take (i + 1) = l.take i ++ [x] := by
 rw [List.take_add_one, h]
 rfl
theorem next_ix {i n : Nat} (h : i < n) (hn : n ≤ 9223372036854775807) : IntKind.i64.wrap ((i : Int) + 1) = ((i + 1 : Nat) : Int) := by
 rw [w64 (by omega) (by omega)]
 omega
end Go.Proofs.YtpffahmmklpifaaGreat.Abs
