/- Functions as values that hold what they have captured: a variable that is never written again stays as one may point into it. -/
import Derived.Test.YtfbanjdfihdngaaDoorAbsZI
import Derived.Test.YtfbanjdfihdngaaDoorAbsVF
namespace Go.Proofs.YtfbanjdfihdngaaDoor.Abs
open Go.RowKit
set_option linter.unusedVariables false
set_option linter.unusedSimpArgs false

section
variable {P : Program} {E : Env} {tm : List AV} {M : Mem} {o : Oper} {w w0 : World} {Fx : Nat → Prop} {β : List Hd} {base : Nat}
theorem QOp.mkfn {f : FuncId} {caps : Array Operand} {cs : List AV} (ho : o.op = .makeFunc (.func f) #[] caps) (hc : caps.toList.mapM (evA tm) = some cs) : QOp P o tm M (.fn f cs) := fun base w0 a w Fx β hh hs => by
  have hargs := hs.args hc
  refine ⟨.func (.func f) #[] (caps.map a.eval), fun w' _ => by simp [execOp, ho, Instr.makeFunc], ?_⟩
  have := Rep.fn (w := w) (Fx := Fx) (β := β) (G := gens M) (f := f) (cs := cs) (us := (caps.map a.eval).toList) (by simpa using hargs.1) (fun i x u h1 h2 => hargs.2 i x u h1 (by simpa using h2))
  have e : (caps.map a.eval).toList.toArray = caps.map a.eval := Array.toArray_toList
  rw [e] at this
  exact this
end
end Go.Proofs.YtfbanjdfihdngaaDoor.Abs
