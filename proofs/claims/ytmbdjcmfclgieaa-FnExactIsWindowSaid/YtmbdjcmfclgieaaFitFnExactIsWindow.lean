/- What the arguments of FnExactIsWindow are when they can be read as data. -/
import Derived.Test.YtmbdjcmfclgieaaOpen
import Derived.Test.YtmbdjcmfclgieaaPFnExactIsWindowx1
import Derived.KernelRfl
namespace Go.Proofs.Ytmbdjcmfclgieaa.PFnExactIsWindow
open Go.RowKit Go.Proofs.YtmbdjcmfclgieaaW.PrintWords Go.Proofs.Ytmbdjcmfclgieaa.Open
set_option linter.unusedVariables false
/-- THE PURE STATEMENT. -/
def FnExactIsWindow.Pure : Prop := ∀ (a0_0 : Int) (a0_1 : Int) (a0_2 : Int) (a0_3 : Int), (((Lit.int .i64 a0_0).wf = true ∧ (Lit.int .i64 a0_1).wf = true) ∧ ((Lit.int .i64 a0_2).wf = true ∧ (Lit.int .i64 a0_3).wf = true)) → laws_FnExactIsWindow.f a0_0 a0_1 a0_2 a0_3 = some true
end Go.Proofs.Ytmbdjcmfclgieaa.PFnExactIsWindow
