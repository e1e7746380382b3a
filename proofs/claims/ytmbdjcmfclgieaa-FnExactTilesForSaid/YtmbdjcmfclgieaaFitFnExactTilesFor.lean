/- What the arguments of FnExactTilesFor are when they can be read as data. -/
import Derived.Test.YtmbdjcmfclgieaaOpen
import Derived.Test.YtmbdjcmfclgieaaPFnExactTilesForx5
import Derived.KernelRfl
namespace Go.Proofs.Ytmbdjcmfclgieaa.PFnExactTilesFor
open Go.RowKit Go.Proofs.YtmbdjcmfclgieaaW.PrintWords Go.Proofs.Ytmbdjcmfclgieaa.Open
set_option linter.unusedVariables false
/-- THE PURE STATEMENT. -/
def FnExactTilesFor.Pure : Prop := ∀ (a0_0 : Int) (a0_1 : Int) (a0_2 : Int) (a0_3 : Int), (((Lit.int .i64 a0_0).wf = true ∧ (Lit.int .i64 a0_1).wf = true) ∧ ((Lit.int .i64 a0_2).wf = true ∧ (Lit.int .i64 a0_3).wf = true)) → ∃ k, laws_FnExactTilesFor.f k a0_0 a0_1 a0_2 a0_3 = some true
end Go.Proofs.Ytmbdjcmfclgieaa.PFnExactTilesFor
