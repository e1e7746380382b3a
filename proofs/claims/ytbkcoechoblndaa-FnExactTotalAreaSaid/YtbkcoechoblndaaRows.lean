/-
  No cell of these rows narrows 'for every input' (looked for: loops, veiled, ifaces, maps, wideKeys, modest, calm, conditions, laid).
  DERIVED. THE GIVEN ROWS OF THIS SEAT. 6 by the template 'for every input the law returns true; each argument reads behind the call as it read before'; 0 by the template 'total and deterministic' (their statements: YtbkcoechoblndaaTotals.lean).
  GIVEN WITH THE SEED: the statements are not yours to turn. If you find one false, say at which input.
  Laid BY PROGRAM, IN A SANDBOX (cutbox-rows.mjs): the forced cells as the released guide's own fill.sh prints them over the translation 164c6215949a8afe… (all of the seat's roots in one cut). By AI agents, Wed Nov 11 2026. No macro, syntax, notation, axiom, sorry.
-/
import Derived.Test.YtbkcoechoblndaaChecked
import GoSem.Claim
import GoSem.ClaimJoined
import GoSem.ClaimMapViews
import Derived.JoinedTies
import Derived.KernelRfl
namespace Go.Proofs.Ytbkcoechoblndaa
/- THE CELL 'sum', in the pinned program and in every row, IS THE sha256 OF THE DUMP (.gsa) THAT YtbkcoechoblndaaProg.lean LOADS. Nothing in Lean hashes anything: it is a label: what it is worth is what the hold of that sum in a sandbox is worth. -/
noncomputable def Try.pinned : Pinned := { name := "ytbkcoechoblndaa", sum := "164c6215949a8afeaf8158115f9ee8afa75181c4a8487127d23e775971db77c3", checked := Try.checked }
namespace Rows
def none {H : Type} : Left H := { results := [], args := [] }

/-- 'laws.FnExactShareOf': WHATEVER THE INPUT: true; the input reads as it did. -/
def fnExactShareOfSpec : ChangeSpec := { name := "fnExactShareOf", fn := fun _ => fun
  | [d1, d2] => { results := [.lit (.bool true)], args := [d1, d2] }
  | _ => none }
def fnExactShareOfRow : OpenClaim := { program := "ytbkcoechoblndaa", sum := "164c6215949a8afeaf8158115f9ee8afa75181c4a8487127d23e775971db77c3", func := "loop.example/g03005/laws.FnExactShareOf", spec := "fnExactShareOf", inPlace := ["internal/bytealg.CountString", "internal/bytealg.IndexByteString", "internal/bytealg.IndexString"], named := ["internal/bytealg.MaxLen"], apart := false }
def FnExactShareOfSaid : Prop := fnExactShareOfRow.holds Try.pinned (OpenSpec.ofChange fnExactShareOfSpec)

/-- ITS FALSE NEIGHBOUR: 'it returns false'. Refute it at one input. -/
def fnExactShareOfWrong : ChangeSpec := { name := "fnExactShareOf", fn := fun _ => fun
  | [d1, d2] => { results := [.lit (.bool false)], args := [d1, d2] }
  | _ => none }
def FnExactShareOfWrongFalsely : Prop := fnExactShareOfRow.holds Try.pinned (OpenSpec.ofChange fnExactShareOfWrong)

/-- 'laws.FnExactTotalSteps': WHATEVER THE INPUT: true; the input reads as it did. -/
def fnExactTotalStepsSpec : ChangeSpec := { name := "fnExactTotalSteps", fn := fun _ => fun
  | [d] => { results := [.lit (.bool true)], args := [d] }
  | _ => none }
def fnExactTotalStepsRow : OpenClaim := { program := "ytbkcoechoblndaa", sum := "164c6215949a8afeaf8158115f9ee8afa75181c4a8487127d23e775971db77c3", func := "loop.example/g03005/laws.FnExactTotalSteps", spec := "fnExactTotalSteps", apart := false }
def FnExactTotalStepsSaid : Prop := fnExactTotalStepsRow.holds Try.pinned (OpenSpec.ofChange fnExactTotalStepsSpec)

/-- ITS FALSE NEIGHBOUR: 'it returns false'. Refute it at one input. -/
def fnExactTotalStepsWrong : ChangeSpec := { name := "fnExactTotalSteps", fn := fun _ => fun
  | [d] => { results := [.lit (.bool false)], args := [d] }
  | _ => none }
def FnExactTotalStepsWrongFalsely : Prop := fnExactTotalStepsRow.holds Try.pinned (OpenSpec.ofChange fnExactTotalStepsWrong)

/-- 'laws.FnExactCountEvents': WHATEVER THE INPUT: true; the input reads as it did. -/
def fnExactCountEventsSpec : ChangeSpec := { name := "fnExactCountEvents", fn := fun _ => fun
  | [d1, d2] => { results := [.lit (.bool true)], args := [d1, d2] }
  | _ => none }
def fnExactCountEventsRow : OpenClaim := { program := "ytbkcoechoblndaa", sum := "164c6215949a8afeaf8158115f9ee8afa75181c4a8487127d23e775971db77c3", func := "loop.example/g03005/laws.FnExactCountEvents", spec := "fnExactCountEvents", apart := false }
def FnExactCountEventsSaid : Prop := fnExactCountEventsRow.holds Try.pinned (OpenSpec.ofChange fnExactCountEventsSpec)

/-- ITS FALSE NEIGHBOUR: 'it returns false'. Refute it at one input. -/
def fnExactCountEventsWrong : ChangeSpec := { name := "fnExactCountEvents", fn := fun _ => fun
  | [d1, d2] => { results := [.lit (.bool false)], args := [d1, d2] }
  | _ => none }
def FnExactCountEventsWrongFalsely : Prop := fnExactCountEventsRow.holds Try.pinned (OpenSpec.ofChange fnExactCountEventsWrong)

/-- 'laws.FnExactTotalArea': WHATEVER THE INPUT: true; the input reads as it did. -/
def fnExactTotalAreaSpec : ChangeSpec := { name := "fnExactTotalArea", fn := fun _ => fun
  | [d] => { results := [.lit (.bool true)], args := [d] }
  | _ => none }
def fnExactTotalAreaRow : OpenClaim := { program := "ytbkcoechoblndaa", sum := "164c6215949a8afeaf8158115f9ee8afa75181c4a8487127d23e775971db77c3", func := "loop.example/g03005/laws.FnExactTotalArea", spec := "fnExactTotalArea", apart := false }
def FnExactTotalAreaSaid : Prop := fnExactTotalAreaRow.holds Try.pinned (OpenSpec.ofChange fnExactTotalAreaSpec)

/-- ITS FALSE NEIGHBOUR: 'it returns false'. Refute it at one input. -/
def fnExactTotalAreaWrong : ChangeSpec := { name := "fnExactTotalArea", fn := fun _ => fun
  | [d] => { results := [.lit (.bool false)], args := [d] }
  | _ => none }
def FnExactTotalAreaWrongFalsely : Prop := fnExactTotalAreaRow.holds Try.pinned (OpenSpec.ofChange fnExactTotalAreaWrong)

/-- 'laws.FnExactPutAll': WHATEVER THE INPUT: true; the input reads as it did. -/
def fnExactPutAllSpec : ChangeSpec := { name := "fnExactPutAll", fn := fun _ => fun
  | [d1, d2] => { results := [.lit (.bool true)], args := [d1, d2] }
  | _ => none }
def fnExactPutAllRow : OpenClaim := { program := "ytbkcoechoblndaa", sum := "164c6215949a8afeaf8158115f9ee8afa75181c4a8487127d23e775971db77c3", func := "loop.example/g03005/laws.FnExactPutAll", spec := "fnExactPutAll", apart := false }
def FnExactPutAllSaid : Prop := fnExactPutAllRow.holds Try.pinned (OpenSpec.ofChange fnExactPutAllSpec)

/-- ITS FALSE NEIGHBOUR: 'it returns false'. Refute it at one input. -/
def fnExactPutAllWrong : ChangeSpec := { name := "fnExactPutAll", fn := fun _ => fun
  | [d1, d2] => { results := [.lit (.bool false)], args := [d1, d2] }
  | _ => none }
def FnExactPutAllWrongFalsely : Prop := fnExactPutAllRow.holds Try.pinned (OpenSpec.ofChange fnExactPutAllWrong)

/-- 'laws.FnExactEqualAtlases': WHATEVER THE INPUT: true; the input reads as it did. -/
def fnExactEqualAtlasesSpec : ChangeSpec := { name := "fnExactEqualAtlases", fn := fun _ => fun
  | [d1, d2] => { results := [.lit (.bool true)], args := [d1, d2] }
  | _ => none }
def fnExactEqualAtlasesRow : OpenClaim := { program := "ytbkcoechoblndaa", sum := "164c6215949a8afeaf8158115f9ee8afa75181c4a8487127d23e775971db77c3", func := "loop.example/g03005/laws.FnExactEqualAtlases", spec := "fnExactEqualAtlases", unfollowed := true, recurses := true, apart := false }
def FnExactEqualAtlasesSaid : Prop := fnExactEqualAtlasesRow.holds Try.pinned (OpenSpec.ofChange fnExactEqualAtlasesSpec)

/-- ITS FALSE NEIGHBOUR: 'it returns false'. Refute it at one input. -/
def fnExactEqualAtlasesWrong : ChangeSpec := { name := "fnExactEqualAtlases", fn := fun _ => fun
  | [d1, d2] => { results := [.lit (.bool false)], args := [d1, d2] }
  | _ => none }
def FnExactEqualAtlasesWrongFalsely : Prop := fnExactEqualAtlasesRow.holds Try.pinned (OpenSpec.ofChange fnExactEqualAtlasesWrong)

/- THE SECOND FORM. 'bulk': how many values and letters a reading holds, each counted each time it is reached (what is shared counts as often as it is met; a slice's spare places count too). A statement '..UptoSaid' is the law's where the arguments, and the package variables that the reading takes, are together of bulk at most 1048576: NARROWER than '..Said'. Prove '..Said' where nothing that the law and all that it calls make is longer than what came in: it says more and counts as full. Else prove '..UptoSaid'. A law counts once. -/
mutual
def uptoBulk {H : Type} : DataW H → Nat
  | .lit (.string bytes) => bytes.length + 1
  | .lit _ => 1
  | .nil => 1
  | .ptr d => uptoBulk d + 1
  | .slice elems spare => uptoBulkAll elems + uptoBulkAll spare + 1
  | .agg parts => uptoBulkAll parts + 1
  | .iface _ d => uptoBulk d + 1
  | .map entries => uptoBulkEntries entries + 1
  | .held _ => 1
def uptoBulkAll {H : Type} : List (DataW H) → Nat
  | [] => 0
  | d :: r => uptoBulk d + uptoBulkAll r
def uptoBulkEntries {H : Type} : List (Lit × DataW H) → Nat
  | [] => 0
  | x :: r => uptoBulkEntry x + uptoBulkEntries r
def uptoBulkEntry {H : Type} : Lit × DataW H → Nat
  | (.string bytes, d) => bytes.length + uptoBulk d + 1
  | (_, d) => uptoBulk d + 1
 end
def uptoSmall : (H : Type) → List (DataW H) → Bool := fun _ ds => decide (uptoBulkAll ds ≤ 1048576)
def OpenSpec.upto (s : _root_.Go.ChangeSpec) : _root_.Go.OpenSpec := { _root_.Go.OpenSpec.ofChange s with cond := some uptoSmall }

/-- 'laws.FnExactShareOf', WHERE WHAT IT READS IS OF BULK AT MOST 1048576: true; the input reads as it did. -/
def fnExactShareOfUptoRow : OpenClaim := { program := "ytbkcoechoblndaa", sum := "164c6215949a8afeaf8158115f9ee8afa75181c4a8487127d23e775971db77c3", func := "loop.example/g03005/laws.FnExactShareOf", spec := "fnExactShareOf", inPlace := ["internal/bytealg.CountString", "internal/bytealg.IndexByteString", "internal/bytealg.IndexString"], named := ["internal/bytealg.MaxLen"], apart := false, narrowed := true }
def FnExactShareOfUptoSaid : Prop := fnExactShareOfUptoRow.holds Try.pinned (OpenSpec.upto fnExactShareOfSpec)

/-- 'laws.FnExactTotalSteps', WHERE WHAT IT READS IS OF BULK AT MOST 1048576: true; the input reads as it did. -/
def fnExactTotalStepsUptoRow : OpenClaim := { program := "ytbkcoechoblndaa", sum := "164c6215949a8afeaf8158115f9ee8afa75181c4a8487127d23e775971db77c3", func := "loop.example/g03005/laws.FnExactTotalSteps", spec := "fnExactTotalSteps", apart := false, narrowed := true }
def FnExactTotalStepsUptoSaid : Prop := fnExactTotalStepsUptoRow.holds Try.pinned (OpenSpec.upto fnExactTotalStepsSpec)

/-- 'laws.FnExactCountEvents', WHERE WHAT IT READS IS OF BULK AT MOST 1048576: true; the input reads as it did. -/
def fnExactCountEventsUptoRow : OpenClaim := { program := "ytbkcoechoblndaa", sum := "164c6215949a8afeaf8158115f9ee8afa75181c4a8487127d23e775971db77c3", func := "loop.example/g03005/laws.FnExactCountEvents", spec := "fnExactCountEvents", apart := false, narrowed := true }
def FnExactCountEventsUptoSaid : Prop := fnExactCountEventsUptoRow.holds Try.pinned (OpenSpec.upto fnExactCountEventsSpec)

/-- 'laws.FnExactTotalArea', WHERE WHAT IT READS IS OF BULK AT MOST 1048576: true; the input reads as it did. -/
def fnExactTotalAreaUptoRow : OpenClaim := { program := "ytbkcoechoblndaa", sum := "164c6215949a8afeaf8158115f9ee8afa75181c4a8487127d23e775971db77c3", func := "loop.example/g03005/laws.FnExactTotalArea", spec := "fnExactTotalArea", apart := false, narrowed := true }
def FnExactTotalAreaUptoSaid : Prop := fnExactTotalAreaUptoRow.holds Try.pinned (OpenSpec.upto fnExactTotalAreaSpec)

/-- 'laws.FnExactPutAll', WHERE WHAT IT READS IS OF BULK AT MOST 1048576: true; the input reads as it did. -/
def fnExactPutAllUptoRow : OpenClaim := { program := "ytbkcoechoblndaa", sum := "164c6215949a8afeaf8158115f9ee8afa75181c4a8487127d23e775971db77c3", func := "loop.example/g03005/laws.FnExactPutAll", spec := "fnExactPutAll", apart := false, narrowed := true }
def FnExactPutAllUptoSaid : Prop := fnExactPutAllUptoRow.holds Try.pinned (OpenSpec.upto fnExactPutAllSpec)

/-- 'laws.FnExactEqualAtlases', WHERE WHAT IT READS IS OF BULK AT MOST 1048576: true; the input reads as it did. -/
def fnExactEqualAtlasesUptoRow : OpenClaim := { program := "ytbkcoechoblndaa", sum := "164c6215949a8afeaf8158115f9ee8afa75181c4a8487127d23e775971db77c3", func := "loop.example/g03005/laws.FnExactEqualAtlases", spec := "fnExactEqualAtlases", unfollowed := true, recurses := true, apart := false, narrowed := true }
def FnExactEqualAtlasesUptoSaid : Prop := fnExactEqualAtlasesUptoRow.holds Try.pinned (OpenSpec.upto fnExactEqualAtlasesSpec)

end Rows
end Go.Proofs.Ytbkcoechoblndaa
