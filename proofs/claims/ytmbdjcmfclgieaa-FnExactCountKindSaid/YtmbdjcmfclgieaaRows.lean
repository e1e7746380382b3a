/-
  No cell of these rows narrows 'for every input' (looked for: loops, veiled, ifaces, maps, wideKeys, modest, calm, conditions, laid).
  DERIVED. THE GIVEN ROWS OF THIS SEAT. 6 by the template 'for every input the law returns true; each argument reads behind the call as it read before'; 0 by the template 'total and deterministic' (their statements: YtmbdjcmfclgieaaTotals.lean).
  GIVEN WITH THE SEED: the statements are not yours to turn. If you find one false, say at which input.
  Laid BY PROGRAM, IN A SANDBOX (cutbox-rows.mjs): the forced cells as the released guide's own fill.sh prints them over the translation ab46d6b89caf987f… (all of the seat's roots in one cut). By AI agents, Wed Nov 11 2026. No macro, syntax, notation, axiom, sorry.
-/
import Derived.Test.YtmbdjcmfclgieaaChecked
import GoSem.Claim
import GoSem.ClaimJoined
import GoSem.ClaimMapViews
import Derived.JoinedTies
import Derived.KernelRfl
namespace Go.Proofs.Ytmbdjcmfclgieaa
/- THE CELL 'sum', in the pinned program and in every row, IS THE sha256 OF THE DUMP (.gsa) THAT YtmbdjcmfclgieaaProg.lean LOADS. Nothing in Lean hashes anything: it is a label: what it is worth is what the hold of that sum in a sandbox is worth. -/
noncomputable def Try.pinned : Pinned := { name := "ytmbdjcmfclgieaa", sum := "ab46d6b89caf987f083cda08de882b5d16e566e205411bdf98f5883cd8b70037", checked := Try.checked }
namespace Rows
def none {H : Type} : Left H := { results := [], args := [] }

/-- 'laws.FnExactEventName': WHATEVER THE INPUT: true; the input reads as it did. -/
def fnExactEventNameSpec : ChangeSpec := { name := "fnExactEventName", fn := fun _ => fun
  | [d] => { results := [.lit (.bool true)], args := [d] }
  | _ => none }
def fnExactEventNameRow : OpenClaim := { program := "ytmbdjcmfclgieaa", sum := "ab46d6b89caf987f083cda08de882b5d16e566e205411bdf98f5883cd8b70037", func := "loop.example/g03005/laws.FnExactEventName", spec := "fnExactEventName", apart := false }
def FnExactEventNameSaid : Prop := fnExactEventNameRow.holds Try.pinned (OpenSpec.ofChange fnExactEventNameSpec)

/-- ITS FALSE NEIGHBOUR: 'it returns false'. Refute it at one input. -/
def fnExactEventNameWrong : ChangeSpec := { name := "fnExactEventName", fn := fun _ => fun
  | [d] => { results := [.lit (.bool false)], args := [d] }
  | _ => none }
def FnExactEventNameWrongFalsely : Prop := fnExactEventNameRow.holds Try.pinned (OpenSpec.ofChange fnExactEventNameWrong)

/-- 'laws.FnExactIsWindow': WHATEVER THE INPUT: true; the input reads as it did. -/
def fnExactIsWindowSpec : ChangeSpec := { name := "fnExactIsWindow", fn := fun _ => fun
  | [d] => { results := [.lit (.bool true)], args := [d] }
  | _ => none }
def fnExactIsWindowRow : OpenClaim := { program := "ytmbdjcmfclgieaa", sum := "ab46d6b89caf987f083cda08de882b5d16e566e205411bdf98f5883cd8b70037", func := "loop.example/g03005/laws.FnExactIsWindow", spec := "fnExactIsWindow", apart := false }
def FnExactIsWindowSaid : Prop := fnExactIsWindowRow.holds Try.pinned (OpenSpec.ofChange fnExactIsWindowSpec)

/-- ITS FALSE NEIGHBOUR: 'it returns false'. Refute it at one input. -/
def fnExactIsWindowWrong : ChangeSpec := { name := "fnExactIsWindow", fn := fun _ => fun
  | [d] => { results := [.lit (.bool false)], args := [d] }
  | _ => none }
def FnExactIsWindowWrongFalsely : Prop := fnExactIsWindowRow.holds Try.pinned (OpenSpec.ofChange fnExactIsWindowWrong)

/-- 'laws.FnExactPan': WHATEVER THE INPUT: true; the input reads as it did. -/
def fnExactPanSpec : ChangeSpec := { name := "fnExactPan", fn := fun _ => fun
  | [d1, d2, d3] => { results := [.lit (.bool true)], args := [d1, d2, d3] }
  | _ => none }
def fnExactPanRow : OpenClaim := { program := "ytmbdjcmfclgieaa", sum := "ab46d6b89caf987f083cda08de882b5d16e566e205411bdf98f5883cd8b70037", func := "loop.example/g03005/laws.FnExactPan", spec := "fnExactPan", apart := false }
def FnExactPanSaid : Prop := fnExactPanRow.holds Try.pinned (OpenSpec.ofChange fnExactPanSpec)

/-- ITS FALSE NEIGHBOUR: 'it returns false'. Refute it at one input. -/
def fnExactPanWrong : ChangeSpec := { name := "fnExactPan", fn := fun _ => fun
  | [d1, d2, d3] => { results := [.lit (.bool false)], args := [d1, d2, d3] }
  | _ => none }
def FnExactPanWrongFalsely : Prop := fnExactPanRow.holds Try.pinned (OpenSpec.ofChange fnExactPanWrong)

/-- 'laws.FnExactZoom': WHATEVER THE INPUT: true; the input reads as it did. -/
def fnExactZoomSpec : ChangeSpec := { name := "fnExactZoom", fn := fun _ => fun
  | [d1, d2] => { results := [.lit (.bool true)], args := [d1, d2] }
  | _ => none }
def fnExactZoomRow : OpenClaim := { program := "ytmbdjcmfclgieaa", sum := "ab46d6b89caf987f083cda08de882b5d16e566e205411bdf98f5883cd8b70037", func := "loop.example/g03005/laws.FnExactZoom", spec := "fnExactZoom", apart := false }
def FnExactZoomSaid : Prop := fnExactZoomRow.holds Try.pinned (OpenSpec.ofChange fnExactZoomSpec)

/-- ITS FALSE NEIGHBOUR: 'it returns false'. Refute it at one input. -/
def fnExactZoomWrong : ChangeSpec := { name := "fnExactZoom", fn := fun _ => fun
  | [d1, d2] => { results := [.lit (.bool false)], args := [d1, d2] }
  | _ => none }
def FnExactZoomWrongFalsely : Prop := fnExactZoomRow.holds Try.pinned (OpenSpec.ofChange fnExactZoomWrong)

/-- 'laws.FnExactTilesFor': WHATEVER THE INPUT: true; the input reads as it did. -/
def fnExactTilesForSpec : ChangeSpec := { name := "fnExactTilesFor", fn := fun _ => fun
  | [d] => { results := [.lit (.bool true)], args := [d] }
  | _ => none }
def fnExactTilesForRow : OpenClaim := { program := "ytmbdjcmfclgieaa", sum := "ab46d6b89caf987f083cda08de882b5d16e566e205411bdf98f5883cd8b70037", func := "loop.example/g03005/laws.FnExactTilesFor", spec := "fnExactTilesFor", apart := false }
def FnExactTilesForSaid : Prop := fnExactTilesForRow.holds Try.pinned (OpenSpec.ofChange fnExactTilesForSpec)

/-- ITS FALSE NEIGHBOUR: 'it returns false'. Refute it at one input. -/
def fnExactTilesForWrong : ChangeSpec := { name := "fnExactTilesFor", fn := fun _ => fun
  | [d] => { results := [.lit (.bool false)], args := [d] }
  | _ => none }
def FnExactTilesForWrongFalsely : Prop := fnExactTilesForRow.holds Try.pinned (OpenSpec.ofChange fnExactTilesForWrong)

/-- 'laws.FnExactCountKind': WHATEVER THE INPUT: true; the input reads as it did. -/
def fnExactCountKindSpec : ChangeSpec := { name := "fnExactCountKind", fn := fun _ => fun
  | [d1, d2] => { results := [.lit (.bool true)], args := [d1, d2] }
  | _ => none }
def fnExactCountKindRow : OpenClaim := { program := "ytmbdjcmfclgieaa", sum := "ab46d6b89caf987f083cda08de882b5d16e566e205411bdf98f5883cd8b70037", func := "loop.example/g03005/laws.FnExactCountKind", spec := "fnExactCountKind", apart := false }
def FnExactCountKindSaid : Prop := fnExactCountKindRow.holds Try.pinned (OpenSpec.ofChange fnExactCountKindSpec)

/-- ITS FALSE NEIGHBOUR: 'it returns false'. Refute it at one input. -/
def fnExactCountKindWrong : ChangeSpec := { name := "fnExactCountKind", fn := fun _ => fun
  | [d1, d2] => { results := [.lit (.bool false)], args := [d1, d2] }
  | _ => none }
def FnExactCountKindWrongFalsely : Prop := fnExactCountKindRow.holds Try.pinned (OpenSpec.ofChange fnExactCountKindWrong)

/- THE SECOND FORM. 'bulk': how many values and letters a reading holds, each counted each time it is reached (what is shared counts as often as it is met; a slice's spare places count too). A statement '..UptoSaid' is the law's where the arguments, and the package variables that the reading takes, are together of bulk at most 1048576: NARROWER than '..Said'. Prove '..Said' where nothing that the law and all that it calls make is longer than what came in: it says more and counts as full. Else prove '..UptoSaid'. A law counts once. -/
mutual
def uptoBulk {H : Type} : DataW H → Nat
  | .lit (.string bytes) => bytes.length + 1
  | .lit _ => 1
  | .nil => 1
  | .ptr d => uptoBulk d + 1
  | .slice elems spare => uptoBulkAll elems + uptoBulkAll spare + 1
  | .agg parts => uptoBulkAll parts + 1
  | .iface _ d => uptoBulk d + 1
  | .map entries => uptoBulkEntries entries + 1
  | .held _ => 1
def uptoBulkAll {H : Type} : List (DataW H) → Nat
  | [] => 0
  | d :: r => uptoBulk d + uptoBulkAll r
def uptoBulkEntries {H : Type} : List (Lit × DataW H) → Nat
  | [] => 0
  | x :: r => uptoBulkEntry x + uptoBulkEntries r
def uptoBulkEntry {H : Type} : Lit × DataW H → Nat
  | (.string bytes, d) => bytes.length + uptoBulk d + 1
  | (_, d) => uptoBulk d + 1
 end
def uptoSmall : (H : Type) → List (DataW H) → Bool := fun _ ds => decide (uptoBulkAll ds ≤ 1048576)
def OpenSpec.upto (s : _root_.Go.ChangeSpec) : _root_.Go.OpenSpec := { _root_.Go.OpenSpec.ofChange s with cond := some uptoSmall }

/-- 'laws.FnExactEventName', WHERE WHAT IT READS IS OF BULK AT MOST 1048576: true; the input reads as it did. -/
def fnExactEventNameUptoRow : OpenClaim := { program := "ytmbdjcmfclgieaa", sum := "ab46d6b89caf987f083cda08de882b5d16e566e205411bdf98f5883cd8b70037", func := "loop.example/g03005/laws.FnExactEventName", spec := "fnExactEventName", apart := false, narrowed := true }
def FnExactEventNameUptoSaid : Prop := fnExactEventNameUptoRow.holds Try.pinned (OpenSpec.upto fnExactEventNameSpec)

/-- 'laws.FnExactIsWindow', WHERE WHAT IT READS IS OF BULK AT MOST 1048576: true; the input reads as it did. -/
def fnExactIsWindowUptoRow : OpenClaim := { program := "ytmbdjcmfclgieaa", sum := "ab46d6b89caf987f083cda08de882b5d16e566e205411bdf98f5883cd8b70037", func := "loop.example/g03005/laws.FnExactIsWindow", spec := "fnExactIsWindow", apart := false, narrowed := true }
def FnExactIsWindowUptoSaid : Prop := fnExactIsWindowUptoRow.holds Try.pinned (OpenSpec.upto fnExactIsWindowSpec)

/-- 'laws.FnExactPan', WHERE WHAT IT READS IS OF BULK AT MOST 1048576: true; the input reads as it did. -/
def fnExactPanUptoRow : OpenClaim := { program := "ytmbdjcmfclgieaa", sum := "ab46d6b89caf987f083cda08de882b5d16e566e205411bdf98f5883cd8b70037", func := "loop.example/g03005/laws.FnExactPan", spec := "fnExactPan", apart := false, narrowed := true }
def FnExactPanUptoSaid : Prop := fnExactPanUptoRow.holds Try.pinned (OpenSpec.upto fnExactPanSpec)

/-- 'laws.FnExactZoom', WHERE WHAT IT READS IS OF BULK AT MOST 1048576: true; the input reads as it did. -/
def fnExactZoomUptoRow : OpenClaim := { program := "ytmbdjcmfclgieaa", sum := "ab46d6b89caf987f083cda08de882b5d16e566e205411bdf98f5883cd8b70037", func := "loop.example/g03005/laws.FnExactZoom", spec := "fnExactZoom", apart := false, narrowed := true }
def FnExactZoomUptoSaid : Prop := fnExactZoomUptoRow.holds Try.pinned (OpenSpec.upto fnExactZoomSpec)

/-- 'laws.FnExactTilesFor', WHERE WHAT IT READS IS OF BULK AT MOST 1048576: true; the input reads as it did. -/
def fnExactTilesForUptoRow : OpenClaim := { program := "ytmbdjcmfclgieaa", sum := "ab46d6b89caf987f083cda08de882b5d16e566e205411bdf98f5883cd8b70037", func := "loop.example/g03005/laws.FnExactTilesFor", spec := "fnExactTilesFor", apart := false, narrowed := true }
def FnExactTilesForUptoSaid : Prop := fnExactTilesForUptoRow.holds Try.pinned (OpenSpec.upto fnExactTilesForSpec)

/-- 'laws.FnExactCountKind', WHERE WHAT IT READS IS OF BULK AT MOST 1048576: true; the input reads as it did. -/
def fnExactCountKindUptoRow : OpenClaim := { program := "ytmbdjcmfclgieaa", sum := "ab46d6b89caf987f083cda08de882b5d16e566e205411bdf98f5883cd8b70037", func := "loop.example/g03005/laws.FnExactCountKind", spec := "fnExactCountKind", apart := false, narrowed := true }
def FnExactCountKindUptoSaid : Prop := fnExactCountKindUptoRow.holds Try.pinned (OpenSpec.upto fnExactCountKindSpec)

end Rows
end Go.Proofs.Ytmbdjcmfclgieaa
