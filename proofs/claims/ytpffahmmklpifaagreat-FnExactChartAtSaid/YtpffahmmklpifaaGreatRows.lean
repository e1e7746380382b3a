/-
  No cell of these rows narrows 'for every input' (looked for: loops, veiled, ifaces, maps, wideKeys, modest, calm, conditions, laid).
  DERIVED. THE GIVEN ROWS OF THIS SEAT. 9 by the template 'for every input the law returns true; each argument reads behind the call as it read before'; 0 by the template 'total and deterministic' (their statements: YtpffahmmklpifaaGreatTotals.lean).
  GIVEN WITH THE SEED: the statements are not yours to turn. If you find one false, say at which input.
  Laid BY PROGRAM, IN A SANDBOX (cutbox-rows.mjs): the forced cells as the released guide's own fill.sh prints them over the translation d501032e882bf429… (all of the seat's roots in one cut). By AI agents, Wed Nov 11 2026. No macro, syntax, notation, axiom, sorry.
-/
import Derived.Test.YtpffahmmklpifaaGreatChecked
import GoSem.Claim
import GoSem.ClaimJoined
import GoSem.ClaimMapViews
import Derived.JoinedTies
import Derived.KernelRfl
namespace Go.Proofs.YtpffahmmklpifaaGreat
/- THE CELL 'sum', in the pinned program and in every row, IS THE sha256 OF THE DUMP (.gsa) THAT YtpffahmmklpifaaGreatProg.lean LOADS. Nothing in Lean hashes anything: it is a label: what it is worth is what the hold of that sum in a sandbox is worth. -/
noncomputable def Tryz.pinned : Pinned := { name := "ytpffahmmklpifaagreat", sum := "d501032e882bf4290841055d0d67e6e7af26eb1661baf8e2bbe6d2f58b97653b", checked := Tryz.checked }
namespace Rows
def none {H : Type} : Left H := { results := [], args := [] }

/-- 'laws.FnExactAreJoined': WHATEVER THE INPUT: true; the input reads as it did. -/
def fnExactAreJoinedSpec : ChangeSpec := { name := "fnExactAreJoined", fn := fun _ => fun
  | [d] => { results := [.lit (.bool true)], args := [d] }
  | _ => none }
def fnExactAreJoinedRow : OpenClaim := { program := "ytpffahmmklpifaagreat", sum := "d501032e882bf4290841055d0d67e6e7af26eb1661baf8e2bbe6d2f58b97653b", func := "loop.example/g03005/laws.FnExactAreJoined", spec := "fnExactAreJoined", unfollowed := true, recurses := true, apart := false }
def FnExactAreJoinedSaid : Prop := fnExactAreJoinedRow.holds Tryz.pinned (OpenSpec.ofChange fnExactAreJoinedSpec)

/-- ITS FALSE NEIGHBOUR: 'it returns false'. Refute it at one input. -/
def fnExactAreJoinedWrong : ChangeSpec := { name := "fnExactAreJoined", fn := fun _ => fun
  | [d] => { results := [.lit (.bool false)], args := [d] }
  | _ => none }
def FnExactAreJoinedWrongFalsely : Prop := fnExactAreJoinedRow.holds Tryz.pinned (OpenSpec.ofChange fnExactAreJoinedWrong)

/-- 'laws.FnExactLeftOut': WHATEVER THE INPUT: true; the input reads as it did. -/
def fnExactLeftOutSpec : ChangeSpec := { name := "fnExactLeftOut", fn := fun _ => fun
  | [d1, d2] => { results := [.lit (.bool true)], args := [d1, d2] }
  | _ => none }
def fnExactLeftOutRow : OpenClaim := { program := "ytpffahmmklpifaagreat", sum := "d501032e882bf4290841055d0d67e6e7af26eb1661baf8e2bbe6d2f58b97653b", func := "loop.example/g03005/laws.FnExactLeftOut", spec := "fnExactLeftOut", unfollowed := true, recurses := true, apart := false }
def FnExactLeftOutSaid : Prop := fnExactLeftOutRow.holds Tryz.pinned (OpenSpec.ofChange fnExactLeftOutSpec)

/-- ITS FALSE NEIGHBOUR: 'it returns false'. Refute it at one input. -/
def fnExactLeftOutWrong : ChangeSpec := { name := "fnExactLeftOut", fn := fun _ => fun
  | [d1, d2] => { results := [.lit (.bool false)], args := [d1, d2] }
  | _ => none }
def FnExactLeftOutWrongFalsely : Prop := fnExactLeftOutRow.holds Tryz.pinned (OpenSpec.ofChange fnExactLeftOutWrong)

/-- 'laws.FnExactLevelFor': WHATEVER THE INPUT: true; the input reads as it did. -/
def fnExactLevelForSpec : ChangeSpec := { name := "fnExactLevelFor", fn := fun _ => fun
  | [d1, d2, d3] => { results := [.lit (.bool true)], args := [d1, d2, d3] }
  | _ => none }
def fnExactLevelForRow : OpenClaim := { program := "ytpffahmmklpifaagreat", sum := "d501032e882bf4290841055d0d67e6e7af26eb1661baf8e2bbe6d2f58b97653b", func := "loop.example/g03005/laws.FnExactLevelFor", spec := "fnExactLevelFor", unfollowed := true, recurses := true, apart := false }
def FnExactLevelForSaid : Prop := fnExactLevelForRow.holds Tryz.pinned (OpenSpec.ofChange fnExactLevelForSpec)

/-- ITS FALSE NEIGHBOUR: 'it returns false'. Refute it at one input. -/
def fnExactLevelForWrong : ChangeSpec := { name := "fnExactLevelFor", fn := fun _ => fun
  | [d1, d2, d3] => { results := [.lit (.bool false)], args := [d1, d2, d3] }
  | _ => none }
def FnExactLevelForWrongFalsely : Prop := fnExactLevelForRow.holds Tryz.pinned (OpenSpec.ofChange fnExactLevelForWrong)

/-- 'laws.FnExactLadderPoints': WHATEVER THE INPUT: true; the input reads as it did. -/
def fnExactLadderPointsSpec : ChangeSpec := { name := "fnExactLadderPoints", fn := fun _ => fun
  | [d1, d2] => { results := [.lit (.bool true)], args := [d1, d2] }
  | _ => none }
def fnExactLadderPointsRow : OpenClaim := { program := "ytpffahmmklpifaagreat", sum := "d501032e882bf4290841055d0d67e6e7af26eb1661baf8e2bbe6d2f58b97653b", func := "loop.example/g03005/laws.FnExactLadderPoints", spec := "fnExactLadderPoints", unfollowed := true, recurses := true, apart := false }
def FnExactLadderPointsSaid : Prop := fnExactLadderPointsRow.holds Tryz.pinned (OpenSpec.ofChange fnExactLadderPointsSpec)

/-- ITS FALSE NEIGHBOUR: 'it returns false'. Refute it at one input. -/
def fnExactLadderPointsWrong : ChangeSpec := { name := "fnExactLadderPoints", fn := fun _ => fun
  | [d1, d2] => { results := [.lit (.bool false)], args := [d1, d2] }
  | _ => none }
def FnExactLadderPointsWrongFalsely : Prop := fnExactLadderPointsRow.holds Tryz.pinned (OpenSpec.ofChange fnExactLadderPointsWrong)

/-- 'laws.FnExactAreNamesApart': WHATEVER THE INPUT: true; the input reads as it did. -/
def fnExactAreNamesApartSpec : ChangeSpec := { name := "fnExactAreNamesApart", fn := fun _ => fun
  | [d] => { results := [.lit (.bool true)], args := [d] }
  | _ => none }
def fnExactAreNamesApartRow : OpenClaim := { program := "ytpffahmmklpifaagreat", sum := "d501032e882bf4290841055d0d67e6e7af26eb1661baf8e2bbe6d2f58b97653b", func := "loop.example/g03005/laws.FnExactAreNamesApart", spec := "fnExactAreNamesApart", unfollowed := true, recurses := true, apart := false }
def FnExactAreNamesApartSaid : Prop := fnExactAreNamesApartRow.holds Tryz.pinned (OpenSpec.ofChange fnExactAreNamesApartSpec)

/-- ITS FALSE NEIGHBOUR: 'it returns false'. Refute it at one input. -/
def fnExactAreNamesApartWrong : ChangeSpec := { name := "fnExactAreNamesApart", fn := fun _ => fun
  | [d] => { results := [.lit (.bool false)], args := [d] }
  | _ => none }
def FnExactAreNamesApartWrongFalsely : Prop := fnExactAreNamesApartRow.holds Tryz.pinned (OpenSpec.ofChange fnExactAreNamesApartWrong)

/-- 'laws.FnExactNoneCross': WHATEVER THE INPUT: true; the input reads as it did. -/
def fnExactNoneCrossSpec : ChangeSpec := { name := "fnExactNoneCross", fn := fun _ => fun
  | [d] => { results := [.lit (.bool true)], args := [d] }
  | _ => none }
def fnExactNoneCrossRow : OpenClaim := { program := "ytpffahmmklpifaagreat", sum := "d501032e882bf4290841055d0d67e6e7af26eb1661baf8e2bbe6d2f58b97653b", func := "loop.example/g03005/laws.FnExactNoneCross", spec := "fnExactNoneCross", unfollowed := true, recurses := true, apart := false }
def FnExactNoneCrossSaid : Prop := fnExactNoneCrossRow.holds Tryz.pinned (OpenSpec.ofChange fnExactNoneCrossSpec)

/-- ITS FALSE NEIGHBOUR: 'it returns false'. Refute it at one input. -/
def fnExactNoneCrossWrong : ChangeSpec := { name := "fnExactNoneCross", fn := fun _ => fun
  | [d] => { results := [.lit (.bool false)], args := [d] }
  | _ => none }
def FnExactNoneCrossWrongFalsely : Prop := fnExactNoneCrossRow.holds Tryz.pinned (OpenSpec.ofChange fnExactNoneCrossWrong)

/-- 'laws.FnExactIsAllExplained': WHATEVER THE INPUT: true; the input reads as it did. -/
def fnExactIsAllExplainedSpec : ChangeSpec := { name := "fnExactIsAllExplained", fn := fun _ => fun
  | [d] => { results := [.lit (.bool true)], args := [d] }
  | _ => none }
def fnExactIsAllExplainedRow : OpenClaim := { program := "ytpffahmmklpifaagreat", sum := "d501032e882bf4290841055d0d67e6e7af26eb1661baf8e2bbe6d2f58b97653b", func := "loop.example/g03005/laws.FnExactIsAllExplained", spec := "fnExactIsAllExplained", unfollowed := true, recurses := true, apart := false }
def FnExactIsAllExplainedSaid : Prop := fnExactIsAllExplainedRow.holds Tryz.pinned (OpenSpec.ofChange fnExactIsAllExplainedSpec)

/-- ITS FALSE NEIGHBOUR: 'it returns false'. Refute it at one input. -/
def fnExactIsAllExplainedWrong : ChangeSpec := { name := "fnExactIsAllExplained", fn := fun _ => fun
  | [d] => { results := [.lit (.bool false)], args := [d] }
  | _ => none }
def FnExactIsAllExplainedWrongFalsely : Prop := fnExactIsAllExplainedRow.holds Tryz.pinned (OpenSpec.ofChange fnExactIsAllExplainedWrong)

/-- 'laws.FnExactChartAt': WHATEVER THE INPUT: true; the input reads as it did. -/
def fnExactChartAtSpec : ChangeSpec := { name := "fnExactChartAt", fn := fun _ => fun
  | [d1, d2] => { results := [.lit (.bool true)], args := [d1, d2] }
  | _ => none }
def fnExactChartAtRow : OpenClaim := { program := "ytpffahmmklpifaagreat", sum := "d501032e882bf4290841055d0d67e6e7af26eb1661baf8e2bbe6d2f58b97653b", func := "loop.example/g03005/laws.FnExactChartAt", spec := "fnExactChartAt", unfollowed := true, recurses := true, apart := false }
def FnExactChartAtSaid : Prop := fnExactChartAtRow.holds Tryz.pinned (OpenSpec.ofChange fnExactChartAtSpec)

/-- ITS FALSE NEIGHBOUR: 'it returns false'. Refute it at one input. -/
def fnExactChartAtWrong : ChangeSpec := { name := "fnExactChartAt", fn := fun _ => fun
  | [d1, d2] => { results := [.lit (.bool false)], args := [d1, d2] }
  | _ => none }
def FnExactChartAtWrongFalsely : Prop := fnExactChartAtRow.holds Tryz.pinned (OpenSpec.ofChange fnExactChartAtWrong)

/-- 'laws.FnExactOldChart': WHATEVER THE INPUT: true; the input reads as it did. -/
def fnExactOldChartSpec : ChangeSpec := { name := "fnExactOldChart", fn := fun _ => fun
  | [d1, d2, d3] => { results := [.lit (.bool true)], args := [d1, d2, d3] }
  | _ => none }
def fnExactOldChartRow : OpenClaim := { program := "ytpffahmmklpifaagreat", sum := "d501032e882bf4290841055d0d67e6e7af26eb1661baf8e2bbe6d2f58b97653b", func := "loop.example/g03005/laws.FnExactOldChart", spec := "fnExactOldChart", unfollowed := true, recurses := true, apart := false }
def FnExactOldChartSaid : Prop := fnExactOldChartRow.holds Tryz.pinned (OpenSpec.ofChange fnExactOldChartSpec)

/-- ITS FALSE NEIGHBOUR: 'it returns false'. Refute it at one input. -/
def fnExactOldChartWrong : ChangeSpec := { name := "fnExactOldChart", fn := fun _ => fun
  | [d1, d2, d3] => { results := [.lit (.bool false)], args := [d1, d2, d3] }
  | _ => none }
def FnExactOldChartWrongFalsely : Prop := fnExactOldChartRow.holds Tryz.pinned (OpenSpec.ofChange fnExactOldChartWrong)

/- THE SECOND FORM. 'bulk': how many values and letters a reading holds, each counted each time it is reached (what is shared counts as often as it is met; a slice's spare places count too). A statement '..UptoSaid' is the law's where the arguments, and the package variables that the reading takes, are together of bulk at most 1048576: NARROWER than '..Said'. Prove '..Said' where nothing that the law and all that it calls make is longer than what came in: it says more and counts as full. Else prove '..UptoSaid'. A law counts once. -/
mutual
def uptoBulk {H : Type} : DataW H → Nat
  | .lit (.string bytes) => bytes.length + 1
  | .lit _ => 1
  | .nil => 1
  | .ptr d => uptoBulk d + 1
  | .slice elems spare => uptoBulkAll elems + uptoBulkAll spare + 1
  | .agg parts => uptoBulkAll parts + 1
  | .iface _ d => uptoBulk d + 1
  | .map entries => uptoBulkEntries entries + 1
  | .held _ => 1
def uptoBulkAll {H : Type} : List (DataW H) → Nat
  | [] => 0
  | d :: r => uptoBulk d + uptoBulkAll r
def uptoBulkEntries {H : Type} : List (Lit × DataW H) → Nat
  | [] => 0
  | x :: r => uptoBulkEntry x + uptoBulkEntries r
def uptoBulkEntry {H : Type} : Lit × DataW H → Nat
  | (.string bytes, d) => bytes.length + uptoBulk d + 1
  | (_, d) => uptoBulk d + 1
 end
def uptoSmall : (H : Type) → List (DataW H) → Bool := fun _ ds => decide (uptoBulkAll ds ≤ 1048576)
def OpenSpec.upto (s : _root_.Go.ChangeSpec) : _root_.Go.OpenSpec := { _root_.Go.OpenSpec.ofChange s with cond := some uptoSmall }

/-- 'laws.FnExactAreJoined', WHERE WHAT IT READS IS OF BULK AT MOST 1048576: true; the input reads as it did. -/
def fnExactAreJoinedUptoRow : OpenClaim := { program := "ytpffahmmklpifaagreat", sum := "d501032e882bf4290841055d0d67e6e7af26eb1661baf8e2bbe6d2f58b97653b", func := "loop.example/g03005/laws.FnExactAreJoined", spec := "fnExactAreJoined", unfollowed := true, recurses := true, apart := false, narrowed := true }
def FnExactAreJoinedUptoSaid : Prop := fnExactAreJoinedUptoRow.holds Tryz.pinned (OpenSpec.upto fnExactAreJoinedSpec)

/-- 'laws.FnExactLeftOut', WHERE WHAT IT READS IS OF BULK AT MOST 1048576: true; the input reads as it did. -/
def fnExactLeftOutUptoRow : OpenClaim := { program := "ytpffahmmklpifaagreat", sum := "d501032e882bf4290841055d0d67e6e7af26eb1661baf8e2bbe6d2f58b97653b", func := "loop.example/g03005/laws.FnExactLeftOut", spec := "fnExactLeftOut", unfollowed := true, recurses := true, apart := false, narrowed := true }
def FnExactLeftOutUptoSaid : Prop := fnExactLeftOutUptoRow.holds Tryz.pinned (OpenSpec.upto fnExactLeftOutSpec)

/-- 'laws.FnExactLevelFor', WHERE WHAT IT READS IS OF BULK AT MOST 1048576: true; the input reads as it did. -/
def fnExactLevelForUptoRow : OpenClaim := { program := "ytpffahmmklpifaagreat", sum := "d501032e882bf4290841055d0d67e6e7af26eb1661baf8e2bbe6d2f58b97653b", func := "loop.example/g03005/laws.FnExactLevelFor", spec := "fnExactLevelFor", unfollowed := true, recurses := true, apart := false, narrowed := true }
def FnExactLevelForUptoSaid : Prop := fnExactLevelForUptoRow.holds Tryz.pinned (OpenSpec.upto fnExactLevelForSpec)

/-- 'laws.FnExactLadderPoints', WHERE WHAT IT READS IS OF BULK AT MOST 1048576: true; the input reads as it did. -/
def fnExactLadderPointsUptoRow : OpenClaim := { program := "ytpffahmmklpifaagreat", sum := "d501032e882bf4290841055d0d67e6e7af26eb1661baf8e2bbe6d2f58b97653b", func := "loop.example/g03005/laws.FnExactLadderPoints", spec := "fnExactLadderPoints", unfollowed := true, recurses := true, apart := false, narrowed := true }
def FnExactLadderPointsUptoSaid : Prop := fnExactLadderPointsUptoRow.holds Tryz.pinned (OpenSpec.upto fnExactLadderPointsSpec)

/-- 'laws.FnExactAreNamesApart', WHERE WHAT IT READS IS OF BULK AT MOST 1048576: true; the input reads as it did. -/
def fnExactAreNamesApartUptoRow : OpenClaim := { program := "ytpffahmmklpifaagreat", sum := "d501032e882bf4290841055d0d67e6e7af26eb1661baf8e2bbe6d2f58b97653b", func := "loop.example/g03005/laws.FnExactAreNamesApart", spec := "fnExactAreNamesApart", unfollowed := true, recurses := true, apart := false, narrowed := true }
def FnExactAreNamesApartUptoSaid : Prop := fnExactAreNamesApartUptoRow.holds Tryz.pinned (OpenSpec.upto fnExactAreNamesApartSpec)

/-- 'laws.FnExactNoneCross', WHERE WHAT IT READS IS OF BULK AT MOST 1048576: true; the input reads as it did. -/
def fnExactNoneCrossUptoRow : OpenClaim := { program := "ytpffahmmklpifaagreat", sum := "d501032e882bf4290841055d0d67e6e7af26eb1661baf8e2bbe6d2f58b97653b", func := "loop.example/g03005/laws.FnExactNoneCross", spec := "fnExactNoneCross", unfollowed := true, recurses := true, apart := false, narrowed := true }
def FnExactNoneCrossUptoSaid : Prop := fnExactNoneCrossUptoRow.holds Tryz.pinned (OpenSpec.upto fnExactNoneCrossSpec)

/-- 'laws.FnExactIsAllExplained', WHERE WHAT IT READS IS OF BULK AT MOST 1048576: true; the input reads as it did. -/
def fnExactIsAllExplainedUptoRow : OpenClaim := { program := "ytpffahmmklpifaagreat", sum := "d501032e882bf4290841055d0d67e6e7af26eb1661baf8e2bbe6d2f58b97653b", func := "loop.example/g03005/laws.FnExactIsAllExplained", spec := "fnExactIsAllExplained", unfollowed := true, recurses := true, apart := false, narrowed := true }
def FnExactIsAllExplainedUptoSaid : Prop := fnExactIsAllExplainedUptoRow.holds Tryz.pinned (OpenSpec.upto fnExactIsAllExplainedSpec)

/-- 'laws.FnExactChartAt', WHERE WHAT IT READS IS OF BULK AT MOST 1048576: true; the input reads as it did. -/
def fnExactChartAtUptoRow : OpenClaim := { program := "ytpffahmmklpifaagreat", sum := "d501032e882bf4290841055d0d67e6e7af26eb1661baf8e2bbe6d2f58b97653b", func := "loop.example/g03005/laws.FnExactChartAt", spec := "fnExactChartAt", unfollowed := true, recurses := true, apart := false, narrowed := true }
def FnExactChartAtUptoSaid : Prop := fnExactChartAtUptoRow.holds Tryz.pinned (OpenSpec.upto fnExactChartAtSpec)

/-- 'laws.FnExactOldChart', WHERE WHAT IT READS IS OF BULK AT MOST 1048576: true; the input reads as it did. -/
def fnExactOldChartUptoRow : OpenClaim := { program := "ytpffahmmklpifaagreat", sum := "d501032e882bf4290841055d0d67e6e7af26eb1661baf8e2bbe6d2f58b97653b", func := "loop.example/g03005/laws.FnExactOldChart", spec := "fnExactOldChart", unfollowed := true, recurses := true, apart := false, narrowed := true }
def FnExactOldChartUptoSaid : Prop := fnExactOldChartUptoRow.holds Tryz.pinned (OpenSpec.upto fnExactOldChartSpec)

end Rows
end Go.Proofs.YtpffahmmklpifaaGreat
