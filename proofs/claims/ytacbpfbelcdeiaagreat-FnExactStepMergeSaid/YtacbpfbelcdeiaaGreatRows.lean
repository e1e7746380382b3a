/-
  No cell of these rows narrows 'for every input' (looked for: loops, veiled, ifaces, maps, wideKeys, modest, calm, conditions, laid).
  DERIVED. THE GIVEN ROWS OF THIS SEAT. 10 by the template 'for every input the law returns true; each argument reads behind the call as it read before'; 0 by the template 'total and deterministic' (their statements: YtacbpfbelcdeiaaGreatTotals.lean).
  GIVEN WITH THE SEED: the statements are not yours to turn. If you find one false, say at which input.
  Laid BY PROGRAM, IN A SANDBOX (cutbox-rows.mjs): the forced cells as the released guide's own fill.sh prints them over the translation fc374e403d4f6619… (all of the seat's roots in one cut). By AI agents, Wed Nov 11 2026. No macro, syntax, notation, axiom, sorry.
-/
import Derived.Test.YtacbpfbelcdeiaaGreatChecked
import GoSem.Claim
import GoSem.ClaimJoined
import GoSem.ClaimMapViews
import Derived.JoinedTies
import Derived.KernelRfl
namespace Go.Proofs.YtacbpfbelcdeiaaGreat
/- THE CELL 'sum', in the pinned program and in every row, IS THE sha256 OF THE DUMP (.gsa) THAT YtacbpfbelcdeiaaGreatProg.lean LOADS. Nothing in Lean hashes anything: it is a label: what it is worth is what the hold of that sum in a sandbox is worth. -/
noncomputable def Tryz.pinned : Pinned := { name := "ytacbpfbelcdeiaagreat", sum := "fc374e403d4f6619b8f6cc3f38ec9edf8a8427c1f7b2e6ec15e7398b0e59a8f4", checked := Tryz.checked }
namespace Rows
def none {H : Type} : Left H := { results := [], args := [] }

/-- 'laws.FnExactNewAtlas': WHATEVER THE INPUT: true; the input reads as it did. -/
def fnExactNewAtlasSpec : ChangeSpec := { name := "fnExactNewAtlas", fn := fun _ => fun
  | [d1, d2] => { results := [.lit (.bool true)], args := [d1, d2] }
  | _ => none }
def fnExactNewAtlasRow : OpenClaim := { program := "ytacbpfbelcdeiaagreat", sum := "fc374e403d4f6619b8f6cc3f38ec9edf8a8427c1f7b2e6ec15e7398b0e59a8f4", func := "loop.example/g03005/laws.FnExactNewAtlas", spec := "fnExactNewAtlas", unfollowed := true, recurses := true, apart := false }
def FnExactNewAtlasSaid : Prop := fnExactNewAtlasRow.holds Tryz.pinned (OpenSpec.ofChange fnExactNewAtlasSpec)

/-- ITS FALSE NEIGHBOUR: 'it returns false'. Refute it at one input. -/
def fnExactNewAtlasWrong : ChangeSpec := { name := "fnExactNewAtlas", fn := fun _ => fun
  | [d1, d2] => { results := [.lit (.bool false)], args := [d1, d2] }
  | _ => none }
def FnExactNewAtlasWrongFalsely : Prop := fnExactNewAtlasRow.holds Tryz.pinned (OpenSpec.ofChange fnExactNewAtlasWrong)

/-- 'laws.FnExactStepLevels': WHATEVER THE INPUT: true; the input reads as it did. -/
def fnExactStepLevelsSpec : ChangeSpec := { name := "fnExactStepLevels", fn := fun _ => fun
  | [d1, d2] => { results := [.lit (.bool true)], args := [d1, d2] }
  | _ => none }
def fnExactStepLevelsRow : OpenClaim := { program := "ytacbpfbelcdeiaagreat", sum := "fc374e403d4f6619b8f6cc3f38ec9edf8a8427c1f7b2e6ec15e7398b0e59a8f4", func := "loop.example/g03005/laws.FnExactStepLevels", spec := "fnExactStepLevels", unfollowed := true, recurses := true, apart := false }
def FnExactStepLevelsSaid : Prop := fnExactStepLevelsRow.holds Tryz.pinned (OpenSpec.ofChange fnExactStepLevelsSpec)

/-- ITS FALSE NEIGHBOUR: 'it returns false'. Refute it at one input. -/
def fnExactStepLevelsWrong : ChangeSpec := { name := "fnExactStepLevels", fn := fun _ => fun
  | [d1, d2] => { results := [.lit (.bool false)], args := [d1, d2] }
  | _ => none }
def FnExactStepLevelsWrongFalsely : Prop := fnExactStepLevelsRow.holds Tryz.pinned (OpenSpec.ofChange fnExactStepLevelsWrong)

/-- 'laws.FnExactStepTick': WHATEVER THE INPUT: true; the input reads as it did. -/
def fnExactStepTickSpec : ChangeSpec := { name := "fnExactStepTick", fn := fun _ => fun
  | [d1, d2] => { results := [.lit (.bool true)], args := [d1, d2] }
  | _ => none }
def fnExactStepTickRow : OpenClaim := { program := "ytacbpfbelcdeiaagreat", sum := "fc374e403d4f6619b8f6cc3f38ec9edf8a8427c1f7b2e6ec15e7398b0e59a8f4", func := "loop.example/g03005/laws.FnExactStepTick", spec := "fnExactStepTick", unfollowed := true, recurses := true, apart := false }
def FnExactStepTickSaid : Prop := fnExactStepTickRow.holds Tryz.pinned (OpenSpec.ofChange fnExactStepTickSpec)

/-- ITS FALSE NEIGHBOUR: 'it returns false'. Refute it at one input. -/
def fnExactStepTickWrong : ChangeSpec := { name := "fnExactStepTick", fn := fun _ => fun
  | [d1, d2] => { results := [.lit (.bool false)], args := [d1, d2] }
  | _ => none }
def FnExactStepTickWrongFalsely : Prop := fnExactStepTickRow.holds Tryz.pinned (OpenSpec.ofChange fnExactStepTickWrong)

/-- 'laws.FnExactStepCover': WHATEVER THE INPUT: true; the input reads as it did. -/
def fnExactStepCoverSpec : ChangeSpec := { name := "fnExactStepCover", fn := fun _ => fun
  | [d1, d2, d3] => { results := [.lit (.bool true)], args := [d1, d2, d3] }
  | _ => none }
def fnExactStepCoverRow : OpenClaim := { program := "ytacbpfbelcdeiaagreat", sum := "fc374e403d4f6619b8f6cc3f38ec9edf8a8427c1f7b2e6ec15e7398b0e59a8f4", func := "loop.example/g03005/laws.FnExactStepCover", spec := "fnExactStepCover", unfollowed := true, recurses := true, apart := false }
def FnExactStepCoverSaid : Prop := fnExactStepCoverRow.holds Tryz.pinned (OpenSpec.ofChange fnExactStepCoverSpec)

/-- ITS FALSE NEIGHBOUR: 'it returns false'. Refute it at one input. -/
def fnExactStepCoverWrong : ChangeSpec := { name := "fnExactStepCover", fn := fun _ => fun
  | [d1, d2, d3] => { results := [.lit (.bool false)], args := [d1, d2, d3] }
  | _ => none }
def FnExactStepCoverWrongFalsely : Prop := fnExactStepCoverRow.holds Tryz.pinned (OpenSpec.ofChange fnExactStepCoverWrong)

/-- 'laws.FnExactStepEdition': WHATEVER THE INPUT: true; the input reads as it did. -/
def fnExactStepEditionSpec : ChangeSpec := { name := "fnExactStepEdition", fn := fun _ => fun
  | [d] => { results := [.lit (.bool true)], args := [d] }
  | _ => none }
def fnExactStepEditionRow : OpenClaim := { program := "ytacbpfbelcdeiaagreat", sum := "fc374e403d4f6619b8f6cc3f38ec9edf8a8427c1f7b2e6ec15e7398b0e59a8f4", func := "loop.example/g03005/laws.FnExactStepEdition", spec := "fnExactStepEdition", unfollowed := true, recurses := true, apart := false }
def FnExactStepEditionSaid : Prop := fnExactStepEditionRow.holds Tryz.pinned (OpenSpec.ofChange fnExactStepEditionSpec)

/-- ITS FALSE NEIGHBOUR: 'it returns false'. Refute it at one input. -/
def fnExactStepEditionWrong : ChangeSpec := { name := "fnExactStepEdition", fn := fun _ => fun
  | [d] => { results := [.lit (.bool false)], args := [d] }
  | _ => none }
def FnExactStepEditionWrongFalsely : Prop := fnExactStepEditionRow.holds Tryz.pinned (OpenSpec.ofChange fnExactStepEditionWrong)

/-- 'laws.FnExactStepMerge': WHATEVER THE INPUT: true; the input reads as it did. -/
def fnExactStepMergeSpec : ChangeSpec := { name := "fnExactStepMerge", fn := fun _ => fun
  | [d1, d2] => { results := [.lit (.bool true)], args := [d1, d2] }
  | _ => none }
def fnExactStepMergeRow : OpenClaim := { program := "ytacbpfbelcdeiaagreat", sum := "fc374e403d4f6619b8f6cc3f38ec9edf8a8427c1f7b2e6ec15e7398b0e59a8f4", func := "loop.example/g03005/laws.FnExactStepMerge", spec := "fnExactStepMerge", inPlace := ["slices.overlaps[loop.example/g03005/impl.Entry]"], unfollowed := true, recurses := true, apart := false }
def FnExactStepMergeSaid : Prop := fnExactStepMergeRow.holds Tryz.pinned (OpenSpec.ofChange fnExactStepMergeSpec)

/-- ITS FALSE NEIGHBOUR: 'it returns false'. Refute it at one input. -/
def fnExactStepMergeWrong : ChangeSpec := { name := "fnExactStepMerge", fn := fun _ => fun
  | [d1, d2] => { results := [.lit (.bool false)], args := [d1, d2] }
  | _ => none }
def FnExactStepMergeWrongFalsely : Prop := fnExactStepMergeRow.holds Tryz.pinned (OpenSpec.ofChange fnExactStepMergeWrong)

/-- 'laws.FnExactStepPut': WHATEVER THE INPUT: true; the input reads as it did. -/
def fnExactStepPutSpec : ChangeSpec := { name := "fnExactStepPut", fn := fun _ => fun
  | [d1, d2, d3] => { results := [.lit (.bool true)], args := [d1, d2, d3] }
  | _ => none }
def fnExactStepPutRow : OpenClaim := { program := "ytacbpfbelcdeiaagreat", sum := "fc374e403d4f6619b8f6cc3f38ec9edf8a8427c1f7b2e6ec15e7398b0e59a8f4", func := "loop.example/g03005/laws.FnExactStepPut", spec := "fnExactStepPut", inPlace := ["slices.overlaps[loop.example/g03005/impl.Entry]"], unfollowed := true, recurses := true, apart := false }
def FnExactStepPutSaid : Prop := fnExactStepPutRow.holds Tryz.pinned (OpenSpec.ofChange fnExactStepPutSpec)

/-- ITS FALSE NEIGHBOUR: 'it returns false'. Refute it at one input. -/
def fnExactStepPutWrong : ChangeSpec := { name := "fnExactStepPut", fn := fun _ => fun
  | [d1, d2, d3] => { results := [.lit (.bool false)], args := [d1, d2, d3] }
  | _ => none }
def FnExactStepPutWrongFalsely : Prop := fnExactStepPutRow.holds Tryz.pinned (OpenSpec.ofChange fnExactStepPutWrong)

/-- 'laws.FnExactStepTake': WHATEVER THE INPUT: true; the input reads as it did. -/
def fnExactStepTakeSpec : ChangeSpec := { name := "fnExactStepTake", fn := fun _ => fun
  | [d1, d2, d3] => { results := [.lit (.bool true)], args := [d1, d2, d3] }
  | _ => none }
def fnExactStepTakeRow : OpenClaim := { program := "ytacbpfbelcdeiaagreat", sum := "fc374e403d4f6619b8f6cc3f38ec9edf8a8427c1f7b2e6ec15e7398b0e59a8f4", func := "loop.example/g03005/laws.FnExactStepTake", spec := "fnExactStepTake", inPlace := ["slices.overlaps[loop.example/g03005/impl.Entry]"], unfollowed := true, recurses := true, apart := false }
def FnExactStepTakeSaid : Prop := fnExactStepTakeRow.holds Tryz.pinned (OpenSpec.ofChange fnExactStepTakeSpec)

/-- ITS FALSE NEIGHBOUR: 'it returns false'. Refute it at one input. -/
def fnExactStepTakeWrong : ChangeSpec := { name := "fnExactStepTake", fn := fun _ => fun
  | [d1, d2, d3] => { results := [.lit (.bool false)], args := [d1, d2, d3] }
  | _ => none }
def FnExactStepTakeWrongFalsely : Prop := fnExactStepTakeRow.holds Tryz.pinned (OpenSpec.ofChange fnExactStepTakeWrong)

/-- 'laws.FnExactApplyEvent': WHATEVER THE INPUT: true; the input reads as it did. -/
def fnExactApplyEventSpec : ChangeSpec := { name := "fnExactApplyEvent", fn := fun _ => fun
  | [d1, d2] => { results := [.lit (.bool true)], args := [d1, d2] }
  | _ => none }
def fnExactApplyEventRow : OpenClaim := { program := "ytacbpfbelcdeiaagreat", sum := "fc374e403d4f6619b8f6cc3f38ec9edf8a8427c1f7b2e6ec15e7398b0e59a8f4", func := "loop.example/g03005/laws.FnExactApplyEvent", spec := "fnExactApplyEvent", inPlace := ["slices.overlaps[loop.example/g03005/impl.Entry]"], unfollowed := true, recurses := true, apart := false }
def FnExactApplyEventSaid : Prop := fnExactApplyEventRow.holds Tryz.pinned (OpenSpec.ofChange fnExactApplyEventSpec)

/-- ITS FALSE NEIGHBOUR: 'it returns false'. Refute it at one input. -/
def fnExactApplyEventWrong : ChangeSpec := { name := "fnExactApplyEvent", fn := fun _ => fun
  | [d1, d2] => { results := [.lit (.bool false)], args := [d1, d2] }
  | _ => none }
def FnExactApplyEventWrongFalsely : Prop := fnExactApplyEventRow.holds Tryz.pinned (OpenSpec.ofChange fnExactApplyEventWrong)

/-- 'laws.FnExactRunEvents': WHATEVER THE INPUT: true; the input reads as it did. -/
def fnExactRunEventsSpec : ChangeSpec := { name := "fnExactRunEvents", fn := fun _ => fun
  | [d1, d2] => { results := [.lit (.bool true)], args := [d1, d2] }
  | _ => none }
def fnExactRunEventsRow : OpenClaim := { program := "ytacbpfbelcdeiaagreat", sum := "fc374e403d4f6619b8f6cc3f38ec9edf8a8427c1f7b2e6ec15e7398b0e59a8f4", func := "loop.example/g03005/laws.FnExactRunEvents", spec := "fnExactRunEvents", inPlace := ["slices.overlaps[loop.example/g03005/impl.Entry]"], unfollowed := true, recurses := true, apart := false }
def FnExactRunEventsSaid : Prop := fnExactRunEventsRow.holds Tryz.pinned (OpenSpec.ofChange fnExactRunEventsSpec)

/-- ITS FALSE NEIGHBOUR: 'it returns false'. Refute it at one input. -/
def fnExactRunEventsWrong : ChangeSpec := { name := "fnExactRunEvents", fn := fun _ => fun
  | [d1, d2] => { results := [.lit (.bool false)], args := [d1, d2] }
  | _ => none }
def FnExactRunEventsWrongFalsely : Prop := fnExactRunEventsRow.holds Tryz.pinned (OpenSpec.ofChange fnExactRunEventsWrong)

/- THE SECOND FORM. 'bulk': how many values and letters a reading holds, each counted each time it is reached (what is shared counts as often as it is met; a slice's spare places count too). A statement '..UptoSaid' is the law's where the arguments, and the package variables that the reading takes, are together of bulk at most 1048576: NARROWER than '..Said'. Prove '..Said' where nothing that the law and all that it calls make is longer than what came in: it says more and counts as full. Else prove '..UptoSaid'. A law counts once. -/
mutual
def uptoBulk {H : Type} : DataW H → Nat
  | .lit (.string bytes) => bytes.length + 1
  | .lit _ => 1
  | .nil => 1
  | .ptr d => uptoBulk d + 1
  | .slice elems spare => uptoBulkAll elems + uptoBulkAll spare + 1
  | .agg parts => uptoBulkAll parts + 1
  | .iface _ d => uptoBulk d + 1
  | .map entries => uptoBulkEntries entries + 1
  | .held _ => 1
def uptoBulkAll {H : Type} : List (DataW H) → Nat
  | [] => 0
  | d :: r => uptoBulk d + uptoBulkAll r
def uptoBulkEntries {H : Type} : List (Lit × DataW H) → Nat
  | [] => 0
  | x :: r => uptoBulkEntry x + uptoBulkEntries r
def uptoBulkEntry {H : Type} : Lit × DataW H → Nat
  | (.string bytes, d) => bytes.length + uptoBulk d + 1
  | (_, d) => uptoBulk d + 1
 end
def uptoSmall : (H : Type) → List (DataW H) → Bool := fun _ ds => decide (uptoBulkAll ds ≤ 1048576)
def OpenSpec.upto (s : _root_.Go.ChangeSpec) : _root_.Go.OpenSpec := { _root_.Go.OpenSpec.ofChange s with cond := some uptoSmall }

/-- 'laws.FnExactNewAtlas', WHERE WHAT IT READS IS OF BULK AT MOST 1048576: true; the input reads as it did. -/
def fnExactNewAtlasUptoRow : OpenClaim := { program := "ytacbpfbelcdeiaagreat", sum := "fc374e403d4f6619b8f6cc3f38ec9edf8a8427c1f7b2e6ec15e7398b0e59a8f4", func := "loop.example/g03005/laws.FnExactNewAtlas", spec := "fnExactNewAtlas", unfollowed := true, recurses := true, apart := false, narrowed := true }
def FnExactNewAtlasUptoSaid : Prop := fnExactNewAtlasUptoRow.holds Tryz.pinned (OpenSpec.upto fnExactNewAtlasSpec)

/-- 'laws.FnExactStepLevels', WHERE WHAT IT READS IS OF BULK AT MOST 1048576: true; the input reads as it did. -/
def fnExactStepLevelsUptoRow : OpenClaim := { program := "ytacbpfbelcdeiaagreat", sum := "fc374e403d4f6619b8f6cc3f38ec9edf8a8427c1f7b2e6ec15e7398b0e59a8f4", func := "loop.example/g03005/laws.FnExactStepLevels", spec := "fnExactStepLevels", unfollowed := true, recurses := true, apart := false, narrowed := true }
def FnExactStepLevelsUptoSaid : Prop := fnExactStepLevelsUptoRow.holds Tryz.pinned (OpenSpec.upto fnExactStepLevelsSpec)

/-- 'laws.FnExactStepTick', WHERE WHAT IT READS IS OF BULK AT MOST 1048576: true; the input reads as it did. -/
def fnExactStepTickUptoRow : OpenClaim := { program := "ytacbpfbelcdeiaagreat", sum := "fc374e403d4f6619b8f6cc3f38ec9edf8a8427c1f7b2e6ec15e7398b0e59a8f4", func := "loop.example/g03005/laws.FnExactStepTick", spec := "fnExactStepTick", unfollowed := true, recurses := true, apart := false, narrowed := true }
def FnExactStepTickUptoSaid : Prop := fnExactStepTickUptoRow.holds Tryz.pinned (OpenSpec.upto fnExactStepTickSpec)

/-- 'laws.FnExactStepCover', WHERE WHAT IT READS IS OF BULK AT MOST 1048576: true; the input reads as it did. -/
def fnExactStepCoverUptoRow : OpenClaim := { program := "ytacbpfbelcdeiaagreat", sum := "fc374e403d4f6619b8f6cc3f38ec9edf8a8427c1f7b2e6ec15e7398b0e59a8f4", func := "loop.example/g03005/laws.FnExactStepCover", spec := "fnExactStepCover", unfollowed := true, recurses := true, apart := false, narrowed := true }
def FnExactStepCoverUptoSaid : Prop := fnExactStepCoverUptoRow.holds Tryz.pinned (OpenSpec.upto fnExactStepCoverSpec)

/-- 'laws.FnExactStepEdition', WHERE WHAT IT READS IS OF BULK AT MOST 1048576: true; the input reads as it did. -/
def fnExactStepEditionUptoRow : OpenClaim := { program := "ytacbpfbelcdeiaagreat", sum := "fc374e403d4f6619b8f6cc3f38ec9edf8a8427c1f7b2e6ec15e7398b0e59a8f4", func := "loop.example/g03005/laws.FnExactStepEdition", spec := "fnExactStepEdition", unfollowed := true, recurses := true, apart := false, narrowed := true }
def FnExactStepEditionUptoSaid : Prop := fnExactStepEditionUptoRow.holds Tryz.pinned (OpenSpec.upto fnExactStepEditionSpec)

/-- 'laws.FnExactStepMerge', WHERE WHAT IT READS IS OF BULK AT MOST 1048576: true; the input reads as it did. -/
def fnExactStepMergeUptoRow : OpenClaim := { program := "ytacbpfbelcdeiaagreat", sum := "fc374e403d4f6619b8f6cc3f38ec9edf8a8427c1f7b2e6ec15e7398b0e59a8f4", func := "loop.example/g03005/laws.FnExactStepMerge", spec := "fnExactStepMerge", inPlace := ["slices.overlaps[loop.example/g03005/impl.Entry]"], unfollowed := true, recurses := true, apart := false, narrowed := true }
def FnExactStepMergeUptoSaid : Prop := fnExactStepMergeUptoRow.holds Tryz.pinned (OpenSpec.upto fnExactStepMergeSpec)

/-- 'laws.FnExactStepPut', WHERE WHAT IT READS IS OF BULK AT MOST 1048576: true; the input reads as it did. -/
def fnExactStepPutUptoRow : OpenClaim := { program := "ytacbpfbelcdeiaagreat", sum := "fc374e403d4f6619b8f6cc3f38ec9edf8a8427c1f7b2e6ec15e7398b0e59a8f4", func := "loop.example/g03005/laws.FnExactStepPut", spec := "fnExactStepPut", inPlace := ["slices.overlaps[loop.example/g03005/impl.Entry]"], unfollowed := true, recurses := true, apart := false, narrowed := true }
def FnExactStepPutUptoSaid : Prop := fnExactStepPutUptoRow.holds Tryz.pinned (OpenSpec.upto fnExactStepPutSpec)

/-- 'laws.FnExactStepTake', WHERE WHAT IT READS IS OF BULK AT MOST 1048576: true; the input reads as it did. -/
def fnExactStepTakeUptoRow : OpenClaim := { program := "ytacbpfbelcdeiaagreat", sum := "fc374e403d4f6619b8f6cc3f38ec9edf8a8427c1f7b2e6ec15e7398b0e59a8f4", func := "loop.example/g03005/laws.FnExactStepTake", spec := "fnExactStepTake", inPlace := ["slices.overlaps[loop.example/g03005/impl.Entry]"], unfollowed := true, recurses := true, apart := false, narrowed := true }
def FnExactStepTakeUptoSaid : Prop := fnExactStepTakeUptoRow.holds Tryz.pinned (OpenSpec.upto fnExactStepTakeSpec)

/-- 'laws.FnExactApplyEvent', WHERE WHAT IT READS IS OF BULK AT MOST 1048576: true; the input reads as it did. -/
def fnExactApplyEventUptoRow : OpenClaim := { program := "ytacbpfbelcdeiaagreat", sum := "fc374e403d4f6619b8f6cc3f38ec9edf8a8427c1f7b2e6ec15e7398b0e59a8f4", func := "loop.example/g03005/laws.FnExactApplyEvent", spec := "fnExactApplyEvent", inPlace := ["slices.overlaps[loop.example/g03005/impl.Entry]"], unfollowed := true, recurses := true, apart := false, narrowed := true }
def FnExactApplyEventUptoSaid : Prop := fnExactApplyEventUptoRow.holds Tryz.pinned (OpenSpec.upto fnExactApplyEventSpec)

/-- 'laws.FnExactRunEvents', WHERE WHAT IT READS IS OF BULK AT MOST 1048576: true; the input reads as it did. -/
def fnExactRunEventsUptoRow : OpenClaim := { program := "ytacbpfbelcdeiaagreat", sum := "fc374e403d4f6619b8f6cc3f38ec9edf8a8427c1f7b2e6ec15e7398b0e59a8f4", func := "loop.example/g03005/laws.FnExactRunEvents", spec := "fnExactRunEvents", inPlace := ["slices.overlaps[loop.example/g03005/impl.Entry]"], unfollowed := true, recurses := true, apart := false, narrowed := true }
def FnExactRunEventsUptoSaid : Prop := fnExactRunEventsUptoRow.holds Tryz.pinned (OpenSpec.upto fnExactRunEventsSpec)

end Rows
end Go.Proofs.YtacbpfbelcdeiaaGreat
