/- Part G of the walk over abstract states and of the functions' walks. -/
import Derived.Test.YtacbpfbelcdeiaaGreatWkStep
import Derived.Test.YtacbpfbelcdeiaaGreatBnE
import Derived.Test.YtacbpfbelcdeiaaGreatBnF
/- The walks of the marks of an event. -/
namespace Go.Proofs.YtacbpfbelcdeiaaGreat.Abs
open Go.Proofs Go.RowKit
set_option linter.unusedVariables false
set_option linter.unusedSimpArgs false
set_option maxRecDepth 100000
set_option maxHeartbeats 2000000
attribute [local irreducible] OpA AL AW DL DLM DLR DLS QOp POp VCalls VCallsI
def TEvent.cs (x : TEvent) : Nat := TFeature.cs x.feature + ctL TEntry.ct x.log + ctL TLevel.ct x.levels
def TEvent.ms (k : Int) (x : TEvent) : TEvent := ⟨x.kind, TFeature.ms (k) x.feature, x.id, x.who, mkL TEntry.mrk TEntry.ct (k + ((TFeature.cs x.feature : Nat) : Int)) x.log, mkL TLevel.mrk TLevel.ct (k + ((TFeature.cs x.feature : Nat) : Int) + ((ctL TEntry.ct x.log : Nat) : Int)) x.levels, x.letter⟩
theorem markEvent (x : TEvent) (k : Int) (h0 : 0 ≤ k) (hb : k + ((x.cs : Nat) : Int) ≤ 4611686018427387904) : ACalls Tryz.prog 53 [.agg x.eo, I k] x.rw (fun r M => r = I (k + ((x.cs : Nat) : Int)) ∧ ∃ Mx, M = [(⟨152, 2, 0, false, (x.ms k).feature.points.map TPoint.en⟩ : Blk), (⟨121, 8, 0, false, (x.ms k).log.map TEntry.ed⟩ : Blk), (⟨97, 3, 0, false, (x.ms k).levels.map TLevel.en⟩ : Blk)].map some ++ Mx) := by
  have hcs : x.cs = TFeature.cs x.feature + ctL TEntry.ct x.log + ctL TLevel.ct x.levels := rfl
  have hend : k + ((TFeature.cs x.feature : Nat) : Int) + ((ctL TEntry.ct x.log : Nat) : Int) + ((ctL TLevel.ct x.levels : Nat) : Int) = k + ((x.cs : Nat) : Int) := by omega
  refine ACalls.body Tryz.func53 rfl 16 rfl (fun E hE => ?_)
  dsimp only [TEvent.eo, TEvent.rw]
  simp only [List.reduceReplicate, List.cons_append, List.nil_append]
  repeat' ((first
    | (refine iAL ?_; first | refine AL.any ?_ | refine AL.any (h := POp.H [2] Tryz.func21 (hc := markLevelS 97 x.levels (k + ((TFeature.cs x.feature : Nat) : Int) + ((ctL TEntry.ct x.log : Nat) : Int)) (by omega) (by omega))) ?_ | refine AL.any (h := POp.H [1] Tryz.func39 (hc := markEntryS 121 x.log (k + ((TFeature.cs x.feature : Nat) : Int)) (by omega) (by omega))) ?_ | refine AL.any (h := POp.H [0] Tryz.func45 (hc := markFeature x.feature (k) (by omega) (by omega))) ?_ | refine AL.nil ?_)
    | (refine iAW ?_; first | (refine AW.c0 ?_; constructor))) <;> (try dsimp only))
  all_goals exact FinA.one rfl (RV.tmp (by rfl)) ⟨by rw [← hend], [_], rfl⟩

end Go.Proofs.YtacbpfbelcdeiaaGreat.Abs
