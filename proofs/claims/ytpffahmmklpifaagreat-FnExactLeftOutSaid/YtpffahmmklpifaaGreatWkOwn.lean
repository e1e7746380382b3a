/- The laws' converters, what they make as rows of our own; the marks and their tests. -/
import Derived.Test.YtpffahmmklpifaaGreatWkStep
import Derived.Test.YtpffahmmklpifaaGreatWkTo
import Derived.Test.YtpffahmmklpifaaGreatWkEq
namespace Go.Proofs.YtpffahmmklpifaaGreat.Abs
open Go.Proofs Go.RowKit
set_option linter.unusedVariables false
set_option linter.unusedSimpArgs false
set_option maxRecDepth 100000
set_option maxHeartbeats 2000000
attribute [local irreducible] OpA AL AW DL DLM DLR DLS QOp POp VCalls VCallsI
section
variable {α : Type} {mk : Int → α → α} {ct : α → Nat} {l : List α} {i : Nat} {x : α}
end
def TFeature.eo (a : TFeature) : List AV := [I a.id, I a.kind, I a.rank, S a.name, .own 0 0]
def TFeature.rw (a : TFeature) : Mem := [some ⟨141, 2, 0, false, a.points.map TPoint.en⟩]
def TEntry.eo (a : TEntry) : List AV := [I a.feature.id, I a.feature.kind, I a.feature.rank, S a.feature.name, .own 0 0, I a.tick, I a.who, B a.gone]
def TEntry.rw (a : TEntry) : Mem := [some ⟨141, 2, 0, false, a.feature.points.map TPoint.en⟩]
def TEdition.eo (a : TEdition) : List AV := [I a.tick, .own 0 0, I a.seal_]
def TEdition.rw (a : TEdition) : Mem := [some ⟨81, 5, 0, false, a.source.map TFeature.ed⟩]
def TAtlas.eo (a : TAtlas) : List AV := [.own 0 0, .own 1 0, .own 2 0, I a.cover.w, I a.cover.h, S a.cover.cells, I a.now]
def TAtlas.rw (a : TAtlas) : Mem := [some ⟨135, 8, 0, false, a.log.map TEntry.ed⟩, some ⟨47, 3, 0, false, a.levels.map TLevel.en⟩, some ⟨151, 3, 0, false, a.editions.map TEdition.ed⟩]
end Go.Proofs.YtpffahmmklpifaaGreat.Abs
