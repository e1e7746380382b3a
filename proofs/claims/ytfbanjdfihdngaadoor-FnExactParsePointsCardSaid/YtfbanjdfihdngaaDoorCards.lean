/-
  DERIVED. GIVEN WITH THE SEED: THE CARDS: each row of YtfbanjdfihdngaaDoorRows.lean that lists a variable, with what it lists TIED to the program's text (the seventh form; the later family's looks); each row that meets fmt, with fmt's text TOLD by the authors' own Lean function (tested against real Go, not proved from fmt's source: count such statements apart). THE CARD IS WHAT COUNTS. Prove the row's statement (the work); the ties are given (YtfbanjdfihdngaaDoorTie.lean); close each card by the builder's one call (the guide's Derived/Test/ToyasCard.lean, 'card_holds'). Laid BY PROGRAM, IN A SANDBOX (cutbox-door.mjs). By AI agents, Wed Nov 11 2026. No macro, syntax, notation, axiom, sorry.
-/
import Derived.Test.YtfbanjdfihdngaaDoorRows
import GoSem.ClaimSeven
namespace Go.Proofs.YtfbanjdfihdngaaDoor
namespace Rows

/-- THE TIED CARD OF 'laws.FnExactParsePoints'. -/
def fnExactParsePointsCard : Claim7 := { stood := { row := fnExactParsePointsRow, standIns := [], harness := (true, "1da855380c0561a1e2784e9c6540646575b9000e7e51879a06efbe988ceda421"), looks := false }, kinds := [], alts := [], laidByText := true, laidKinds := [.data, .pinned], laidTests := true, laidLooks := .later }
def FnExactParsePointsCardSaid : Prop := Claim7.holds Tryd.pinned (.plain (OpenSpec.ofChange fnExactParsePointsSpec)) fnExactParsePointsCard

/-- THE SECOND FORM's CARD OF 'laws.FnExactParsePoints'. -/
def fnExactParsePointsUptoCard : Claim7 := { stood := { row := fnExactParsePointsUptoRow, standIns := [], harness := (true, "1da855380c0561a1e2784e9c6540646575b9000e7e51879a06efbe988ceda421"), looks := false }, kinds := [], alts := [], laidByText := true, laidKinds := [.data, .pinned], laidTests := true, laidLooks := .later }
def FnExactParsePointsUptoCardSaid : Prop := Claim7.holds Tryd.pinned (.plain (OpenSpec.upto fnExactParsePointsSpec)) fnExactParsePointsUptoCard
end Rows
end Go.Proofs.YtfbanjdfihdngaaDoor
