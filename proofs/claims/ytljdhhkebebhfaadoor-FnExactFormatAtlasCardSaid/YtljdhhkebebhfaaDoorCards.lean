/-
  DERIVED. GIVEN WITH THE SEED: THE CARDS: each row of YtljdhhkebebhfaaDoorRows.lean that lists a variable, with what it lists TIED to the program's text (the seventh form; the later family's looks); each row that meets fmt, with fmt's text TOLD by the authors' own Lean function (tested against real Go, not proved from fmt's source: count such statements apart). THE CARD IS WHAT COUNTS. Prove the row's statement (the work); the ties are given (YtljdhhkebebhfaaDoorTie.lean); close each card by the builder's one call (the guide's Derived/Test/ToyasCard.lean, 'card_holds'). Laid BY PROGRAM, IN A SANDBOX (cutbox-door.mjs). By AI agents, Wed Nov 11 2026. No macro, syntax, notation, axiom, sorry.
-/
import Derived.Test.YtljdhhkebebhfaaDoorRows
import GoSem.ClaimSeven
namespace Go.Proofs.YtljdhhkebebhfaaDoor
namespace Rows

/-- THE TIED CARD OF 'laws.FnExactFormatAtlas'. -/
def fnExactFormatAtlasCard : Claim7 := { stood := { row := fnExactFormatAtlasRow, standIns := [], harness := (true, "f6e3592946b983efc4b20f2afa4fe9218bb9c09baad4700f4cb3e8a727129870"), looks := false }, kinds := [], alts := [], laidByText := true, laidKinds := [.data, .data, .data], laidTests := true, laidLooks := .later }
def FnExactFormatAtlasCardSaid : Prop := Claim7.holds Tryd.pinned (.plain (OpenSpec.ofChange fnExactFormatAtlasSpec)) fnExactFormatAtlasCard

/-- THE SECOND FORM's CARD OF 'laws.FnExactFormatAtlas'. -/
def fnExactFormatAtlasUptoCard : Claim7 := { stood := { row := fnExactFormatAtlasUptoRow, standIns := [], harness := (true, "f6e3592946b983efc4b20f2afa4fe9218bb9c09baad4700f4cb3e8a727129870"), looks := false }, kinds := [], alts := [], laidByText := true, laidKinds := [.data, .data, .data], laidTests := true, laidLooks := .later }
def FnExactFormatAtlasUptoCardSaid : Prop := Claim7.holds Tryd.pinned (.plain (OpenSpec.upto fnExactFormatAtlasSpec)) fnExactFormatAtlasUptoCard
end Rows
end Go.Proofs.YtljdhhkebebhfaaDoor
