/-
  DERIVED. GIVEN WITH THE SEED: THE CARDS: each row of YtbkcoechoblndaaDoorRows.lean that lists a variable, with what it lists TIED to the program's text (the seventh form; the later family's looks); each row that meets fmt, with fmt's text TOLD by the authors' own Lean function (tested against real Go, not proved from fmt's source: count such statements apart). THE CARD IS WHAT COUNTS. Prove the row's statement (the work); the ties are given (YtbkcoechoblndaaDoorTie.lean); close each card by the builder's one call (the guide's Derived/Test/ToyasCard.lean, 'card_holds'). Laid BY PROGRAM, IN A SANDBOX (cutbox-door.mjs). By AI agents, Wed Nov 11 2026. No macro, syntax, notation, axiom, sorry.
-/
import Derived.Test.YtbkcoechoblndaaDoorRows
import GoSem.ClaimSeven
namespace Go.Proofs.YtbkcoechoblndaaDoor
namespace Rows

/-- THE TIED CARD OF 'laws.FnExactFormatNumbers'. -/
def fnExactFormatNumbersCard : Claim7 := { stood := { row := fnExactFormatNumbersRow, standIns := [], harness := (true, "a8b2fa3d0559e6c37801b8817d79078e2b53ca1822b6b57edd572e86911e7a89"), looks := false }, kinds := [], alts := [], laidByText := true, laidKinds := [.data, .data, .data], laidTests := true, laidLooks := .later }
def FnExactFormatNumbersCardSaid : Prop := Claim7.holds Tryd.pinned (.plain (OpenSpec.ofChange fnExactFormatNumbersSpec)) fnExactFormatNumbersCard

/-- THE TIED CARD OF 'laws.FnExactFormatPoints'. -/
def fnExactFormatPointsCard : Claim7 := { stood := { row := fnExactFormatPointsRow, standIns := [], harness := (true, "a8b2fa3d0559e6c37801b8817d79078e2b53ca1822b6b57edd572e86911e7a89"), looks := false }, kinds := [], alts := [], laidByText := true, laidKinds := [.data, .data, .data], laidTests := true, laidLooks := .later }
def FnExactFormatPointsCardSaid : Prop := Claim7.holds Tryd.pinned (.plain (OpenSpec.ofChange fnExactFormatPointsSpec)) fnExactFormatPointsCard

/-- THE TIED CARD OF 'laws.FnExactParsePoints'. -/
def fnExactParsePointsCard : Claim7 := { stood := { row := fnExactParsePointsRow, standIns := [], harness := (true, "a8b2fa3d0559e6c37801b8817d79078e2b53ca1822b6b57edd572e86911e7a89"), looks := false }, kinds := [], alts := [], laidByText := true, laidKinds := [.data, .pinned], laidTests := true, laidLooks := .later }
def FnExactParsePointsCardSaid : Prop := Claim7.holds Tryd.pinned (.plain (OpenSpec.ofChange fnExactParsePointsSpec)) fnExactParsePointsCard

/-- THE TIED CARD OF 'laws.FnExactFormatReasons'. -/
def fnExactFormatReasonsCard : Claim7 := { stood := { row := fnExactFormatReasonsRow, standIns := [], harness := (true, "a8b2fa3d0559e6c37801b8817d79078e2b53ca1822b6b57edd572e86911e7a89"), looks := false }, kinds := [], alts := [], laidByText := true, laidKinds := [.data, .data, .data], laidTests := true, laidLooks := .later }
def FnExactFormatReasonsCardSaid : Prop := Claim7.holds Tryd.pinned (.plain (OpenSpec.ofChange fnExactFormatReasonsSpec)) fnExactFormatReasonsCard

/-- THE TIED CARD OF 'laws.FnExactFormatFeature'. -/
def fnExactFormatFeatureCard : Claim7 := { stood := { row := fnExactFormatFeatureRow, standIns := [], harness := (true, "a8b2fa3d0559e6c37801b8817d79078e2b53ca1822b6b57edd572e86911e7a89"), looks := false }, kinds := [], alts := [], laidByText := true, laidKinds := [.data, .data, .data], laidTests := true, laidLooks := .later }
def FnExactFormatFeatureCardSaid : Prop := Claim7.holds Tryd.pinned (.plain (OpenSpec.ofChange fnExactFormatFeatureSpec)) fnExactFormatFeatureCard

/-- THE TIED CARD OF 'laws.FnExactFormatChart'. -/
def fnExactFormatChartCard : Claim7 := { stood := { row := fnExactFormatChartRow, standIns := [], harness := (true, "a8b2fa3d0559e6c37801b8817d79078e2b53ca1822b6b57edd572e86911e7a89"), looks := false }, kinds := [], alts := [], laidByText := true, laidKinds := [.data, .data, .data], laidTests := true, laidLooks := .later }
def FnExactFormatChartCardSaid : Prop := Claim7.holds Tryd.pinned (.plain (OpenSpec.ofChange fnExactFormatChartSpec)) fnExactFormatChartCard

/-- THE SECOND FORM's CARD OF 'laws.FnExactFormatNumbers'. -/
def fnExactFormatNumbersUptoCard : Claim7 := { stood := { row := fnExactFormatNumbersUptoRow, standIns := [], harness := (true, "a8b2fa3d0559e6c37801b8817d79078e2b53ca1822b6b57edd572e86911e7a89"), looks := false }, kinds := [], alts := [], laidByText := true, laidKinds := [.data, .data, .data], laidTests := true, laidLooks := .later }
def FnExactFormatNumbersUptoCardSaid : Prop := Claim7.holds Tryd.pinned (.plain (OpenSpec.upto fnExactFormatNumbersSpec)) fnExactFormatNumbersUptoCard

/-- THE SECOND FORM's CARD OF 'laws.FnExactFormatPoints'. -/
def fnExactFormatPointsUptoCard : Claim7 := { stood := { row := fnExactFormatPointsUptoRow, standIns := [], harness := (true, "a8b2fa3d0559e6c37801b8817d79078e2b53ca1822b6b57edd572e86911e7a89"), looks := false }, kinds := [], alts := [], laidByText := true, laidKinds := [.data, .data, .data], laidTests := true, laidLooks := .later }
def FnExactFormatPointsUptoCardSaid : Prop := Claim7.holds Tryd.pinned (.plain (OpenSpec.upto fnExactFormatPointsSpec)) fnExactFormatPointsUptoCard

/-- THE SECOND FORM's CARD OF 'laws.FnExactParsePoints'. -/
def fnExactParsePointsUptoCard : Claim7 := { stood := { row := fnExactParsePointsUptoRow, standIns := [], harness := (true, "a8b2fa3d0559e6c37801b8817d79078e2b53ca1822b6b57edd572e86911e7a89"), looks := false }, kinds := [], alts := [], laidByText := true, laidKinds := [.data, .pinned], laidTests := true, laidLooks := .later }
def FnExactParsePointsUptoCardSaid : Prop := Claim7.holds Tryd.pinned (.plain (OpenSpec.upto fnExactParsePointsSpec)) fnExactParsePointsUptoCard

/-- THE SECOND FORM's CARD OF 'laws.FnExactFormatReasons'. -/
def fnExactFormatReasonsUptoCard : Claim7 := { stood := { row := fnExactFormatReasonsUptoRow, standIns := [], harness := (true, "a8b2fa3d0559e6c37801b8817d79078e2b53ca1822b6b57edd572e86911e7a89"), looks := false }, kinds := [], alts := [], laidByText := true, laidKinds := [.data, .data, .data], laidTests := true, laidLooks := .later }
def FnExactFormatReasonsUptoCardSaid : Prop := Claim7.holds Tryd.pinned (.plain (OpenSpec.upto fnExactFormatReasonsSpec)) fnExactFormatReasonsUptoCard

/-- THE SECOND FORM's CARD OF 'laws.FnExactFormatFeature'. -/
def fnExactFormatFeatureUptoCard : Claim7 := { stood := { row := fnExactFormatFeatureUptoRow, standIns := [], harness := (true, "a8b2fa3d0559e6c37801b8817d79078e2b53ca1822b6b57edd572e86911e7a89"), looks := false }, kinds := [], alts := [], laidByText := true, laidKinds := [.data, .data, .data], laidTests := true, laidLooks := .later }
def FnExactFormatFeatureUptoCardSaid : Prop := Claim7.holds Tryd.pinned (.plain (OpenSpec.upto fnExactFormatFeatureSpec)) fnExactFormatFeatureUptoCard

/-- THE SECOND FORM's CARD OF 'laws.FnExactFormatChart'. -/
def fnExactFormatChartUptoCard : Claim7 := { stood := { row := fnExactFormatChartUptoRow, standIns := [], harness := (true, "a8b2fa3d0559e6c37801b8817d79078e2b53ca1822b6b57edd572e86911e7a89"), looks := false }, kinds := [], alts := [], laidByText := true, laidKinds := [.data, .data, .data], laidTests := true, laidLooks := .later }
def FnExactFormatChartUptoCardSaid : Prop := Claim7.holds Tryd.pinned (.plain (OpenSpec.upto fnExactFormatChartSpec)) fnExactFormatChartUptoCard
end Rows
end Go.Proofs.YtbkcoechoblndaaDoor
