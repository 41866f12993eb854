/-
  DERIVED. GIVEN WITH THE SEED: THE CARDS: each row of YtnidfoboiddhfaaDoorRows.lean that lists a variable, with what it lists TIED to the program's text (the seventh form; the later family's looks); each row that meets fmt, with fmt's text TOLD by the authors' own Lean function (tested against real Go, not proved from fmt's source: count such statements apart). THE CARD IS WHAT COUNTS. Prove the row's statement (the work); the ties are given (YtnidfoboiddhfaaDoorTie.lean); close each card by the builder's one call (the guide's Derived/Test/ToyasCard.lean, 'card_holds'). Laid BY PROGRAM, IN A SANDBOX (cutbox-door.mjs). By AI agents, Wed Nov 11 2026. No macro, syntax, notation, axiom, sorry.
-/
import Derived.Test.YtnidfoboiddhfaaDoorRows
import GoSem.ClaimSeven
namespace Go.Proofs.YtnidfoboiddhfaaDoor
namespace Rows

/-- THE TIED CARD OF 'laws.FnExactExprOk'. -/
def fnExactExprOkCard : Claim7 := { stood := { row := fnExactExprOkRow, standIns := [], harness := (true, "23752a7e67a61ad7d7f3073964ce503b3cc0f0f1e34e87bf0245e14a83f9a06e"), looks := false }, kinds := [], alts := [], laidByText := true, laidKinds := [.widerDeep, .data, .widerDeep], laidTests := true, laidLooks := .later }
def FnExactExprOkCardSaid : Prop := Claim7.holds Tryd.pinned (.plain (OpenSpec.ofChange fnExactExprOkSpec)) fnExactExprOkCard

/-- THE TIED CARD OF 'laws.FnExactProgramOk'. -/
def fnExactProgramOkCard : Claim7 := { stood := { row := fnExactProgramOkRow, standIns := [], harness := (true, "23752a7e67a61ad7d7f3073964ce503b3cc0f0f1e34e87bf0245e14a83f9a06e"), looks := false }, kinds := [], alts := [], laidByText := true, laidKinds := [.widerDeep, .data, .widerDeep], laidTests := true, laidLooks := .later }
def FnExactProgramOkCardSaid : Prop := Claim7.holds Tryd.pinned (.plain (OpenSpec.ofChange fnExactProgramOkSpec)) fnExactProgramOkCard

/-- THE TIED CARD OF 'laws.FnExactOpAt'. -/
def fnExactOpAtCard : Claim7 := { stood := { row := fnExactOpAtRow, standIns := [], harness := (true, "23752a7e67a61ad7d7f3073964ce503b3cc0f0f1e34e87bf0245e14a83f9a06e"), looks := false }, kinds := [], alts := [], laidByText := true, laidKinds := [.data], laidTests := true, laidLooks := .later }
def FnExactOpAtCardSaid : Prop := Claim7.holds Tryd.pinned (.plain (OpenSpec.ofChange fnExactOpAtSpec)) fnExactOpAtCard

/-- THE TIED CARD OF 'laws.FnExactNeedsGap'. -/
def fnExactNeedsGapCard : Claim7 := { stood := { row := fnExactNeedsGapRow, standIns := [], harness := (true, "23752a7e67a61ad7d7f3073964ce503b3cc0f0f1e34e87bf0245e14a83f9a06e"), looks := false }, kinds := [], alts := [], laidByText := true, laidKinds := [.data], laidTests := true, laidLooks := .later }
def FnExactNeedsGapCardSaid : Prop := Claim7.holds Tryd.pinned (.plain (OpenSpec.ofChange fnExactNeedsGapSpec)) fnExactNeedsGapCard

/-- THE TIED CARD OF 'laws.FnExactSpell'. -/
def fnExactSpellCard : Claim7 := { stood := { row := fnExactSpellRow, standIns := [], harness := (true, "23752a7e67a61ad7d7f3073964ce503b3cc0f0f1e34e87bf0245e14a83f9a06e"), looks := false }, kinds := [], alts := [], laidByText := true, laidKinds := [.data], laidTests := true, laidLooks := .later }
def FnExactSpellCardSaid : Prop := Claim7.holds Tryd.pinned (.plain (OpenSpec.ofChange fnExactSpellSpec)) fnExactSpellCard

/-- THE TIED CARD OF 'laws.FnExactDec'. -/
def fnExactDecCard : Claim7 := { stood := { row := fnExactDecRow, standIns := [], harness := (true, "23752a7e67a61ad7d7f3073964ce503b3cc0f0f1e34e87bf0245e14a83f9a06e"), looks := false }, kinds := [], alts := [], laidByText := true, laidKinds := [.data, .data, .data], laidTests := true, laidLooks := .later }
def FnExactDecCardSaid : Prop := Claim7.holds Tryd.pinned (.plain (OpenSpec.ofChange fnExactDecSpec)) fnExactDecCard

/-- THE TIED CARD OF 'laws.FnExactLex'. -/
def fnExactLexCard : Claim7 := { stood := { row := fnExactLexRow, standIns := [], harness := (true, "23752a7e67a61ad7d7f3073964ce503b3cc0f0f1e34e87bf0245e14a83f9a06e"), looks := false }, kinds := [], alts := [], laidByText := true, laidKinds := [.widerDeep, .data, .widerDeep], laidTests := true, laidLooks := .later }
def FnExactLexCardSaid : Prop := Claim7.holds Tryd.pinned (.plain (OpenSpec.ofChange fnExactLexSpec)) fnExactLexCard

/-- THE TIED CARD OF 'laws.FnExactTreeOk'. -/
def fnExactTreeOkCard : Claim7 := { stood := { row := fnExactTreeOkRow, standIns := [], harness := (true, "23752a7e67a61ad7d7f3073964ce503b3cc0f0f1e34e87bf0245e14a83f9a06e"), looks := false }, kinds := [], alts := [], laidByText := true, laidKinds := [.widerDeep, .data, .widerDeep], laidTests := true, laidLooks := .later }
def FnExactTreeOkCardSaid : Prop := Claim7.holds Tryd.pinned (.plain (OpenSpec.ofChange fnExactTreeOkSpec)) fnExactTreeOkCard

/-- THE SECOND FORM's CARD OF 'laws.FnExactExprOk'. -/
def fnExactExprOkUptoCard : Claim7 := { stood := { row := fnExactExprOkUptoRow, standIns := [], harness := (true, "23752a7e67a61ad7d7f3073964ce503b3cc0f0f1e34e87bf0245e14a83f9a06e"), looks := false }, kinds := [], alts := [], laidByText := true, laidKinds := [.widerDeep, .data, .widerDeep], laidTests := true, laidLooks := .later }
def FnExactExprOkUptoCardSaid : Prop := Claim7.holds Tryd.pinned (.plain (OpenSpec.upto fnExactExprOkSpec)) fnExactExprOkUptoCard

/-- THE SECOND FORM's CARD OF 'laws.FnExactProgramOk'. -/
def fnExactProgramOkUptoCard : Claim7 := { stood := { row := fnExactProgramOkUptoRow, standIns := [], harness := (true, "23752a7e67a61ad7d7f3073964ce503b3cc0f0f1e34e87bf0245e14a83f9a06e"), looks := false }, kinds := [], alts := [], laidByText := true, laidKinds := [.widerDeep, .data, .widerDeep], laidTests := true, laidLooks := .later }
def FnExactProgramOkUptoCardSaid : Prop := Claim7.holds Tryd.pinned (.plain (OpenSpec.upto fnExactProgramOkSpec)) fnExactProgramOkUptoCard

/-- THE SECOND FORM's CARD OF 'laws.FnExactOpAt'. -/
def fnExactOpAtUptoCard : Claim7 := { stood := { row := fnExactOpAtUptoRow, standIns := [], harness := (true, "23752a7e67a61ad7d7f3073964ce503b3cc0f0f1e34e87bf0245e14a83f9a06e"), looks := false }, kinds := [], alts := [], laidByText := true, laidKinds := [.data], laidTests := true, laidLooks := .later }
def FnExactOpAtUptoCardSaid : Prop := Claim7.holds Tryd.pinned (.plain (OpenSpec.upto fnExactOpAtSpec)) fnExactOpAtUptoCard

/-- THE SECOND FORM's CARD OF 'laws.FnExactNeedsGap'. -/
def fnExactNeedsGapUptoCard : Claim7 := { stood := { row := fnExactNeedsGapUptoRow, standIns := [], harness := (true, "23752a7e67a61ad7d7f3073964ce503b3cc0f0f1e34e87bf0245e14a83f9a06e"), looks := false }, kinds := [], alts := [], laidByText := true, laidKinds := [.data], laidTests := true, laidLooks := .later }
def FnExactNeedsGapUptoCardSaid : Prop := Claim7.holds Tryd.pinned (.plain (OpenSpec.upto fnExactNeedsGapSpec)) fnExactNeedsGapUptoCard

/-- THE SECOND FORM's CARD OF 'laws.FnExactSpell'. -/
def fnExactSpellUptoCard : Claim7 := { stood := { row := fnExactSpellUptoRow, standIns := [], harness := (true, "23752a7e67a61ad7d7f3073964ce503b3cc0f0f1e34e87bf0245e14a83f9a06e"), looks := false }, kinds := [], alts := [], laidByText := true, laidKinds := [.data], laidTests := true, laidLooks := .later }
def FnExactSpellUptoCardSaid : Prop := Claim7.holds Tryd.pinned (.plain (OpenSpec.upto fnExactSpellSpec)) fnExactSpellUptoCard

/-- THE SECOND FORM's CARD OF 'laws.FnExactDec'. -/
def fnExactDecUptoCard : Claim7 := { stood := { row := fnExactDecUptoRow, standIns := [], harness := (true, "23752a7e67a61ad7d7f3073964ce503b3cc0f0f1e34e87bf0245e14a83f9a06e"), looks := false }, kinds := [], alts := [], laidByText := true, laidKinds := [.data, .data, .data], laidTests := true, laidLooks := .later }
def FnExactDecUptoCardSaid : Prop := Claim7.holds Tryd.pinned (.plain (OpenSpec.upto fnExactDecSpec)) fnExactDecUptoCard

/-- THE SECOND FORM's CARD OF 'laws.FnExactLex'. -/
def fnExactLexUptoCard : Claim7 := { stood := { row := fnExactLexUptoRow, standIns := [], harness := (true, "23752a7e67a61ad7d7f3073964ce503b3cc0f0f1e34e87bf0245e14a83f9a06e"), looks := false }, kinds := [], alts := [], laidByText := true, laidKinds := [.widerDeep, .data, .widerDeep], laidTests := true, laidLooks := .later }
def FnExactLexUptoCardSaid : Prop := Claim7.holds Tryd.pinned (.plain (OpenSpec.upto fnExactLexSpec)) fnExactLexUptoCard

/-- THE SECOND FORM's CARD OF 'laws.FnExactTreeOk'. -/
def fnExactTreeOkUptoCard : Claim7 := { stood := { row := fnExactTreeOkUptoRow, standIns := [], harness := (true, "23752a7e67a61ad7d7f3073964ce503b3cc0f0f1e34e87bf0245e14a83f9a06e"), looks := false }, kinds := [], alts := [], laidByText := true, laidKinds := [.widerDeep, .data, .widerDeep], laidTests := true, laidLooks := .later }
def FnExactTreeOkUptoCardSaid : Prop := Claim7.holds Tryd.pinned (.plain (OpenSpec.upto fnExactTreeOkSpec)) fnExactTreeOkUptoCard
end Rows
end Go.Proofs.YtnidfoboiddhfaaDoor
