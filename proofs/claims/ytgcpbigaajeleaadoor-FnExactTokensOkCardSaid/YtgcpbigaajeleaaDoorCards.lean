/-
  DERIVED. GIVEN WITH THE SEED: THE CARDS: each row of YtgcpbigaajeleaaDoorRows.lean that lists a variable, with what it lists TIED to the program's text (the seventh form; the later family's looks); each row that meets fmt, with fmt's text TOLD by the authors' own Lean function (tested against real Go, not proved from fmt's source: count such statements apart). THE CARD IS WHAT COUNTS. Prove the row's statement (the work); the ties are given (YtgcpbigaajeleaaDoorTie.lean); close each card by the builder's one call (the guide's Derived/Test/ToyasCard.lean, 'card_holds'). Laid BY PROGRAM, IN A SANDBOX (cutbox-door.mjs). By AI agents, Wed Nov 11 2026. No macro, syntax, notation, axiom, sorry.
-/
import Derived.Test.YtgcpbigaajeleaaDoorRows
import GoSem.ClaimSeven
namespace Go.Proofs.YtgcpbigaajeleaaDoor
namespace Rows

/-- THE TIED CARD OF 'laws.FnExactExprOk'. -/
def fnExactExprOkCard : Claim7 := { stood := { row := fnExactExprOkRow, standIns := [], harness := (true, "7286036ce37f1b1830ee6dc01161baab282d2c0aa015b58db84b90e8f56b5483"), looks := false }, kinds := [], alts := [], laidByText := true, laidKinds := [.widerDeep, .data, .widerDeep], laidTests := true, laidLooks := .later }
def FnExactExprOkCardSaid : Prop := Claim7.holds Tryd.pinned (.plain (OpenSpec.ofChange fnExactExprOkSpec)) fnExactExprOkCard

/-- THE TIED CARD OF 'laws.FnExactProgramOk'. -/
def fnExactProgramOkCard : Claim7 := { stood := { row := fnExactProgramOkRow, standIns := [], harness := (true, "7286036ce37f1b1830ee6dc01161baab282d2c0aa015b58db84b90e8f56b5483"), looks := false }, kinds := [], alts := [], laidByText := true, laidKinds := [.widerDeep, .data, .widerDeep], laidTests := true, laidLooks := .later }
def FnExactProgramOkCardSaid : Prop := Claim7.holds Tryd.pinned (.plain (OpenSpec.ofChange fnExactProgramOkSpec)) fnExactProgramOkCard

/-- THE TIED CARD OF 'laws.FnExactIsBuiltin'. -/
def fnExactIsBuiltinCard : Claim7 := { stood := { row := fnExactIsBuiltinRow, standIns := [], harness := (true, "7286036ce37f1b1830ee6dc01161baab282d2c0aa015b58db84b90e8f56b5483"), looks := false }, kinds := [], alts := [], laidByText := true, laidKinds := [.widerDeep], laidTests := true, laidLooks := .later }
def FnExactIsBuiltinCardSaid : Prop := Claim7.holds Tryd.pinned (.plain (OpenSpec.ofChange fnExactIsBuiltinSpec)) fnExactIsBuiltinCard

/-- THE TIED CARD OF 'laws.FnExactSpellOf'. -/
def fnExactSpellOfCard : Claim7 := { stood := { row := fnExactSpellOfRow, standIns := [], harness := (true, "7286036ce37f1b1830ee6dc01161baab282d2c0aa015b58db84b90e8f56b5483"), looks := false }, kinds := [], alts := [], laidByText := true, laidKinds := [.widerDeep, .data], laidTests := true, laidLooks := .later }
def FnExactSpellOfCardSaid : Prop := Claim7.holds Tryd.pinned (.plain (OpenSpec.ofChange fnExactSpellOfSpec)) fnExactSpellOfCard

/-- THE TIED CARD OF 'laws.FnExactKeywordOf'. -/
def fnExactKeywordOfCard : Claim7 := { stood := { row := fnExactKeywordOfRow, standIns := [], harness := (true, "7286036ce37f1b1830ee6dc01161baab282d2c0aa015b58db84b90e8f56b5483"), looks := false }, kinds := [], alts := [], laidByText := true, laidKinds := [.widerDeep], laidTests := true, laidLooks := .later }
def FnExactKeywordOfCardSaid : Prop := Claim7.holds Tryd.pinned (.plain (OpenSpec.ofChange fnExactKeywordOfSpec)) fnExactKeywordOfCard

/-- THE TIED CARD OF 'laws.FnExactNameOk'. -/
def fnExactNameOkCard : Claim7 := { stood := { row := fnExactNameOkRow, standIns := [], harness := (true, "7286036ce37f1b1830ee6dc01161baab282d2c0aa015b58db84b90e8f56b5483"), looks := false }, kinds := [], alts := [], laidByText := true, laidKinds := [.widerDeep, .widerDeep], laidTests := true, laidLooks := .later }
def FnExactNameOkCardSaid : Prop := Claim7.holds Tryd.pinned (.plain (OpenSpec.ofChange fnExactNameOkSpec)) fnExactNameOkCard

/-- THE TIED CARD OF 'laws.FnExactOpSpell'. -/
def fnExactOpSpellCard : Claim7 := { stood := { row := fnExactOpSpellRow, standIns := [], harness := (true, "7286036ce37f1b1830ee6dc01161baab282d2c0aa015b58db84b90e8f56b5483"), looks := false }, kinds := [], alts := [], laidByText := true, laidKinds := [.widerDeep, .data], laidTests := true, laidLooks := .later }
def FnExactOpSpellCardSaid : Prop := Claim7.holds Tryd.pinned (.plain (OpenSpec.ofChange fnExactOpSpellSpec)) fnExactOpSpellCard

/-- THE TIED CARD OF 'laws.FnExactTokenOk'. -/
def fnExactTokenOkCard : Claim7 := { stood := { row := fnExactTokenOkRow, standIns := [], harness := (true, "7286036ce37f1b1830ee6dc01161baab282d2c0aa015b58db84b90e8f56b5483"), looks := false }, kinds := [], alts := [], laidByText := true, laidKinds := [.widerDeep, .data, .widerDeep], laidTests := true, laidLooks := .later }
def FnExactTokenOkCardSaid : Prop := Claim7.holds Tryd.pinned (.plain (OpenSpec.ofChange fnExactTokenOkSpec)) fnExactTokenOkCard

/-- THE TIED CARD OF 'laws.FnExactTokensOk'. -/
def fnExactTokensOkCard : Claim7 := { stood := { row := fnExactTokensOkRow, standIns := [], harness := (true, "7286036ce37f1b1830ee6dc01161baab282d2c0aa015b58db84b90e8f56b5483"), looks := false }, kinds := [], alts := [], laidByText := true, laidKinds := [.widerDeep, .data, .widerDeep], laidTests := true, laidLooks := .later }
def FnExactTokensOkCardSaid : Prop := Claim7.holds Tryd.pinned (.plain (OpenSpec.ofChange fnExactTokensOkSpec)) fnExactTokensOkCard

/-- THE TIED CARD OF 'laws.FnExactLex'. -/
def fnExactLexCard : Claim7 := { stood := { row := fnExactLexRow, standIns := [], harness := (true, "7286036ce37f1b1830ee6dc01161baab282d2c0aa015b58db84b90e8f56b5483"), looks := false }, kinds := [], alts := [], laidByText := true, laidKinds := [.widerDeep, .data, .widerDeep], laidTests := true, laidLooks := .later }
def FnExactLexCardSaid : Prop := Claim7.holds Tryd.pinned (.plain (OpenSpec.ofChange fnExactLexSpec)) fnExactLexCard

/-- THE TIED CARD OF 'laws.FnExactFieldsOk'. -/
def fnExactFieldsOkCard : Claim7 := { stood := { row := fnExactFieldsOkRow, standIns := [], harness := (true, "7286036ce37f1b1830ee6dc01161baab282d2c0aa015b58db84b90e8f56b5483"), looks := false }, kinds := [], alts := [], laidByText := true, laidKinds := [.widerDeep, .data, .widerDeep], laidTests := true, laidLooks := .later }
def FnExactFieldsOkCardSaid : Prop := Claim7.holds Tryd.pinned (.plain (OpenSpec.ofChange fnExactFieldsOkSpec)) fnExactFieldsOkCard

/-- THE TIED CARD OF 'laws.FnExactTreeOk'. -/
def fnExactTreeOkCard : Claim7 := { stood := { row := fnExactTreeOkRow, standIns := [], harness := (true, "7286036ce37f1b1830ee6dc01161baab282d2c0aa015b58db84b90e8f56b5483"), looks := false }, kinds := [], alts := [], laidByText := true, laidKinds := [.widerDeep, .data, .widerDeep], laidTests := true, laidLooks := .later }
def FnExactTreeOkCardSaid : Prop := Claim7.holds Tryd.pinned (.plain (OpenSpec.ofChange fnExactTreeOkSpec)) fnExactTreeOkCard

/-- THE SECOND FORM's CARD OF 'laws.FnExactExprOk'. -/
def fnExactExprOkUptoCard : Claim7 := { stood := { row := fnExactExprOkUptoRow, standIns := [], harness := (true, "7286036ce37f1b1830ee6dc01161baab282d2c0aa015b58db84b90e8f56b5483"), looks := false }, kinds := [], alts := [], laidByText := true, laidKinds := [.widerDeep, .data, .widerDeep], laidTests := true, laidLooks := .later }
def FnExactExprOkUptoCardSaid : Prop := Claim7.holds Tryd.pinned (.plain (OpenSpec.upto fnExactExprOkSpec)) fnExactExprOkUptoCard

/-- THE SECOND FORM's CARD OF 'laws.FnExactProgramOk'. -/
def fnExactProgramOkUptoCard : Claim7 := { stood := { row := fnExactProgramOkUptoRow, standIns := [], harness := (true, "7286036ce37f1b1830ee6dc01161baab282d2c0aa015b58db84b90e8f56b5483"), looks := false }, kinds := [], alts := [], laidByText := true, laidKinds := [.widerDeep, .data, .widerDeep], laidTests := true, laidLooks := .later }
def FnExactProgramOkUptoCardSaid : Prop := Claim7.holds Tryd.pinned (.plain (OpenSpec.upto fnExactProgramOkSpec)) fnExactProgramOkUptoCard

/-- THE SECOND FORM's CARD OF 'laws.FnExactIsBuiltin'. -/
def fnExactIsBuiltinUptoCard : Claim7 := { stood := { row := fnExactIsBuiltinUptoRow, standIns := [], harness := (true, "7286036ce37f1b1830ee6dc01161baab282d2c0aa015b58db84b90e8f56b5483"), looks := false }, kinds := [], alts := [], laidByText := true, laidKinds := [.widerDeep], laidTests := true, laidLooks := .later }
def FnExactIsBuiltinUptoCardSaid : Prop := Claim7.holds Tryd.pinned (.plain (OpenSpec.upto fnExactIsBuiltinSpec)) fnExactIsBuiltinUptoCard

/-- THE SECOND FORM's CARD OF 'laws.FnExactSpellOf'. -/
def fnExactSpellOfUptoCard : Claim7 := { stood := { row := fnExactSpellOfUptoRow, standIns := [], harness := (true, "7286036ce37f1b1830ee6dc01161baab282d2c0aa015b58db84b90e8f56b5483"), looks := false }, kinds := [], alts := [], laidByText := true, laidKinds := [.widerDeep, .data], laidTests := true, laidLooks := .later }
def FnExactSpellOfUptoCardSaid : Prop := Claim7.holds Tryd.pinned (.plain (OpenSpec.upto fnExactSpellOfSpec)) fnExactSpellOfUptoCard

/-- THE SECOND FORM's CARD OF 'laws.FnExactKeywordOf'. -/
def fnExactKeywordOfUptoCard : Claim7 := { stood := { row := fnExactKeywordOfUptoRow, standIns := [], harness := (true, "7286036ce37f1b1830ee6dc01161baab282d2c0aa015b58db84b90e8f56b5483"), looks := false }, kinds := [], alts := [], laidByText := true, laidKinds := [.widerDeep], laidTests := true, laidLooks := .later }
def FnExactKeywordOfUptoCardSaid : Prop := Claim7.holds Tryd.pinned (.plain (OpenSpec.upto fnExactKeywordOfSpec)) fnExactKeywordOfUptoCard

/-- THE SECOND FORM's CARD OF 'laws.FnExactNameOk'. -/
def fnExactNameOkUptoCard : Claim7 := { stood := { row := fnExactNameOkUptoRow, standIns := [], harness := (true, "7286036ce37f1b1830ee6dc01161baab282d2c0aa015b58db84b90e8f56b5483"), looks := false }, kinds := [], alts := [], laidByText := true, laidKinds := [.widerDeep, .widerDeep], laidTests := true, laidLooks := .later }
def FnExactNameOkUptoCardSaid : Prop := Claim7.holds Tryd.pinned (.plain (OpenSpec.upto fnExactNameOkSpec)) fnExactNameOkUptoCard

/-- THE SECOND FORM's CARD OF 'laws.FnExactOpSpell'. -/
def fnExactOpSpellUptoCard : Claim7 := { stood := { row := fnExactOpSpellUptoRow, standIns := [], harness := (true, "7286036ce37f1b1830ee6dc01161baab282d2c0aa015b58db84b90e8f56b5483"), looks := false }, kinds := [], alts := [], laidByText := true, laidKinds := [.widerDeep, .data], laidTests := true, laidLooks := .later }
def FnExactOpSpellUptoCardSaid : Prop := Claim7.holds Tryd.pinned (.plain (OpenSpec.upto fnExactOpSpellSpec)) fnExactOpSpellUptoCard

/-- THE SECOND FORM's CARD OF 'laws.FnExactTokenOk'. -/
def fnExactTokenOkUptoCard : Claim7 := { stood := { row := fnExactTokenOkUptoRow, standIns := [], harness := (true, "7286036ce37f1b1830ee6dc01161baab282d2c0aa015b58db84b90e8f56b5483"), looks := false }, kinds := [], alts := [], laidByText := true, laidKinds := [.widerDeep, .data, .widerDeep], laidTests := true, laidLooks := .later }
def FnExactTokenOkUptoCardSaid : Prop := Claim7.holds Tryd.pinned (.plain (OpenSpec.upto fnExactTokenOkSpec)) fnExactTokenOkUptoCard

/-- THE SECOND FORM's CARD OF 'laws.FnExactTokensOk'. -/
def fnExactTokensOkUptoCard : Claim7 := { stood := { row := fnExactTokensOkUptoRow, standIns := [], harness := (true, "7286036ce37f1b1830ee6dc01161baab282d2c0aa015b58db84b90e8f56b5483"), looks := false }, kinds := [], alts := [], laidByText := true, laidKinds := [.widerDeep, .data, .widerDeep], laidTests := true, laidLooks := .later }
def FnExactTokensOkUptoCardSaid : Prop := Claim7.holds Tryd.pinned (.plain (OpenSpec.upto fnExactTokensOkSpec)) fnExactTokensOkUptoCard

/-- THE SECOND FORM's CARD OF 'laws.FnExactLex'. -/
def fnExactLexUptoCard : Claim7 := { stood := { row := fnExactLexUptoRow, standIns := [], harness := (true, "7286036ce37f1b1830ee6dc01161baab282d2c0aa015b58db84b90e8f56b5483"), looks := false }, kinds := [], alts := [], laidByText := true, laidKinds := [.widerDeep, .data, .widerDeep], laidTests := true, laidLooks := .later }
def FnExactLexUptoCardSaid : Prop := Claim7.holds Tryd.pinned (.plain (OpenSpec.upto fnExactLexSpec)) fnExactLexUptoCard

/-- THE SECOND FORM's CARD OF 'laws.FnExactFieldsOk'. -/
def fnExactFieldsOkUptoCard : Claim7 := { stood := { row := fnExactFieldsOkUptoRow, standIns := [], harness := (true, "7286036ce37f1b1830ee6dc01161baab282d2c0aa015b58db84b90e8f56b5483"), looks := false }, kinds := [], alts := [], laidByText := true, laidKinds := [.widerDeep, .data, .widerDeep], laidTests := true, laidLooks := .later }
def FnExactFieldsOkUptoCardSaid : Prop := Claim7.holds Tryd.pinned (.plain (OpenSpec.upto fnExactFieldsOkSpec)) fnExactFieldsOkUptoCard

/-- THE SECOND FORM's CARD OF 'laws.FnExactTreeOk'. -/
def fnExactTreeOkUptoCard : Claim7 := { stood := { row := fnExactTreeOkUptoRow, standIns := [], harness := (true, "7286036ce37f1b1830ee6dc01161baab282d2c0aa015b58db84b90e8f56b5483"), looks := false }, kinds := [], alts := [], laidByText := true, laidKinds := [.widerDeep, .data, .widerDeep], laidTests := true, laidLooks := .later }
def FnExactTreeOkUptoCardSaid : Prop := Claim7.holds Tryd.pinned (.plain (OpenSpec.upto fnExactTreeOkSpec)) fnExactTreeOkUptoCard
end Rows
end Go.Proofs.YtgcpbigaajeleaaDoor
