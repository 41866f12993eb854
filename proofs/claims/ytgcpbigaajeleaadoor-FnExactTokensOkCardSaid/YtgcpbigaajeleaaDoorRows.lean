/-
  NARROWER THAN 'FOR EVERY INPUT', by the rows' own cells (each row's printed sentence says how): FnExactExprOk: laid · FnExactProgramOk: laid · FnExactIsBuiltin: laid · FnExactSpellOf: laid · FnExactKeywordOf: laid · FnExactNameOk: laid · FnExactOpSpell: laid · FnExactTokenOk: laid · FnExactTokensOk: laid · FnExactLex: laid · FnExactFieldsOk: laid · FnExactTreeOk: laid.
  DERIVED. THE GIVEN ROWS OF THIS SEAT. 12 by the template 'for every input the law returns true; each argument reads behind the call as it read before'; 0 by the template 'total and deterministic' (their statements: YtgcpbigaajeleaaDoorTotals.lean).
  GIVEN WITH THE SEED: the statements are not yours to turn. If you find one false, say at which input.
  Laid BY PROGRAM, IN A SANDBOX (cutbox-rows.mjs): the forced cells as the released guide's own fill.sh prints them over the translation a09ccdf5e5c58c7d… (all of the seat's roots in one cut). By AI agents, Wed Nov 11 2026. No macro, syntax, notation, axiom, sorry.
-/
import Derived.Test.YtgcpbigaajeleaaDoorChecked
import GoSem.Claim
import GoSem.ClaimJoined
import GoSem.ClaimMapViews
import Derived.JoinedTies
import Derived.KernelRfl
namespace Go.Proofs.YtgcpbigaajeleaaDoor
/- THE CELL 'sum', in the pinned program and in every row, IS THE sha256 OF THE DUMP (.gsa) THAT YtgcpbigaajeleaaDoorProg.lean LOADS. Nothing in Lean hashes anything: it is a label: what it is worth is what the hold of that sum in a sandbox is worth. -/
noncomputable def Tryd.pinned : Pinned := { name := "ytgcpbigaajeleaadoor", sum := "a09ccdf5e5c58c7d26f1642a241dfaf123b0a1524b589f801c66fd973366625b", checked := Tryd.checked }
namespace Rows
def none {H : Type} : Left H := { results := [], args := [] }

/- WHAT THE LISTED PACKAGE-LEVEL VARIABLES READ AS WHEN THE CALL BEGINS. Each datum BY PROGRAM (the guide's laid-datum.mjs) off the statement by which the dump's own 'gosem.cut.vars' lays the variable. In a bare row this is a premise. The card (YtgcpbigaajeleaaDoorCards.lean) ties it to the program's text. -/
def laid_loop_example_g01543_impl_keywords {H : Type} : DataW H := .agg [.lit (.string [66, 69, 71, 73, 78]), .lit (.string [69, 78, 68]), .lit (.string [102, 117, 110, 99, 116, 105, 111, 110]), .lit (.string [105, 102]), .lit (.string [101, 108, 115, 101]), .lit (.string [119, 104, 105, 108, 101]), .lit (.string [102, 111, 114]), .lit (.string [100, 111]), .lit (.string [98, 114, 101, 97, 107]), .lit (.string [99, 111, 110, 116, 105, 110, 117, 101]), .lit (.string [110, 101, 120, 116]), .lit (.string [101, 120, 105, 116]), .lit (.string [114, 101, 116, 117, 114, 110]), .lit (.string [100, 101, 108, 101, 116, 101]), .lit (.string [105, 110]), .lit (.string [112, 114, 105, 110, 116]), .lit (.string [112, 114, 105, 110, 116, 102])]
def laid_loop_example_g01543_impl_signs {H : Type} : DataW H := .agg [.lit (.string [123]), .lit (.string [125]), .lit (.string [40]), .lit (.string [41]), .lit (.string [91]), .lit (.string [93]), .lit (.string [44]), .lit (.string [59]), .lit (.string [43, 61]), .lit (.string [45, 61]), .lit (.string [42, 61]), .lit (.string [47, 61]), .lit (.string [37, 61]), .lit (.string [94, 61]), .lit (.string [124, 124]), .lit (.string [38, 38]), .lit (.string [33, 126]), .lit (.string [61, 61]), .lit (.string [60, 61]), .lit (.string [62, 61]), .lit (.string [33, 61]), .lit (.string [43, 43]), .lit (.string [45, 45]), .lit (.string [62, 62]), .lit (.string [61]), .lit (.string [43]), .lit (.string [45]), .lit (.string [42]), .lit (.string [47]), .lit (.string [37]), .lit (.string [94]), .lit (.string [33]), .lit (.string [62]), .lit (.string [60]), .lit (.string [124]), .lit (.string [63]), .lit (.string [58]), .lit (.string [126]), .lit (.string [36])]
def laid_loop_example_g01543_impl_builtins {H : Type} : DataW H := .agg [.lit (.string [97, 116, 97, 110, 50]), .lit (.string [99, 108, 111, 115, 101]), .lit (.string [99, 111, 115]), .lit (.string [101, 120, 112]), .lit (.string [103, 115, 117, 98]), .lit (.string [105, 110, 100, 101, 120]), .lit (.string [105, 110, 116]), .lit (.string [108, 101, 110, 103, 116, 104]), .lit (.string [108, 111, 103]), .lit (.string [109, 97, 116, 99, 104]), .lit (.string [114, 97, 110, 100]), .lit (.string [115, 105, 110]), .lit (.string [115, 112, 108, 105, 116]), .lit (.string [115, 112, 114, 105, 110, 116, 102]), .lit (.string [115, 113, 114, 116]), .lit (.string [115, 114, 97, 110, 100]), .lit (.string [115, 117, 98]), .lit (.string [115, 117, 98, 115, 116, 114]), .lit (.string [115, 121, 115, 116, 101, 109]), .lit (.string [116, 111, 108, 111, 119, 101, 114]), .lit (.string [116, 111, 117, 112, 112, 101, 114])]

/-- 'laws.FnExactExprOk': WHATEVER THE INPUT: true; the input reads as it did. -/
def fnExactExprOkSpec : ChangeSpec := { name := "fnExactExprOk", vars := ["loop.example/g01543/impl.keywords", "loop.example/g01543/impl.builtins", "loop.example/g01543/impl.signs"], fn := fun _ => fun
  | [d, g1, g2, g3] => { results := [.lit (.bool true)], args := [d], vars := [g1, g2, g3] }
  | _ => none }
def fnExactExprOkRow : OpenClaim := { program := "ytgcpbigaajeleaadoor", sum := "a09ccdf5e5c58c7d26f1642a241dfaf123b0a1524b589f801c66fd973366625b", func := "loop.example/g01543/laws.FnExactExprOk", spec := "fnExactExprOk", inPlace := ["internal/bytealg.IndexByteString", "internal/bytealg.IndexString"], unfollowed := true, recurses := true, named := ["loop.example/g01543/impl.keywords", "loop.example/g01543/impl.builtins", "internal/bytealg.MaxLen", "loop.example/g01543/impl.signs"], apart := false, laid := [("loop.example/g01543/impl.keywords", laid_loop_example_g01543_impl_keywords), ("loop.example/g01543/impl.signs", laid_loop_example_g01543_impl_signs), ("loop.example/g01543/impl.builtins", laid_loop_example_g01543_impl_builtins)] }
def FnExactExprOkSaid : Prop := fnExactExprOkRow.holds Tryd.pinned (OpenSpec.ofChange fnExactExprOkSpec)

/-- ITS FALSE NEIGHBOUR: 'it returns false'. Refute it at one input. -/
def fnExactExprOkWrong : ChangeSpec := { name := "fnExactExprOk", vars := ["loop.example/g01543/impl.keywords", "loop.example/g01543/impl.builtins", "loop.example/g01543/impl.signs"], fn := fun _ => fun
  | [d, g1, g2, g3] => { results := [.lit (.bool false)], args := [d], vars := [g1, g2, g3] }
  | _ => none }
def FnExactExprOkWrongFalsely : Prop := fnExactExprOkRow.holds Tryd.pinned (OpenSpec.ofChange fnExactExprOkWrong)

/-- 'laws.FnExactProgramOk': WHATEVER THE INPUT: true; the input reads as it did. -/
def fnExactProgramOkSpec : ChangeSpec := { name := "fnExactProgramOk", vars := ["loop.example/g01543/impl.keywords", "loop.example/g01543/impl.builtins", "loop.example/g01543/impl.signs"], fn := fun _ => fun
  | [d, g1, g2, g3] => { results := [.lit (.bool true)], args := [d], vars := [g1, g2, g3] }
  | _ => none }
def fnExactProgramOkRow : OpenClaim := { program := "ytgcpbigaajeleaadoor", sum := "a09ccdf5e5c58c7d26f1642a241dfaf123b0a1524b589f801c66fd973366625b", func := "loop.example/g01543/laws.FnExactProgramOk", spec := "fnExactProgramOk", inPlace := ["internal/bytealg.IndexByteString", "internal/bytealg.IndexString"], unfollowed := true, recurses := true, named := ["loop.example/g01543/impl.keywords", "loop.example/g01543/impl.builtins", "internal/bytealg.MaxLen", "loop.example/g01543/impl.signs"], apart := false, laid := [("loop.example/g01543/impl.keywords", laid_loop_example_g01543_impl_keywords), ("loop.example/g01543/impl.signs", laid_loop_example_g01543_impl_signs), ("loop.example/g01543/impl.builtins", laid_loop_example_g01543_impl_builtins)] }
def FnExactProgramOkSaid : Prop := fnExactProgramOkRow.holds Tryd.pinned (OpenSpec.ofChange fnExactProgramOkSpec)

/-- ITS FALSE NEIGHBOUR: 'it returns false'. Refute it at one input. -/
def fnExactProgramOkWrong : ChangeSpec := { name := "fnExactProgramOk", vars := ["loop.example/g01543/impl.keywords", "loop.example/g01543/impl.builtins", "loop.example/g01543/impl.signs"], fn := fun _ => fun
  | [d, g1, g2, g3] => { results := [.lit (.bool false)], args := [d], vars := [g1, g2, g3] }
  | _ => none }
def FnExactProgramOkWrongFalsely : Prop := fnExactProgramOkRow.holds Tryd.pinned (OpenSpec.ofChange fnExactProgramOkWrong)

/-- 'laws.FnExactIsBuiltin': WHATEVER THE INPUT: true; the input reads as it did. -/
def fnExactIsBuiltinSpec : ChangeSpec := { name := "fnExactIsBuiltin", vars := ["loop.example/g01543/impl.builtins"], fn := fun _ => fun
  | [d, g1] => { results := [.lit (.bool true)], args := [d], vars := [g1] }
  | _ => none }
def fnExactIsBuiltinRow : OpenClaim := { program := "ytgcpbigaajeleaadoor", sum := "a09ccdf5e5c58c7d26f1642a241dfaf123b0a1524b589f801c66fd973366625b", func := "loop.example/g01543/laws.FnExactIsBuiltin", spec := "fnExactIsBuiltin", named := ["loop.example/g01543/impl.builtins"], apart := false, laid := [("loop.example/g01543/impl.builtins", laid_loop_example_g01543_impl_builtins)] }
def FnExactIsBuiltinSaid : Prop := fnExactIsBuiltinRow.holds Tryd.pinned (OpenSpec.ofChange fnExactIsBuiltinSpec)

/-- ITS FALSE NEIGHBOUR: 'it returns false'. Refute it at one input. -/
def fnExactIsBuiltinWrong : ChangeSpec := { name := "fnExactIsBuiltin", vars := ["loop.example/g01543/impl.builtins"], fn := fun _ => fun
  | [d, g1] => { results := [.lit (.bool false)], args := [d], vars := [g1] }
  | _ => none }
def FnExactIsBuiltinWrongFalsely : Prop := fnExactIsBuiltinRow.holds Tryd.pinned (OpenSpec.ofChange fnExactIsBuiltinWrong)

/-- 'laws.FnExactSpellOf': WHATEVER THE INPUT: true; the input reads as it did. -/
def fnExactSpellOfSpec : ChangeSpec := { name := "fnExactSpellOf", vars := ["loop.example/g01543/impl.keywords", "loop.example/g01543/impl.signs"], fn := fun _ => fun
  | [d, g1, g2] => { results := [.lit (.bool true)], args := [d], vars := [g1, g2] }
  | _ => none }
def fnExactSpellOfRow : OpenClaim := { program := "ytgcpbigaajeleaadoor", sum := "a09ccdf5e5c58c7d26f1642a241dfaf123b0a1524b589f801c66fd973366625b", func := "loop.example/g01543/laws.FnExactSpellOf", spec := "fnExactSpellOf", named := ["loop.example/g01543/impl.keywords", "loop.example/g01543/impl.signs"], apart := false, laid := [("loop.example/g01543/impl.keywords", laid_loop_example_g01543_impl_keywords), ("loop.example/g01543/impl.signs", laid_loop_example_g01543_impl_signs)] }
def FnExactSpellOfSaid : Prop := fnExactSpellOfRow.holds Tryd.pinned (OpenSpec.ofChange fnExactSpellOfSpec)

/-- ITS FALSE NEIGHBOUR: 'it returns false'. Refute it at one input. -/
def fnExactSpellOfWrong : ChangeSpec := { name := "fnExactSpellOf", vars := ["loop.example/g01543/impl.keywords", "loop.example/g01543/impl.signs"], fn := fun _ => fun
  | [d, g1, g2] => { results := [.lit (.bool false)], args := [d], vars := [g1, g2] }
  | _ => none }
def FnExactSpellOfWrongFalsely : Prop := fnExactSpellOfRow.holds Tryd.pinned (OpenSpec.ofChange fnExactSpellOfWrong)

/-- 'laws.FnExactKeywordOf': WHATEVER THE INPUT: true; the input reads as it did. -/
def fnExactKeywordOfSpec : ChangeSpec := { name := "fnExactKeywordOf", vars := ["loop.example/g01543/impl.keywords"], fn := fun _ => fun
  | [d, g1] => { results := [.lit (.bool true)], args := [d], vars := [g1] }
  | _ => none }
def fnExactKeywordOfRow : OpenClaim := { program := "ytgcpbigaajeleaadoor", sum := "a09ccdf5e5c58c7d26f1642a241dfaf123b0a1524b589f801c66fd973366625b", func := "loop.example/g01543/laws.FnExactKeywordOf", spec := "fnExactKeywordOf", named := ["loop.example/g01543/impl.keywords"], apart := false, laid := [("loop.example/g01543/impl.keywords", laid_loop_example_g01543_impl_keywords)] }
def FnExactKeywordOfSaid : Prop := fnExactKeywordOfRow.holds Tryd.pinned (OpenSpec.ofChange fnExactKeywordOfSpec)

/-- ITS FALSE NEIGHBOUR: 'it returns false'. Refute it at one input. -/
def fnExactKeywordOfWrong : ChangeSpec := { name := "fnExactKeywordOf", vars := ["loop.example/g01543/impl.keywords"], fn := fun _ => fun
  | [d, g1] => { results := [.lit (.bool false)], args := [d], vars := [g1] }
  | _ => none }
def FnExactKeywordOfWrongFalsely : Prop := fnExactKeywordOfRow.holds Tryd.pinned (OpenSpec.ofChange fnExactKeywordOfWrong)

/-- 'laws.FnExactNameOk': WHATEVER THE INPUT: true; the input reads as it did. -/
def fnExactNameOkSpec : ChangeSpec := { name := "fnExactNameOk", vars := ["loop.example/g01543/impl.keywords", "loop.example/g01543/impl.builtins"], fn := fun _ => fun
  | [d, g1, g2] => { results := [.lit (.bool true)], args := [d], vars := [g1, g2] }
  | _ => none }
def fnExactNameOkRow : OpenClaim := { program := "ytgcpbigaajeleaadoor", sum := "a09ccdf5e5c58c7d26f1642a241dfaf123b0a1524b589f801c66fd973366625b", func := "loop.example/g01543/laws.FnExactNameOk", spec := "fnExactNameOk", named := ["loop.example/g01543/impl.keywords", "loop.example/g01543/impl.builtins"], apart := false, laid := [("loop.example/g01543/impl.keywords", laid_loop_example_g01543_impl_keywords), ("loop.example/g01543/impl.builtins", laid_loop_example_g01543_impl_builtins)] }
def FnExactNameOkSaid : Prop := fnExactNameOkRow.holds Tryd.pinned (OpenSpec.ofChange fnExactNameOkSpec)

/-- ITS FALSE NEIGHBOUR: 'it returns false'. Refute it at one input. -/
def fnExactNameOkWrong : ChangeSpec := { name := "fnExactNameOk", vars := ["loop.example/g01543/impl.keywords", "loop.example/g01543/impl.builtins"], fn := fun _ => fun
  | [d, g1, g2] => { results := [.lit (.bool false)], args := [d], vars := [g1, g2] }
  | _ => none }
def FnExactNameOkWrongFalsely : Prop := fnExactNameOkRow.holds Tryd.pinned (OpenSpec.ofChange fnExactNameOkWrong)

/-- 'laws.FnExactOpSpell': WHATEVER THE INPUT: true; the input reads as it did. -/
def fnExactOpSpellSpec : ChangeSpec := { name := "fnExactOpSpell", vars := ["loop.example/g01543/impl.keywords", "loop.example/g01543/impl.signs"], fn := fun _ => fun
  | [d, g1, g2] => { results := [.lit (.bool true)], args := [d], vars := [g1, g2] }
  | _ => none }
def fnExactOpSpellRow : OpenClaim := { program := "ytgcpbigaajeleaadoor", sum := "a09ccdf5e5c58c7d26f1642a241dfaf123b0a1524b589f801c66fd973366625b", func := "loop.example/g01543/laws.FnExactOpSpell", spec := "fnExactOpSpell", named := ["loop.example/g01543/impl.keywords", "loop.example/g01543/impl.signs"], apart := false, laid := [("loop.example/g01543/impl.keywords", laid_loop_example_g01543_impl_keywords), ("loop.example/g01543/impl.signs", laid_loop_example_g01543_impl_signs)] }
def FnExactOpSpellSaid : Prop := fnExactOpSpellRow.holds Tryd.pinned (OpenSpec.ofChange fnExactOpSpellSpec)

/-- ITS FALSE NEIGHBOUR: 'it returns false'. Refute it at one input. -/
def fnExactOpSpellWrong : ChangeSpec := { name := "fnExactOpSpell", vars := ["loop.example/g01543/impl.keywords", "loop.example/g01543/impl.signs"], fn := fun _ => fun
  | [d, g1, g2] => { results := [.lit (.bool false)], args := [d], vars := [g1, g2] }
  | _ => none }
def FnExactOpSpellWrongFalsely : Prop := fnExactOpSpellRow.holds Tryd.pinned (OpenSpec.ofChange fnExactOpSpellWrong)

/-- 'laws.FnExactTokenOk': WHATEVER THE INPUT: true; the input reads as it did. -/
def fnExactTokenOkSpec : ChangeSpec := { name := "fnExactTokenOk", vars := ["loop.example/g01543/impl.keywords", "loop.example/g01543/impl.builtins", "loop.example/g01543/impl.signs"], fn := fun _ => fun
  | [d, g1, g2, g3] => { results := [.lit (.bool true)], args := [d], vars := [g1, g2, g3] }
  | _ => none }
def fnExactTokenOkRow : OpenClaim := { program := "ytgcpbigaajeleaadoor", sum := "a09ccdf5e5c58c7d26f1642a241dfaf123b0a1524b589f801c66fd973366625b", func := "loop.example/g01543/laws.FnExactTokenOk", spec := "fnExactTokenOk", inPlace := ["internal/bytealg.IndexByteString", "internal/bytealg.IndexString"], named := ["internal/bytealg.MaxLen", "loop.example/g01543/impl.keywords", "loop.example/g01543/impl.builtins", "loop.example/g01543/impl.signs"], apart := false, laid := [("loop.example/g01543/impl.keywords", laid_loop_example_g01543_impl_keywords), ("loop.example/g01543/impl.signs", laid_loop_example_g01543_impl_signs), ("loop.example/g01543/impl.builtins", laid_loop_example_g01543_impl_builtins)] }
def FnExactTokenOkSaid : Prop := fnExactTokenOkRow.holds Tryd.pinned (OpenSpec.ofChange fnExactTokenOkSpec)

/-- ITS FALSE NEIGHBOUR: 'it returns false'. Refute it at one input. -/
def fnExactTokenOkWrong : ChangeSpec := { name := "fnExactTokenOk", vars := ["loop.example/g01543/impl.keywords", "loop.example/g01543/impl.builtins", "loop.example/g01543/impl.signs"], fn := fun _ => fun
  | [d, g1, g2, g3] => { results := [.lit (.bool false)], args := [d], vars := [g1, g2, g3] }
  | _ => none }
def FnExactTokenOkWrongFalsely : Prop := fnExactTokenOkRow.holds Tryd.pinned (OpenSpec.ofChange fnExactTokenOkWrong)

/-- 'laws.FnExactTokensOk': WHATEVER THE INPUT: true; the input reads as it did. -/
def fnExactTokensOkSpec : ChangeSpec := { name := "fnExactTokensOk", vars := ["loop.example/g01543/impl.keywords", "loop.example/g01543/impl.builtins", "loop.example/g01543/impl.signs"], fn := fun _ => fun
  | [d, g1, g2, g3] => { results := [.lit (.bool true)], args := [d], vars := [g1, g2, g3] }
  | _ => none }
def fnExactTokensOkRow : OpenClaim := { program := "ytgcpbigaajeleaadoor", sum := "a09ccdf5e5c58c7d26f1642a241dfaf123b0a1524b589f801c66fd973366625b", func := "loop.example/g01543/laws.FnExactTokensOk", spec := "fnExactTokensOk", inPlace := ["internal/bytealg.IndexByteString", "internal/bytealg.IndexString"], named := ["internal/bytealg.MaxLen", "loop.example/g01543/impl.keywords", "loop.example/g01543/impl.builtins", "loop.example/g01543/impl.signs"], apart := false, laid := [("loop.example/g01543/impl.keywords", laid_loop_example_g01543_impl_keywords), ("loop.example/g01543/impl.signs", laid_loop_example_g01543_impl_signs), ("loop.example/g01543/impl.builtins", laid_loop_example_g01543_impl_builtins)] }
def FnExactTokensOkSaid : Prop := fnExactTokensOkRow.holds Tryd.pinned (OpenSpec.ofChange fnExactTokensOkSpec)

/-- ITS FALSE NEIGHBOUR: 'it returns false'. Refute it at one input. -/
def fnExactTokensOkWrong : ChangeSpec := { name := "fnExactTokensOk", vars := ["loop.example/g01543/impl.keywords", "loop.example/g01543/impl.builtins", "loop.example/g01543/impl.signs"], fn := fun _ => fun
  | [d, g1, g2, g3] => { results := [.lit (.bool false)], args := [d], vars := [g1, g2, g3] }
  | _ => none }
def FnExactTokensOkWrongFalsely : Prop := fnExactTokensOkRow.holds Tryd.pinned (OpenSpec.ofChange fnExactTokensOkWrong)

/-- 'laws.FnExactLex': WHATEVER THE INPUT: true; the input reads as it did. -/
def fnExactLexSpec : ChangeSpec := { name := "fnExactLex", vars := ["loop.example/g01543/impl.keywords", "loop.example/g01543/impl.builtins", "loop.example/g01543/impl.signs"], fn := fun _ => fun
  | [d, g1, g2, g3] => { results := [.lit (.bool true)], args := [d], vars := [g1, g2, g3] }
  | _ => none }
def fnExactLexRow : OpenClaim := { program := "ytgcpbigaajeleaadoor", sum := "a09ccdf5e5c58c7d26f1642a241dfaf123b0a1524b589f801c66fd973366625b", func := "loop.example/g01543/laws.FnExactLex", spec := "fnExactLex", inPlace := ["internal/bytealg.IndexByteString"], named := ["loop.example/g01543/impl.keywords", "loop.example/g01543/impl.builtins", "loop.example/g01543/impl.signs"], apart := false, laid := [("loop.example/g01543/impl.keywords", laid_loop_example_g01543_impl_keywords), ("loop.example/g01543/impl.signs", laid_loop_example_g01543_impl_signs), ("loop.example/g01543/impl.builtins", laid_loop_example_g01543_impl_builtins)] }
def FnExactLexSaid : Prop := fnExactLexRow.holds Tryd.pinned (OpenSpec.ofChange fnExactLexSpec)

/-- ITS FALSE NEIGHBOUR: 'it returns false'. Refute it at one input. -/
def fnExactLexWrong : ChangeSpec := { name := "fnExactLex", vars := ["loop.example/g01543/impl.keywords", "loop.example/g01543/impl.builtins", "loop.example/g01543/impl.signs"], fn := fun _ => fun
  | [d, g1, g2, g3] => { results := [.lit (.bool false)], args := [d], vars := [g1, g2, g3] }
  | _ => none }
def FnExactLexWrongFalsely : Prop := fnExactLexRow.holds Tryd.pinned (OpenSpec.ofChange fnExactLexWrong)

/-- 'laws.FnExactFieldsOk': WHATEVER THE INPUT: true; the input reads as it did. -/
def fnExactFieldsOkSpec : ChangeSpec := { name := "fnExactFieldsOk", vars := ["loop.example/g01543/impl.keywords", "loop.example/g01543/impl.builtins", "loop.example/g01543/impl.signs"], fn := fun _ => fun
  | [d, g1, g2, g3] => { results := [.lit (.bool true)], args := [d], vars := [g1, g2, g3] }
  | _ => none }
def fnExactFieldsOkRow : OpenClaim := { program := "ytgcpbigaajeleaadoor", sum := "a09ccdf5e5c58c7d26f1642a241dfaf123b0a1524b589f801c66fd973366625b", func := "loop.example/g01543/laws.FnExactFieldsOk", spec := "fnExactFieldsOk", inPlace := ["internal/bytealg.IndexByteString", "internal/bytealg.IndexString"], named := ["loop.example/g01543/impl.keywords", "loop.example/g01543/impl.builtins", "internal/bytealg.MaxLen", "loop.example/g01543/impl.signs"], apart := false, laid := [("loop.example/g01543/impl.keywords", laid_loop_example_g01543_impl_keywords), ("loop.example/g01543/impl.signs", laid_loop_example_g01543_impl_signs), ("loop.example/g01543/impl.builtins", laid_loop_example_g01543_impl_builtins)] }
def FnExactFieldsOkSaid : Prop := fnExactFieldsOkRow.holds Tryd.pinned (OpenSpec.ofChange fnExactFieldsOkSpec)

/-- ITS FALSE NEIGHBOUR: 'it returns false'. Refute it at one input. -/
def fnExactFieldsOkWrong : ChangeSpec := { name := "fnExactFieldsOk", vars := ["loop.example/g01543/impl.keywords", "loop.example/g01543/impl.builtins", "loop.example/g01543/impl.signs"], fn := fun _ => fun
  | [d, g1, g2, g3] => { results := [.lit (.bool false)], args := [d], vars := [g1, g2, g3] }
  | _ => none }
def FnExactFieldsOkWrongFalsely : Prop := fnExactFieldsOkRow.holds Tryd.pinned (OpenSpec.ofChange fnExactFieldsOkWrong)

/-- 'laws.FnExactTreeOk': WHATEVER THE INPUT: true; the input reads as it did. -/
def fnExactTreeOkSpec : ChangeSpec := { name := "fnExactTreeOk", vars := ["loop.example/g01543/impl.keywords", "loop.example/g01543/impl.builtins", "loop.example/g01543/impl.signs"], fn := fun _ => fun
  | [d, g1, g2, g3] => { results := [.lit (.bool true)], args := [d], vars := [g1, g2, g3] }
  | _ => none }
def fnExactTreeOkRow : OpenClaim := { program := "ytgcpbigaajeleaadoor", sum := "a09ccdf5e5c58c7d26f1642a241dfaf123b0a1524b589f801c66fd973366625b", func := "loop.example/g01543/laws.FnExactTreeOk", spec := "fnExactTreeOk", inPlace := ["internal/bytealg.IndexByteString", "internal/bytealg.IndexString"], unfollowed := true, recurses := true, named := ["loop.example/g01543/impl.keywords", "loop.example/g01543/impl.builtins", "internal/bytealg.MaxLen", "loop.example/g01543/impl.signs"], apart := false, laid := [("loop.example/g01543/impl.keywords", laid_loop_example_g01543_impl_keywords), ("loop.example/g01543/impl.signs", laid_loop_example_g01543_impl_signs), ("loop.example/g01543/impl.builtins", laid_loop_example_g01543_impl_builtins)] }
def FnExactTreeOkSaid : Prop := fnExactTreeOkRow.holds Tryd.pinned (OpenSpec.ofChange fnExactTreeOkSpec)

/-- ITS FALSE NEIGHBOUR: 'it returns false'. Refute it at one input. -/
def fnExactTreeOkWrong : ChangeSpec := { name := "fnExactTreeOk", vars := ["loop.example/g01543/impl.keywords", "loop.example/g01543/impl.builtins", "loop.example/g01543/impl.signs"], fn := fun _ => fun
  | [d, g1, g2, g3] => { results := [.lit (.bool false)], args := [d], vars := [g1, g2, g3] }
  | _ => none }
def FnExactTreeOkWrongFalsely : Prop := fnExactTreeOkRow.holds Tryd.pinned (OpenSpec.ofChange fnExactTreeOkWrong)

/- THE SECOND FORM. 'bulk': how many values and letters a reading holds, each counted each time it is reached (what is shared counts as often as it is met; a slice's spare places count too). A statement '..UptoSaid' is the law's where the arguments, and the package variables that the reading takes, are together of bulk at most 1048576: NARROWER than '..Said'. Prove '..Said' where nothing that the law and all that it calls make is longer than what came in: it says more and counts as full. Else prove '..UptoSaid'. A law counts once. -/
mutual
def uptoBulk {H : Type} : DataW H → Nat
  | .lit (.string bytes) => bytes.length + 1
  | .lit _ => 1
  | .nil => 1
  | .ptr d => uptoBulk d + 1
  | .slice elems spare => uptoBulkAll elems + uptoBulkAll spare + 1
  | .agg parts => uptoBulkAll parts + 1
  | .iface _ d => uptoBulk d + 1
  | .map entries => uptoBulkEntries entries + 1
  | .held _ => 1
def uptoBulkAll {H : Type} : List (DataW H) → Nat
  | [] => 0
  | d :: r => uptoBulk d + uptoBulkAll r
def uptoBulkEntries {H : Type} : List (Lit × DataW H) → Nat
  | [] => 0
  | x :: r => uptoBulkEntry x + uptoBulkEntries r
def uptoBulkEntry {H : Type} : Lit × DataW H → Nat
  | (.string bytes, d) => bytes.length + uptoBulk d + 1
  | (_, d) => uptoBulk d + 1
 end
def uptoSmall : (H : Type) → List (DataW H) → Bool := fun _ ds => decide (uptoBulkAll ds ≤ 1048576)
def OpenSpec.upto (s : _root_.Go.ChangeSpec) : _root_.Go.OpenSpec := { _root_.Go.OpenSpec.ofChange s with cond := some uptoSmall }

/-- 'laws.FnExactExprOk', WHERE WHAT IT READS IS OF BULK AT MOST 1048576: true; the input reads as it did. -/
def fnExactExprOkUptoRow : OpenClaim := { program := "ytgcpbigaajeleaadoor", sum := "a09ccdf5e5c58c7d26f1642a241dfaf123b0a1524b589f801c66fd973366625b", func := "loop.example/g01543/laws.FnExactExprOk", spec := "fnExactExprOk", inPlace := ["internal/bytealg.IndexByteString", "internal/bytealg.IndexString"], unfollowed := true, recurses := true, named := ["loop.example/g01543/impl.keywords", "loop.example/g01543/impl.builtins", "internal/bytealg.MaxLen", "loop.example/g01543/impl.signs"], apart := false, laid := [("loop.example/g01543/impl.keywords", laid_loop_example_g01543_impl_keywords), ("loop.example/g01543/impl.signs", laid_loop_example_g01543_impl_signs), ("loop.example/g01543/impl.builtins", laid_loop_example_g01543_impl_builtins)], narrowed := true }
def FnExactExprOkUptoSaid : Prop := fnExactExprOkUptoRow.holds Tryd.pinned (OpenSpec.upto fnExactExprOkSpec)

/-- 'laws.FnExactProgramOk', WHERE WHAT IT READS IS OF BULK AT MOST 1048576: true; the input reads as it did. -/
def fnExactProgramOkUptoRow : OpenClaim := { program := "ytgcpbigaajeleaadoor", sum := "a09ccdf5e5c58c7d26f1642a241dfaf123b0a1524b589f801c66fd973366625b", func := "loop.example/g01543/laws.FnExactProgramOk", spec := "fnExactProgramOk", inPlace := ["internal/bytealg.IndexByteString", "internal/bytealg.IndexString"], unfollowed := true, recurses := true, named := ["loop.example/g01543/impl.keywords", "loop.example/g01543/impl.builtins", "internal/bytealg.MaxLen", "loop.example/g01543/impl.signs"], apart := false, laid := [("loop.example/g01543/impl.keywords", laid_loop_example_g01543_impl_keywords), ("loop.example/g01543/impl.signs", laid_loop_example_g01543_impl_signs), ("loop.example/g01543/impl.builtins", laid_loop_example_g01543_impl_builtins)], narrowed := true }
def FnExactProgramOkUptoSaid : Prop := fnExactProgramOkUptoRow.holds Tryd.pinned (OpenSpec.upto fnExactProgramOkSpec)

/-- 'laws.FnExactIsBuiltin', WHERE WHAT IT READS IS OF BULK AT MOST 1048576: true; the input reads as it did. -/
def fnExactIsBuiltinUptoRow : OpenClaim := { program := "ytgcpbigaajeleaadoor", sum := "a09ccdf5e5c58c7d26f1642a241dfaf123b0a1524b589f801c66fd973366625b", func := "loop.example/g01543/laws.FnExactIsBuiltin", spec := "fnExactIsBuiltin", named := ["loop.example/g01543/impl.builtins"], apart := false, laid := [("loop.example/g01543/impl.builtins", laid_loop_example_g01543_impl_builtins)], narrowed := true }
def FnExactIsBuiltinUptoSaid : Prop := fnExactIsBuiltinUptoRow.holds Tryd.pinned (OpenSpec.upto fnExactIsBuiltinSpec)

/-- 'laws.FnExactSpellOf', WHERE WHAT IT READS IS OF BULK AT MOST 1048576: true; the input reads as it did. -/
def fnExactSpellOfUptoRow : OpenClaim := { program := "ytgcpbigaajeleaadoor", sum := "a09ccdf5e5c58c7d26f1642a241dfaf123b0a1524b589f801c66fd973366625b", func := "loop.example/g01543/laws.FnExactSpellOf", spec := "fnExactSpellOf", named := ["loop.example/g01543/impl.keywords", "loop.example/g01543/impl.signs"], apart := false, laid := [("loop.example/g01543/impl.keywords", laid_loop_example_g01543_impl_keywords), ("loop.example/g01543/impl.signs", laid_loop_example_g01543_impl_signs)], narrowed := true }
def FnExactSpellOfUptoSaid : Prop := fnExactSpellOfUptoRow.holds Tryd.pinned (OpenSpec.upto fnExactSpellOfSpec)

/-- 'laws.FnExactKeywordOf', WHERE WHAT IT READS IS OF BULK AT MOST 1048576: true; the input reads as it did. -/
def fnExactKeywordOfUptoRow : OpenClaim := { program := "ytgcpbigaajeleaadoor", sum := "a09ccdf5e5c58c7d26f1642a241dfaf123b0a1524b589f801c66fd973366625b", func := "loop.example/g01543/laws.FnExactKeywordOf", spec := "fnExactKeywordOf", named := ["loop.example/g01543/impl.keywords"], apart := false, laid := [("loop.example/g01543/impl.keywords", laid_loop_example_g01543_impl_keywords)], narrowed := true }
def FnExactKeywordOfUptoSaid : Prop := fnExactKeywordOfUptoRow.holds Tryd.pinned (OpenSpec.upto fnExactKeywordOfSpec)

/-- 'laws.FnExactNameOk', WHERE WHAT IT READS IS OF BULK AT MOST 1048576: true; the input reads as it did. -/
def fnExactNameOkUptoRow : OpenClaim := { program := "ytgcpbigaajeleaadoor", sum := "a09ccdf5e5c58c7d26f1642a241dfaf123b0a1524b589f801c66fd973366625b", func := "loop.example/g01543/laws.FnExactNameOk", spec := "fnExactNameOk", named := ["loop.example/g01543/impl.keywords", "loop.example/g01543/impl.builtins"], apart := false, laid := [("loop.example/g01543/impl.keywords", laid_loop_example_g01543_impl_keywords), ("loop.example/g01543/impl.builtins", laid_loop_example_g01543_impl_builtins)], narrowed := true }
def FnExactNameOkUptoSaid : Prop := fnExactNameOkUptoRow.holds Tryd.pinned (OpenSpec.upto fnExactNameOkSpec)

/-- 'laws.FnExactOpSpell', WHERE WHAT IT READS IS OF BULK AT MOST 1048576: true; the input reads as it did. -/
def fnExactOpSpellUptoRow : OpenClaim := { program := "ytgcpbigaajeleaadoor", sum := "a09ccdf5e5c58c7d26f1642a241dfaf123b0a1524b589f801c66fd973366625b", func := "loop.example/g01543/laws.FnExactOpSpell", spec := "fnExactOpSpell", named := ["loop.example/g01543/impl.keywords", "loop.example/g01543/impl.signs"], apart := false, laid := [("loop.example/g01543/impl.keywords", laid_loop_example_g01543_impl_keywords), ("loop.example/g01543/impl.signs", laid_loop_example_g01543_impl_signs)], narrowed := true }
def FnExactOpSpellUptoSaid : Prop := fnExactOpSpellUptoRow.holds Tryd.pinned (OpenSpec.upto fnExactOpSpellSpec)

/-- 'laws.FnExactTokenOk', WHERE WHAT IT READS IS OF BULK AT MOST 1048576: true; the input reads as it did. -/
def fnExactTokenOkUptoRow : OpenClaim := { program := "ytgcpbigaajeleaadoor", sum := "a09ccdf5e5c58c7d26f1642a241dfaf123b0a1524b589f801c66fd973366625b", func := "loop.example/g01543/laws.FnExactTokenOk", spec := "fnExactTokenOk", inPlace := ["internal/bytealg.IndexByteString", "internal/bytealg.IndexString"], named := ["internal/bytealg.MaxLen", "loop.example/g01543/impl.keywords", "loop.example/g01543/impl.builtins", "loop.example/g01543/impl.signs"], apart := false, laid := [("loop.example/g01543/impl.keywords", laid_loop_example_g01543_impl_keywords), ("loop.example/g01543/impl.signs", laid_loop_example_g01543_impl_signs), ("loop.example/g01543/impl.builtins", laid_loop_example_g01543_impl_builtins)], narrowed := true }
def FnExactTokenOkUptoSaid : Prop := fnExactTokenOkUptoRow.holds Tryd.pinned (OpenSpec.upto fnExactTokenOkSpec)

/-- 'laws.FnExactTokensOk', WHERE WHAT IT READS IS OF BULK AT MOST 1048576: true; the input reads as it did. -/
def fnExactTokensOkUptoRow : OpenClaim := { program := "ytgcpbigaajeleaadoor", sum := "a09ccdf5e5c58c7d26f1642a241dfaf123b0a1524b589f801c66fd973366625b", func := "loop.example/g01543/laws.FnExactTokensOk", spec := "fnExactTokensOk", inPlace := ["internal/bytealg.IndexByteString", "internal/bytealg.IndexString"], named := ["internal/bytealg.MaxLen", "loop.example/g01543/impl.keywords", "loop.example/g01543/impl.builtins", "loop.example/g01543/impl.signs"], apart := false, laid := [("loop.example/g01543/impl.keywords", laid_loop_example_g01543_impl_keywords), ("loop.example/g01543/impl.signs", laid_loop_example_g01543_impl_signs), ("loop.example/g01543/impl.builtins", laid_loop_example_g01543_impl_builtins)], narrowed := true }
def FnExactTokensOkUptoSaid : Prop := fnExactTokensOkUptoRow.holds Tryd.pinned (OpenSpec.upto fnExactTokensOkSpec)

/-- 'laws.FnExactLex', WHERE WHAT IT READS IS OF BULK AT MOST 1048576: true; the input reads as it did. -/
def fnExactLexUptoRow : OpenClaim := { program := "ytgcpbigaajeleaadoor", sum := "a09ccdf5e5c58c7d26f1642a241dfaf123b0a1524b589f801c66fd973366625b", func := "loop.example/g01543/laws.FnExactLex", spec := "fnExactLex", inPlace := ["internal/bytealg.IndexByteString"], named := ["loop.example/g01543/impl.keywords", "loop.example/g01543/impl.builtins", "loop.example/g01543/impl.signs"], apart := false, laid := [("loop.example/g01543/impl.keywords", laid_loop_example_g01543_impl_keywords), ("loop.example/g01543/impl.signs", laid_loop_example_g01543_impl_signs), ("loop.example/g01543/impl.builtins", laid_loop_example_g01543_impl_builtins)], narrowed := true }
def FnExactLexUptoSaid : Prop := fnExactLexUptoRow.holds Tryd.pinned (OpenSpec.upto fnExactLexSpec)

/-- 'laws.FnExactFieldsOk', WHERE WHAT IT READS IS OF BULK AT MOST 1048576: true; the input reads as it did. -/
def fnExactFieldsOkUptoRow : OpenClaim := { program := "ytgcpbigaajeleaadoor", sum := "a09ccdf5e5c58c7d26f1642a241dfaf123b0a1524b589f801c66fd973366625b", func := "loop.example/g01543/laws.FnExactFieldsOk", spec := "fnExactFieldsOk", inPlace := ["internal/bytealg.IndexByteString", "internal/bytealg.IndexString"], named := ["loop.example/g01543/impl.keywords", "loop.example/g01543/impl.builtins", "internal/bytealg.MaxLen", "loop.example/g01543/impl.signs"], apart := false, laid := [("loop.example/g01543/impl.keywords", laid_loop_example_g01543_impl_keywords), ("loop.example/g01543/impl.signs", laid_loop_example_g01543_impl_signs), ("loop.example/g01543/impl.builtins", laid_loop_example_g01543_impl_builtins)], narrowed := true }
def FnExactFieldsOkUptoSaid : Prop := fnExactFieldsOkUptoRow.holds Tryd.pinned (OpenSpec.upto fnExactFieldsOkSpec)

/-- 'laws.FnExactTreeOk', WHERE WHAT IT READS IS OF BULK AT MOST 1048576: true; the input reads as it did. -/
def fnExactTreeOkUptoRow : OpenClaim := { program := "ytgcpbigaajeleaadoor", sum := "a09ccdf5e5c58c7d26f1642a241dfaf123b0a1524b589f801c66fd973366625b", func := "loop.example/g01543/laws.FnExactTreeOk", spec := "fnExactTreeOk", inPlace := ["internal/bytealg.IndexByteString", "internal/bytealg.IndexString"], unfollowed := true, recurses := true, named := ["loop.example/g01543/impl.keywords", "loop.example/g01543/impl.builtins", "internal/bytealg.MaxLen", "loop.example/g01543/impl.signs"], apart := false, laid := [("loop.example/g01543/impl.keywords", laid_loop_example_g01543_impl_keywords), ("loop.example/g01543/impl.signs", laid_loop_example_g01543_impl_signs), ("loop.example/g01543/impl.builtins", laid_loop_example_g01543_impl_builtins)], narrowed := true }
def FnExactTreeOkUptoSaid : Prop := fnExactTreeOkUptoRow.holds Tryd.pinned (OpenSpec.upto fnExactTreeOkSpec)

end Rows
end Go.Proofs.YtgcpbigaajeleaaDoor
