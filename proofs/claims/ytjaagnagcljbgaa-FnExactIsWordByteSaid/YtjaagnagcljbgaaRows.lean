/-
  No cell of these rows narrows 'for every input' (looked for: loops, veiled, ifaces, maps, wideKeys, modest, calm, conditions, laid).
  DERIVED. THE GIVEN ROWS OF THIS SEAT. 11 by the template 'for every input the law returns true; each argument reads behind the call as it read before'; 0 by the template 'total and deterministic' (their statements: YtjaagnagcljbgaaTotals.lean).
  GIVEN WITH THE SEED: the statements are not yours to turn. If you find one false, say at which input.
  Laid BY PROGRAM, IN A SANDBOX (cutbox-rows.mjs): the forced cells as the released guide's own fill.sh prints them over the translation f85b60bb839f4642… (all of the seat's roots in one cut). By AI agents, Wed Nov 11 2026. No macro, syntax, notation, axiom, sorry.
-/
import Derived.Test.YtjaagnagcljbgaaChecked
import GoSem.Claim
import GoSem.ClaimJoined
import GoSem.ClaimMapViews
import Derived.JoinedTies
import Derived.KernelRfl
namespace Go.Proofs.Ytjaagnagcljbgaa
/- THE CELL 'sum', in the pinned program and in every row, IS THE sha256 OF THE DUMP (.gsa) THAT YtjaagnagcljbgaaProg.lean LOADS. Nothing in Lean hashes anything: it is a label: what it is worth is what the hold of that sum in a sandbox is worth. -/
noncomputable def Try.pinned : Pinned := { name := "ytjaagnagcljbgaa", sum := "f85b60bb839f464232ffe7a2235b364dc8574a9493099863db67280fccd8ca0f", checked := Try.checked }
namespace Rows
def none {H : Type} : Left H := { results := [], args := [] }

/-- 'laws.FnExactConstants': WHATEVER THE INPUT: true; the input reads as it did. -/
def fnExactConstantsSpec : ChangeSpec := { name := "fnExactConstants", fn := fun _ => fun
  | [] => { results := [.lit (.bool true)], args := [] }
  | _ => none }
def fnExactConstantsRow : OpenClaim := { program := "ytjaagnagcljbgaa", sum := "f85b60bb839f464232ffe7a2235b364dc8574a9493099863db67280fccd8ca0f", func := "loop.example/g01543/laws.FnExactConstants", spec := "fnExactConstants", apart := false }
def FnExactConstantsSaid : Prop := fnExactConstantsRow.holds Try.pinned (OpenSpec.ofChange fnExactConstantsSpec)

/-- ITS FALSE NEIGHBOUR: 'it returns false'. Refute it at one input. -/
def fnExactConstantsWrong : ChangeSpec := { name := "fnExactConstants", fn := fun _ => fun
  | [] => { results := [.lit (.bool false)], args := [] }
  | _ => none }
def FnExactConstantsWrongFalsely : Prop := fnExactConstantsRow.holds Try.pinned (OpenSpec.ofChange fnExactConstantsWrong)

/-- 'laws.FnExactIsBlank': WHATEVER THE INPUT: true; the input reads as it did. -/
def fnExactIsBlankSpec : ChangeSpec := { name := "fnExactIsBlank", fn := fun _ => fun
  | [d] => { results := [.lit (.bool true)], args := [d] }
  | _ => none }
def fnExactIsBlankRow : OpenClaim := { program := "ytjaagnagcljbgaa", sum := "f85b60bb839f464232ffe7a2235b364dc8574a9493099863db67280fccd8ca0f", func := "loop.example/g01543/laws.FnExactIsBlank", spec := "fnExactIsBlank", apart := false }
def FnExactIsBlankSaid : Prop := fnExactIsBlankRow.holds Try.pinned (OpenSpec.ofChange fnExactIsBlankSpec)

/-- ITS FALSE NEIGHBOUR: 'it returns false'. Refute it at one input. -/
def fnExactIsBlankWrong : ChangeSpec := { name := "fnExactIsBlank", fn := fun _ => fun
  | [d] => { results := [.lit (.bool false)], args := [d] }
  | _ => none }
def FnExactIsBlankWrongFalsely : Prop := fnExactIsBlankRow.holds Try.pinned (OpenSpec.ofChange fnExactIsBlankWrong)

/-- 'laws.FnExactIsDigit': WHATEVER THE INPUT: true; the input reads as it did. -/
def fnExactIsDigitSpec : ChangeSpec := { name := "fnExactIsDigit", fn := fun _ => fun
  | [d] => { results := [.lit (.bool true)], args := [d] }
  | _ => none }
def fnExactIsDigitRow : OpenClaim := { program := "ytjaagnagcljbgaa", sum := "f85b60bb839f464232ffe7a2235b364dc8574a9493099863db67280fccd8ca0f", func := "loop.example/g01543/laws.FnExactIsDigit", spec := "fnExactIsDigit", apart := false }
def FnExactIsDigitSaid : Prop := fnExactIsDigitRow.holds Try.pinned (OpenSpec.ofChange fnExactIsDigitSpec)

/-- ITS FALSE NEIGHBOUR: 'it returns false'. Refute it at one input. -/
def fnExactIsDigitWrong : ChangeSpec := { name := "fnExactIsDigit", fn := fun _ => fun
  | [d] => { results := [.lit (.bool false)], args := [d] }
  | _ => none }
def FnExactIsDigitWrongFalsely : Prop := fnExactIsDigitRow.holds Try.pinned (OpenSpec.ofChange fnExactIsDigitWrong)

/-- 'laws.FnExactIsLetter': WHATEVER THE INPUT: true; the input reads as it did. -/
def fnExactIsLetterSpec : ChangeSpec := { name := "fnExactIsLetter", fn := fun _ => fun
  | [d] => { results := [.lit (.bool true)], args := [d] }
  | _ => none }
def fnExactIsLetterRow : OpenClaim := { program := "ytjaagnagcljbgaa", sum := "f85b60bb839f464232ffe7a2235b364dc8574a9493099863db67280fccd8ca0f", func := "loop.example/g01543/laws.FnExactIsLetter", spec := "fnExactIsLetter", apart := false }
def FnExactIsLetterSaid : Prop := fnExactIsLetterRow.holds Try.pinned (OpenSpec.ofChange fnExactIsLetterSpec)

/-- ITS FALSE NEIGHBOUR: 'it returns false'. Refute it at one input. -/
def fnExactIsLetterWrong : ChangeSpec := { name := "fnExactIsLetter", fn := fun _ => fun
  | [d] => { results := [.lit (.bool false)], args := [d] }
  | _ => none }
def FnExactIsLetterWrongFalsely : Prop := fnExactIsLetterRow.holds Try.pinned (OpenSpec.ofChange fnExactIsLetterWrong)

/-- 'laws.FnExactIsLvalue': WHATEVER THE INPUT: true; the input reads as it did. -/
def fnExactIsLvalueSpec : ChangeSpec := { name := "fnExactIsLvalue", fn := fun _ => fun
  | [d] => { results := [.lit (.bool true)], args := [d] }
  | _ => none }
def fnExactIsLvalueRow : OpenClaim := { program := "ytjaagnagcljbgaa", sum := "f85b60bb839f464232ffe7a2235b364dc8574a9493099863db67280fccd8ca0f", func := "loop.example/g01543/laws.FnExactIsLvalue", spec := "fnExactIsLvalue", apart := false }
def FnExactIsLvalueSaid : Prop := fnExactIsLvalueRow.holds Try.pinned (OpenSpec.ofChange fnExactIsLvalueSpec)

/-- ITS FALSE NEIGHBOUR: 'it returns false'. Refute it at one input. -/
def fnExactIsLvalueWrong : ChangeSpec := { name := "fnExactIsLvalue", fn := fun _ => fun
  | [d] => { results := [.lit (.bool false)], args := [d] }
  | _ => none }
def FnExactIsLvalueWrongFalsely : Prop := fnExactIsLvalueRow.holds Try.pinned (OpenSpec.ofChange fnExactIsLvalueWrong)

/-- 'laws.FnExactIsExpr': WHATEVER THE INPUT: true; the input reads as it did. -/
def fnExactIsExprSpec : ChangeSpec := { name := "fnExactIsExpr", fn := fun _ => fun
  | [d] => { results := [.lit (.bool true)], args := [d] }
  | _ => none }
def fnExactIsExprRow : OpenClaim := { program := "ytjaagnagcljbgaa", sum := "f85b60bb839f464232ffe7a2235b364dc8574a9493099863db67280fccd8ca0f", func := "loop.example/g01543/laws.FnExactIsExpr", spec := "fnExactIsExpr", apart := false }
def FnExactIsExprSaid : Prop := fnExactIsExprRow.holds Try.pinned (OpenSpec.ofChange fnExactIsExprSpec)

/-- ITS FALSE NEIGHBOUR: 'it returns false'. Refute it at one input. -/
def fnExactIsExprWrong : ChangeSpec := { name := "fnExactIsExpr", fn := fun _ => fun
  | [d] => { results := [.lit (.bool false)], args := [d] }
  | _ => none }
def FnExactIsExprWrongFalsely : Prop := fnExactIsExprRow.holds Try.pinned (OpenSpec.ofChange fnExactIsExprWrong)

/-- 'laws.FnExactIsStmt': WHATEVER THE INPUT: true; the input reads as it did. -/
def fnExactIsStmtSpec : ChangeSpec := { name := "fnExactIsStmt", fn := fun _ => fun
  | [d] => { results := [.lit (.bool true)], args := [d] }
  | _ => none }
def fnExactIsStmtRow : OpenClaim := { program := "ytjaagnagcljbgaa", sum := "f85b60bb839f464232ffe7a2235b364dc8574a9493099863db67280fccd8ca0f", func := "loop.example/g01543/laws.FnExactIsStmt", spec := "fnExactIsStmt", apart := false }
def FnExactIsStmtSaid : Prop := fnExactIsStmtRow.holds Try.pinned (OpenSpec.ofChange fnExactIsStmtSpec)

/-- ITS FALSE NEIGHBOUR: 'it returns false'. Refute it at one input. -/
def fnExactIsStmtWrong : ChangeSpec := { name := "fnExactIsStmt", fn := fun _ => fun
  | [d] => { results := [.lit (.bool false)], args := [d] }
  | _ => none }
def FnExactIsStmtWrongFalsely : Prop := fnExactIsStmtRow.holds Try.pinned (OpenSpec.ofChange fnExactIsStmtWrong)

/-- 'laws.FnExactIsWordByte': WHATEVER THE INPUT: true; the input reads as it did. -/
def fnExactIsWordByteSpec : ChangeSpec := { name := "fnExactIsWordByte", fn := fun _ => fun
  | [d] => { results := [.lit (.bool true)], args := [d] }
  | _ => none }
def fnExactIsWordByteRow : OpenClaim := { program := "ytjaagnagcljbgaa", sum := "f85b60bb839f464232ffe7a2235b364dc8574a9493099863db67280fccd8ca0f", func := "loop.example/g01543/laws.FnExactIsWordByte", spec := "fnExactIsWordByte", apart := false }
def FnExactIsWordByteSaid : Prop := fnExactIsWordByteRow.holds Try.pinned (OpenSpec.ofChange fnExactIsWordByteSpec)

/-- ITS FALSE NEIGHBOUR: 'it returns false'. Refute it at one input. -/
def fnExactIsWordByteWrong : ChangeSpec := { name := "fnExactIsWordByte", fn := fun _ => fun
  | [d] => { results := [.lit (.bool false)], args := [d] }
  | _ => none }
def FnExactIsWordByteWrongFalsely : Prop := fnExactIsWordByteRow.holds Try.pinned (OpenSpec.ofChange fnExactIsWordByteWrong)

/-- 'laws.FnExactBeginsOperand': WHATEVER THE INPUT: true; the input reads as it did. -/
def fnExactBeginsOperandSpec : ChangeSpec := { name := "fnExactBeginsOperand", fn := fun _ => fun
  | [d] => { results := [.lit (.bool true)], args := [d] }
  | _ => none }
def fnExactBeginsOperandRow : OpenClaim := { program := "ytjaagnagcljbgaa", sum := "f85b60bb839f464232ffe7a2235b364dc8574a9493099863db67280fccd8ca0f", func := "loop.example/g01543/laws.FnExactBeginsOperand", spec := "fnExactBeginsOperand", apart := false }
def FnExactBeginsOperandSaid : Prop := fnExactBeginsOperandRow.holds Try.pinned (OpenSpec.ofChange fnExactBeginsOperandSpec)

/-- ITS FALSE NEIGHBOUR: 'it returns false'. Refute it at one input. -/
def fnExactBeginsOperandWrong : ChangeSpec := { name := "fnExactBeginsOperand", fn := fun _ => fun
  | [d] => { results := [.lit (.bool false)], args := [d] }
  | _ => none }
def FnExactBeginsOperandWrongFalsely : Prop := fnExactBeginsOperandRow.holds Try.pinned (OpenSpec.ofChange fnExactBeginsOperandWrong)

/-- 'laws.FnExactEndsOperand': WHATEVER THE INPUT: true; the input reads as it did. -/
def fnExactEndsOperandSpec : ChangeSpec := { name := "fnExactEndsOperand", fn := fun _ => fun
  | [d] => { results := [.lit (.bool true)], args := [d] }
  | _ => none }
def fnExactEndsOperandRow : OpenClaim := { program := "ytjaagnagcljbgaa", sum := "f85b60bb839f464232ffe7a2235b364dc8574a9493099863db67280fccd8ca0f", func := "loop.example/g01543/laws.FnExactEndsOperand", spec := "fnExactEndsOperand", apart := false }
def FnExactEndsOperandSaid : Prop := fnExactEndsOperandRow.holds Try.pinned (OpenSpec.ofChange fnExactEndsOperandSpec)

/-- ITS FALSE NEIGHBOUR: 'it returns false'. Refute it at one input. -/
def fnExactEndsOperandWrong : ChangeSpec := { name := "fnExactEndsOperand", fn := fun _ => fun
  | [d] => { results := [.lit (.bool false)], args := [d] }
  | _ => none }
def FnExactEndsOperandWrongFalsely : Prop := fnExactEndsOperandRow.holds Try.pinned (OpenSpec.ofChange fnExactEndsOperandWrong)

/-- 'laws.FnExactFaultWord': WHATEVER THE INPUT: true; the input reads as it did. -/
def fnExactFaultWordSpec : ChangeSpec := { name := "fnExactFaultWord", fn := fun _ => fun
  | [d] => { results := [.lit (.bool true)], args := [d] }
  | _ => none }
def fnExactFaultWordRow : OpenClaim := { program := "ytjaagnagcljbgaa", sum := "f85b60bb839f464232ffe7a2235b364dc8574a9493099863db67280fccd8ca0f", func := "loop.example/g01543/laws.FnExactFaultWord", spec := "fnExactFaultWord", apart := false }
def FnExactFaultWordSaid : Prop := fnExactFaultWordRow.holds Try.pinned (OpenSpec.ofChange fnExactFaultWordSpec)

/-- ITS FALSE NEIGHBOUR: 'it returns false'. Refute it at one input. -/
def fnExactFaultWordWrong : ChangeSpec := { name := "fnExactFaultWord", fn := fun _ => fun
  | [d] => { results := [.lit (.bool false)], args := [d] }
  | _ => none }
def FnExactFaultWordWrongFalsely : Prop := fnExactFaultWordRow.holds Try.pinned (OpenSpec.ofChange fnExactFaultWordWrong)

/- THE SECOND FORM. 'bulk': how many values and letters a reading holds, each counted each time it is reached (what is shared counts as often as it is met; a slice's spare places count too). A statement '..UptoSaid' is the law's where the arguments, and the package variables that the reading takes, are together of bulk at most 1048576: NARROWER than '..Said'. Prove '..Said' where nothing that the law and all that it calls make is longer than what came in: it says more and counts as full. Else prove '..UptoSaid'. A law counts once. -/
mutual
def uptoBulk {H : Type} : DataW H → Nat
  | .lit (.string bytes) => bytes.length + 1
  | .lit _ => 1
  | .nil => 1
  | .ptr d => uptoBulk d + 1
  | .slice elems spare => uptoBulkAll elems + uptoBulkAll spare + 1
  | .agg parts => uptoBulkAll parts + 1
  | .iface _ d => uptoBulk d + 1
  | .map entries => uptoBulkEntries entries + 1
  | .held _ => 1
def uptoBulkAll {H : Type} : List (DataW H) → Nat
  | [] => 0
  | d :: r => uptoBulk d + uptoBulkAll r
def uptoBulkEntries {H : Type} : List (Lit × DataW H) → Nat
  | [] => 0
  | x :: r => uptoBulkEntry x + uptoBulkEntries r
def uptoBulkEntry {H : Type} : Lit × DataW H → Nat
  | (.string bytes, d) => bytes.length + uptoBulk d + 1
  | (_, d) => uptoBulk d + 1
 end
def uptoSmall : (H : Type) → List (DataW H) → Bool := fun _ ds => decide (uptoBulkAll ds ≤ 1048576)
def OpenSpec.upto (s : _root_.Go.ChangeSpec) : _root_.Go.OpenSpec := { _root_.Go.OpenSpec.ofChange s with cond := some uptoSmall }

/-- 'laws.FnExactConstants', WHERE WHAT IT READS IS OF BULK AT MOST 1048576: true; the input reads as it did. -/
def fnExactConstantsUptoRow : OpenClaim := { program := "ytjaagnagcljbgaa", sum := "f85b60bb839f464232ffe7a2235b364dc8574a9493099863db67280fccd8ca0f", func := "loop.example/g01543/laws.FnExactConstants", spec := "fnExactConstants", apart := false, narrowed := true }
def FnExactConstantsUptoSaid : Prop := fnExactConstantsUptoRow.holds Try.pinned (OpenSpec.upto fnExactConstantsSpec)

/-- 'laws.FnExactIsBlank', WHERE WHAT IT READS IS OF BULK AT MOST 1048576: true; the input reads as it did. -/
def fnExactIsBlankUptoRow : OpenClaim := { program := "ytjaagnagcljbgaa", sum := "f85b60bb839f464232ffe7a2235b364dc8574a9493099863db67280fccd8ca0f", func := "loop.example/g01543/laws.FnExactIsBlank", spec := "fnExactIsBlank", apart := false, narrowed := true }
def FnExactIsBlankUptoSaid : Prop := fnExactIsBlankUptoRow.holds Try.pinned (OpenSpec.upto fnExactIsBlankSpec)

/-- 'laws.FnExactIsDigit', WHERE WHAT IT READS IS OF BULK AT MOST 1048576: true; the input reads as it did. -/
def fnExactIsDigitUptoRow : OpenClaim := { program := "ytjaagnagcljbgaa", sum := "f85b60bb839f464232ffe7a2235b364dc8574a9493099863db67280fccd8ca0f", func := "loop.example/g01543/laws.FnExactIsDigit", spec := "fnExactIsDigit", apart := false, narrowed := true }
def FnExactIsDigitUptoSaid : Prop := fnExactIsDigitUptoRow.holds Try.pinned (OpenSpec.upto fnExactIsDigitSpec)

/-- 'laws.FnExactIsLetter', WHERE WHAT IT READS IS OF BULK AT MOST 1048576: true; the input reads as it did. -/
def fnExactIsLetterUptoRow : OpenClaim := { program := "ytjaagnagcljbgaa", sum := "f85b60bb839f464232ffe7a2235b364dc8574a9493099863db67280fccd8ca0f", func := "loop.example/g01543/laws.FnExactIsLetter", spec := "fnExactIsLetter", apart := false, narrowed := true }
def FnExactIsLetterUptoSaid : Prop := fnExactIsLetterUptoRow.holds Try.pinned (OpenSpec.upto fnExactIsLetterSpec)

/-- 'laws.FnExactIsLvalue', WHERE WHAT IT READS IS OF BULK AT MOST 1048576: true; the input reads as it did. -/
def fnExactIsLvalueUptoRow : OpenClaim := { program := "ytjaagnagcljbgaa", sum := "f85b60bb839f464232ffe7a2235b364dc8574a9493099863db67280fccd8ca0f", func := "loop.example/g01543/laws.FnExactIsLvalue", spec := "fnExactIsLvalue", apart := false, narrowed := true }
def FnExactIsLvalueUptoSaid : Prop := fnExactIsLvalueUptoRow.holds Try.pinned (OpenSpec.upto fnExactIsLvalueSpec)

/-- 'laws.FnExactIsExpr', WHERE WHAT IT READS IS OF BULK AT MOST 1048576: true; the input reads as it did. -/
def fnExactIsExprUptoRow : OpenClaim := { program := "ytjaagnagcljbgaa", sum := "f85b60bb839f464232ffe7a2235b364dc8574a9493099863db67280fccd8ca0f", func := "loop.example/g01543/laws.FnExactIsExpr", spec := "fnExactIsExpr", apart := false, narrowed := true }
def FnExactIsExprUptoSaid : Prop := fnExactIsExprUptoRow.holds Try.pinned (OpenSpec.upto fnExactIsExprSpec)

/-- 'laws.FnExactIsStmt', WHERE WHAT IT READS IS OF BULK AT MOST 1048576: true; the input reads as it did. -/
def fnExactIsStmtUptoRow : OpenClaim := { program := "ytjaagnagcljbgaa", sum := "f85b60bb839f464232ffe7a2235b364dc8574a9493099863db67280fccd8ca0f", func := "loop.example/g01543/laws.FnExactIsStmt", spec := "fnExactIsStmt", apart := false, narrowed := true }
def FnExactIsStmtUptoSaid : Prop := fnExactIsStmtUptoRow.holds Try.pinned (OpenSpec.upto fnExactIsStmtSpec)

/-- 'laws.FnExactIsWordByte', WHERE WHAT IT READS IS OF BULK AT MOST 1048576: true; the input reads as it did. -/
def fnExactIsWordByteUptoRow : OpenClaim := { program := "ytjaagnagcljbgaa", sum := "f85b60bb839f464232ffe7a2235b364dc8574a9493099863db67280fccd8ca0f", func := "loop.example/g01543/laws.FnExactIsWordByte", spec := "fnExactIsWordByte", apart := false, narrowed := true }
def FnExactIsWordByteUptoSaid : Prop := fnExactIsWordByteUptoRow.holds Try.pinned (OpenSpec.upto fnExactIsWordByteSpec)

/-- 'laws.FnExactBeginsOperand', WHERE WHAT IT READS IS OF BULK AT MOST 1048576: true; the input reads as it did. -/
def fnExactBeginsOperandUptoRow : OpenClaim := { program := "ytjaagnagcljbgaa", sum := "f85b60bb839f464232ffe7a2235b364dc8574a9493099863db67280fccd8ca0f", func := "loop.example/g01543/laws.FnExactBeginsOperand", spec := "fnExactBeginsOperand", apart := false, narrowed := true }
def FnExactBeginsOperandUptoSaid : Prop := fnExactBeginsOperandUptoRow.holds Try.pinned (OpenSpec.upto fnExactBeginsOperandSpec)

/-- 'laws.FnExactEndsOperand', WHERE WHAT IT READS IS OF BULK AT MOST 1048576: true; the input reads as it did. -/
def fnExactEndsOperandUptoRow : OpenClaim := { program := "ytjaagnagcljbgaa", sum := "f85b60bb839f464232ffe7a2235b364dc8574a9493099863db67280fccd8ca0f", func := "loop.example/g01543/laws.FnExactEndsOperand", spec := "fnExactEndsOperand", apart := false, narrowed := true }
def FnExactEndsOperandUptoSaid : Prop := fnExactEndsOperandUptoRow.holds Try.pinned (OpenSpec.upto fnExactEndsOperandSpec)

/-- 'laws.FnExactFaultWord', WHERE WHAT IT READS IS OF BULK AT MOST 1048576: true; the input reads as it did. -/
def fnExactFaultWordUptoRow : OpenClaim := { program := "ytjaagnagcljbgaa", sum := "f85b60bb839f464232ffe7a2235b364dc8574a9493099863db67280fccd8ca0f", func := "loop.example/g01543/laws.FnExactFaultWord", spec := "fnExactFaultWord", apart := false, narrowed := true }
def FnExactFaultWordUptoSaid : Prop := fnExactFaultWordUptoRow.holds Try.pinned (OpenSpec.upto fnExactFaultWordSpec)

end Rows
end Go.Proofs.Ytjaagnagcljbgaa
